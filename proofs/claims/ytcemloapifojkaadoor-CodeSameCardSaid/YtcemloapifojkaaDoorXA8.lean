/- A part of the proofs of the statements of one layer: L1, L2, L3, L4, L5, L0, S1, S2. No condition is added here. -/
import Derived.Test.YtcemloapifojkaaDoorChecked
import Derived.Test.YtcemloapifojkaaDoorXA7
section
set_option maxRecDepth 20000
/-! MADE BY PROGRAM (lits.py): functions as they are prepared. -/
namespace Go.VX.Seat
def v_l07_CodeSame : VFun :=
⟨.seq (.reg [⟨0, (some 2), .box (.tmp 0), none, []⟩,
 ⟨1, (some 3), .box (.tmp 1), none, []⟩,
 ⟨2, (some 4), .mv (.con (.bool false)), none, []⟩])
 (.seq (.reg [⟨0, (some 7), .load (some 6) (.tmp 2), none, []⟩,
 ⟨2, (some 9), .load (some 6) (.tmp 3), none, []⟩,
 ⟨4, (some 5), .alloc [(.slice none 0 0), (.int .i64 0), (.int .i64 0), (.int .i64 0), (.int .i64 0), (.slice none 0 0)], none, []⟩,
 ⟨5, (some 6), .alloc [(.slice none 0 0), (.int .i64 0), (.int .i64 0), (.int .i64 0), (.int .i64 0), (.slice none 0 0)], none, []⟩,
 ⟨1, (some 8), .call 8 [(.tmp 7)], none, [(.tmp 3)]⟩,
 ⟨3, (some 10), .call 8 [(.tmp 9)], none, []⟩,
 ⟨6, none, .store 6 (.tmp 5) (.tmp 8), none, []⟩,
 ⟨7, none, .store 6 (.tmp 6) (.tmp 10), none, []⟩])
 (.seq (.reg [⟨0, (some 11), .load (some 6) (.tmp 5), none, []⟩,
 ⟨1, (some 12), .load (some 6) (.tmp 6), none, []⟩,
 ⟨3, (some 14), .load (some 6) (.tmp 5), none, []⟩,
 ⟨4, (some 15), .load (some 6) (.tmp 6), none, []⟩,
 ⟨2, (some 13), .call 14 [(.tmp 11), (.tmp 12)], none, [(.tmp 5), (.tmp 6)]⟩,
 ⟨5, (some 16), .call 13 [(.tmp 14), (.tmp 15)], none, []⟩,
 ⟨6, (some 17), .bin .eql 4 false (.tmp 13) (.tmp 16), none, []⟩,
 ⟨7, (some 18), .mv (.tmp 17), none, []⟩,
 ⟨8, (some 19), .load (some 6) (.tmp 6), (some (18, true)), []⟩,
 ⟨9, (some 20), .load (some 6) (.tmp 5), (some (18, true)), []⟩,
 ⟨11, (some 22), .load (some 6) (.tmp 5), (some (18, true)), []⟩,
 ⟨12, (some 23), .load (some 6) (.tmp 6), (some (18, true)), []⟩,
 ⟨10, (some 21), .call 14 [(.tmp 19), (.tmp 20)], (some (18, true)), [(.tmp 5), (.tmp 6)]⟩,
 ⟨13, (some 24), .call 13 [(.tmp 22), (.tmp 23)], (some (18, true)), []⟩,
 ⟨14, (some 25), .bin .eql 4 false (.tmp 21) (.tmp 24), (some (18, true)), []⟩,
 ⟨15, (some 26), .pick (.tmp 18) (.tmp 25) (.con (.bool false)), none, []⟩,
 ⟨16, (some 27), .mv (.tmp 26), none, []⟩,
 ⟨17, (some 28), .load (some 6) (.tmp 5), (some (27, true)), []⟩,
 ⟨18, (some 29), .load (some 6) (.tmp 5), (some (27, true)), []⟩,
 ⟨19, (some 30), .call 8 [(.tmp 29)], (some (27, true)), [(.tmp 5)]⟩,
 ⟨20, (some 31), .call 14 [(.tmp 28), (.tmp 30)], (some (27, true)), []⟩,
 ⟨21, (some 32), .pick (.tmp 27) (.tmp 31) (.con (.bool false)), none, []⟩,
 ⟨22, (some 33), .mv (.tmp 32), none, []⟩,
 ⟨23, (some 34), .call 11 [], (some (33, true)), []⟩,
 ⟨24, (some 35), .pick (.tmp 33) (.tmp 34) (.con (.bool false)), none, []⟩,
 ⟨25, (some 4), .mv (.tmp 35), none, []⟩])
 (.ret))),
 [.tmp 4]⟩
theorem p_l07_CodeSame : prepFun Go.Proofs.Tryd.prog [1, 0, 2, 3] Go.Proofs.Tryd.f5 = some v_l07_CodeSame := by kernel_rfl

def v_l07_Cut : VFun :=
⟨.seq (.reg [⟨0, (some 1), .box (.tmp 0), none, []⟩,
 ⟨1, (some 2), .alloc [(.slice none 0 0), (.int .i64 0), (.int .i64 0), (.int .i64 0), (.int .i64 0), (.slice none 0 0)], none, []⟩])
 (.seq (.reg [⟨0, (some 3), .load (some 6) (.tmp 1), none, []⟩,
 ⟨1, (some 4), .call 15 [(.tmp 3), (.con (.int .i64 2001)), (.con (.int .i64 20001))], none, []⟩,
 ⟨2, none, .store 6 (.tmp 2) (.tmp 4), none, []⟩])
 (.ret)),
 [.cell 2 (some 6)]⟩
theorem p_l07_Cut : prepFun Go.Proofs.Tryd.prog [1, 0, 2, 3] Go.Proofs.Tryd.f8 = some v_l07_Cut := by kernel_rfl

def v_code_Text : VFun :=
⟨.seq (.reg [⟨0, (some 1), .box (.tmp 0), none, []⟩,
 ⟨1, (some 2), .mv (.con (.string ⟨#[]⟩)), none, []⟩,
 ⟨2, (some 3), .mv (.con (.int .i64 0)), none, []⟩])
 (.seq (.seq (.reg [⟨0, (some 14), .load (some 6) (.tmp 1), none, []⟩,
 ⟨1, (some 15), .call 10 [(.tmp 14)], none, []⟩,
 ⟨2, (some 4), .mv (.tmp 15), none, []⟩])
 (.seq (.reg [⟨0, (some 16), .mv (.tmp 4), none, []⟩,
 ⟨1, (some 17), .bin .neq 27 true (.tmp 16) (.con (.int .i64 0)), none, []⟩])
 (.cond (.tmp 17)
 (.seq (.reg [⟨0, (some 18), .mv (.tmp 4), none, []⟩,
 ⟨1, (some 2), .mv (.con (.string ⟨#[]⟩)), none, []⟩,
 ⟨2, (some 3), .mv (.tmp 18), none, []⟩])
 (.ret))
 (.skip))))
 (.seq (.reg [⟨0, (some 5), .allocF [(.int .i64 1), (.int .i64 58), (.int .i64 5), (.string ⟨#[]⟩)], none, []⟩])
 (.seq (.reg [⟨0, (some 19), .call 20 [(.tmp 5), (.con (.string ⟨#[117, 110, 105, 116]⟩))], none, []⟩])
 (.seq (.seq (.reg [⟨0, (some 20), .fieldA 1 (.tmp 1), none, []⟩,
 ⟨1, (some 21), .load none (.tmp 20), none, []⟩,
 ⟨2, (some 22), .fieldA 2 (.tmp 1), none, []⟩,
 ⟨3, (some 23), .load none (.tmp 22), none, []⟩,
 ⟨4, (some 24), .fieldA 3 (.tmp 1), none, []⟩,
 ⟨5, (some 25), .load none (.tmp 24), none, []⟩,
 ⟨6, (some 26), .fieldA 4 (.tmp 1), none, []⟩,
 ⟨7, (some 27), .load none (.tmp 26), none, []⟩,
 ⟨8, (some 28), .bslice 1 4 [(.int .i64 0)] [(0, 1, (.tmp 21)), (1, 1, (.tmp 23)), (2, 1, (.tmp 25)), (3, 1, (.tmp 27))], none, []⟩,
 ⟨9, (some 29), .len (.tmp 28), none, []⟩,
 ⟨10, (some 30), .mv (.con (.int .i64 0)), none, []⟩])
 (.block 0
 (.loop
 (.seq (.reg [⟨0, (some 31), .bin .lss 3 false (.tmp 30) (.tmp 29), none, []⟩])
 (.seq (.cond (.tmp 31)
 (.skip)
 (.exit 0))
 (.seq (.block 1
 (.seq (.reg [⟨0, (some 32), .idxA none 1 (.tmp 28) (.tmp 30), none, []⟩,
 ⟨1, (some 33), .load none (.tmp 32), none, []⟩,
 ⟨2, (some 7), .mv (.tmp 33), none, []⟩])
 (.reg [⟨0, (some 34), .mv (.tmp 7), none, []⟩,
 ⟨1, (some 35), .call 21 [(.tmp 34)], none, []⟩,
 ⟨2, (some 36), .bin .add 9 true (.con (.string ⟨#[32]⟩)) (.tmp 35), none, []⟩,
 ⟨3, (some 37), .call 20 [(.tmp 5), (.tmp 36)], none, []⟩])))
 (.reg [⟨0, (some 38), .bin .add 3 true (.tmp 30) (.con (.int .i64 1)), none, []⟩,
 ⟨1, (some 30), .mv (.tmp 38), none, []⟩])))))))
 (.seq (.reg [⟨0, (some 39), .call 20 [(.tmp 5), (.con (.string ⟨#[10]⟩))], none, []⟩])
 (.seq (.seq (.reg [⟨0, (some 40), .fieldA 0 (.tmp 1), none, []⟩,
 ⟨1, (some 41), .load none (.tmp 40), none, []⟩,
 ⟨2, (some 42), .len (.tmp 41), none, []⟩,
 ⟨3, (some 43), .mv (.con (.int .i64 0)), none, []⟩])
 (.block 2
 (.loop
 (.seq (.reg [⟨0, (some 44), .bin .lss 3 false (.tmp 43) (.tmp 42), none, []⟩])
 (.seq (.cond (.tmp 44)
 (.skip)
 (.exit 2))
 (.seq (.block 3
 (.seq (.reg [⟨0, (some 45), .idxA none 1 (.tmp 41) (.tmp 43), none, []⟩,
 ⟨1, (some 46), .load none (.tmp 45), none, []⟩,
 ⟨2, (some 9), .mv (.tmp 46), none, []⟩])
 (.reg [⟨0, (some 47), .mv (.tmp 9), none, []⟩,
 ⟨1, (some 48), .call 21 [(.tmp 47)], none, []⟩,
 ⟨2, (some 49), .bin .add 9 true (.con (.string ⟨#[97, 114, 114, 97, 121, 32]⟩)) (.tmp 48), none, []⟩,
 ⟨3, (some 50), .bin .add 9 true (.tmp 49) (.con (.string ⟨#[10]⟩)), none, []⟩,
 ⟨4, (some 51), .call 20 [(.tmp 5), (.tmp 50)], none, []⟩])))
 (.reg [⟨0, (some 52), .bin .add 3 true (.tmp 43) (.con (.int .i64 1)), none, []⟩,
 ⟨1, (some 43), .mv (.tmp 52), none, []⟩])))))))
 (.seq (.seq (.reg [⟨0, (some 53), .fieldA 5 (.tmp 1), none, []⟩,
 ⟨1, (some 54), .load none (.tmp 53), none, []⟩,
 ⟨2, (some 55), .len (.tmp 54), none, []⟩,
 ⟨3, (some 56), .mv (.con (.int .i64 0)), none, []⟩])
 (.block 4
 (.loop
 (.seq (.reg [⟨0, (some 57), .bin .lss 3 false (.tmp 56) (.tmp 55), none, []⟩])
 (.seq (.cond (.tmp 57)
 (.skip)
 (.exit 4))
 (.seq (.block 5
 (.seq (.reg [⟨0, (some 58), .idxA none 6 (.tmp 54) (.tmp 56), none, []⟩,
 ⟨1, (some 59), .load (some 6) (.tmp 58), none, []⟩,
 ⟨2, (some 11), .alloc [(.slice none 0 0), (.int .i64 0), (.int .i64 0), (.int .i64 0), (.int .i64 0), (.int .i64 0)], none, []⟩,
 ⟨3, none, .store 6 (.tmp 11) (.tmp 59), none, []⟩])
 (.seq (.reg [⟨0, (some 60), .fieldA 5 (.tmp 11), none, []⟩,
 ⟨1, (some 61), .load none (.tmp 60), none, []⟩,
 ⟨2, (some 62), .call 21 [(.tmp 61)], none, []⟩,
 ⟨3, (some 63), .bin .add 9 true (.con (.string ⟨#[98, 108, 111, 99, 107, 32]⟩)) (.tmp 62), none, []⟩,
 ⟨4, (some 64), .bin .add 9 true (.tmp 63) (.con (.string ⟨#[10]⟩)), none, []⟩,
 ⟨5, (some 65), .call 20 [(.tmp 5), (.tmp 64)], none, []⟩])
 (.seq (.seq (.reg [⟨0, (some 66), .fieldA 0 (.tmp 11), none, []⟩,
 ⟨1, (some 67), .load none (.tmp 66), none, []⟩,
 ⟨2, (some 68), .len (.tmp 67), none, []⟩,
 ⟨3, (some 69), .mv (.con (.int .i64 0)), none, []⟩])
 (.block 6
 (.loop
 (.seq (.reg [⟨0, (some 70), .bin .lss 3 false (.tmp 69) (.tmp 68), none, []⟩])
 (.seq (.cond (.tmp 70)
 (.skip)
 (.exit 6))
 (.seq (.block 7
 (.seq (.reg [⟨0, (some 71), .idxA none 7 (.tmp 67) (.tmp 69), none, []⟩,
 ⟨1, (some 72), .load (some 7) (.tmp 71), none, []⟩,
 ⟨2, (some 13), .alloc [(.int .i64 0), (.int .i64 0), (.int .i64 0), (.int .i64 0), (.int .i64 0), (.int .i64 0), (.int .i64 0)], none, []⟩,
 ⟨3, none, .store 7 (.tmp 13) (.tmp 72), none, []⟩])
 (.reg [⟨0, (some 73), .load (some 7) (.tmp 13), none, []⟩,
 ⟨1, (some 74), .call 22 [(.tmp 73)], none, []⟩,
 ⟨2, (some 75), .bin .add 9 true (.con (.string ⟨#[32, 32]⟩)) (.tmp 74), none, []⟩,
 ⟨3, (some 76), .bin .add 9 true (.tmp 75) (.con (.string ⟨#[10]⟩)), none, []⟩,
 ⟨4, (some 77), .call 20 [(.tmp 5), (.tmp 76)], none, []⟩])))
 (.reg [⟨0, (some 78), .bin .add 3 true (.tmp 69) (.con (.int .i64 1)), none, []⟩,
 ⟨1, (some 69), .mv (.tmp 78), none, []⟩])))))))
 (.reg [⟨0, (some 79), .fieldA 1 (.tmp 11), none, []⟩,
 ⟨1, (some 80), .load (some 4) (.tmp 79), none, []⟩,
 ⟨2, (some 81), .call 23 [(.tmp 80)], none, []⟩,
 ⟨3, (some 82), .bin .add 9 true (.con (.string ⟨#[32, 32]⟩)) (.tmp 81), none, []⟩,
 ⟨4, (some 83), .bin .add 9 true (.tmp 82) (.con (.string ⟨#[10]⟩)), none, []⟩,
 ⟨5, (some 84), .call 20 [(.tmp 5), (.tmp 83)], none, []⟩])))))
 (.reg [⟨0, (some 85), .bin .add 3 true (.tmp 56) (.con (.int .i64 1)), none, []⟩,
 ⟨1, (some 56), .mv (.tmp 85), none, []⟩])))))))
 (.seq (.reg [⟨0, (some 86), .call 24 [(.tmp 5)], none, []⟩,
 ⟨1, (some 2), .mv (.tmp 86), none, []⟩,
 ⟨2, (some 3), .mv (.con (.int .i64 0)), none, []⟩])
 (.ret))))))))),
 [.tmp 2, .tmp 3]⟩
theorem p_code_Text : prepFun Go.Proofs.Tryd.prog [1, 0, 2, 3] Go.Proofs.Tryd.f9 = some v_code_Text := by kernel_rfl

def v_code_Check : VFun :=
⟨.seq (.reg [⟨0, (some 1), .box (.tmp 0), none, []⟩,
 ⟨1, (some 2), .mv (.con (.int .i64 0)), none, []⟩])
 (.seq (.reg [⟨0, (some 3), .load (some 6) (.tmp 1), none, []⟩,
 ⟨1, (some 4), .call 25 [(.tmp 3)], none, []⟩,
 ⟨2, (some 5), .field 2 none (.tmp 4), none, []⟩,
 ⟨3, (some 2), .mv (.tmp 5), none, []⟩])
 (.ret)),
 [.tmp 2]⟩
theorem p_code_Check : prepFun Go.Proofs.Tryd.prog [1, 0, 2, 3] Go.Proofs.Tryd.f10 = some v_code_Check := by kernel_rfl

def v_l07_alive : VFun :=
⟨.seq (.reg [⟨0, (some 0), .mv (.con (.bool false)), none, []⟩])
 (.seq (.reg [⟨0, (some 10), .call 12 [(.con (.string ⟨#[117, 110, 105, 116, 32, 49, 32, 51, 32, 48, 32, 48, 10, 98, 108, 111, 99, 107, 32, 45, 49, 10, 32, 32, 49, 32, 61, 32, 99, 111, 110, 115, 116, 32, 50, 10, 32, 32, 50, 32, 61, 32, 109, 117, 108, 32, 48, 32, 49, 10, 32, 32, 112, 114, 105, 110, 116, 32, 50, 10, 32, 32, 114, 101, 116, 117, 114, 110, 32, 50, 10]⟩))], none, []⟩,
 ⟨1, (some 9), .mv (.tmp 10), none, []⟩,
 ⟨2, (some 11), .ext (.tmp 9) 0, none, []⟩,
 ⟨3, (some 12), .ext (.tmp 9) 1, none, []⟩,
 ⟨4, (some 13), .ext (.tmp 9) 2, none, []⟩,
 ⟨5, (some 1), .alloc [(.slice none 0 0), (.int .i64 0), (.int .i64 0), (.int .i64 0), (.int .i64 0), (.slice none 0 0)], none, []⟩,
 ⟨6, none, .store 6 (.tmp 1) (.tmp 11), none, []⟩,
 ⟨7, (some 2), .mv (.tmp 12), none, []⟩,
 ⟨8, (some 3), .mv (.tmp 13), none, []⟩])
 (.seq (.reg [⟨0, (some 15), .load (some 6) (.tmp 1), none, []⟩,
 ⟨1, (some 16), .call 9 [(.tmp 15)], none, []⟩,
 ⟨2, (some 14), .mv (.tmp 16), none, []⟩,
 ⟨3, (some 17), .ext (.tmp 14) 0, none, []⟩,
 ⟨4, (some 18), .ext (.tmp 14) 1, none, []⟩,
 ⟨5, (some 4), .mv (.tmp 17), none, []⟩,
 ⟨6, (some 5), .mv (.tmp 18), none, []⟩])
 (.seq (.reg [⟨0, (some 20), .call 12 [(.con (.string ⟨#[117, 110, 105, 116, 32, 49, 32, 51, 32, 48, 32, 48, 10, 98, 108, 111, 99, 107, 32, 45, 49, 10, 32, 32, 49, 32, 61, 32, 99, 111, 110, 116, 115, 32, 50, 10]⟩))], none, []⟩,
 ⟨1, (some 19), .mv (.tmp 20), none, []⟩,
 ⟨2, (some 21), .ext (.tmp 19) 0, none, []⟩,
 ⟨3, (some 22), .ext (.tmp 19) 1, none, []⟩,
 ⟨4, (some 23), .ext (.tmp 19) 2, none, []⟩,
 ⟨5, (some 6), .alloc [(.slice none 0 0), (.int .i64 0), (.int .i64 0), (.int .i64 0), (.int .i64 0), (.slice none 0 0)], none, []⟩,
 ⟨6, none, .store 6 (.tmp 6) (.tmp 21), none, []⟩,
 ⟨7, (some 7), .mv (.tmp 22), none, []⟩,
 ⟨8, (some 8), .mv (.tmp 23), none, []⟩])
 (.seq (.reg [⟨0, (some 24), .mv (.tmp 3), none, []⟩,
 ⟨1, (some 25), .bin .eql 27 true (.tmp 24) (.con (.int .i64 0)), none, []⟩,
 ⟨2, (some 26), .mv (.tmp 25), none, []⟩,
 ⟨3, (some 27), .mv (.tmp 2), (some (26, true)), []⟩,
 ⟨4, (some 28), .bin .eql 3 true (.tmp 27) (.con (.int .i64 0)), (some (26, true)), []⟩,
 ⟨5, (some 29), .pick (.tmp 26) (.tmp 28) (.con (.bool false)), none, []⟩,
 ⟨6, (some 30), .mv (.tmp 29), none, []⟩,
 ⟨7, (some 31), .mv (.tmp 5), (some (30, true)), []⟩,
 ⟨8, (some 32), .bin .eql 27 true (.tmp 31) (.con (.int .i64 0)), (some (30, true)), []⟩,
 ⟨9, (some 33), .pick (.tmp 30) (.tmp 32) (.con (.bool false)), none, []⟩,
 ⟨10, (some 34), .mv (.tmp 33), none, []⟩,
 ⟨11, (some 35), .mv (.tmp 4), (some (34, true)), []⟩,
 ⟨12, (some 36), .bin .eql 9 true (.tmp 35) (.con (.string ⟨#[117, 110, 105, 116, 32, 49, 32, 51, 32, 48, 32, 48, 10, 98, 108, 111, 99, 107, 32, 45, 49, 10, 32, 32, 49, 32, 61, 32, 99, 111, 110, 115, 116, 32, 50, 10, 32, 32, 50, 32, 61, 32, 109, 117, 108, 32, 48, 32, 49, 10, 32, 32, 112, 114, 105, 110, 116, 32, 50, 10, 32, 32, 114, 101, 116, 117, 114, 110, 32, 50, 10]⟩)), (some (34, true)), []⟩,
 ⟨13, (some 37), .pick (.tmp 34) (.tmp 36) (.con (.bool false)), none, []⟩,
 ⟨14, (some 38), .mv (.tmp 37), none, []⟩,
 ⟨15, (some 39), .mv (.tmp 8), (some (38, true)), []⟩,
 ⟨16, (some 40), .bin .eql 27 true (.tmp 39) (.con (.int .i64 4)), (some (38, true)), []⟩,
 ⟨17, (some 41), .pick (.tmp 38) (.tmp 40) (.con (.bool false)), none, []⟩,
 ⟨18, (some 42), .mv (.tmp 41), none, []⟩,
 ⟨19, (some 43), .mv (.tmp 7), (some (42, true)), []⟩,
 ⟨20, (some 44), .bin .eql 3 true (.tmp 43) (.con (.int .i64 3)), (some (42, true)), []⟩,
 ⟨21, (some 45), .pick (.tmp 42) (.tmp 44) (.con (.bool false)), none, []⟩,
 ⟨22, (some 46), .mv (.tmp 45), none, []⟩,
 ⟨23, (some 47), .build [(.slice none 0 0), (.int .i64 0), (.int .i64 0), (.int .i64 0), (.int .i64 0), (.slice none 0 0)] [], (some (46, true)), []⟩,
 ⟨24, (some 48), .call 10 [(.tmp 47)], (some (46, true)), []⟩,
 ⟨25, (some 49), .bin .eql 27 true (.tmp 48) (.con (.int .i64 3)), (some (46, true)), []⟩,
 ⟨26, (some 50), .pick (.tmp 46) (.tmp 49) (.con (.bool false)), none, []⟩,
 ⟨27, (some 0), .mv (.tmp 50), none, []⟩])
 (.ret))))),
 [.tmp 0]⟩
theorem p_l07_alive : prepFun Go.Proofs.Tryd.prog [1, 0, 2, 3] Go.Proofs.Tryd.f11 = some v_l07_alive := by kernel_rfl

def v_code_Parse : VFun :=
⟨.seq (.reg [⟨0, (some 2), .alloc [(.slice none 0 0), (.int .i64 0), (.int .i64 0), (.int .i64 0), (.int .i64 0), (.slice none 0 0)], none, []⟩,
 ⟨1, (some 3), .mv (.con (.int .i64 0)), none, []⟩,
 ⟨2, (some 4), .mv (.con (.int .i64 0)), none, []⟩])
 (.seq (.seq (.reg [⟨0, (some 8), .mv (.tmp 0), none, []⟩,
 ⟨1, (some 9), .bi .len [9] 3 [(.tmp 8)], none, []⟩,
 ⟨2, (some 10), .bin .gtr 3 true (.tmp 9) (.con (.int .i64 2000000)), none, []⟩])
 (.cond (.tmp 10)
 (.seq (.reg [⟨0, (some 11), .build [(.slice none 0 0), (.int .i64 0), (.int .i64 0), (.int .i64 0), (.int .i64 0), (.slice none 0 0)] [], none, []⟩,
 ⟨1, none, .store 6 (.tmp 2) (.tmp 11), none, []⟩,
 ⟨2, (some 3), .mv (.con (.int .i64 0)), none, []⟩,
 ⟨3, (some 4), .mv (.con (.int .i64 3)), none, []⟩])
 (.ret))
 (.skip)))
 (.seq (.reg [⟨0, (some 5), .alloc [(.slice none 0 0), (.int .i64 0), (.int .i64 0), (.int .i64 0), (.int .i64 0), (.slice none 0 0)], none, []⟩])
 (.seq (.reg [⟨0, (some 12), .mv (.tmp 0), none, []⟩,
 ⟨1, (some 13), .build [(.string ⟨#[]⟩), (.int .i64 0)] [(0, 1, (.tmp 12)), (1, 1, (.con (.int .i64 1)))], none, []⟩,
 ⟨2, (some 14), .box (.tmp 13), none, []⟩,
 ⟨3, (some 6), .mv (.tmp 14), none, []⟩])
 (.seq (.seq (.reg [⟨0, (some 15), .mv (.tmp 6), none, []⟩,
 ⟨1, (some 16), .call 26 [(.tmp 15), (.tmp 5)], none, []⟩,
 ⟨2, (some 17), .un .not (.tmp 16), none, []⟩])
 (.cond (.tmp 17)
 (.seq (.reg [⟨0, (some 18), .build [(.slice none 0 0), (.int .i64 0), (.int .i64 0), (.int .i64 0), (.int .i64 0), (.slice none 0 0)] [], none, []⟩,
 ⟨1, (some 19), .mv (.tmp 6), none, []⟩,
 ⟨2, (some 20), .nilck (.tmp 19), none, []⟩,
 ⟨3, (some 21), .fieldA 1 (.tmp 20), none, []⟩,
 ⟨4, (some 22), .load none (.tmp 21), none, []⟩,
 ⟨5, none, .store 6 (.tmp 2) (.tmp 18), none, [(.tmp 21)]⟩,
 ⟨6, (some 3), .mv (.tmp 22), none, []⟩,
 ⟨7, (some 4), .mv (.con (.int .i64 4)), none, []⟩])
 (.ret))
 (.skip)))
 (.seq (.seq (.reg [⟨0, (some 23), .load (some 6) (.tmp 5), none, []⟩,
 ⟨1, (some 24), .call 10 [(.tmp 23)], none, []⟩,
 ⟨2, (some 7), .mv (.tmp 24), none, []⟩])
 (.seq (.reg [⟨0, (some 25), .mv (.tmp 7), none, []⟩,
 ⟨1, (some 26), .bin .neq 27 true (.tmp 25) (.con (.int .i64 0)), none, []⟩])
 (.cond (.tmp 26)
 (.seq (.reg [⟨0, (some 27), .build [(.slice none 0 0), (.int .i64 0), (.int .i64 0), (.int .i64 0), (.int .i64 0), (.slice none 0 0)] [], none, []⟩,
 ⟨1, (some 28), .mv (.tmp 7), none, []⟩,
 ⟨2, none, .store 6 (.tmp 2) (.tmp 27), none, []⟩,
 ⟨3, (some 3), .mv (.con (.int .i64 0)), none, []⟩,
 ⟨4, (some 4), .mv (.tmp 28), none, []⟩])
 (.ret))
 (.skip))))
 (.seq (.reg [⟨0, (some 29), .load (some 6) (.tmp 5), none, []⟩,
 ⟨1, none, .store 6 (.tmp 2) (.tmp 29), none, []⟩,
 ⟨2, (some 3), .mv (.con (.int .i64 0)), none, []⟩,
 ⟨3, (some 4), .mv (.con (.int .i64 0)), none, []⟩])
 (.ret))))))),
 [.cell 2 (some 6), .tmp 3, .tmp 4]⟩
theorem p_code_Parse : prepFun Go.Proofs.Tryd.prog [1, 0, 2, 3] Go.Proofs.Tryd.f12 = some v_code_Parse := by kernel_rfl

def v_r07_Same : VFun :=
⟨.seq (.reg [⟨0, (some 2), .box (.tmp 0), none, []⟩,
 ⟨1, (some 3), .box (.tmp 1), none, []⟩,
 ⟨2, (some 4), .mv (.con (.bool false)), none, []⟩])
 (.seq (.seq (.reg [⟨0, (some 6), .fieldA 0 (.tmp 2), none, []⟩,
 ⟨1, (some 7), .load none (.tmp 6), none, []⟩,
 ⟨2, (some 8), .len (.tmp 7), none, []⟩,
 ⟨3, (some 9), .fieldA 0 (.tmp 3), none, []⟩,
 ⟨4, (some 10), .load none (.tmp 9), none, []⟩,
 ⟨5, (some 11), .len (.tmp 10), none, []⟩,
 ⟨6, (some 12), .bin .neq 3 false (.tmp 8) (.tmp 11), none, []⟩,
 ⟨7, (some 13), .mv (.tmp 12), none, []⟩,
 ⟨8, (some 14), .fieldA 1 (.tmp 2), (some (13, false)), []⟩,
 ⟨9, (some 15), .load none (.tmp 14), (some (13, false)), []⟩,
 ⟨10, (some 16), .fieldA 1 (.tmp 3), (some (13, false)), []⟩,
 ⟨11, (some 17), .load none (.tmp 16), (some (13, false)), []⟩,
 ⟨12, (some 18), .bin .neq 3 false (.tmp 15) (.tmp 17), (some (13, false)), []⟩,
 ⟨13, (some 19), .pick (.tmp 13) (.con (.bool true)) (.tmp 18), none, []⟩,
 ⟨14, (some 20), .mv (.tmp 19), none, []⟩,
 ⟨15, (some 21), .fieldA 2 (.tmp 2), (some (20, false)), []⟩,
 ⟨16, (some 22), .load none (.tmp 21), (some (20, false)), []⟩,
 ⟨17, (some 23), .fieldA 2 (.tmp 3), (some (20, false)), []⟩,
 ⟨18, (some 24), .load none (.tmp 23), (some (20, false)), []⟩,
 ⟨19, (some 25), .bin .neq 3 false (.tmp 22) (.tmp 24), (some (20, false)), []⟩,
 ⟨20, (some 26), .pick (.tmp 20) (.con (.bool true)) (.tmp 25), none, []⟩,
 ⟨21, (some 27), .mv (.tmp 26), none, []⟩,
 ⟨22, (some 28), .fieldA 3 (.tmp 2), (some (27, false)), []⟩,
 ⟨23, (some 29), .load none (.tmp 28), (some (27, false)), []⟩,
 ⟨24, (some 30), .fieldA 3 (.tmp 3), (some (27, false)), []⟩,
 ⟨25, (some 31), .load none (.tmp 30), (some (27, false)), []⟩,
 ⟨26, (some 32), .bin .neq 3 false (.tmp 29) (.tmp 31), (some (27, false)), []⟩,
 ⟨27, (some 33), .pick (.tmp 27) (.con (.bool true)) (.tmp 32), none, []⟩,
 ⟨28, (some 34), .mv (.tmp 33), none, []⟩,
 ⟨29, (some 35), .fieldA 4 (.tmp 2), (some (34, false)), []⟩,
 ⟨30, (some 36), .load none (.tmp 35), (some (34, false)), []⟩,
 ⟨31, (some 37), .fieldA 4 (.tmp 3), (some (34, false)), []⟩,
 ⟨32, (some 38), .load none (.tmp 37), (some (34, false)), []⟩,
 ⟨33, (some 39), .bin .neq 3 false (.tmp 36) (.tmp 38), (some (34, false)), []⟩,
 ⟨34, (some 40), .pick (.tmp 34) (.con (.bool true)) (.tmp 39), none, []⟩])
 (.cond (.tmp 40)
 (.seq (.reg [⟨0, (some 4), .mv (.con (.bool false)), none, []⟩])
 (.ret))
 (.skip)))
 (.seq (.seq (.reg [⟨0, (some 5), .mv (.con (.int .i64 0)), none, []⟩])
 (.block 0
 (.loop
 (.seq (.seq (.reg [⟨0, (some 41), .mv (.tmp 5), none, []⟩,
 ⟨1, (some 42), .fieldA 0 (.tmp 2), none, []⟩,
 ⟨2, (some 43), .load none (.tmp 42), none, []⟩,
 ⟨3, (some 44), .len (.tmp 43), none, []⟩,
 ⟨4, (some 45), .bin .lss 3 false (.tmp 41) (.tmp 44), none, []⟩])
 (.cond (.tmp 45)
 (.skip)
 (.exit 0)))
 (.seq (.block 1
 (.seq (.reg [⟨0, (some 48), .fieldA 0 (.tmp 2), none, []⟩,
 ⟨1, (some 49), .load none (.tmp 48), none, []⟩,
 ⟨2, (some 50), .mv (.tmp 5), none, []⟩,
 ⟨3, (some 51), .idxA none 1 (.tmp 49) (.tmp 50), none, []⟩,
 ⟨4, (some 52), .load none (.tmp 51), none, []⟩,
 ⟨5, (some 53), .fieldA 0 (.tmp 3), none, []⟩,
 ⟨6, (some 54), .load none (.tmp 53), none, []⟩,
 ⟨7, (some 55), .mv (.tmp 5), none, []⟩,
 ⟨8, (some 56), .idxA none 1 (.tmp 54) (.tmp 55), none, []⟩,
 ⟨9, (some 57), .load none (.tmp 56), none, []⟩,
 ⟨10, (some 58), .bin .neq 3 false (.tmp 52) (.tmp 57), none, []⟩])
 (.cond (.tmp 58)
 (.seq (.reg [⟨0, (some 4), .mv (.con (.bool false)), none, []⟩])
 (.ret))
 (.skip))))
 (.reg [⟨0, (some 46), .mv (.tmp 5), none, []⟩,
 ⟨1, (some 47), .bin .add 3 true (.tmp 46) (.con (.int .i64 1)), none, []⟩,
 ⟨2, (some 5), .mv (.tmp 47), none, []⟩]))))))
 (.seq (.reg [⟨0, (some 59), .fieldA 5 (.tmp 2), none, []⟩,
 ⟨1, (some 60), .load none (.tmp 59), none, []⟩,
 ⟨2, (some 61), .fieldA 5 (.tmp 3), none, []⟩,
 ⟨3, (some 62), .load none (.tmp 61), none, []⟩,
 ⟨4, (some 63), .call 27 [(.tmp 60), (.tmp 62)], none, []⟩,
 ⟨5, (some 4), .mv (.tmp 63), none, []⟩])
 (.ret)))),
 [.tmp 4]⟩
theorem p_r07_Same : prepFun Go.Proofs.Tryd.prog [1, 0, 2, 3] Go.Proofs.Tryd.f13 = some v_r07_Same := by kernel_rfl

def v_code_Same : VFun :=
⟨.seq (.reg [⟨0, (some 2), .box (.tmp 0), none, []⟩,
 ⟨1, (some 3), .box (.tmp 1), none, []⟩,
 ⟨2, (some 4), .mv (.con (.bool false)), none, []⟩])
 (.seq (.reg [⟨0, (some 5), .fieldA 0 (.tmp 2), none, []⟩,
 ⟨1, (some 6), .load none (.tmp 5), none, []⟩,
 ⟨2, (some 7), .fieldA 0 (.tmp 3), none, []⟩,
 ⟨3, (some 8), .load none (.tmp 7), none, []⟩,
 ⟨4, (some 9), .call 28 [(.tmp 6), (.tmp 8)], none, []⟩,
 ⟨5, (some 10), .mv (.tmp 9), none, []⟩,
 ⟨6, (some 11), .fieldA 1 (.tmp 2), (some (10, true)), []⟩,
 ⟨7, (some 12), .load none (.tmp 11), (some (10, true)), []⟩,
 ⟨8, (some 13), .fieldA 1 (.tmp 3), (some (10, true)), []⟩,
 ⟨9, (some 14), .load none (.tmp 13), (some (10, true)), []⟩,
 ⟨10, (some 15), .bin .eql 3 false (.tmp 12) (.tmp 14), (some (10, true)), []⟩,
 ⟨11, (some 16), .pick (.tmp 10) (.tmp 15) (.con (.bool false)), none, []⟩,
 ⟨12, (some 17), .mv (.tmp 16), none, []⟩,
 ⟨13, (some 18), .fieldA 2 (.tmp 2), (some (17, true)), []⟩,
 ⟨14, (some 19), .load none (.tmp 18), (some (17, true)), []⟩,
 ⟨15, (some 20), .fieldA 2 (.tmp 3), (some (17, true)), []⟩,
 ⟨16, (some 21), .load none (.tmp 20), (some (17, true)), []⟩,
 ⟨17, (some 22), .bin .eql 3 false (.tmp 19) (.tmp 21), (some (17, true)), []⟩,
 ⟨18, (some 23), .pick (.tmp 17) (.tmp 22) (.con (.bool false)), none, []⟩,
 ⟨19, (some 24), .mv (.tmp 23), none, []⟩,
 ⟨20, (some 25), .fieldA 3 (.tmp 2), (some (24, true)), []⟩,
 ⟨21, (some 26), .load none (.tmp 25), (some (24, true)), []⟩,
 ⟨22, (some 27), .fieldA 3 (.tmp 3), (some (24, true)), []⟩,
 ⟨23, (some 28), .load none (.tmp 27), (some (24, true)), []⟩,
 ⟨24, (some 29), .bin .eql 3 false (.tmp 26) (.tmp 28), (some (24, true)), []⟩,
 ⟨25, (some 30), .pick (.tmp 24) (.tmp 29) (.con (.bool false)), none, []⟩,
 ⟨26, (some 31), .mv (.tmp 30), none, []⟩,
 ⟨27, (some 32), .fieldA 4 (.tmp 2), (some (31, true)), []⟩,
 ⟨28, (some 33), .load none (.tmp 32), (some (31, true)), []⟩,
 ⟨29, (some 34), .fieldA 4 (.tmp 3), (some (31, true)), []⟩,
 ⟨30, (some 35), .load none (.tmp 34), (some (31, true)), []⟩,
 ⟨31, (some 36), .bin .eql 3 false (.tmp 33) (.tmp 35), (some (31, true)), []⟩,
 ⟨32, (some 37), .pick (.tmp 31) (.tmp 36) (.con (.bool false)), none, []⟩,
 ⟨33, (some 38), .mv (.tmp 37), none, []⟩,
 ⟨34, (some 39), .fieldA 5 (.tmp 2), (some (38, true)), []⟩,
 ⟨35, (some 40), .load none (.tmp 39), (some (38, true)), []⟩,
 ⟨36, (some 41), .fieldA 5 (.tmp 3), (some (38, true)), []⟩,
 ⟨37, (some 42), .load none (.tmp 41), (some (38, true)), []⟩,
 ⟨38, (some 43), .call 29 [(.tmp 40), (.tmp 42), (.fn 30)], (some (38, true)), []⟩,
 ⟨39, (some 44), .pick (.tmp 38) (.tmp 43) (.con (.bool false)), none, []⟩,
 ⟨40, (some 4), .mv (.tmp 44), none, []⟩])
 (.ret)),
 [.tmp 4]⟩
theorem p_code_Same : prepFun Go.Proofs.Tryd.prog [1, 0, 2, 3] Go.Proofs.Tryd.f14 = some v_code_Same := by kernel_rfl

end Go.VX.Seat
end
section
set_option maxRecDepth 20000
/-! MADE BY PROGRAM (lits.py): functions as they are prepared. -/
namespace Go.VX.Seat
def v_r07_Cut : VFun :=
⟨.seq (.reg [⟨0, (some 3), .box (.tmp 0), none, []⟩,
 ⟨1, (some 6), .alloc [(.slice none 0 0), (.int .i64 0), (.int .i64 0), (.int .i64 0), (.int .i64 0), (.slice none 0 0)], none, []⟩])
 (.seq (.reg [⟨0, (some 11), .load (some 6) (.tmp 3), none, []⟩,
 ⟨1, (some 7), .alloc [(.slice none 0 0), (.int .i64 0), (.int .i64 0), (.int .i64 0), (.int .i64 0), (.slice none 0 0)], none, []⟩,
 ⟨2, none, .store 6 (.tmp 7) (.tmp 11), none, []⟩])
 (.seq (.reg [⟨0, (some 12), .bslice 1 0 [(.int .i64 0)] [], none, []⟩,
 ⟨1, (some 13), .fieldA 0 (.tmp 3), none, []⟩,
 ⟨2, (some 14), .load none (.tmp 13), none, []⟩,
 ⟨3, (some 15), .fieldA 0 (.tmp 3), none, []⟩,
 ⟨4, (some 16), .load none (.tmp 15), none, []⟩,
 ⟨5, (some 17), .len (.tmp 16), none, []⟩,
 ⟨6, (some 18), .bi .min [3, 3] 3 [(.tmp 17), (.con (.int .i64 17))], none, []⟩,
 ⟨7, (some 19), .slice none 1 (.tmp 14) none (some (.tmp 18)) none, none, []⟩,
 ⟨8, (some 20), .append 1 8 (.tmp 12) (.tmp 19), none, []⟩,
 ⟨9, (some 21), .fieldA 0 (.tmp 7), none, []⟩,
 ⟨10, none, .store 1 (.tmp 21) (.tmp 20), none, []⟩])
 (.seq (.reg [⟨0, (some 22), .fieldA 5 (.tmp 7), none, []⟩,
 ⟨1, none, .store 1 (.tmp 22) (.con (.slice none 0 0)), none, []⟩])
 (.seq (.seq (.reg [⟨0, (some 8), .mv (.con (.int .i64 0)), none, []⟩])
 (.block 0
 (.loop
 (.seq (.seq (.reg [⟨0, (some 23), .mv (.tmp 8), none, []⟩,
 ⟨1, (some 24), .fieldA 5 (.tmp 3), none, []⟩,
 ⟨2, (some 25), .load none (.tmp 24), none, []⟩,
 ⟨3, (some 26), .len (.tmp 25), none, []⟩,
 ⟨4, (some 27), .bin .lss 3 false (.tmp 23) (.tmp 26), none, []⟩,
 ⟨5, (some 28), .mv (.tmp 27), none, []⟩,
 ⟨6, (some 29), .mv (.tmp 8), (some (28, true)), []⟩,
 ⟨7, (some 30), .mv (.tmp 1), (some (28, true)), []⟩,
 ⟨8, (some 31), .bin .lss 3 false (.tmp 29) (.tmp 30), (some (28, true)), []⟩,
 ⟨9, (some 32), .pick (.tmp 28) (.tmp 31) (.con (.bool false)), none, []⟩])
 (.cond (.tmp 32)
 (.skip)
 (.exit 0)))
 (.seq (.block 1
 (.seq (.reg [⟨0, (some 35), .fieldA 5 (.tmp 3), none, []⟩,
 ⟨1, (some 36), .load none (.tmp 35), none, []⟩,
 ⟨2, (some 37), .mv (.tmp 8), none, []⟩,
 ⟨3, (some 38), .idxA none 6 (.tmp 36) (.tmp 37), none, []⟩,
 ⟨4, (some 39), .load (some 6) (.tmp 38), none, []⟩,
 ⟨5, (some 9), .alloc [(.slice none 0 0), (.int .i64 0), (.int .i64 0), (.int .i64 0), (.int .i64 0), (.int .i64 0)], none, []⟩,
 ⟨6, none, .store 6 (.tmp 9) (.tmp 39), none, []⟩])
 (.seq (.reg [⟨0, (some 40), .bslice 7 0 [(.int .i64 0), (.int .i64 0), (.int .i64 0), (.int .i64 0), (.int .i64 0), (.int .i64 0), (.int .i64 0)] [], none, []⟩,
 ⟨1, (some 41), .fieldA 5 (.tmp 3), none, []⟩,
 ⟨2, (some 42), .load none (.tmp 41), none, []⟩,
 ⟨3, (some 43), .mv (.tmp 8), none, []⟩,
 ⟨4, (some 44), .idxA none 6 (.tmp 42) (.tmp 43), none, []⟩,
 ⟨5, (some 45), .fieldA 0 (.tmp 44), none, []⟩,
 ⟨6, (some 46), .load none (.tmp 45), none, []⟩,
 ⟨7, (some 47), .fieldA 5 (.tmp 3), none, []⟩,
 ⟨8, (some 48), .load none (.tmp 47), none, []⟩,
 ⟨9, (some 49), .mv (.tmp 8), none, []⟩,
 ⟨10, (some 50), .idxA none 6 (.tmp 48) (.tmp 49), none, []⟩,
 ⟨11, (some 51), .fieldA 0 (.tmp 50), none, []⟩,
 ⟨12, (some 52), .load none (.tmp 51), none, []⟩,
 ⟨13, (some 53), .len (.tmp 52), none, []⟩,
 ⟨14, (some 54), .mv (.tmp 2), none, []⟩,
 ⟨15, (some 55), .bi .max [3, 3] 3 [(.tmp 54), (.con (.int .i64 0))], none, []⟩,
 ⟨16, (some 56), .bi .min [3, 3] 3 [(.tmp 53), (.tmp 55)], none, []⟩,
 ⟨17, (some 57), .slice none 7 (.tmp 46) none (some (.tmp 56)) none, none, []⟩,
 ⟨18, (some 58), .append 7 56 (.tmp 40) (.tmp 57), none, []⟩,
 ⟨19, (some 59), .fieldA 0 (.tmp 9), none, []⟩,
 ⟨20, none, .store 1 (.tmp 59) (.tmp 58), none, []⟩])
 (.seq (.reg [⟨0, (some 60), .mv (.tmp 2), none, []⟩,
 ⟨1, (some 61), .fieldA 0 (.tmp 9), none, []⟩,
 ⟨2, (some 62), .load none (.tmp 61), none, []⟩,
 ⟨3, (some 63), .len (.tmp 62), none, []⟩,
 ⟨4, (some 64), .bin .sub 3 false (.tmp 60) (.tmp 63), none, []⟩,
 ⟨5, (some 2), .mv (.tmp 64), none, []⟩])
 (.seq (.reg [⟨0, (some 65), .fieldA 5 (.tmp 7), none, []⟩,
 ⟨1, (some 66), .load none (.tmp 65), none, []⟩,
 ⟨2, (some 10), .mv (.tmp 66), none, []⟩])
 (.reg [⟨0, (some 67), .mv (.tmp 10), none, []⟩,
 ⟨1, (some 68), .load (some 6) (.tmp 9), none, []⟩,
 ⟨2, (some 69), .bslice 6 1 [(.slice none 0 0), (.int .i64 0), (.int .i64 0), (.int .i64 0), (.int .i64 0), (.int .i64 0)] [(0, 6, (.tmp 68))], none, []⟩,
 ⟨3, (some 70), .append 6 64 (.tmp 67) (.tmp 69), none, []⟩,
 ⟨4, (some 71), .fieldA 5 (.tmp 7), none, []⟩,
 ⟨5, none, .store 1 (.tmp 71) (.tmp 70), none, []⟩]))))))
 (.reg [⟨0, (some 33), .mv (.tmp 8), none, []⟩,
 ⟨1, (some 34), .bin .add 3 true (.tmp 33) (.con (.int .i64 1)), none, []⟩,
 ⟨2, (some 8), .mv (.tmp 34), none, []⟩]))))))
 (.seq (.reg [⟨0, (some 72), .load (some 6) (.tmp 7), none, []⟩,
 ⟨1, none, .store 6 (.tmp 6) (.tmp 72), none, []⟩])
 (.ret)))))),
 [.cell 6 (some 6)]⟩
theorem p_r07_Cut : prepFun Go.Proofs.Tryd.prog [1, 0, 2, 3] Go.Proofs.Tryd.f15 = some v_r07_Cut := by kernel_rfl

def v_strings_Builder_WriteString : VFun :=
⟨.seq (.reg [⟨0, (some 4), .mv (.con (.int .i64 0)), none, []⟩,
 ⟨1, (some 5), .mv (.con .nilIface), none, []⟩])
 (.seq (.reg [⟨0, (some 6), .mv (.tmp 0), none, []⟩,
 ⟨1, (some 7), .call 37 [(.tmp 6)], none, []⟩])
 (.seq (.reg [⟨0, (some 8), .mv (.tmp 0), none, []⟩,
 ⟨1, (some 9), .mv (.tmp 0), none, []⟩,
 ⟨2, (some 10), .nilck (.tmp 9), none, []⟩,
 ⟨3, (some 11), .fieldA 1 (.tmp 10), none, []⟩,
 ⟨4, (some 12), .load none (.tmp 11), none, []⟩,
 ⟨5, (some 13), .mv (.tmp 1), none, []⟩,
 ⟨6, (some 14), .append 1 1 (.tmp 12) (.tmp 13), none, []⟩,
 ⟨7, (some 15), .nilck (.tmp 8), none, []⟩,
 ⟨8, (some 16), .fieldA 1 (.tmp 15), none, []⟩,
 ⟨9, none, .store 1 (.tmp 16) (.tmp 14), none, []⟩])
 (.seq (.reg [⟨0, (some 17), .mv (.tmp 1), none, []⟩,
 ⟨1, (some 18), .bi .len [9] 3 [(.tmp 17)], none, []⟩,
 ⟨2, (some 4), .mv (.tmp 18), none, []⟩,
 ⟨3, (some 5), .mv (.con .nilIface), none, []⟩])
 (.ret)))),
 [.tmp 4, .tmp 5]⟩
theorem p_strings_Builder_WriteString : prepFun Go.Proofs.Tryd.prog [1, 0, 2, 3] Go.Proofs.Tryd.f20 = some v_strings_Builder_WriteString := by kernel_rfl

def v_strconv_Itoa : VFun :=
⟨.seq (.reg [⟨0, (some 2), .mv (.con (.string ⟨#[]⟩)), none, []⟩])
 (.seq (.reg [⟨0, (some 3), .mv (.tmp 0), none, []⟩,
 ⟨1, (some 4), .call 38 [(.tmp 3)], none, []⟩,
 ⟨2, (some 2), .mv (.tmp 4), none, []⟩])
 (.ret)),
 [.tmp 2]⟩
theorem p_strconv_Itoa : prepFun Go.Proofs.Tryd.prog [1, 0, 2, 3] Go.Proofs.Tryd.f21 = some v_strconv_Itoa := by kernel_rfl

def v_code_opText : VFun :=
⟨.seq (.reg [⟨0, (some 1), .box (.tmp 0), none, []⟩,
 ⟨1, (some 2), .mv (.con (.string ⟨#[]⟩)), none, []⟩])
 (.seq (.reg [⟨0, (some 9), .fieldA 0 (.tmp 1), none, []⟩,
 ⟨1, (some 10), .load none (.tmp 9), none, []⟩,
 ⟨2, (some 11), .call 39 [(.tmp 10)], none, []⟩,
 ⟨3, (some 8), .mv (.tmp 11), none, []⟩,
 ⟨4, (some 12), .ext (.tmp 8) 0, none, []⟩,
 ⟨5, (some 13), .ext (.tmp 8) 1, none, []⟩,
 ⟨6, (some 3), .alloc [(.int .i64 0), (.int .i64 0), (.string ⟨#[]⟩)], none, []⟩,
 ⟨7, none, .store 3 (.tmp 3) (.tmp 12), none, []⟩,
 ⟨8, (some 4), .mv (.tmp 13), none, []⟩])
 (.seq (.reg [⟨0, (some 5), .allocF [(.int .i64 1), (.int .i64 58), (.int .i64 5), (.string ⟨#[]⟩)], none, []⟩])
 (.seq (.seq (.reg [⟨0, (some 14), .fieldA 6 (.tmp 1), none, []⟩,
 ⟨1, (some 15), .load none (.tmp 14), none, []⟩,
 ⟨2, (some 16), .bin .neq 3 true (.tmp 15) (.con (.int .i64 (-1))), none, []⟩])
 (.cond (.tmp 16)
 (.reg [⟨0, (some 17), .fieldA 6 (.tmp 1), none, []⟩,
 ⟨1, (some 18), .load none (.tmp 17), none, []⟩,
 ⟨2, (some 19), .call 21 [(.tmp 18)], none, []⟩,
 ⟨3, (some 20), .bin .add 9 true (.con (.string ⟨#[63, 32]⟩)) (.tmp 19), none, []⟩,
 ⟨4, (some 21), .bin .add 9 true (.tmp 20) (.con (.string ⟨#[32]⟩)), none, []⟩,
 ⟨5, (some 22), .call 20 [(.tmp 5), (.tmp 21)], none, []⟩])
 (.skip)))
 (.seq (.seq (.reg [⟨0, (some 23), .fieldA 0 (.tmp 3), none, []⟩,
 ⟨1, (some 24), .load none (.tmp 23), none, []⟩,
 ⟨2, (some 25), .bin .and 3 true (.tmp 24) (.con (.int .i64 1)), none, []⟩,
 ⟨3, (some 26), .bin .neq 3 true (.tmp 25) (.con (.int .i64 0)), none, []⟩])
 (.cond (.tmp 26)
 (.reg [⟨0, (some 27), .fieldA 1 (.tmp 1), none, []⟩,
 ⟨1, (some 28), .load none (.tmp 27), none, []⟩,
 ⟨2, (some 29), .call 21 [(.tmp 28)], none, []⟩,
 ⟨3, (some 30), .bin .add 9 true (.tmp 29) (.con (.string ⟨#[32, 61, 32]⟩)), none, []⟩,
 ⟨4, (some 31), .call 20 [(.tmp 5), (.tmp 30)], none, []⟩])
 (.skip)))
 (.seq (.reg [⟨0, (some 32), .fieldA 2 (.tmp 3), none, []⟩,
 ⟨1, (some 33), .load none (.tmp 32), none, []⟩,
 ⟨2, (some 34), .call 20 [(.tmp 5), (.tmp 33)], none, []⟩])
 (.seq (.seq (.reg [⟨0, (some 35), .load (some 7) (.tmp 1), none, []⟩,
 ⟨1, (some 36), .call 40 [(.tmp 35)], none, []⟩,
 ⟨2, (some 37), .len (.tmp 36), none, []⟩,
 ⟨3, (some 38), .mv (.con (.int .i64 0)), none, []⟩])
 (.block 0
 (.loop
 (.seq (.reg [⟨0, (some 39), .bin .lss 3 false (.tmp 38) (.tmp 37), none, []⟩])
 (.seq (.cond (.tmp 39)
 (.skip)
 (.exit 0))
 (.seq (.block 1
 (.seq (.reg [⟨0, (some 40), .idxA none 1 (.tmp 36) (.tmp 38), none, []⟩,
 ⟨1, (some 41), .load none (.tmp 40), none, []⟩,
 ⟨2, (some 7), .mv (.tmp 41), none, []⟩])
 (.reg [⟨0, (some 42), .mv (.tmp 7), none, []⟩,
 ⟨1, (some 43), .call 21 [(.tmp 42)], none, []⟩,
 ⟨2, (some 44), .bin .add 9 true (.con (.string ⟨#[32]⟩)) (.tmp 43), none, []⟩,
 ⟨3, (some 45), .call 20 [(.tmp 5), (.tmp 44)], none, []⟩])))
 (.reg [⟨0, (some 46), .bin .add 3 true (.tmp 38) (.con (.int .i64 1)), none, []⟩,
 ⟨1, (some 38), .mv (.tmp 46), none, []⟩])))))))
 (.seq (.seq (.reg [⟨0, (some 47), .fieldA 0 (.tmp 3), none, []⟩,
 ⟨1, (some 48), .load none (.tmp 47), none, []⟩,
 ⟨2, (some 49), .bin .and 3 true (.tmp 48) (.con (.int .i64 240)), none, []⟩,
 ⟨3, (some 50), .bin .neq 3 true (.tmp 49) (.con (.int .i64 0)), none, []⟩])
 (.cond (.tmp 50)
 (.reg [⟨0, (some 51), .fieldA 5 (.tmp 1), none, []⟩,
 ⟨1, (some 52), .load none (.tmp 51), none, []⟩,
 ⟨2, (some 53), .call 41 [(.tmp 52)], none, []⟩,
 ⟨3, (some 54), .bin .add 9 true (.con (.string ⟨#[32]⟩)) (.tmp 53), none, []⟩,
 ⟨4, (some 55), .call 20 [(.tmp 5), (.tmp 54)], none, []⟩])
 (.skip)))
 (.seq (.reg [⟨0, (some 56), .call 24 [(.tmp 5)], none, []⟩,
 ⟨1, (some 2), .mv (.tmp 56), none, []⟩])
 (.ret))))))))),
 [.tmp 2]⟩
theorem p_code_opText : prepFun Go.Proofs.Tryd.prog [1, 0, 2, 3] Go.Proofs.Tryd.f22 = some v_code_opText := by kernel_rfl

def v_code_endText : VFun :=
⟨.seq (.reg [⟨0, (some 1), .box (.tmp 0), none, []⟩,
 ⟨1, (some 2), .mv (.con (.string ⟨#[]⟩)), none, []⟩])
 (.seq (.reg [⟨0, (some 7), .fieldA 1 (.tmp 1), none, []⟩,
 ⟨1, (some 8), .load none (.tmp 7), none, []⟩,
 ⟨2, (some 9), .fieldA 2 (.tmp 1), none, []⟩,
 ⟨3, (some 10), .load none (.tmp 9), none, []⟩,
 ⟨4, (some 11), .fieldA 3 (.tmp 1), none, []⟩,
 ⟨5, (some 12), .load none (.tmp 11), none, []⟩,
 ⟨6, (some 13), .bslice 1 3 [(.int .i64 0)] [(0, 1, (.tmp 8)), (1, 1, (.tmp 10)), (2, 1, (.tmp 12))], none, []⟩,
 ⟨7, (some 3), .mv (.tmp 13), none, []⟩])
 (.seq (.seq (.reg [⟨0, (some 14), .fieldA 0 (.tmp 1), none, []⟩,
 ⟨1, (some 15), .load none (.tmp 14), none, []⟩,
 ⟨2, (some 16), .bin .eql 3 true (.tmp 15) (.con (.int .i64 1)), none, []⟩])
 (.cond (.tmp 16)
 (.reg [⟨0, (some 17), .mv (.tmp 3), none, []⟩,
 ⟨1, (some 18), .slice none 1 (.tmp 17) (some (.con (.int .i64 1))) none none, none, []⟩,
 ⟨2, (some 3), .mv (.tmp 18), none, []⟩])
 (.skip)))
 (.seq (.reg [⟨0, (some 19), .fieldA 0 (.tmp 1), none, []⟩,
 ⟨1, (some 20), .load none (.tmp 19), none, []⟩,
 ⟨2, (some 21), .bin .sub 3 true (.tmp 20) (.con (.int .i64 1)), none, []⟩,
 ⟨3, (some 22), .idxA (some 4) 2 (.glo 1) (.tmp 21), none, []⟩,
 ⟨4, (some 23), .fieldA 0 (.tmp 22), none, []⟩,
 ⟨5, (some 24), .load none (.tmp 23), none, []⟩,
 ⟨6, (some 4), .mv (.tmp 24), none, []⟩])
 (.seq (.seq (.reg [⟨0, (some 25), .mv (.tmp 3), none, []⟩,
 ⟨1, (some 26), .fieldA 0 (.tmp 1), none, []⟩,
 ⟨2, (some 27), .load none (.tmp 26), none, []⟩,
 ⟨3, (some 28), .bin .sub 3 true (.tmp 27) (.con (.int .i64 1)), none, []⟩,
 ⟨4, (some 29), .idxA (some 4) 2 (.glo 1) (.tmp 28), none, []⟩,
 ⟨5, (some 30), .fieldA 1 (.tmp 29), none, []⟩,
 ⟨6, (some 31), .load none (.tmp 30), none, []⟩,
 ⟨7, (some 32), .slice none 1 (.tmp 25) none (some (.tmp 31)) none, none, []⟩,
 ⟨8, (some 33), .len (.tmp 32), none, []⟩,
 ⟨9, (some 34), .mv (.con (.int .i64 0)), none, []⟩])
 (.block 0
 (.loop
 (.seq (.reg [⟨0, (some 35), .bin .lss 3 false (.tmp 34) (.tmp 33), none, []⟩])
 (.seq (.cond (.tmp 35)
 (.skip)
 (.exit 0))
 (.seq (.block 1
 (.seq (.reg [⟨0, (some 36), .idxA none 1 (.tmp 32) (.tmp 34), none, []⟩,
 ⟨1, (some 37), .load none (.tmp 36), none, []⟩,
 ⟨2, (some 6), .mv (.tmp 37), none, []⟩])
 (.reg [⟨0, (some 38), .mv (.tmp 4), none, []⟩,
 ⟨1, (some 39), .mv (.tmp 6), none, []⟩,
 ⟨2, (some 40), .call 21 [(.tmp 39)], none, []⟩,
 ⟨3, (some 41), .bin .add 9 true (.con (.string ⟨#[32]⟩)) (.tmp 40), none, []⟩,
 ⟨4, (some 42), .bin .add 9 false (.tmp 38) (.tmp 41), none, []⟩,
 ⟨5, (some 4), .mv (.tmp 42), none, []⟩])))
 (.reg [⟨0, (some 43), .bin .add 3 true (.tmp 34) (.con (.int .i64 1)), none, []⟩,
 ⟨1, (some 34), .mv (.tmp 43), none, []⟩])))))))
 (.seq (.reg [⟨0, (some 44), .mv (.tmp 4), none, []⟩,
 ⟨1, (some 2), .mv (.tmp 44), none, []⟩])
 (.ret)))))),
 [.tmp 2]⟩
theorem p_code_endText : prepFun Go.Proofs.Tryd.prog [1, 0, 2, 3] Go.Proofs.Tryd.f23 = some v_code_endText := by kernel_rfl

def v_code_lines_unit : VFun :=
⟨.seq (.reg [⟨0, (some 4), .mv (.con (.bool false)), none, []⟩])
 (.seq (.reg [⟨0, (some 18), .mv (.tmp 0), none, []⟩,
 ⟨1, (some 19), .call 44 [(.tmp 18)], none, []⟩,
 ⟨2, (some 17), .mv (.tmp 19), none, []⟩,
 ⟨3, (some 20), .ext (.tmp 17) 0, none, []⟩,
 ⟨4, (some 21), .ext (.tmp 17) 1, none, []⟩,
 ⟨5, (some 5), .mv (.tmp 20), none, []⟩,
 ⟨6, (some 6), .mv (.tmp 21), none, []⟩])
 (.seq (.reg [⟨0, (some 23), .mv (.tmp 5), none, []⟩,
 ⟨1, (some 24), .call 45 [(.tmp 23), (.con (.string ⟨#[117, 110, 105, 116]⟩)), (.con (.int .i64 4))], none, []⟩,
 ⟨2, (some 22), .mv (.tmp 24), none, []⟩,
 ⟨3, (some 25), .ext (.tmp 22) 0, none, []⟩,
 ⟨4, (some 26), .ext (.tmp 22) 1, none, []⟩,
 ⟨5, (some 7), .mv (.tmp 25), none, []⟩,
 ⟨6, (some 8), .mv (.tmp 26), none, []⟩])
 (.seq (.seq (.reg [⟨0, (some 28), .mv (.tmp 0), none, []⟩,
 ⟨1, (some 29), .call 44 [(.tmp 28)], none, []⟩,
 ⟨2, (some 27), .mv (.tmp 29), none, []⟩,
 ⟨3, (some 30), .ext (.tmp 27) 0, none, []⟩,
 ⟨4, (some 31), .ext (.tmp 27) 1, none, []⟩,
 ⟨5, (some 9), .mv (.tmp 30), none, []⟩,
 ⟨6, (some 10), .mv (.tmp 31), none, []⟩])
 (.seq (.reg [⟨0, (some 32), .mv (.tmp 8), none, []⟩,
 ⟨1, (some 33), .un .not (.tmp 32), none, []⟩,
 ⟨2, (some 34), .mv (.tmp 33), none, []⟩,
 ⟨3, (some 35), .mv (.tmp 10), (some (34, false)), []⟩,
 ⟨4, (some 36), .un .not (.tmp 35), (some (34, false)), []⟩,
 ⟨5, (some 37), .pick (.tmp 34) (.con (.bool true)) (.tmp 36), none, []⟩])
 (.cond (.tmp 37)
 (.seq (.reg [⟨0, (some 4), .mv (.con (.bool false)), none, []⟩])
 (.ret))
 (.skip))))
 (.seq (.reg [⟨0, (some 38), .mv (.tmp 1), none, []⟩,
 ⟨1, (some 39), .mv (.tmp 1), none, []⟩,
 ⟨2, (some 40), .mv (.tmp 1), none, []⟩,
 ⟨3, (some 41), .mv (.tmp 1), none, []⟩,
 ⟨4, (some 42), .mv (.tmp 7), none, []⟩,
 ⟨5, (some 43), .idxA none 1 (.tmp 42) (.con (.int .i64 0)), none, []⟩,
 ⟨6, (some 44), .load none (.tmp 43), none, []⟩,
 ⟨7, (some 45), .mv (.tmp 7), none, []⟩,
 ⟨8, (some 46), .idxA none 1 (.tmp 45) (.con (.int .i64 1)), none, []⟩,
 ⟨9, (some 47), .load none (.tmp 46), none, []⟩,
 ⟨10, (some 48), .mv (.tmp 7), none, []⟩,
 ⟨11, (some 49), .idxA none 1 (.tmp 48) (.con (.int .i64 2)), none, []⟩,
 ⟨12, (some 50), .load none (.tmp 49), none, []⟩,
 ⟨13, (some 51), .mv (.tmp 7), none, []⟩,
 ⟨14, (some 52), .idxA none 1 (.tmp 51) (.con (.int .i64 3)), none, []⟩,
 ⟨15, (some 53), .load none (.tmp 52), none, []⟩,
 ⟨16, (some 54), .nilck (.tmp 38), none, []⟩,
 ⟨17, (some 55), .fieldA 1 (.tmp 54), none, []⟩,
 ⟨18, none, .store 1 (.tmp 55) (.tmp 44), none, []⟩,
 ⟨19, (some 56), .nilck (.tmp 39), none, []⟩,
 ⟨20, (some 57), .fieldA 2 (.tmp 56), none, []⟩,
 ⟨21, none, .store 1 (.tmp 57) (.tmp 47), none, []⟩,
 ⟨22, (some 58), .nilck (.tmp 40), none, []⟩,
 ⟨23, (some 59), .fieldA 3 (.tmp 58), none, []⟩,
 ⟨24, none, .store 1 (.tmp 59) (.tmp 50), none, []⟩,
 ⟨25, (some 60), .nilck (.tmp 41), none, []⟩,
 ⟨26, (some 61), .fieldA 4 (.tmp 60), none, []⟩,
 ⟨27, none, .store 1 (.tmp 61) (.tmp 53), none, []⟩])
 (.seq (.reg [⟨0, (some 62), .mv (.tmp 0), none, []⟩,
 ⟨1, (some 63), .call 46 [(.tmp 62)], none, []⟩])
 (.seq (.block 0
 (.loop
 (.seq (.seq (.reg [⟨0, (some 64), .mv (.tmp 0), none, []⟩,
 ⟨1, (some 65), .nilck (.tmp 64), none, []⟩,
 ⟨2, (some 66), .fieldA 0 (.tmp 65), none, []⟩,
 ⟨3, (some 67), .load none (.tmp 66), none, []⟩,
 ⟨4, (some 68), .bin .neq 9 true (.tmp 67) (.con (.string ⟨#[]⟩)), none, []⟩])
 (.cond (.tmp 68)
 (.skip)
 (.exit 0)))
 (.block 1
 (.seq (.reg [⟨0, (some 70), .mv (.tmp 0), none, []⟩,
 ⟨1, (some 71), .call 44 [(.tmp 70)], none, []⟩,
 ⟨2, (some 69), .mv (.tmp 71), none, []⟩,
 ⟨3, (some 72), .ext (.tmp 69) 0, none, []⟩,
 ⟨4, (some 73), .ext (.tmp 69) 1, none, []⟩,
 ⟨5, (some 11), .mv (.tmp 72), none, []⟩,
 ⟨6, (some 12), .mv (.tmp 73), none, []⟩])
 (.seq (.reg [⟨0, (some 75), .mv (.tmp 11), none, []⟩,
 ⟨1, (some 76), .call 45 [(.tmp 75), (.con (.string ⟨#[97, 114, 114, 97, 121]⟩)), (.con (.int .i64 1))], none, []⟩,
 ⟨2, (some 74), .mv (.tmp 76), none, []⟩,
 ⟨3, (some 77), .ext (.tmp 74) 0, none, []⟩,
 ⟨4, (some 78), .ext (.tmp 74) 1, none, []⟩,
 ⟨5, (some 13), .mv (.tmp 77), none, []⟩,
 ⟨6, (some 14), .mv (.tmp 78), none, []⟩])
 (.seq (.reg [⟨0, (some 80), .mv (.tmp 11), none, []⟩,
 ⟨1, (some 81), .call 45 [(.tmp 80), (.con (.string ⟨#[98, 108, 111, 99, 107]⟩)), (.con (.int .i64 1))], none, []⟩,
 ⟨2, (some 79), .mv (.tmp 81), none, []⟩,
 ⟨3, (some 82), .ext (.tmp 79) 0, none, []⟩,
 ⟨4, (some 83), .ext (.tmp 79) 1, none, []⟩,
 ⟨5, (some 15), .mv (.tmp 82), none, []⟩,
 ⟨6, (some 16), .mv (.tmp 83), none, []⟩])
 (.block 2
 (.seq (.reg [⟨0, (some 85), .mv (.tmp 12), none, []⟩,
 ⟨1, (some 86), .un .not (.tmp 85), none, []⟩,
 ⟨2, (some 84), .mv (.tmp 86), none, []⟩])
 (.cond (.tmp 84)
 (.seq (.reg [⟨0, (some 4), .mv (.con (.bool false)), none, []⟩])
 (.ret))
 (.seq (.reg [⟨0, (some 88), .mv (.tmp 14), none, []⟩,
 ⟨1, (some 89), .mv (.tmp 88), none, []⟩,
 ⟨2, (some 90), .mv (.tmp 1), (some (89, true)), []⟩,
 ⟨3, (some 91), .nilck (.tmp 90), (some (89, true)), []⟩,
 ⟨4, (some 92), .fieldA 5 (.tmp 91), (some (89, true)), []⟩,
 ⟨5, (some 93), .load none (.tmp 92), (some (89, true)), []⟩,
 ⟨6, (some 94), .len (.tmp 93), (some (89, true)), []⟩,
 ⟨7, (some 95), .bin .eql 3 true (.tmp 94) (.con (.int .i64 0)), (some (89, true)), []⟩,
 ⟨8, (some 96), .pick (.tmp 89) (.tmp 95) (.con (.bool false)), none, []⟩,
 ⟨9, (some 87), .mv (.tmp 96), none, []⟩])
 (.cond (.tmp 87)
 (.seq (.reg [⟨0, (some 97), .mv (.tmp 1), none, []⟩,
 ⟨1, (some 98), .mv (.tmp 1), none, []⟩,
 ⟨2, (some 99), .nilck (.tmp 98), none, []⟩,
 ⟨3, (some 100), .fieldA 0 (.tmp 99), none, []⟩,
 ⟨4, (some 101), .load none (.tmp 100), none, []⟩,
 ⟨5, (some 102), .mv (.tmp 13), none, []⟩,
 ⟨6, (some 103), .idxA none 1 (.tmp 102) (.con (.int .i64 0)), none, []⟩,
 ⟨7, (some 104), .load none (.tmp 103), none, []⟩,
 ⟨8, (some 105), .bslice 1 1 [(.int .i64 0)] [(0, 1, (.tmp 104))], none, []⟩,
 ⟨9, (some 106), .append 1 8 (.tmp 101) (.tmp 105), none, []⟩,
 ⟨10, (some 107), .nilck (.tmp 97), none, []⟩,
 ⟨11, (some 108), .fieldA 0 (.tmp 107), none, []⟩,
 ⟨12, none, .store 1 (.tmp 108) (.tmp 106), none, []⟩])
 (.reg [⟨0, (some 109), .mv (.tmp 0), none, []⟩,
 ⟨1, (some 110), .call 46 [(.tmp 109)], none, []⟩]))
 (.seq (.reg [⟨0, (some 112), .mv (.tmp 16), none, []⟩,
 ⟨1, (some 111), .mv (.tmp 112), none, []⟩])
 (.cond (.tmp 111)
 (.seq (.reg [⟨0, (some 113), .mv (.tmp 1), none, []⟩,
 ⟨1, (some 114), .mv (.tmp 1), none, []⟩,
 ⟨2, (some 115), .nilck (.tmp 114), none, []⟩,
 ⟨3, (some 116), .fieldA 5 (.tmp 115), none, []⟩,
 ⟨4, (some 117), .load none (.tmp 116), none, []⟩,
 ⟨5, (some 118), .mv (.tmp 15), none, []⟩,
 ⟨6, (some 119), .idxA none 1 (.tmp 118) (.con (.int .i64 0)), none, []⟩,
 ⟨7, (some 120), .load none (.tmp 119), none, []⟩,
 ⟨8, (some 121), .build [(.slice none 0 0), (.int .i64 0), (.int .i64 0), (.int .i64 0), (.int .i64 0), (.int .i64 0)] [(5, 1, (.tmp 120))], none, []⟩,
 ⟨9, (some 122), .bslice 6 1 [(.slice none 0 0), (.int .i64 0), (.int .i64 0), (.int .i64 0), (.int .i64 0), (.int .i64 0)] [(0, 6, (.tmp 121))], none, []⟩,
 ⟨10, (some 123), .append 6 64 (.tmp 117) (.tmp 122), none, []⟩,
 ⟨11, (some 124), .nilck (.tmp 113), none, []⟩,
 ⟨12, (some 125), .fieldA 5 (.tmp 124), none, []⟩,
 ⟨13, none, .store 1 (.tmp 125) (.tmp 123), none, []⟩])
 (.seq (.reg [⟨0, (some 126), .mv (.tmp 0), none, []⟩,
 ⟨1, (some 127), .call 46 [(.tmp 126)], none, []⟩])
 (.seq (.reg [⟨0, (some 128), .mv (.tmp 0), none, []⟩,
 ⟨1, (some 129), .mv (.tmp 1), none, []⟩,
 ⟨2, (some 130), .nilck (.tmp 129), none, []⟩,
 ⟨3, (some 131), .fieldA 5 (.tmp 130), none, []⟩,
 ⟨4, (some 132), .load none (.tmp 131), none, []⟩,
 ⟨5, (some 133), .mv (.tmp 1), none, []⟩,
 ⟨6, (some 134), .nilck (.tmp 133), none, []⟩,
 ⟨7, (some 135), .fieldA 5 (.tmp 134), none, []⟩,
 ⟨8, (some 136), .load none (.tmp 135), none, []⟩,
 ⟨9, (some 137), .len (.tmp 136), none, []⟩,
 ⟨10, (some 138), .bin .sub 3 true (.tmp 137) (.con (.int .i64 1)), none, []⟩,
 ⟨11, (some 139), .idxA none 6 (.tmp 132) (.tmp 138), none, []⟩,
 ⟨12, (some 140), .call 47 [(.tmp 128), (.tmp 139)], none, []⟩,
 ⟨13, (some 141), .un .not (.tmp 140), none, []⟩])
 (.cond (.tmp 141)
 (.seq (.reg [⟨0, (some 4), .mv (.con (.bool false)), none, []⟩])
 (.ret))
 (.skip)))))
 (.seq (.reg [⟨0, (some 4), .mv (.con (.bool false)), none, []⟩])
 (.ret))))))))))))))))
 (.seq (.reg [⟨0, (some 4), .mv (.con (.bool true)), none, []⟩])
 (.ret)))))))),
 [.tmp 4]⟩
theorem p_code_lines_unit : prepFun Go.Proofs.Tryd.prog [1, 0, 2, 3] Go.Proofs.Tryd.f26 = some v_code_lines_unit := by kernel_rfl

def v_r07_SameBlocks : VFun :=
⟨.seq (.reg [⟨0, (some 4), .mv (.con (.bool false)), none, []⟩])
 (.seq (.seq (.reg [⟨0, (some 6), .mv (.tmp 0), none, []⟩,
 ⟨1, (some 7), .len (.tmp 6), none, []⟩,
 ⟨2, (some 8), .mv (.tmp 1), none, []⟩,
 ⟨3, (some 9), .len (.tmp 8), none, []⟩,
 ⟨4, (some 10), .bin .neq 3 false (.tmp 7) (.tmp 9), none, []⟩])
 (.cond (.tmp 10)
 (.seq (.reg [⟨0, (some 4), .mv (.con (.bool false)), none, []⟩])
 (.ret))
 (.skip)))
 (.seq (.seq (.reg [⟨0, (some 5), .mv (.con (.int .i64 0)), none, []⟩])
 (.block 0
 (.loop
 (.seq (.seq (.reg [⟨0, (some 11), .mv (.tmp 5), none, []⟩,
 ⟨1, (some 12), .mv (.tmp 0), none, []⟩,
 ⟨2, (some 13), .len (.tmp 12), none, []⟩,
 ⟨3, (some 14), .bin .lss 3 false (.tmp 11) (.tmp 13), none, []⟩])
 (.cond (.tmp 14)
 (.skip)
 (.exit 0)))
 (.seq (.block 1
 (.seq (.reg [⟨0, (some 17), .mv (.tmp 0), none, []⟩,
 ⟨1, (some 18), .mv (.tmp 5), none, []⟩,
 ⟨2, (some 19), .idxA none 6 (.tmp 17) (.tmp 18), none, []⟩,
 ⟨3, (some 20), .fieldA 0 (.tmp 19), none, []⟩,
 ⟨4, (some 21), .load none (.tmp 20), none, []⟩,
 ⟨5, (some 22), .mv (.tmp 1), none, []⟩,
 ⟨6, (some 23), .mv (.tmp 5), none, []⟩,
 ⟨7, (some 24), .idxA none 6 (.tmp 22) (.tmp 23), none, []⟩,
 ⟨8, (some 25), .fieldA 0 (.tmp 24), none, []⟩,
 ⟨9, (some 26), .load none (.tmp 25), none, []⟩,
 ⟨10, (some 27), .call 48 [(.tmp 21), (.tmp 26)], none, []⟩,
 ⟨11, (some 28), .un .not (.tmp 27), none, []⟩,
 ⟨12, (some 29), .mv (.tmp 28), none, []⟩,
 ⟨13, (some 30), .mv (.tmp 0), (some (29, false)), []⟩,
 ⟨14, (some 31), .mv (.tmp 5), (some (29, false)), []⟩,
 ⟨15, (some 32), .idxA none 6 (.tmp 30) (.tmp 31), (some (29, false)), []⟩,
 ⟨16, (some 33), .fieldA 1 (.tmp 32), (some (29, false)), []⟩,
 ⟨17, (some 34), .load (some 4) (.tmp 33), (some (29, false)), []⟩,
 ⟨18, (some 35), .mv (.tmp 1), (some (29, false)), []⟩,
 ⟨19, (some 36), .mv (.tmp 5), (some (29, false)), []⟩,
 ⟨20, (some 37), .idxA none 6 (.tmp 35) (.tmp 36), (some (29, false)), []⟩,
 ⟨21, (some 38), .fieldA 1 (.tmp 37), (some (29, false)), []⟩,
 ⟨22, (some 39), .load (some 4) (.tmp 38), (some (29, false)), []⟩,
 ⟨23, (some 40), .bin .neq 41 false (.tmp 34) (.tmp 39), (some (29, false)), []⟩,
 ⟨24, (some 41), .pick (.tmp 29) (.con (.bool true)) (.tmp 40), none, []⟩,
 ⟨25, (some 42), .mv (.tmp 41), none, []⟩,
 ⟨26, (some 43), .mv (.tmp 0), (some (42, false)), []⟩,
 ⟨27, (some 44), .mv (.tmp 5), (some (42, false)), []⟩,
 ⟨28, (some 45), .idxA none 6 (.tmp 43) (.tmp 44), (some (42, false)), []⟩,
 ⟨29, (some 46), .fieldA 5 (.tmp 45), (some (42, false)), []⟩,
 ⟨30, (some 47), .load none (.tmp 46), (some (42, false)), []⟩,
 ⟨31, (some 48), .mv (.tmp 1), (some (42, false)), []⟩,
 ⟨32, (some 49), .mv (.tmp 5), (some (42, false)), []⟩,
 ⟨33, (some 50), .idxA none 6 (.tmp 48) (.tmp 49), (some (42, false)), []⟩,
 ⟨34, (some 51), .fieldA 5 (.tmp 50), (some (42, false)), []⟩,
 ⟨35, (some 52), .load none (.tmp 51), (some (42, false)), []⟩,
 ⟨36, (some 53), .bin .neq 3 false (.tmp 47) (.tmp 52), (some (42, false)), []⟩,
 ⟨37, (some 54), .pick (.tmp 42) (.con (.bool true)) (.tmp 53), none, []⟩])
 (.cond (.tmp 54)
 (.seq (.reg [⟨0, (some 4), .mv (.con (.bool false)), none, []⟩])
 (.ret))
 (.skip))))
 (.reg [⟨0, (some 15), .mv (.tmp 5), none, []⟩,
 ⟨1, (some 16), .bin .add 3 true (.tmp 15) (.con (.int .i64 1)), none, []⟩,
 ⟨2, (some 5), .mv (.tmp 16), none, []⟩]))))))
 (.seq (.reg [⟨0, (some 4), .mv (.con (.bool true)), none, []⟩])
 (.ret)))),
 [.tmp 4]⟩
theorem p_r07_SameBlocks : prepFun Go.Proofs.Tryd.prog [1, 0, 2, 3] Go.Proofs.Tryd.f27 = some v_r07_SameBlocks := by kernel_rfl

def v_slices_Equal_int : VFun :=
⟨.seq (.reg [⟨0, (some 4), .mv (.con (.bool false)), none, []⟩])
 (.seq (.seq (.reg [⟨0, (some 6), .mv (.tmp 0), none, []⟩,
 ⟨1, (some 7), .len (.tmp 6), none, []⟩,
 ⟨2, (some 8), .mv (.tmp 1), none, []⟩,
 ⟨3, (some 9), .len (.tmp 8), none, []⟩,
 ⟨4, (some 10), .bin .neq 3 false (.tmp 7) (.tmp 9), none, []⟩])
 (.cond (.tmp 10)
 (.seq (.reg [⟨0, (some 4), .mv (.con (.bool false)), none, []⟩])
 (.ret))
 (.skip)))
 (.seq (.seq (.reg [⟨0, (some 11), .mv (.tmp 0), none, []⟩,
 ⟨1, (some 12), .len (.tmp 11), none, []⟩,
 ⟨2, (some 13), .mv (.con (.int .i64 0)), none, []⟩])
 (.block 0
 (.loop
 (.seq (.reg [⟨0, (some 14), .bin .lss 3 false (.tmp 13) (.tmp 12), none, []⟩])
 (.seq (.cond (.tmp 14)
 (.skip)
 (.exit 0))
 (.seq (.block 1
 (.seq (.reg [⟨0, (some 15), .mv (.tmp 13), none, []⟩,
 ⟨1, (some 5), .mv (.tmp 15), none, []⟩])
 (.seq (.reg [⟨0, (some 16), .mv (.tmp 0), none, []⟩,
 ⟨1, (some 17), .mv (.tmp 5), none, []⟩,
 ⟨2, (some 18), .idxA none 1 (.tmp 16) (.tmp 17), none, []⟩,
 ⟨3, (some 19), .load none (.tmp 18), none, []⟩,
 ⟨4, (some 20), .mv (.tmp 1), none, []⟩,
 ⟨5, (some 21), .mv (.tmp 5), none, []⟩,
 ⟨6, (some 22), .idxA none 1 (.tmp 20) (.tmp 21), none, []⟩,
 ⟨7, (some 23), .load none (.tmp 22), none, []⟩,
 ⟨8, (some 24), .bin .neq 3 false (.tmp 19) (.tmp 23), none, []⟩])
 (.cond (.tmp 24)
 (.seq (.reg [⟨0, (some 4), .mv (.con (.bool false)), none, []⟩])
 (.ret))
 (.skip)))))
 (.reg [⟨0, (some 25), .bin .add 3 true (.tmp 13) (.con (.int .i64 1)), none, []⟩,
 ⟨1, (some 13), .mv (.tmp 25), none, []⟩])))))))
 (.seq (.reg [⟨0, (some 4), .mv (.con (.bool true)), none, []⟩])
 (.ret)))),
 [.tmp 4]⟩
theorem p_slices_Equal_int : prepFun Go.Proofs.Tryd.prog [1, 0, 2, 3] Go.Proofs.Tryd.f28 = some v_slices_Equal_int := by kernel_rfl

def v_slices_EqualFunc_Block : VFun :=
⟨.seq (.reg [⟨0, (some 6), .mv (.con (.bool false)), none, []⟩])
 (.seq (.seq (.reg [⟨0, (some 10), .mv (.tmp 0), none, []⟩,
 ⟨1, (some 11), .len (.tmp 10), none, []⟩,
 ⟨2, (some 12), .mv (.tmp 1), none, []⟩,
 ⟨3, (some 13), .len (.tmp 12), none, []⟩,
 ⟨4, (some 14), .bin .neq 3 false (.tmp 11) (.tmp 13), none, []⟩])
 (.cond (.tmp 14)
 (.seq (.reg [⟨0, (some 6), .mv (.con (.bool false)), none, []⟩])
 (.ret))
 (.skip)))
 (.seq (.seq (.reg [⟨0, (some 15), .mv (.tmp 0), none, []⟩,
 ⟨1, (some 16), .len (.tmp 15), none, []⟩,
 ⟨2, (some 17), .mv (.con (.int .i64 0)), none, []⟩])
 (.block 0
 (.loop
 (.seq (.reg [⟨0, (some 18), .bin .lss 3 false (.tmp 17) (.tmp 16), none, []⟩])
 (.seq (.cond (.tmp 18)
 (.skip)
 (.exit 0))
 (.seq (.block 1
 (.seq (.reg [⟨0, (some 19), .mv (.tmp 17), none, []⟩,
 ⟨1, (some 20), .idxA none 6 (.tmp 15) (.tmp 17), none, []⟩,
 ⟨2, (some 21), .load (some 6) (.tmp 20), none, []⟩,
 ⟨3, (some 8), .alloc [(.slice none 0 0), (.int .i64 0), (.int .i64 0), (.int .i64 0), (.int .i64 0), (.int .i64 0)], none, []⟩,
 ⟨4, (some 7), .mv (.tmp 19), none, []⟩,
 ⟨5, none, .store 6 (.tmp 8) (.tmp 21), none, []⟩])
 (.seq (.reg [⟨0, (some 22), .mv (.tmp 1), none, []⟩,
 ⟨1, (some 23), .mv (.tmp 7), none, []⟩,
 ⟨2, (some 24), .idxA none 6 (.tmp 22) (.tmp 23), none, []⟩,
 ⟨3, (some 25), .load (some 6) (.tmp 24), none, []⟩,
 ⟨4, (some 9), .alloc [(.slice none 0 0), (.int .i64 0), (.int .i64 0), (.int .i64 0), (.int .i64 0), (.int .i64 0)], none, []⟩,
 ⟨5, none, .store 6 (.tmp 9) (.tmp 25), none, []⟩])
 (.seq (.reg [⟨0, (some 26), .mv (.tmp 2), none, []⟩,
 ⟨1, (some 27), .load (some 6) (.tmp 8), none, []⟩,
 ⟨2, (some 28), .load (some 6) (.tmp 9), none, []⟩,
 ⟨3, (some 29), .callv (.tmp 26) [(.tmp 27), (.tmp 28)], none, []⟩,
 ⟨4, (some 30), .un .not (.tmp 29), none, []⟩])
 (.cond (.tmp 30)
 (.seq (.reg [⟨0, (some 6), .mv (.con (.bool false)), none, []⟩])
 (.ret))
 (.skip))))))
 (.reg [⟨0, (some 31), .bin .add 3 true (.tmp 17) (.con (.int .i64 1)), none, []⟩,
 ⟨1, (some 17), .mv (.tmp 31), none, []⟩])))))))
 (.seq (.reg [⟨0, (some 6), .mv (.con (.bool true)), none, []⟩])
 (.ret)))),
 [.tmp 6]⟩
theorem p_slices_EqualFunc_Block : prepFun Go.Proofs.Tryd.prog [1, 0, 2, 3] Go.Proofs.Tryd.f29 = some v_slices_EqualFunc_Block := by kernel_rfl

def v_code_Same_c1 : VFun :=
⟨.seq (.reg [⟨0, (some 2), .box (.tmp 0), none, []⟩,
 ⟨1, (some 3), .box (.tmp 1), none, []⟩,
 ⟨2, (some 4), .mv (.con (.bool false)), none, []⟩])
 (.seq (.reg [⟨0, (some 5), .fieldA 0 (.tmp 2), none, []⟩,
 ⟨1, (some 6), .load none (.tmp 5), none, []⟩,
 ⟨2, (some 7), .fieldA 0 (.tmp 3), none, []⟩,
 ⟨3, (some 8), .load none (.tmp 7), none, []⟩,
 ⟨4, (some 9), .call 31 [(.tmp 6), (.tmp 8)], none, []⟩,
 ⟨5, (some 10), .mv (.tmp 9), none, []⟩,
 ⟨6, (some 11), .fieldA 1 (.tmp 2), (some (10, true)), []⟩,
 ⟨7, (some 12), .load (some 4) (.tmp 11), (some (10, true)), []⟩,
 ⟨8, (some 13), .fieldA 1 (.tmp 3), (some (10, true)), []⟩,
 ⟨9, (some 14), .load (some 4) (.tmp 13), (some (10, true)), []⟩,
 ⟨10, (some 15), .bin .eql 41 false (.tmp 12) (.tmp 14), (some (10, true)), []⟩,
 ⟨11, (some 16), .pick (.tmp 10) (.tmp 15) (.con (.bool false)), none, []⟩,
 ⟨12, (some 17), .mv (.tmp 16), none, []⟩,
 ⟨13, (some 18), .fieldA 5 (.tmp 2), (some (17, true)), []⟩,
 ⟨14, (some 19), .load none (.tmp 18), (some (17, true)), []⟩,
 ⟨15, (some 20), .fieldA 5 (.tmp 3), (some (17, true)), []⟩,
 ⟨16, (some 21), .load none (.tmp 20), (some (17, true)), []⟩,
 ⟨17, (some 22), .bin .eql 3 false (.tmp 19) (.tmp 21), (some (17, true)), []⟩,
 ⟨18, (some 23), .pick (.tmp 17) (.tmp 22) (.con (.bool false)), none, []⟩,
 ⟨19, (some 4), .mv (.tmp 23), none, []⟩])
 (.ret)),
 [.tmp 4]⟩
theorem p_code_Same_c1 : prepFun Go.Proofs.Tryd.prog [1, 0, 2, 3] Go.Proofs.Tryd.f30 = some v_code_Same_c1 := by kernel_rfl

def v_slices_Equal_Op : VFun :=
⟨.seq (.reg [⟨0, (some 4), .mv (.con (.bool false)), none, []⟩])
 (.seq (.seq (.reg [⟨0, (some 6), .mv (.tmp 0), none, []⟩,
 ⟨1, (some 7), .len (.tmp 6), none, []⟩,
 ⟨2, (some 8), .mv (.tmp 1), none, []⟩,
 ⟨3, (some 9), .len (.tmp 8), none, []⟩,
 ⟨4, (some 10), .bin .neq 3 false (.tmp 7) (.tmp 9), none, []⟩])
 (.cond (.tmp 10)
 (.seq (.reg [⟨0, (some 4), .mv (.con (.bool false)), none, []⟩])
 (.ret))
 (.skip)))
 (.seq (.seq (.reg [⟨0, (some 11), .mv (.tmp 0), none, []⟩,
 ⟨1, (some 12), .len (.tmp 11), none, []⟩,
 ⟨2, (some 13), .mv (.con (.int .i64 0)), none, []⟩])
 (.block 0
 (.loop
 (.seq (.reg [⟨0, (some 14), .bin .lss 3 false (.tmp 13) (.tmp 12), none, []⟩])
 (.seq (.cond (.tmp 14)
 (.skip)
 (.exit 0))
 (.seq (.block 1
 (.seq (.reg [⟨0, (some 15), .mv (.tmp 13), none, []⟩,
 ⟨1, (some 5), .mv (.tmp 15), none, []⟩])
 (.seq (.reg [⟨0, (some 16), .mv (.tmp 0), none, []⟩,
 ⟨1, (some 17), .mv (.tmp 5), none, []⟩,
 ⟨2, (some 18), .idxA none 7 (.tmp 16) (.tmp 17), none, []⟩,
 ⟨3, (some 19), .load (some 7) (.tmp 18), none, []⟩,
 ⟨4, (some 20), .mv (.tmp 1), none, []⟩,
 ⟨5, (some 21), .mv (.tmp 5), none, []⟩,
 ⟨6, (some 22), .idxA none 7 (.tmp 20) (.tmp 21), none, []⟩,
 ⟨7, (some 23), .load (some 7) (.tmp 22), none, []⟩,
 ⟨8, (some 24), .bin .neq 52 false (.tmp 19) (.tmp 23), none, []⟩])
 (.cond (.tmp 24)
 (.seq (.reg [⟨0, (some 4), .mv (.con (.bool false)), none, []⟩])
 (.ret))
 (.skip)))))
 (.reg [⟨0, (some 25), .bin .add 3 true (.tmp 13) (.con (.int .i64 1)), none, []⟩,
 ⟨1, (some 13), .mv (.tmp 25), none, []⟩])))))))
 (.seq (.reg [⟨0, (some 4), .mv (.con (.bool true)), none, []⟩])
 (.ret)))),
 [.tmp 4]⟩
theorem p_slices_Equal_Op : prepFun Go.Proofs.Tryd.prog [1, 0, 2, 3] Go.Proofs.Tryd.f31 = some v_slices_Equal_Op := by kernel_rfl

def v_code_within : VFun :=
⟨.seq (.reg [⟨0, (some 4), .mv (.con (.bool false)), none, []⟩])
 (.seq (.reg [⟨0, (some 5), .mv (.tmp 0), none, []⟩,
 ⟨1, (some 6), .bin .geq 3 true (.tmp 5) (.con (.int .i64 0)), none, []⟩,
 ⟨2, (some 7), .mv (.tmp 6), none, []⟩,
 ⟨3, (some 8), .mv (.tmp 0), (some (7, true)), []⟩,
 ⟨4, (some 9), .mv (.tmp 1), (some (7, true)), []⟩,
 ⟨5, (some 10), .bin .lss 3 false (.tmp 8) (.tmp 9), (some (7, true)), []⟩,
 ⟨6, (some 11), .pick (.tmp 7) (.tmp 10) (.con (.bool false)), none, []⟩,
 ⟨7, (some 4), .mv (.tmp 11), none, []⟩])
 (.ret)),
 [.tmp 4]⟩
theorem p_code_within : prepFun Go.Proofs.Tryd.prog [1, 0, 2, 3] Go.Proofs.Tryd.f34 = some v_code_within := by kernel_rfl

def v_internal_strconv_Itoa : VFun :=
⟨.seq (.reg [⟨0, (some 2), .mv (.con (.string ⟨#[]⟩)), none, []⟩])
 (.seq (.reg [⟨0, (some 3), .mv (.tmp 0), none, []⟩,
 ⟨1, (some 4), .call 52 [(.tmp 3), (.con (.int .i64 10))], none, []⟩,
 ⟨2, (some 2), .mv (.tmp 4), none, []⟩])
 (.ret)),
 [.tmp 2]⟩
theorem p_internal_strconv_Itoa : prepFun Go.Proofs.Tryd.prog [1, 0, 2, 3] Go.Proofs.Tryd.f38 = some v_internal_strconv_Itoa := by kernel_rfl

def v_code_of : VFun :=
⟨.seq (.reg [⟨0, (some 2), .alloc [(.int .i64 0), (.int .i64 0), (.string ⟨#[]⟩)], none, []⟩,
 ⟨1, (some 3), .mv (.con (.bool false)), none, []⟩])
 (.seq (.seq (.reg [⟨0, (some 4), .mv (.tmp 0), none, []⟩,
 ⟨1, (some 5), .bin .lss 3 true (.tmp 4) (.con (.int .i64 1)), none, []⟩,
 ⟨2, (some 6), .mv (.tmp 5), none, []⟩,
 ⟨3, (some 7), .mv (.tmp 0), (some (6, false)), []⟩,
 ⟨4, (some 8), .bin .gtr 3 true (.tmp 7) (.con (.int .i64 25)), (some (6, false)), []⟩,
 ⟨5, (some 9), .pick (.tmp 6) (.con (.bool true)) (.tmp 8), none, []⟩])
 (.cond (.tmp 9)
 (.seq (.reg [⟨0, (some 10), .build [(.int .i64 0), (.int .i64 0), (.string ⟨#[]⟩)] [], none, []⟩,
 ⟨1, none, .store 3 (.tmp 2) (.tmp 10), none, []⟩,
 ⟨2, (some 3), .mv (.con (.bool false)), none, []⟩])
 (.ret))
 (.skip)))
 (.seq (.reg [⟨0, (some 11), .mv (.tmp 0), none, []⟩,
 ⟨1, (some 12), .bin .sub 3 true (.tmp 11) (.con (.int .i64 1)), none, []⟩,
 ⟨2, (some 13), .idxA (some 25) 3 (.glo 0) (.tmp 12), none, []⟩,
 ⟨3, (some 14), .load (some 3) (.tmp 13), none, []⟩,
 ⟨4, none, .store 3 (.tmp 2) (.tmp 14), none, []⟩,
 ⟨5, (some 3), .mv (.con (.bool true)), none, []⟩])
 (.ret))),
 [.cell 2 (some 3), .tmp 3]⟩
theorem p_code_of : prepFun Go.Proofs.Tryd.prog [1, 0, 2, 3] Go.Proofs.Tryd.f39 = some v_code_of := by kernel_rfl

def v_code_Read : VFun :=
⟨.seq (.reg [⟨0, (some 1), .box (.tmp 0), none, []⟩,
 ⟨1, (some 2), .mv (.con (.slice none 0 0)), none, []⟩])
 (.seq (.reg [⟨0, (some 9), .fieldA 0 (.tmp 1), none, []⟩,
 ⟨1, (some 10), .load none (.tmp 9), none, []⟩,
 ⟨2, (some 11), .call 39 [(.tmp 10)], none, []⟩,
 ⟨3, (some 8), .mv (.tmp 11), none, []⟩,
 ⟨4, (some 12), .ext (.tmp 8) 0, none, []⟩,
 ⟨5, (some 13), .ext (.tmp 8) 1, none, []⟩,
 ⟨6, (some 3), .alloc [(.int .i64 0), (.int .i64 0), (.string ⟨#[]⟩)], none, []⟩,
 ⟨7, none, .store 3 (.tmp 3) (.tmp 12), none, []⟩,
 ⟨8, (some 4), .mv (.tmp 13), none, []⟩])
 (.seq (.reg [⟨0, (some 5), .mv (.con (.slice none 0 0)), none, []⟩])
 (.seq (.seq (.reg [⟨0, (some 14), .fieldA 2 (.tmp 1), none, []⟩,
 ⟨1, (some 15), .load none (.tmp 14), none, []⟩,
 ⟨2, (some 16), .fieldA 3 (.tmp 1), none, []⟩,
 ⟨3, (some 17), .load none (.tmp 16), none, []⟩,
 ⟨4, (some 18), .fieldA 4 (.tmp 1), none, []⟩,
 ⟨5, (some 19), .load none (.tmp 18), none, []⟩,
 ⟨6, (some 20), .build [(.int .i64 0), (.int .i64 0), (.int .i64 0)] [(0, 1, (.tmp 15)), (1, 1, (.tmp 17)), (2, 1, (.tmp 19))], none, []⟩,
 ⟨7, (some 21), .mv (.con (.int .i64 0)), none, []⟩])
 (.block 0
 (.loop
 (.seq (.reg [⟨0, (some 22), .bin .lss 3 true (.tmp 21) (.con (.int .i64 3)), none, []⟩])
 (.seq (.cond (.tmp 22)
 (.skip)
 (.exit 0))
 (.seq (.block 1
 (.seq (.reg [⟨0, (some 23), .mv (.tmp 21), none, []⟩,
 ⟨1, (some 24), .idx 3 none 1 (.tmp 20) (.tmp 21), none, []⟩,
 ⟨2, (some 6), .mv (.tmp 23), none, []⟩,
 ⟨3, (some 7), .mv (.tmp 24), none, []⟩])
 (.seq (.reg [⟨0, (some 25), .fieldA 0 (.tmp 3), none, []⟩,
 ⟨1, (some 26), .load none (.tmp 25), none, []⟩,
 ⟨2, (some 27), .mv (.tmp 6), none, []⟩,
 ⟨3, (some 28), .bin .shl 3 true (.con (.int .i64 2)) (.tmp 27), none, []⟩,
 ⟨4, (some 29), .bin .and 3 false (.tmp 26) (.tmp 28), none, []⟩,
 ⟨5, (some 30), .bin .neq 3 true (.tmp 29) (.con (.int .i64 0)), none, []⟩])
 (.cond (.tmp 30)
 (.reg [⟨0, (some 31), .mv (.tmp 5), none, []⟩,
 ⟨1, (some 32), .mv (.tmp 7), none, []⟩,
 ⟨2, (some 33), .bslice 1 1 [(.int .i64 0)] [(0, 1, (.tmp 32))], none, []⟩,
 ⟨3, (some 34), .append 1 8 (.tmp 31) (.tmp 33), none, []⟩,
 ⟨4, (some 5), .mv (.tmp 34), none, []⟩])
 (.skip)))))
 (.reg [⟨0, (some 35), .bin .add 3 true (.tmp 21) (.con (.int .i64 1)), none, []⟩,
 ⟨1, (some 21), .mv (.tmp 35), none, []⟩])))))))
 (.seq (.reg [⟨0, (some 36), .mv (.tmp 5), none, []⟩,
 ⟨1, (some 2), .mv (.tmp 36), none, []⟩])
 (.ret))))),
 [.tmp 2]⟩
theorem p_code_Read : prepFun Go.Proofs.Tryd.prog [1, 0, 2, 3] Go.Proofs.Tryd.f40 = some v_code_Read := by kernel_rfl

def v_word_Show : VFun :=
⟨.seq (.reg [⟨0, (some 2), .mv (.con (.string ⟨#[]⟩)), none, []⟩])
 (.seq (.reg [⟨0, (some 3), .mv (.tmp 0), none, []⟩,
 ⟨1, (some 4), .call 53 [(.tmp 3), (.con (.int .i64 10))], none, []⟩,
 ⟨2, (some 2), .mv (.tmp 4), none, []⟩])
 (.ret)),
 [.tmp 2]⟩
theorem p_word_Show : prepFun Go.Proofs.Tryd.prog [1, 0, 2, 3] Go.Proofs.Tryd.f41 = some v_word_Show := by kernel_rfl

def v_code_checker_unit : VFun :=
⟨.seq (.reg [⟨0, (some 8), .mv (.tmp 0), none, []⟩,
 ⟨1, (some 9), .nilck (.tmp 8), none, []⟩,
 ⟨2, (some 10), .fieldA 0 (.tmp 9), none, []⟩,
 ⟨3, (some 11), .load (some 6) (.tmp 10), none, []⟩,
 ⟨4, (some 2), .alloc [(.slice none 0 0), (.int .i64 0), (.int .i64 0), (.int .i64 0), (.int .i64 0), (.slice none 0 0)], none, []⟩,
 ⟨5, none, .store 6 (.tmp 2) (.tmp 11), none, []⟩])
 (.seq (.reg [⟨0, (some 12), .mv (.tmp 0), none, []⟩,
 ⟨1, (some 13), .fieldA 0 (.tmp 2), none, []⟩,
 ⟨2, (some 14), .load none (.tmp 13), none, []⟩,
 ⟨3, (some 15), .len (.tmp 14), none, []⟩,
 ⟨4, (some 16), .bin .leq 3 true (.tmp 15) (.con (.int .i64 16)), none, []⟩,
 ⟨5, (some 17), .mv (.tmp 16), none, []⟩,
 ⟨6, (some 18), .fieldA 5 (.tmp 2), (some (17, true)), []⟩,
 ⟨7, (some 19), .load none (.tmp 18), (some (17, true)), []⟩,
 ⟨8, (some 20), .len (.tmp 19), (some (17, true)), []⟩,
 ⟨9, (some 21), .bin .geq 3 true (.tmp 20) (.con (.int .i64 1)), (some (17, true)), []⟩,
 ⟨10, (some 22), .pick (.tmp 17) (.tmp 21) (.con (.bool false)), none, []⟩,
 ⟨11, (some 23), .mv (.tmp 22), none, []⟩,
 ⟨12, (some 24), .fieldA 5 (.tmp 2), (some (23, true)), []⟩,
 ⟨13, (some 25), .load none (.tmp 24), (some (23, true)), []⟩,
 ⟨14, (some 26), .len (.tmp 25), (some (23, true)), []⟩,
 ⟨15, (some 27), .bin .leq 3 true (.tmp 26) (.con (.int .i64 2000)), (some (23, true)), []⟩,
 ⟨16, (some 28), .pick (.tmp 23) (.tmp 27) (.con (.bool false)), none, []⟩,
 ⟨17, (some 29), .mv (.tmp 28), none, []⟩,
 ⟨18, (some 30), .fieldA 2 (.tmp 2), (some (29, true)), []⟩,
 ⟨19, (some 31), .load none (.tmp 30), (some (29, true)), []⟩,
 ⟨20, (some 32), .bin .leq 3 true (.tmp 31) (.con (.int .i64 4096)), (some (29, true)), []⟩,
 ⟨21, (some 33), .pick (.tmp 29) (.tmp 32) (.con (.bool false)), none, []⟩,
 ⟨22, (some 34), .mv (.tmp 33), none, []⟩,
 ⟨23, (some 35), .fieldA 4 (.tmp 2), (some (34, true)), []⟩,
 ⟨24, (some 36), .load none (.tmp 35), (some (34, true)), []⟩,
 ⟨25, (some 37), .bin .leq 3 true (.tmp 36) (.con (.int .i64 4096)), (some (34, true)), []⟩,
 ⟨26, (some 38), .pick (.tmp 34) (.tmp 37) (.con (.bool false)), none, []⟩,
 ⟨27, (some 39), .call 54 [(.tmp 12), (.tmp 38), (.con (.int .i64 3))], none, []⟩])
 (.seq (.reg [⟨0, (some 40), .mv (.tmp 0), none, []⟩,
 ⟨1, (some 41), .fieldA 0 (.tmp 2), none, []⟩,
 ⟨2, (some 42), .load none (.tmp 41), none, []⟩,
 ⟨3, (some 43), .call 55 [(.tmp 42), (.fn 56)], none, []⟩,
 ⟨4, (some 44), .un .not (.tmp 43), none, []⟩,
 ⟨5, (some 45), .call 54 [(.tmp 40), (.tmp 44), (.con (.int .i64 2))], none, []⟩])
 (.seq (.reg [⟨0, (some 46), .mv (.tmp 0), none, []⟩,
 ⟨1, (some 47), .fieldA 2 (.tmp 2), none, []⟩,
 ⟨2, (some 48), .load none (.tmp 47), none, []⟩,
 ⟨3, (some 49), .bin .geq 3 true (.tmp 48) (.con (.int .i64 1)), none, []⟩,
 ⟨4, (some 50), .mv (.tmp 49), none, []⟩,
 ⟨5, (some 51), .fieldA 4 (.tmp 2), (some (50, true)), []⟩,
 ⟨6, (some 52), .load none (.tmp 51), (some (50, true)), []⟩,
 ⟨7, (some 53), .bin .geq 3 true (.tmp 52) (.con (.int .i64 0)), (some (50, true)), []⟩,
 ⟨8, (some 54), .pick (.tmp 50) (.tmp 53) (.con (.bool false)), none, []⟩,
 ⟨9, (some 55), .mv (.tmp 54), none, []⟩,
 ⟨10, (some 56), .fieldA 1 (.tmp 2), (some (55, true)), []⟩,
 ⟨11, (some 57), .load none (.tmp 56), (some (55, true)), []⟩,
 ⟨12, (some 58), .bin .geq 3 true (.tmp 57) (.con (.int .i64 0)), (some (55, true)), []⟩,
 ⟨13, (some 59), .pick (.tmp 55) (.tmp 58) (.con (.bool false)), none, []⟩,
 ⟨14, (some 60), .mv (.tmp 59), none, []⟩,
 ⟨15, (some 61), .fieldA 1 (.tmp 2), (some (60, true)), []⟩,
 ⟨16, (some 62), .load none (.tmp 61), (some (60, true)), []⟩,
 ⟨17, (some 63), .bin .leq 3 true (.tmp 62) (.con (.int .i64 8)), (some (60, true)), []⟩,
 ⟨18, (some 64), .pick (.tmp 60) (.tmp 63) (.con (.bool false)), none, []⟩,
 ⟨19, (some 65), .mv (.tmp 64), none, []⟩,
 ⟨20, (some 66), .fieldA 1 (.tmp 2), (some (65, true)), []⟩,
 ⟨21, (some 67), .load none (.tmp 66), (some (65, true)), []⟩,
 ⟨22, (some 68), .fieldA 2 (.tmp 2), (some (65, true)), []⟩,
 ⟨23, (some 69), .load none (.tmp 68), (some (65, true)), []⟩,
 ⟨24, (some 70), .bin .leq 3 false (.tmp 67) (.tmp 69), (some (65, true)), []⟩,
 ⟨25, (some 71), .pick (.tmp 65) (.tmp 70) (.con (.bool false)), none, []⟩,
 ⟨26, (some 72), .mv (.tmp 71), none, []⟩,
 ⟨27, (some 73), .fieldA 3 (.tmp 2), (some (72, true)), []⟩,
 ⟨28, (some 74), .load none (.tmp 73), (some (72, true)), []⟩,
 ⟨29, (some 75), .fieldA 2 (.tmp 2), (some (72, true)), []⟩,
 ⟨30, (some 76), .load none (.tmp 75), (some (72, true)), []⟩,
 ⟨31, (some 77), .call 34 [(.tmp 74), (.tmp 76)], (some (72, true)), []⟩,
 ⟨32, (some 78), .pick (.tmp 72) (.tmp 77) (.con (.bool false)), none, []⟩,
 ⟨33, (some 79), .call 54 [(.tmp 46), (.tmp 78), (.con (.int .i64 2))], none, []⟩])
 (.seq (.reg [⟨0, (some 3), .mv (.con (.int .i64 0)), none, []⟩])
 (.seq (.seq (.reg [⟨0, (some 80), .fieldA 5 (.tmp 2), none, []⟩,
 ⟨1, (some 81), .load none (.tmp 80), none, []⟩,
 ⟨2, (some 82), .len (.tmp 81), none, []⟩,
 ⟨3, (some 83), .mv (.con (.int .i64 0)), none, []⟩])
 (.block 0
 (.loop
 (.seq (.reg [⟨0, (some 84), .bin .lss 3 false (.tmp 83) (.tmp 82), none, []⟩])
 (.seq (.cond (.tmp 84)
 (.skip)
 (.exit 0))
 (.seq (.block 1
 (.seq (.reg [⟨0, (some 85), .mv (.tmp 83), none, []⟩,
 ⟨1, (some 86), .idxA none 6 (.tmp 81) (.tmp 83), none, []⟩,
 ⟨2, (some 87), .load (some 6) (.tmp 86), none, []⟩,
 ⟨3, (some 5), .alloc [(.slice none 0 0), (.int .i64 0), (.int .i64 0), (.int .i64 0), (.int .i64 0), (.int .i64 0)], none, []⟩,
 ⟨4, (some 4), .mv (.tmp 85), none, []⟩,
 ⟨5, none, .store 6 (.tmp 5) (.tmp 87), none, []⟩])
 (.seq (.reg [⟨0, (some 88), .mv (.tmp 0), none, []⟩,
 ⟨1, (some 89), .mv (.tmp 0), none, []⟩,
 ⟨2, (some 90), .mv (.tmp 4), none, []⟩,
 ⟨3, (some 91), .fieldA 0 (.tmp 5), none, []⟩,
 ⟨4, (some 92), .load none (.tmp 91), none, []⟩,
 ⟨5, (some 93), .len (.tmp 92), none, []⟩,
 ⟨6, (some 94), .nilck (.tmp 88), none, []⟩,
 ⟨7, (some 95), .fieldA 6 (.tmp 94), none, []⟩,
 ⟨8, none, .store 1 (.tmp 95) (.tmp 90), none, [(.tmp 91)]⟩,
 ⟨9, (some 96), .nilck (.tmp 89), none, []⟩,
 ⟨10, (some 97), .fieldA 7 (.tmp 96), none, []⟩,
 ⟨11, none, .store 1 (.tmp 97) (.tmp 93), none, []⟩])
 (.seq (.reg [⟨0, (some 98), .mv (.tmp 0), none, []⟩,
 ⟨1, (some 99), .fieldA 5 (.tmp 5), none, []⟩,
 ⟨2, (some 100), .load none (.tmp 99), none, []⟩,
 ⟨3, (some 101), .bin .eql 3 true (.tmp 100) (.con (.int .i64 (-1))), none, []⟩,
 ⟨4, (some 102), .mv (.tmp 101), none, []⟩,
 ⟨5, (some 103), .fieldA 5 (.tmp 5), (some (102, false)), []⟩,
 ⟨6, (some 104), .load none (.tmp 103), (some (102, false)), []⟩,
 ⟨7, (some 105), .fieldA 5 (.tmp 2), (some (102, false)), []⟩,
 ⟨8, (some 106), .load none (.tmp 105), (some (102, false)), []⟩,
 ⟨9, (some 107), .len (.tmp 106), (some (102, false)), []⟩,
 ⟨10, (some 108), .call 34 [(.tmp 104), (.tmp 107)], (some (102, false)), []⟩,
 ⟨11, (some 109), .pick (.tmp 102) (.con (.bool true)) (.tmp 108), none, []⟩,
 ⟨12, (some 110), .call 54 [(.tmp 98), (.tmp 109), (.con (.int .i64 2))], none, []⟩])
 (.seq (.reg [⟨0, (some 111), .mv (.tmp 0), none, []⟩,
 ⟨1, (some 112), .fieldA 0 (.tmp 5), none, []⟩,
 ⟨2, (some 113), .load none (.tmp 112), none, []⟩,
 ⟨3, (some 114), .len (.tmp 113), none, []⟩,
 ⟨4, (some 115), .bin .leq 3 true (.tmp 114) (.con (.int .i64 400)), none, []⟩,
 ⟨5, (some 116), .call 54 [(.tmp 111), (.tmp 115), (.con (.int .i64 3))], none, []⟩])
 (.seq (.seq (.reg [⟨0, (some 117), .fieldA 0 (.tmp 5), none, []⟩,
 ⟨1, (some 118), .load none (.tmp 117), none, []⟩,
 ⟨2, (some 119), .len (.tmp 118), none, []⟩,
 ⟨3, (some 120), .mv (.con (.int .i64 0)), none, []⟩])
 (.block 2
 (.loop
 (.seq (.reg [⟨0, (some 121), .bin .lss 3 false (.tmp 120) (.tmp 119), none, []⟩])
 (.seq (.cond (.tmp 121)
 (.skip)
 (.exit 2))
 (.seq (.block 3
 (.seq (.reg [⟨0, (some 122), .mv (.tmp 120), none, []⟩,
 ⟨1, (some 123), .idxA none 7 (.tmp 118) (.tmp 120), none, []⟩,
 ⟨2, (some 124), .load (some 7) (.tmp 123), none, []⟩,
 ⟨3, (some 7), .alloc [(.int .i64 0), (.int .i64 0), (.int .i64 0), (.int .i64 0), (.int .i64 0), (.int .i64 0), (.int .i64 0)], none, []⟩,
 ⟨4, (some 6), .mv (.tmp 122), none, []⟩,
 ⟨5, none, .store 7 (.tmp 7) (.tmp 124), none, []⟩])
 (.seq (.reg [⟨0, (some 125), .mv (.tmp 0), none, []⟩,
 ⟨1, (some 126), .mv (.tmp 6), none, []⟩,
 ⟨2, (some 127), .nilck (.tmp 125), none, []⟩,
 ⟨3, (some 128), .fieldA 7 (.tmp 127), none, []⟩,
 ⟨4, none, .store 1 (.tmp 128) (.tmp 126), none, []⟩])
 (.reg [⟨0, (some 129), .mv (.tmp 0), none, []⟩,
 ⟨1, (some 130), .load (some 7) (.tmp 7), none, []⟩,
 ⟨2, (some 131), .call 57 [(.tmp 129), (.tmp 130)], none, []⟩]))))
 (.reg [⟨0, (some 132), .bin .add 3 true (.tmp 120) (.con (.int .i64 1)), none, []⟩,
 ⟨1, (some 120), .mv (.tmp 132), none, []⟩])))))))
 (.seq (.reg [⟨0, (some 133), .mv (.tmp 0), none, []⟩,
 ⟨1, (some 134), .fieldA 0 (.tmp 5), none, []⟩,
 ⟨2, (some 135), .load none (.tmp 134), none, []⟩,
 ⟨3, (some 136), .len (.tmp 135), none, []⟩,
 ⟨4, (some 137), .nilck (.tmp 133), none, []⟩,
 ⟨5, (some 138), .fieldA 7 (.tmp 137), none, []⟩,
 ⟨6, none, .store 1 (.tmp 138) (.tmp 136), none, []⟩])
 (.seq (.reg [⟨0, (some 139), .mv (.tmp 0), none, []⟩,
 ⟨1, (some 140), .fieldA 1 (.tmp 5), none, []⟩,
 ⟨2, (some 141), .load (some 4) (.tmp 140), none, []⟩,
 ⟨3, (some 142), .call 58 [(.tmp 139), (.tmp 141)], none, []⟩])
 (.reg [⟨0, (some 143), .mv (.tmp 3), none, []⟩,
 ⟨1, (some 144), .fieldA 0 (.tmp 5), none, []⟩,
 ⟨2, (some 145), .load none (.tmp 144), none, []⟩,
 ⟨3, (some 146), .len (.tmp 145), none, []⟩,
 ⟨4, (some 147), .bin .add 3 false (.tmp 143) (.tmp 146), none, []⟩,
 ⟨5, (some 3), .mv (.tmp 147), none, []⟩])))))))))
 (.reg [⟨0, (some 148), .bin .add 3 true (.tmp 83) (.con (.int .i64 1)), none, []⟩,
 ⟨1, (some 83), .mv (.tmp 148), none, []⟩])))))))
 (.seq (.reg [⟨0, (some 149), .mv (.tmp 0), none, []⟩,
 ⟨1, (some 150), .mv (.tmp 0), none, []⟩,
 ⟨2, (some 151), .nilck (.tmp 149), none, []⟩,
 ⟨3, (some 152), .fieldA 6 (.tmp 151), none, []⟩,
 ⟨4, none, .store 1 (.tmp 152) (.con (.int .i64 0)), none, []⟩,
 ⟨5, (some 153), .nilck (.tmp 150), none, []⟩,
 ⟨6, (some 154), .fieldA 7 (.tmp 153), none, []⟩,
 ⟨7, none, .store 1 (.tmp 154) (.con (.int .i64 0)), none, []⟩])
 (.reg [⟨0, (some 155), .mv (.tmp 0), none, []⟩,
 ⟨1, (some 156), .mv (.tmp 3), none, []⟩,
 ⟨2, (some 157), .bin .leq 3 true (.tmp 156) (.con (.int .i64 20000)), none, []⟩,
 ⟨3, (some 158), .call 54 [(.tmp 155), (.tmp 157), (.con (.int .i64 3))], none, []⟩]))))))),
 []⟩
theorem p_code_checker_unit : prepFun Go.Proofs.Tryd.prog [1, 0, 2, 3] Go.Proofs.Tryd.f43 = some v_code_checker_unit := by kernel_rfl

end Go.VX.Seat
end
section
set_option maxRecDepth 20000
/-! MADE BY PROGRAM (lits.py): functions as they are prepared. -/
namespace Go.VX.Seat
def v_code_lines_peek : VFun :=
⟨.seq (.reg [⟨0, (some 2), .mv (.con (.string ⟨#[]⟩)), none, []⟩,
 ⟨1, (some 3), .mv (.con (.bool false)), none, []⟩])
 (.seq (.reg [⟨0, (some 8), .mv (.tmp 0), none, []⟩,
 ⟨1, (some 9), .nilck (.tmp 8), none, []⟩,
 ⟨2, (some 10), .fieldA 0 (.tmp 9), none, []⟩,
 ⟨3, (some 11), .load none (.tmp 10), none, []⟩,
 ⟨4, (some 12), .call 59 [(.tmp 11), (.con (.string ⟨#[10]⟩))], none, []⟩,
 ⟨5, (some 7), .mv (.tmp 12), none, []⟩,
 ⟨6, (some 13), .ext (.tmp 7) 0, none, []⟩,
 ⟨7, (some 14), .ext (.tmp 7) 1, none, []⟩,
 ⟨8, (some 15), .ext (.tmp 7) 2, none, []⟩,
 ⟨9, (some 4), .mv (.tmp 13), none, []⟩,
 ⟨10, (some 5), .mv (.tmp 14), none, []⟩,
 ⟨11, (some 6), .mv (.tmp 15), none, []⟩])
 (.seq (.reg [⟨0, (some 16), .mv (.tmp 4), none, []⟩,
 ⟨1, (some 17), .mv (.tmp 6), none, []⟩,
 ⟨2, (some 2), .mv (.tmp 16), none, []⟩,
 ⟨3, (some 3), .mv (.tmp 17), none, []⟩])
 (.ret))),
 [.tmp 2, .tmp 3]⟩
theorem p_code_lines_peek : prepFun Go.Proofs.Tryd.prog [1, 0, 2, 3] Go.Proofs.Tryd.f44 = some v_code_lines_peek := by kernel_rfl

def v_code_headed : VFun :=
⟨.seq (.reg [⟨0, (some 6), .mv (.con (.slice none 0 0)), none, []⟩,
 ⟨1, (some 7), .mv (.con (.bool false)), none, []⟩])
 (.seq (.reg [⟨0, (some 9), .mv (.tmp 0), none, []⟩,
 ⟨1, (some 10), .call 60 [(.tmp 9), (.con (.string ⟨#[32]⟩))], none, []⟩,
 ⟨2, (some 8), .mv (.tmp 10), none, []⟩])
 (.seq (.seq (.reg [⟨0, (some 11), .mv (.tmp 8), none, []⟩,
 ⟨1, (some 12), .idxA none 1 (.tmp 11) (.con (.int .i64 0)), none, []⟩,
 ⟨2, (some 13), .load none (.tmp 12), none, []⟩,
 ⟨3, (some 14), .mv (.tmp 1), none, []⟩,
 ⟨4, (some 15), .bin .neq 9 false (.tmp 13) (.tmp 14), none, []⟩])
 (.cond (.tmp 15)
 (.seq (.reg [⟨0, (some 6), .mv (.con (.slice none 0 0)), none, []⟩,
 ⟨1, (some 7), .mv (.con (.bool false)), none, []⟩])
 (.ret))
 (.skip)))
 (.seq (.reg [⟨0, (some 16), .mv (.tmp 8), none, []⟩,
 ⟨1, (some 17), .slice none 1 (.tmp 16) (some (.con (.int .i64 1))) none none, none, []⟩,
 ⟨2, (some 18), .mv (.tmp 2), none, []⟩,
 ⟨3, (some 19), .call 61 [(.tmp 17), (.tmp 18)], none, []⟩,
 ⟨4, (some 20), .ext (.tmp 19) 0, none, []⟩,
 ⟨5, (some 21), .ext (.tmp 19) 1, none, []⟩,
 ⟨6, (some 6), .mv (.tmp 20), none, []⟩,
 ⟨7, (some 7), .mv (.tmp 21), none, []⟩])
 (.ret)))),
 [.tmp 6, .tmp 7]⟩
theorem p_code_headed : prepFun Go.Proofs.Tryd.prog [1, 0, 2, 3] Go.Proofs.Tryd.f45 = some v_code_headed := by kernel_rfl

def v_code_lines_take : VFun :=
⟨.seq (.reg [⟨0, (some 3), .mv (.tmp 0), none, []⟩,
 ⟨1, (some 4), .mv (.tmp 0), none, []⟩,
 ⟨2, (some 5), .nilck (.tmp 4), none, []⟩,
 ⟨3, (some 6), .fieldA 0 (.tmp 5), none, []⟩,
 ⟨4, (some 7), .load none (.tmp 6), none, []⟩,
 ⟨5, (some 8), .call 59 [(.tmp 7), (.con (.string ⟨#[10]⟩))], none, []⟩,
 ⟨6, (some 2), .mv (.tmp 8), none, []⟩,
 ⟨7, (some 9), .ext (.tmp 2) 0, none, []⟩,
 ⟨8, (some 10), .ext (.tmp 2) 1, none, []⟩,
 ⟨9, (some 11), .ext (.tmp 2) 2, none, []⟩,
 ⟨10, (some 12), .nilck (.tmp 3), none, []⟩,
 ⟨11, (some 13), .fieldA 0 (.tmp 12), none, []⟩,
 ⟨12, none, .store 1 (.tmp 13) (.tmp 10), none, []⟩])
 (.reg [⟨0, (some 14), .mv (.tmp 0), none, []⟩,
 ⟨1, (some 15), .nilck (.tmp 14), none, []⟩,
 ⟨2, (some 16), .fieldA 1 (.tmp 15), none, []⟩,
 ⟨3, (some 17), .load none (.tmp 16), none, []⟩,
 ⟨4, (some 18), .bin .add 3 true (.tmp 17) (.con (.int .i64 1)), none, []⟩,
 ⟨5, (some 19), .nilck (.tmp 14), none, []⟩,
 ⟨6, (some 20), .fieldA 1 (.tmp 19), none, []⟩,
 ⟨7, none, .store 1 (.tmp 20) (.tmp 18), none, []⟩]),
 []⟩
theorem p_code_lines_take : prepFun Go.Proofs.Tryd.prog [1, 0, 2, 3] Go.Proofs.Tryd.f46 = some v_code_lines_take := by kernel_rfl

def v_code_lines_block : VFun :=
⟨.seq (.reg [⟨0, (some 4), .mv (.con (.bool false)), none, []⟩])
 (.block 0
 (.loop
 (.block 1
 (.seq (.reg [⟨0, (some 13), .mv (.tmp 0), none, []⟩,
 ⟨1, (some 14), .call 44 [(.tmp 13)], none, []⟩,
 ⟨2, (some 12), .mv (.tmp 14), none, []⟩,
 ⟨3, (some 15), .ext (.tmp 12) 0, none, []⟩,
 ⟨4, (some 16), .ext (.tmp 12) 1, none, []⟩,
 ⟨5, (some 5), .mv (.tmp 15), none, []⟩,
 ⟨6, (some 6), .mv (.tmp 16), none, []⟩])
 (.seq (.reg [⟨0, (some 18), .mv (.tmp 5), none, []⟩,
 ⟨1, (some 19), .call 62 [(.tmp 18), (.con (.string ⟨#[32, 32]⟩))], none, []⟩,
 ⟨2, (some 17), .mv (.tmp 19), none, []⟩,
 ⟨3, (some 20), .ext (.tmp 17) 0, none, []⟩,
 ⟨4, (some 21), .ext (.tmp 17) 1, none, []⟩,
 ⟨5, (some 5), .mv (.tmp 20), none, []⟩,
 ⟨6, (some 7), .mv (.tmp 21), none, []⟩])
 (.seq (.seq (.reg [⟨0, (some 22), .mv (.tmp 6), none, []⟩,
 ⟨1, (some 23), .un .not (.tmp 22), none, []⟩,
 ⟨2, (some 24), .mv (.tmp 23), none, []⟩,
 ⟨3, (some 25), .mv (.tmp 7), (some (24, false)), []⟩,
 ⟨4, (some 26), .un .not (.tmp 25), (some (24, false)), []⟩,
 ⟨5, (some 27), .pick (.tmp 24) (.con (.bool true)) (.tmp 26), none, []⟩])
 (.cond (.tmp 27)
 (.seq (.reg [⟨0, (some 4), .mv (.con (.bool false)), none, []⟩])
 (.ret))
 (.skip)))
 (.seq (.seq (.reg [⟨0, (some 29), .mv (.tmp 5), none, []⟩,
 ⟨1, (some 30), .call 63 [(.tmp 29)], none, []⟩,
 ⟨2, (some 28), .mv (.tmp 30), none, []⟩,
 ⟨3, (some 31), .ext (.tmp 28) 0, none, []⟩,
 ⟨4, (some 32), .ext (.tmp 28) 1, none, []⟩,
 ⟨5, (some 8), .alloc [(.int .i64 0), (.int .i64 0), (.int .i64 0), (.int .i64 0)], none, []⟩,
 ⟨6, none, .store 4 (.tmp 8) (.tmp 31), none, []⟩,
 ⟨7, (some 9), .mv (.tmp 32), none, []⟩])
 (.seq (.reg [⟨0, (some 33), .mv (.tmp 9), none, []⟩])
 (.cond (.tmp 33)
 (.seq (.reg [⟨0, (some 34), .mv (.tmp 1), none, []⟩,
 ⟨1, (some 35), .load (some 4) (.tmp 8), none, []⟩,
 ⟨2, (some 36), .nilck (.tmp 34), none, []⟩,
 ⟨3, (some 37), .fieldA 1 (.tmp 36), none, []⟩,
 ⟨4, none, .store 4 (.tmp 37) (.tmp 35), none, []⟩])
 (.seq (.reg [⟨0, (some 38), .mv (.tmp 0), none, []⟩,
 ⟨1, (some 39), .call 46 [(.tmp 38)], none, []⟩])
 (.seq (.reg [⟨0, (some 4), .mv (.con (.bool true)), none, []⟩])
 (.ret))))
 (.skip))))
 (.seq (.reg [⟨0, (some 41), .mv (.tmp 5), none, []⟩,
 ⟨1, (some 42), .call 64 [(.tmp 41)], none, []⟩,
 ⟨2, (some 40), .mv (.tmp 42), none, []⟩,
 ⟨3, (some 43), .ext (.tmp 40) 0, none, []⟩,
 ⟨4, (some 44), .ext (.tmp 40) 1, none, []⟩,
 ⟨5, (some 10), .alloc [(.int .i64 0), (.int .i64 0), (.int .i64 0), (.int .i64 0), (.int .i64 0), (.int .i64 0), (.int .i64 0)], none, []⟩,
 ⟨6, none, .store 7 (.tmp 10) (.tmp 43), none, []⟩,
 ⟨7, (some 11), .mv (.tmp 44), none, []⟩])
 (.seq (.seq (.reg [⟨0, (some 45), .mv (.tmp 11), none, []⟩,
 ⟨1, (some 46), .un .not (.tmp 45), none, []⟩])
 (.cond (.tmp 46)
 (.seq (.reg [⟨0, (some 4), .mv (.con (.bool false)), none, []⟩])
 (.ret))
 (.skip)))
 (.seq (.reg [⟨0, (some 47), .mv (.tmp 1), none, []⟩,
 ⟨1, (some 48), .mv (.tmp 1), none, []⟩,
 ⟨2, (some 49), .nilck (.tmp 48), none, []⟩,
 ⟨3, (some 50), .fieldA 0 (.tmp 49), none, []⟩,
 ⟨4, (some 51), .load none (.tmp 50), none, []⟩,
 ⟨5, (some 52), .load (some 7) (.tmp 10), none, []⟩,
 ⟨6, (some 53), .bslice 7 1 [(.int .i64 0), (.int .i64 0), (.int .i64 0), (.int .i64 0), (.int .i64 0), (.int .i64 0), (.int .i64 0)] [(0, 7, (.tmp 52))], none, []⟩,
 ⟨7, (some 54), .append 7 56 (.tmp 51) (.tmp 53), none, []⟩,
 ⟨8, (some 55), .nilck (.tmp 47), none, []⟩,
 ⟨9, (some 56), .fieldA 0 (.tmp 55), none, []⟩,
 ⟨10, none, .store 1 (.tmp 56) (.tmp 54), none, []⟩])
 (.reg [⟨0, (some 57), .mv (.tmp 0), none, []⟩,
 ⟨1, (some 58), .call 46 [(.tmp 57)], none, []⟩]))))))))))),
 [.tmp 4]⟩
theorem p_code_lines_block : prepFun Go.Proofs.Tryd.prog [1, 0, 2, 3] Go.Proofs.Tryd.f47 = some v_code_lines_block := by kernel_rfl

def v_r07_SameOps : VFun :=
⟨.seq (.reg [⟨0, (some 4), .mv (.con (.bool false)), none, []⟩])
 (.seq (.seq (.reg [⟨0, (some 6), .mv (.tmp 0), none, []⟩,
 ⟨1, (some 7), .len (.tmp 6), none, []⟩,
 ⟨2, (some 8), .mv (.tmp 1), none, []⟩,
 ⟨3, (some 9), .len (.tmp 8), none, []⟩,
 ⟨4, (some 10), .bin .neq 3 false (.tmp 7) (.tmp 9), none, []⟩])
 (.cond (.tmp 10)
 (.seq (.reg [⟨0, (some 4), .mv (.con (.bool false)), none, []⟩])
 (.ret))
 (.skip)))
 (.seq (.seq (.reg [⟨0, (some 5), .mv (.con (.int .i64 0)), none, []⟩])
 (.block 0
 (.loop
 (.seq (.seq (.reg [⟨0, (some 11), .mv (.tmp 5), none, []⟩,
 ⟨1, (some 12), .mv (.tmp 0), none, []⟩,
 ⟨2, (some 13), .len (.tmp 12), none, []⟩,
 ⟨3, (some 14), .bin .lss 3 false (.tmp 11) (.tmp 13), none, []⟩])
 (.cond (.tmp 14)
 (.skip)
 (.exit 0)))
 (.seq (.block 1
 (.seq (.reg [⟨0, (some 17), .mv (.tmp 0), none, []⟩,
 ⟨1, (some 18), .mv (.tmp 5), none, []⟩,
 ⟨2, (some 19), .idxA none 7 (.tmp 17) (.tmp 18), none, []⟩,
 ⟨3, (some 20), .load (some 7) (.tmp 19), none, []⟩,
 ⟨4, (some 21), .mv (.tmp 1), none, []⟩,
 ⟨5, (some 22), .mv (.tmp 5), none, []⟩,
 ⟨6, (some 23), .idxA none 7 (.tmp 21) (.tmp 22), none, []⟩,
 ⟨7, (some 24), .load (some 7) (.tmp 23), none, []⟩,
 ⟨8, (some 25), .bin .neq 52 false (.tmp 20) (.tmp 24), none, []⟩])
 (.cond (.tmp 25)
 (.seq (.reg [⟨0, (some 4), .mv (.con (.bool false)), none, []⟩])
 (.ret))
 (.skip))))
 (.reg [⟨0, (some 15), .mv (.tmp 5), none, []⟩,
 ⟨1, (some 16), .bin .add 3 true (.tmp 15) (.con (.int .i64 1)), none, []⟩,
 ⟨2, (some 5), .mv (.tmp 16), none, []⟩]))))))
 (.seq (.reg [⟨0, (some 4), .mv (.con (.bool true)), none, []⟩])
 (.ret)))),
 [.tmp 4]⟩
theorem p_r07_SameOps : prepFun Go.Proofs.Tryd.prog [1, 0, 2, 3] Go.Proofs.Tryd.f48 = some v_r07_SameOps := by kernel_rfl

def v_internal_strconv_FormatInt : VFun :=
⟨.seq (.reg [⟨0, (some 4), .mv (.con (.string ⟨#[]⟩)), none, []⟩])
 (.seq (.seq (.reg [⟨0, (some 10), .mv (.tmp 1), none, []⟩,
 ⟨1, (some 11), .bin .eql 3 true (.tmp 10) (.con (.int .i64 10)), none, []⟩])
 (.cond (.tmp 11)
 (.seq (.seq (.reg [⟨0, (some 12), .mv (.tmp 0), none, []⟩,
 ⟨1, (some 13), .bin .leq 2 true (.con (.int .i64 0)) (.tmp 12), none, []⟩,
 ⟨2, (some 14), .mv (.tmp 13), none, []⟩,
 ⟨3, (some 15), .mv (.tmp 0), (some (14, true)), []⟩,
 ⟨4, (some 16), .bin .lss 2 true (.tmp 15) (.con (.int .i64 100)), (some (14, true)), []⟩,
 ⟨5, (some 17), .pick (.tmp 14) (.tmp 16) (.con (.bool false)), none, []⟩])
 (.cond (.tmp 17)
 (.seq (.reg [⟨0, (some 18), .mv (.tmp 0), none, []⟩,
 ⟨1, (some 19), .call 66 [(.tmp 18)], none, []⟩,
 ⟨2, (some 4), .mv (.tmp 19), none, []⟩])
 (.ret))
 (.skip)))
 (.seq (.reg [⟨0, (some 5), .alloc [(.int .u8 0), (.int .u8 0), (.int .u8 0), (.int .u8 0), (.int .u8 0), (.int .u8 0), (.int .u8 0), (.int .u8 0), (.int .u8 0), (.int .u8 0), (.int .u8 0), (.int .u8 0), (.int .u8 0), (.int .u8 0), (.int .u8 0), (.int .u8 0), (.int .u8 0), (.int .u8 0), (.int .u8 0), (.int .u8 0), (.int .u8 0), (.int .u8 0), (.int .u8 0), (.int .u8 0)], none, []⟩])
 (.seq (.reg [⟨0, (some 20), .mv (.tmp 0), none, []⟩,
 ⟨1, (some 21), .conv 2 130 (.tmp 20), none, []⟩,
 ⟨2, (some 6), .mv (.tmp 21), none, []⟩])
 (.seq (.seq (.reg [⟨0, (some 22), .mv (.tmp 0), none, []⟩,
 ⟨1, (some 23), .bin .lss 2 true (.tmp 22) (.con (.int .i64 0)), none, []⟩])
 (.cond (.tmp 23)
 (.reg [⟨0, (some 24), .mv (.tmp 6), none, []⟩,
 ⟨1, (some 25), .un .neg (.tmp 24), none, []⟩,
 ⟨2, (some 6), .mv (.tmp 25), none, []⟩])
 (.skip)))
 (.seq (.reg [⟨0, (some 26), .mv (.tmp 6), none, []⟩,
 ⟨1, (some 27), .call 67 [(.tmp 26)], none, []⟩,
 ⟨2, (some 7), .mv (.tmp 27), none, []⟩])
 (.seq (.reg [⟨0, (some 28), .mv (.tmp 7), none, []⟩,
 ⟨1, (some 29), .bin .add 3 true (.con (.int .i64 1)) (.tmp 28), none, []⟩,
 ⟨2, (some 30), .slice (some 24) 1 (.tmp 5) (some (.con (.int .i64 1))) (some (.tmp 29)) none, none, []⟩,
 ⟨3, (some 31), .mv (.tmp 6), none, []⟩,
 ⟨4, (some 32), .call 68 [(.tmp 30), (.tmp 31)], none, []⟩])
 (.seq (.seq (.reg [⟨0, (some 33), .mv (.tmp 0), none, []⟩,
 ⟨1, (some 34), .bin .lss 2 true (.tmp 33) (.con (.int .i64 0)), none, []⟩])
 (.cond (.tmp 34)
 (.seq (.reg [⟨0, (some 35), .idxA (some 24) 1 (.tmp 5) (.con (.int .i64 0)), none, []⟩,
 ⟨1, none, .store 1 (.tmp 35) (.con (.int .u8 45)), none, []⟩])
 (.seq (.reg [⟨0, (some 36), .mv (.tmp 7), none, []⟩,
 ⟨1, (some 37), .bin .add 3 true (.con (.int .i64 1)) (.tmp 36), none, []⟩,
 ⟨2, (some 38), .slice (some 24) 1 (.tmp 5) none (some (.tmp 37)) none, none, []⟩,
 ⟨3, (some 39), .b2s (.tmp 38), none, []⟩,
 ⟨4, (some 4), .mv (.tmp 39), none, []⟩])
 (.ret)))
 (.skip)))
 (.seq (.reg [⟨0, (some 40), .mv (.tmp 7), none, []⟩,
 ⟨1, (some 41), .bin .add 3 true (.con (.int .i64 1)) (.tmp 40), none, []⟩,
 ⟨2, (some 42), .slice (some 24) 1 (.tmp 5) (some (.con (.int .i64 1))) (some (.tmp 41)) none, none, []⟩,
 ⟨3, (some 43), .b2s (.tmp 42), none, []⟩,
 ⟨4, (some 4), .mv (.tmp 43), none, []⟩])
 (.ret)))))))))
 (.skip)))
 (.seq (.reg [⟨0, (some 45), .mv (.tmp 0), none, []⟩,
 ⟨1, (some 46), .conv 2 130 (.tmp 45), none, []⟩,
 ⟨2, (some 47), .mv (.tmp 1), none, []⟩,
 ⟨3, (some 48), .mv (.tmp 0), none, []⟩,
 ⟨4, (some 49), .bin .lss 2 true (.tmp 48) (.con (.int .i64 0)), none, []⟩,
 ⟨5, (some 50), .call 69 [(.con (.slice none 0 0)), (.tmp 46), (.tmp 47), (.tmp 49), (.con (.bool false))], none, []⟩,
 ⟨6, (some 44), .mv (.tmp 50), none, []⟩,
 ⟨7, (some 51), .ext (.tmp 44) 0, none, []⟩,
 ⟨8, (some 52), .ext (.tmp 44) 1, none, []⟩,
 ⟨9, (some 8), .mv (.tmp 51), none, []⟩,
 ⟨10, (some 9), .mv (.tmp 52), none, []⟩])
 (.seq (.reg [⟨0, (some 53), .mv (.tmp 9), none, []⟩,
 ⟨1, (some 4), .mv (.tmp 53), none, []⟩])
 (.ret)))),
 [.tmp 4]⟩
theorem p_internal_strconv_FormatInt : prepFun Go.Proofs.Tryd.prog [1, 0, 2, 3] Go.Proofs.Tryd.f52 = some v_internal_strconv_FormatInt := by kernel_rfl

def v_strconv_FormatInt : VFun :=
⟨.seq (.reg [⟨0, (some 4), .mv (.con (.string ⟨#[]⟩)), none, []⟩])
 (.seq (.reg [⟨0, (some 5), .mv (.tmp 0), none, []⟩,
 ⟨1, (some 6), .mv (.tmp 1), none, []⟩,
 ⟨2, (some 7), .call 52 [(.tmp 5), (.tmp 6)], none, []⟩,
 ⟨3, (some 4), .mv (.tmp 7), none, []⟩])
 (.ret)),
 [.tmp 4]⟩
theorem p_strconv_FormatInt : prepFun Go.Proofs.Tryd.prog [1, 0, 2, 3] Go.Proofs.Tryd.f53 = some v_strconv_FormatInt := by kernel_rfl

def v_code_checker_must : VFun :=
⟨.seq (.reg [⟨0, (some 6), .mv (.tmp 1), none, []⟩,
 ⟨1, (some 7), .un .not (.tmp 6), none, []⟩])
 (.cond (.tmp 7)
 (.reg [⟨0, (some 8), .mv (.tmp 0), none, []⟩,
 ⟨1, (some 9), .nilck (.tmp 8), none, []⟩,
 ⟨2, (some 10), .fieldA 6 (.tmp 9), none, []⟩,
 ⟨3, (some 11), .load none (.tmp 10), none, []⟩,
 ⟨4, (some 12), .mv (.tmp 0), none, []⟩,
 ⟨5, (some 13), .nilck (.tmp 12), none, []⟩,
 ⟨6, (some 14), .fieldA 7 (.tmp 13), none, []⟩,
 ⟨7, (some 15), .load none (.tmp 14), none, []⟩,
 ⟨8, (some 16), .mv (.tmp 2), none, []⟩,
 ⟨9, (some 17), .build [(.int .i64 0), (.int .i64 0), (.int .i64 0)] [(0, 1, (.tmp 11)), (1, 1, (.tmp 15)), (2, 1, (.tmp 16))], none, []⟩,
 ⟨10, (some 18), .mkif 68 (.tmp 17), none, []⟩,
 ⟨11, none, .panic (.tmp 18), none, []⟩])
 (.skip)),
 []⟩
theorem p_code_checker_must : prepFun Go.Proofs.Tryd.prog [1, 0, 2, 3] Go.Proofs.Tryd.f54 = some v_code_checker_must := by kernel_rfl

def v_slices_ContainsFunc_int : VFun :=
⟨.seq (.reg [⟨0, (some 4), .mv (.con (.bool false)), none, []⟩])
 (.seq (.reg [⟨0, (some 5), .mv (.tmp 0), none, []⟩,
 ⟨1, (some 6), .mv (.tmp 1), none, []⟩,
 ⟨2, (some 7), .call 70 [(.tmp 5), (.tmp 6)], none, []⟩,
 ⟨3, (some 8), .bin .geq 3 true (.tmp 7) (.con (.int .i64 0)), none, []⟩,
 ⟨4, (some 4), .mv (.tmp 8), none, []⟩])
 (.ret)),
 [.tmp 4]⟩
theorem p_slices_ContainsFunc_int : prepFun Go.Proofs.Tryd.prog [1, 0, 2, 3] Go.Proofs.Tryd.f55 = some v_slices_ContainsFunc_int := by kernel_rfl

def v_code_checker_unit_c1 : VFun :=
⟨.seq (.reg [⟨0, (some 2), .mv (.con (.bool false)), none, []⟩])
 (.seq (.reg [⟨0, (some 3), .mv (.tmp 0), none, []⟩,
 ⟨1, (some 4), .bin .lss 3 true (.tmp 3) (.con (.int .i64 1)), none, []⟩,
 ⟨2, (some 5), .mv (.tmp 4), none, []⟩,
 ⟨3, (some 6), .mv (.tmp 0), (some (5, false)), []⟩,
 ⟨4, (some 7), .bin .gtr 3 true (.tmp 6) (.con (.int .i64 65536)), (some (5, false)), []⟩,
 ⟨5, (some 8), .pick (.tmp 5) (.con (.bool true)) (.tmp 7), none, []⟩,
 ⟨6, (some 2), .mv (.tmp 8), none, []⟩])
 (.ret)),
 [.tmp 2]⟩
theorem p_code_checker_unit_c1 : prepFun Go.Proofs.Tryd.prog [1, 0, 2, 3] Go.Proofs.Tryd.f56 = some v_code_checker_unit_c1 := by kernel_rfl

def v_code_checker_op : VFun :=
⟨.seq (.reg [⟨0, (some 3), .box (.tmp 1), none, []⟩])
 (.seq (.reg [⟨0, (some 9), .fieldA 0 (.tmp 3), none, []⟩,
 ⟨1, (some 10), .load none (.tmp 9), none, []⟩,
 ⟨2, (some 11), .call 39 [(.tmp 10)], none, []⟩,
 ⟨3, (some 8), .mv (.tmp 11), none, []⟩,
 ⟨4, (some 12), .ext (.tmp 8) 0, none, []⟩,
 ⟨5, (some 13), .ext (.tmp 8) 1, none, []⟩,
 ⟨6, (some 4), .alloc [(.int .i64 0), (.int .i64 0), (.string ⟨#[]⟩)], none, []⟩,
 ⟨7, none, .store 3 (.tmp 4) (.tmp 12), none, []⟩,
 ⟨8, (some 5), .mv (.tmp 13), none, []⟩])
 (.seq (.reg [⟨0, (some 14), .mv (.tmp 0), none, []⟩,
 ⟨1, (some 15), .mv (.tmp 5), none, []⟩,
 ⟨2, (some 16), .call 54 [(.tmp 14), (.tmp 15), (.con (.int .i64 4))], none, []⟩])
 (.seq (.reg [⟨0, (some 17), .mv (.tmp 0), none, []⟩,
 ⟨1, (some 18), .fieldA 1 (.tmp 3), none, []⟩,
 ⟨2, (some 19), .load none (.tmp 18), none, []⟩,
 ⟨3, (some 20), .fieldA 0 (.tmp 4), none, []⟩,
 ⟨4, (some 21), .load none (.tmp 20), none, []⟩,
 ⟨5, (some 22), .bin .and 3 true (.tmp 21) (.con (.int .i64 1)), none, []⟩,
 ⟨6, (some 23), .bin .neq 3 true (.tmp 22) (.con (.int .i64 0)), none, []⟩,
 ⟨7, (some 24), .call 71 [(.tmp 17), (.tmp 19), (.tmp 23)], none, []⟩])
 (.seq (.reg [⟨0, (some 25), .mv (.tmp 0), none, []⟩,
 ⟨1, (some 26), .fieldA 2 (.tmp 3), none, []⟩,
 ⟨2, (some 27), .load none (.tmp 26), none, []⟩,
 ⟨3, (some 28), .fieldA 0 (.tmp 4), none, []⟩,
 ⟨4, (some 29), .load none (.tmp 28), none, []⟩,
 ⟨5, (some 30), .bin .and 3 true (.tmp 29) (.con (.int .i64 2)), none, []⟩,
 ⟨6, (some 31), .bin .neq 3 true (.tmp 30) (.con (.int .i64 0)), none, []⟩,
 ⟨7, (some 32), .call 71 [(.tmp 25), (.tmp 27), (.tmp 31)], none, []⟩])
 (.seq (.reg [⟨0, (some 33), .mv (.tmp 0), none, []⟩,
 ⟨1, (some 34), .fieldA 3 (.tmp 3), none, []⟩,
 ⟨2, (some 35), .load none (.tmp 34), none, []⟩,
 ⟨3, (some 36), .fieldA 0 (.tmp 4), none, []⟩,
 ⟨4, (some 37), .load none (.tmp 36), none, []⟩,
 ⟨5, (some 38), .bin .and 3 true (.tmp 37) (.con (.int .i64 4)), none, []⟩,
 ⟨6, (some 39), .bin .neq 3 true (.tmp 38) (.con (.int .i64 0)), none, []⟩,
 ⟨7, (some 40), .call 71 [(.tmp 33), (.tmp 35), (.tmp 39)], none, []⟩])
 (.seq (.reg [⟨0, (some 41), .mv (.tmp 0), none, []⟩,
 ⟨1, (some 42), .fieldA 4 (.tmp 3), none, []⟩,
 ⟨2, (some 43), .load none (.tmp 42), none, []⟩,
 ⟨3, (some 44), .fieldA 0 (.tmp 4), none, []⟩,
 ⟨4, (some 45), .load none (.tmp 44), none, []⟩,
 ⟨5, (some 46), .bin .and 3 true (.tmp 45) (.con (.int .i64 8)), none, []⟩,
 ⟨6, (some 47), .bin .neq 3 true (.tmp 46) (.con (.int .i64 0)), none, []⟩,
 ⟨7, (some 48), .call 71 [(.tmp 41), (.tmp 43), (.tmp 47)], none, []⟩])
 (.seq (.reg [⟨0, (some 49), .mv (.tmp 0), none, []⟩,
 ⟨1, (some 50), .fieldA 6 (.tmp 3), none, []⟩,
 ⟨2, (some 51), .load none (.tmp 50), none, []⟩,
 ⟨3, (some 52), .fieldA 6 (.tmp 3), none, []⟩,
 ⟨4, (some 53), .load none (.tmp 52), none, []⟩,
 ⟨5, (some 54), .bin .neq 3 true (.tmp 53) (.con (.int .i64 (-1))), none, []⟩,
 ⟨6, (some 55), .call 71 [(.tmp 49), (.tmp 51), (.tmp 54)], none, []⟩])
 (.seq (.reg [⟨0, (some 6), .mv (.con (.int .i64 0)), none, []⟩])
 (.seq (.block 0
 (.seq (.reg [⟨0, (some 57), .fieldA 0 (.tmp 4), none, []⟩,
 ⟨1, (some 58), .load none (.tmp 57), none, []⟩,
 ⟨2, (some 59), .bin .and 3 true (.tmp 58) (.con (.int .i64 32)), none, []⟩,
 ⟨3, (some 60), .bin .neq 3 true (.tmp 59) (.con (.int .i64 0)), none, []⟩,
 ⟨4, (some 56), .mv (.tmp 60), none, []⟩])
 (.cond (.tmp 56)
 (.reg [⟨0, (some 61), .mv (.tmp 0), none, []⟩,
 ⟨1, (some 62), .nilck (.tmp 61), none, []⟩,
 ⟨2, (some 63), .fieldA 0 (.tmp 62), none, []⟩,
 ⟨3, (some 64), .fieldA 0 (.tmp 63), none, []⟩,
 ⟨4, (some 65), .load none (.tmp 64), none, []⟩,
 ⟨5, (some 66), .len (.tmp 65), none, []⟩,
 ⟨6, (some 6), .mv (.tmp 66), none, []⟩])
 (.seq (.reg [⟨0, (some 68), .fieldA 0 (.tmp 4), none, []⟩,
 ⟨1, (some 69), .load none (.tmp 68), none, []⟩,
 ⟨2, (some 70), .bin .and 3 true (.tmp 69) (.con (.int .i64 64)), none, []⟩,
 ⟨3, (some 71), .bin .neq 3 true (.tmp 70) (.con (.int .i64 0)), none, []⟩,
 ⟨4, (some 67), .mv (.tmp 71), none, []⟩])
 (.cond (.tmp 67)
 (.reg [⟨0, (some 72), .mv (.tmp 0), none, []⟩,
 ⟨1, (some 73), .nilck (.tmp 72), none, []⟩,
 ⟨2, (some 74), .fieldA 0 (.tmp 73), none, []⟩,
 ⟨3, (some 75), .fieldA 4 (.tmp 74), none, []⟩,
 ⟨4, (some 76), .load none (.tmp 75), none, []⟩,
 ⟨5, (some 6), .mv (.tmp 76), none, []⟩])
 (.seq (.reg [⟨0, (some 78), .fieldA 0 (.tmp 4), none, []⟩,
 ⟨1, (some 79), .load none (.tmp 78), none, []⟩,
 ⟨2, (some 80), .bin .and 3 true (.tmp 79) (.con (.int .i64 128)), none, []⟩,
 ⟨3, (some 81), .bin .neq 3 true (.tmp 80) (.con (.int .i64 0)), none, []⟩,
 ⟨4, (some 77), .mv (.tmp 81), none, []⟩])
 (.cond (.tmp 77)
 (.reg [⟨0, (some 82), .mv (.tmp 0), none, []⟩,
 ⟨1, (some 83), .nilck (.tmp 82), none, []⟩,
 ⟨2, (some 84), .fieldA 0 (.tmp 83), none, []⟩,
 ⟨3, (some 85), .fieldA 5 (.tmp 84), none, []⟩,
 ⟨4, (some 86), .load none (.tmp 85), none, []⟩,
 ⟨5, (some 87), .len (.tmp 86), none, []⟩,
 ⟨6, (some 6), .mv (.tmp 87), none, []⟩])
 (.reg [⟨0, (some 6), .mv (.con (.int .i64 (-1))), none, []⟩]))))))))
 (.seq (.reg [⟨0, (some 88), .mv (.tmp 0), none, []⟩,
 ⟨1, (some 89), .mv (.tmp 6), none, []⟩,
 ⟨2, (some 90), .bin .lss 2 true (.tmp 89) (.con (.int .i64 0)), none, []⟩,
 ⟨3, (some 91), .mv (.tmp 90), none, []⟩,
 ⟨4, (some 92), .fieldA 5 (.tmp 3), (some (91, false)), []⟩,
 ⟨5, (some 93), .load none (.tmp 92), (some (91, false)), []⟩,
 ⟨6, (some 94), .bin .geq 2 true (.tmp 93) (.con (.int .i64 0)), (some (91, false)), []⟩,
 ⟨7, (some 95), .mv (.tmp 94), (some (91, false)), []⟩,
 ⟨8, (some 96), .fieldA 5 (.tmp 3), (some (95, true)), []⟩,
 ⟨9, (some 97), .load none (.tmp 96), (some (95, true)), []⟩,
 ⟨10, (some 98), .mv (.tmp 6), (some (95, true)), []⟩,
 ⟨11, (some 99), .bin .lss 2 false (.tmp 97) (.tmp 98), (some (95, true)), []⟩,
 ⟨12, (some 100), .pick (.tmp 95) (.tmp 99) (.con (.bool false)), (some (91, false)), []⟩,
 ⟨13, (some 101), .pick (.tmp 91) (.con (.bool true)) (.tmp 100), none, []⟩,
 ⟨14, (some 102), .call 54 [(.tmp 88), (.tmp 101), (.con (.int .i64 5))], none, []⟩])
 (.seq (.reg [⟨0, (some 103), .fieldA 0 (.tmp 4), none, []⟩,
 ⟨1, (some 104), .load none (.tmp 103), none, []⟩,
 ⟨2, (some 105), .bin .and 3 true (.tmp 104) (.con (.int .i64 1)), none, []⟩,
 ⟨3, (some 106), .bin .eql 3 true (.tmp 105) (.con (.int .i64 0)), none, []⟩,
 ⟨4, (some 107), .mv (.tmp 106), none, []⟩,
 ⟨5, (some 108), .fieldA 1 (.tmp 3), (some (107, true)), []⟩,
 ⟨6, (some 109), .load none (.tmp 108), (some (107, true)), []⟩,
 ⟨7, (some 110), .bin .neq 3 true (.tmp 109) (.con (.int .i64 0)), (some (107, true)), []⟩,
 ⟨8, (some 111), .pick (.tmp 107) (.tmp 110) (.con (.bool false)), none, []⟩,
 ⟨9, (some 112), .mv (.tmp 111), none, []⟩,
 ⟨10, (some 113), .fieldA 0 (.tmp 4), (some (112, false)), []⟩,
 ⟨11, (some 114), .load none (.tmp 113), (some (112, false)), []⟩,
 ⟨12, (some 115), .bin .and 3 true (.tmp 114) (.con (.int .i64 2)), (some (112, false)), []⟩,
 ⟨13, (some 116), .bin .eql 3 true (.tmp 115) (.con (.int .i64 0)), (some (112, false)), []⟩,
 ⟨14, (some 117), .mv (.tmp 116), (some (112, false)), []⟩,
 ⟨15, (some 118), .fieldA 2 (.tmp 3), (some (117, true)), []⟩,
 ⟨16, (some 119), .load none (.tmp 118), (some (117, true)), []⟩,
 ⟨17, (some 120), .bin .neq 3 true (.tmp 119) (.con (.int .i64 0)), (some (117, true)), []⟩,
 ⟨18, (some 121), .pick (.tmp 117) (.tmp 120) (.con (.bool false)), (some (112, false)), []⟩,
 ⟨19, (some 122), .pick (.tmp 112) (.con (.bool true)) (.tmp 121), none, []⟩,
 ⟨20, (some 123), .mv (.tmp 122), none, []⟩,
 ⟨21, (some 124), .fieldA 0 (.tmp 4), (some (123, false)), []⟩,
 ⟨22, (some 125), .load none (.tmp 124), (some (123, false)), []⟩,
 ⟨23, (some 126), .bin .and 3 true (.tmp 125) (.con (.int .i64 4)), (some (123, false)), []⟩,
 ⟨24, (some 127), .bin .eql 3 true (.tmp 126) (.con (.int .i64 0)), (some (123, false)), []⟩,
 ⟨25, (some 128), .mv (.tmp 127), (some (123, false)), []⟩,
 ⟨26, (some 129), .fieldA 3 (.tmp 3), (some (128, true)), []⟩,
 ⟨27, (some 130), .load none (.tmp 129), (some (128, true)), []⟩,
 ⟨28, (some 131), .bin .neq 3 true (.tmp 130) (.con (.int .i64 0)), (some (128, true)), []⟩,
 ⟨29, (some 132), .pick (.tmp 128) (.tmp 131) (.con (.bool false)), (some (123, false)), []⟩,
 ⟨30, (some 133), .pick (.tmp 123) (.con (.bool true)) (.tmp 132), none, []⟩,
 ⟨31, (some 134), .mv (.tmp 133), none, []⟩,
 ⟨32, (some 135), .fieldA 0 (.tmp 4), (some (134, false)), []⟩,
 ⟨33, (some 136), .load none (.tmp 135), (some (134, false)), []⟩,
 ⟨34, (some 137), .bin .and 3 true (.tmp 136) (.con (.int .i64 8)), (some (134, false)), []⟩,
 ⟨35, (some 138), .bin .eql 3 true (.tmp 137) (.con (.int .i64 0)), (some (134, false)), []⟩,
 ⟨36, (some 139), .mv (.tmp 138), (some (134, false)), []⟩,
 ⟨37, (some 140), .fieldA 4 (.tmp 3), (some (139, true)), []⟩,
 ⟨38, (some 141), .load none (.tmp 140), (some (139, true)), []⟩,
 ⟨39, (some 142), .bin .neq 3 true (.tmp 141) (.con (.int .i64 0)), (some (139, true)), []⟩,
 ⟨40, (some 143), .pick (.tmp 139) (.tmp 142) (.con (.bool false)), (some (134, false)), []⟩,
 ⟨41, (some 144), .pick (.tmp 134) (.con (.bool true)) (.tmp 143), none, []⟩,
 ⟨42, (some 145), .mv (.tmp 144), none, []⟩,
 ⟨43, (some 146), .mv (.tmp 6), (some (145, false)), []⟩,
 ⟨44, (some 147), .bin .lss 2 true (.tmp 146) (.con (.int .i64 0)), (some (145, false)), []⟩,
 ⟨45, (some 148), .mv (.tmp 147), (some (145, false)), []⟩,
 ⟨46, (some 149), .fieldA 0 (.tmp 4), (some (148, true)), []⟩,
 ⟨47, (some 150), .load none (.tmp 149), (some (148, true)), []⟩,
 ⟨48, (some 151), .bin .and 3 true (.tmp 150) (.con (.int .i64 16)), (some (148, true)), []⟩,
 ⟨49, (some 152), .bin .eql 3 true (.tmp 151) (.con (.int .i64 0)), (some (148, true)), []⟩,
 ⟨50, (some 153), .pick (.tmp 148) (.tmp 152) (.con (.bool false)), (some (145, false)), []⟩,
 ⟨51, (some 154), .mv (.tmp 153), (some (145, false)), []⟩,
 ⟨52, (some 155), .fieldA 5 (.tmp 3), (some (154, true)), []⟩,
 ⟨53, (some 156), .load none (.tmp 155), (some (154, true)), []⟩,
 ⟨54, (some 157), .bin .neq 2 true (.tmp 156) (.con (.int .i64 0)), (some (154, true)), []⟩,
 ⟨55, (some 158), .pick (.tmp 154) (.tmp 157) (.con (.bool false)), (some (145, false)), []⟩,
 ⟨56, (some 159), .pick (.tmp 145) (.con (.bool true)) (.tmp 158), none, []⟩,
 ⟨57, (some 7), .mv (.tmp 159), none, []⟩])
 (.reg [⟨0, (some 160), .mv (.tmp 0), none, []⟩,
 ⟨1, (some 161), .mv (.tmp 7), none, []⟩,
 ⟨2, (some 162), .un .not (.tmp 161), none, []⟩,
 ⟨3, (some 163), .call 54 [(.tmp 160), (.tmp 162), (.con (.int .i64 4))], none, []⟩])))))))))))),
 []⟩
theorem p_code_checker_op : prepFun Go.Proofs.Tryd.prog [1, 0, 2, 3] Go.Proofs.Tryd.f57 = some v_code_checker_op := by kernel_rfl

def v_code_checker_end : VFun :=
⟨.seq (.reg [⟨0, (some 3), .box (.tmp 1), none, []⟩])
 (.seq (.reg [⟨0, (some 6), .mv (.tmp 0), none, []⟩,
 ⟨1, (some 7), .fieldA 0 (.tmp 3), none, []⟩,
 ⟨2, (some 8), .load none (.tmp 7), none, []⟩,
 ⟨3, (some 9), .bin .geq 3 true (.tmp 8) (.con (.int .i64 1)), none, []⟩,
 ⟨4, (some 10), .mv (.tmp 9), none, []⟩,
 ⟨5, (some 11), .fieldA 0 (.tmp 3), (some (10, true)), []⟩,
 ⟨6, (some 12), .load none (.tmp 11), (some (10, true)), []⟩,
 ⟨7, (some 13), .bin .leq 3 true (.tmp 12) (.con (.int .i64 4)), (some (10, true)), []⟩,
 ⟨8, (some 14), .pick (.tmp 10) (.tmp 13) (.con (.bool false)), none, []⟩,
 ⟨9, (some 15), .call 54 [(.tmp 6), (.tmp 14), (.con (.int .i64 4))], none, []⟩])
 (.seq (.reg [⟨0, (some 16), .fieldA 0 (.tmp 3), none, []⟩,
 ⟨1, (some 17), .load none (.tmp 16), none, []⟩,
 ⟨2, (some 18), .bin .eql 3 true (.tmp 17) (.con (.int .i64 1)), none, []⟩,
 ⟨3, (some 19), .mv (.tmp 18), none, []⟩,
 ⟨4, (some 20), .fieldA 0 (.tmp 3), (some (19, false)), []⟩,
 ⟨5, (some 21), .load none (.tmp 20), (some (19, false)), []⟩,
 ⟨6, (some 22), .bin .eql 3 true (.tmp 21) (.con (.int .i64 2)), (some (19, false)), []⟩,
 ⟨7, (some 23), .pick (.tmp 19) (.con (.bool true)) (.tmp 22), none, []⟩,
 ⟨8, (some 24), .fieldA 0 (.tmp 3), none, []⟩,
 ⟨9, (some 25), .load none (.tmp 24), none, []⟩,
 ⟨10, (some 26), .bin .eql 3 true (.tmp 25) (.con (.int .i64 2)), none, []⟩,
 ⟨11, (some 4), .mv (.tmp 23), none, [(.tmp 24)]⟩,
 ⟨12, (some 5), .mv (.tmp 26), none, []⟩])
 (.seq (.reg [⟨0, (some 27), .mv (.tmp 0), none, []⟩,
 ⟨1, (some 28), .fieldA 1 (.tmp 3), none, []⟩,
 ⟨2, (some 29), .load none (.tmp 28), none, []⟩,
 ⟨3, (some 30), .fieldA 0 (.tmp 3), none, []⟩,
 ⟨4, (some 31), .load none (.tmp 30), none, []⟩,
 ⟨5, (some 32), .bin .neq 3 true (.tmp 31) (.con (.int .i64 1)), none, []⟩,
 ⟨6, (some 33), .call 71 [(.tmp 27), (.tmp 29), (.tmp 32)], none, []⟩])
 (.seq (.reg [⟨0, (some 34), .mv (.tmp 0), none, []⟩,
 ⟨1, (some 35), .mv (.tmp 4), none, []⟩,
 ⟨2, (some 36), .un .not (.tmp 35), none, []⟩,
 ⟨3, (some 37), .mv (.tmp 36), none, []⟩,
 ⟨4, (some 38), .fieldA 2 (.tmp 3), (some (37, false)), []⟩,
 ⟨5, (some 39), .load none (.tmp 38), (some (37, false)), []⟩,
 ⟨6, (some 40), .mv (.tmp 0), (some (37, false)), []⟩,
 ⟨7, (some 41), .nilck (.tmp 40), (some (37, false)), []⟩,
 ⟨8, (some 42), .fieldA 0 (.tmp 41), (some (37, false)), []⟩,
 ⟨9, (some 43), .fieldA 5 (.tmp 42), (some (37, false)), []⟩,
 ⟨10, (some 44), .load none (.tmp 43), (some (37, false)), []⟩,
 ⟨11, (some 45), .len (.tmp 44), (some (37, false)), []⟩,
 ⟨12, (some 46), .call 34 [(.tmp 39), (.tmp 45)], (some (37, false)), []⟩,
 ⟨13, (some 47), .pick (.tmp 37) (.con (.bool true)) (.tmp 46), none, []⟩,
 ⟨14, (some 48), .call 54 [(.tmp 34), (.tmp 47), (.con (.int .i64 5))], none, []⟩])
 (.seq (.reg [⟨0, (some 49), .mv (.tmp 0), none, []⟩,
 ⟨1, (some 50), .mv (.tmp 5), none, []⟩,
 ⟨2, (some 51), .un .not (.tmp 50), none, []⟩,
 ⟨3, (some 52), .mv (.tmp 51), none, []⟩,
 ⟨4, (some 53), .fieldA 3 (.tmp 3), (some (52, false)), []⟩,
 ⟨5, (some 54), .load none (.tmp 53), (some (52, false)), []⟩,
 ⟨6, (some 55), .mv (.tmp 0), (some (52, false)), []⟩,
 ⟨7, (some 56), .nilck (.tmp 55), (some (52, false)), []⟩,
 ⟨8, (some 57), .fieldA 0 (.tmp 56), (some (52, false)), []⟩,
 ⟨9, (some 58), .fieldA 5 (.tmp 57), (some (52, false)), []⟩,
 ⟨10, (some 59), .load none (.tmp 58), (some (52, false)), []⟩,
 ⟨11, (some 60), .len (.tmp 59), (some (52, false)), []⟩,
 ⟨12, (some 61), .call 34 [(.tmp 54), (.tmp 60)], (some (52, false)), []⟩,
 ⟨13, (some 62), .pick (.tmp 52) (.con (.bool true)) (.tmp 61), none, []⟩,
 ⟨14, (some 63), .call 54 [(.tmp 49), (.tmp 62), (.con (.int .i64 5))], none, []⟩])
 (.reg [⟨0, (some 64), .mv (.tmp 0), none, []⟩,
 ⟨1, (some 65), .fieldA 0 (.tmp 3), none, []⟩,
 ⟨2, (some 66), .load none (.tmp 65), none, []⟩,
 ⟨3, (some 67), .bin .neq 3 true (.tmp 66) (.con (.int .i64 1)), none, []⟩,
 ⟨4, (some 68), .mv (.tmp 67), none, []⟩,
 ⟨5, (some 69), .fieldA 1 (.tmp 3), (some (68, false)), []⟩,
 ⟨6, (some 70), .load none (.tmp 69), (some (68, false)), []⟩,
 ⟨7, (some 71), .bin .eql 3 true (.tmp 70) (.con (.int .i64 0)), (some (68, false)), []⟩,
 ⟨8, (some 72), .pick (.tmp 68) (.con (.bool true)) (.tmp 71), none, []⟩,
 ⟨9, (some 73), .mv (.tmp 72), none, []⟩,
 ⟨10, (some 74), .mv (.tmp 4), (some (73, true)), []⟩,
 ⟨11, (some 75), .mv (.tmp 74), (some (73, true)), []⟩,
 ⟨12, (some 76), .fieldA 2 (.tmp 3), (some (75, false)), []⟩,
 ⟨13, (some 77), .load none (.tmp 76), (some (75, false)), []⟩,
 ⟨14, (some 78), .bin .eql 3 true (.tmp 77) (.con (.int .i64 0)), (some (75, false)), []⟩,
 ⟨15, (some 79), .pick (.tmp 75) (.con (.bool true)) (.tmp 78), (some (73, true)), []⟩,
 ⟨16, (some 80), .pick (.tmp 73) (.tmp 79) (.con (.bool false)), none, []⟩,
 ⟨17, (some 81), .mv (.tmp 80), none, []⟩,
 ⟨18, (some 82), .mv (.tmp 5), (some (81, true)), []⟩,
 ⟨19, (some 83), .mv (.tmp 82), (some (81, true)), []⟩,
 ⟨20, (some 84), .fieldA 3 (.tmp 3), (some (83, false)), []⟩,
 ⟨21, (some 85), .load none (.tmp 84), (some (83, false)), []⟩,
 ⟨22, (some 86), .bin .eql 3 true (.tmp 85) (.con (.int .i64 0)), (some (83, false)), []⟩,
 ⟨23, (some 87), .pick (.tmp 83) (.con (.bool true)) (.tmp 86), (some (81, true)), []⟩,
 ⟨24, (some 88), .pick (.tmp 81) (.tmp 87) (.con (.bool false)), none, []⟩,
 ⟨25, (some 89), .call 54 [(.tmp 64), (.tmp 88), (.con (.int .i64 4))], none, []⟩])))))),
 []⟩
theorem p_code_checker_end : prepFun Go.Proofs.Tryd.prog [1, 0, 2, 3] Go.Proofs.Tryd.f58 = some v_code_checker_end := by kernel_rfl

def v_strings_Cut : VFun :=
⟨.seq (.reg [⟨0, (some 4), .mv (.con (.string ⟨#[]⟩)), none, []⟩,
 ⟨1, (some 5), .mv (.con (.string ⟨#[]⟩)), none, []⟩,
 ⟨2, (some 6), .mv (.con (.bool false)), none, []⟩])
 (.seq (.reg [⟨0, (some 7), .mv (.tmp 0), none, []⟩,
 ⟨1, (some 8), .mv (.tmp 1), none, []⟩,
 ⟨2, (some 9), .call 72 [(.tmp 7), (.tmp 8)], none, []⟩,
 ⟨3, (some 10), .ext (.tmp 9) 0, none, []⟩,
 ⟨4, (some 11), .ext (.tmp 9) 1, none, []⟩,
 ⟨5, (some 12), .ext (.tmp 9) 2, none, []⟩,
 ⟨6, (some 4), .mv (.tmp 10), none, []⟩,
 ⟨7, (some 5), .mv (.tmp 11), none, []⟩,
 ⟨8, (some 6), .mv (.tmp 12), none, []⟩])
 (.ret)),
 [.tmp 4, .tmp 5, .tmp 6]⟩
theorem p_strings_Cut : prepFun Go.Proofs.Tryd.prog [1, 0, 2, 3] Go.Proofs.Tryd.f59 = some v_strings_Cut := by kernel_rfl

def v_strings_Split : VFun :=
⟨.seq (.reg [⟨0, (some 4), .mv (.con (.slice none 0 0)), none, []⟩])
 (.seq (.reg [⟨0, (some 5), .mv (.tmp 0), none, []⟩,
 ⟨1, (some 6), .mv (.tmp 1), none, []⟩,
 ⟨2, (some 7), .call 73 [(.tmp 5), (.tmp 6), (.con (.int .i64 0)), (.con (.int .i64 (-1)))], none, []⟩,
 ⟨3, (some 4), .mv (.tmp 7), none, []⟩])
 (.ret)),
 [.tmp 4]⟩
theorem p_strings_Split : prepFun Go.Proofs.Tryd.prog [1, 0, 2, 3] Go.Proofs.Tryd.f60 = some v_strings_Split := by kernel_rfl

def v_code_numbers : VFun :=
⟨.seq (.reg [⟨0, (some 4), .mv (.con (.slice none 0 0)), none, []⟩,
 ⟨1, (some 5), .mv (.con (.bool false)), none, []⟩])
 (.seq (.seq (.reg [⟨0, (some 11), .mv (.tmp 0), none, []⟩,
 ⟨1, (some 12), .len (.tmp 11), none, []⟩,
 ⟨2, (some 13), .mv (.tmp 1), none, []⟩,
 ⟨3, (some 14), .bin .neq 3 false (.tmp 12) (.tmp 13), none, []⟩])
 (.cond (.tmp 14)
 (.seq (.reg [⟨0, (some 4), .mv (.con (.slice none 0 0)), none, []⟩,
 ⟨1, (some 5), .mv (.con (.bool false)), none, []⟩])
 (.ret))
 (.skip)))
 (.seq (.reg [⟨0, (some 6), .mv (.con (.slice none 0 0)), none, []⟩])
 (.seq (.seq (.reg [⟨0, (some 15), .mv (.tmp 0), none, []⟩,
 ⟨1, (some 16), .len (.tmp 15), none, []⟩,
 ⟨2, (some 17), .mv (.con (.int .i64 0)), none, []⟩])
 (.block 0
 (.loop
 (.seq (.reg [⟨0, (some 18), .bin .lss 3 false (.tmp 17) (.tmp 16), none, []⟩])
 (.seq (.cond (.tmp 18)
 (.skip)
 (.exit 0))
 (.seq (.block 1
 (.seq (.reg [⟨0, (some 19), .idxA none 1 (.tmp 15) (.tmp 17), none, []⟩,
 ⟨1, (some 20), .load none (.tmp 19), none, []⟩,
 ⟨2, (some 8), .mv (.tmp 20), none, []⟩])
 (.seq (.reg [⟨0, (some 22), .mv (.tmp 8), none, []⟩,
 ⟨1, (some 23), .call 74 [(.tmp 22)], none, []⟩,
 ⟨2, (some 21), .mv (.tmp 23), none, []⟩,
 ⟨3, (some 24), .ext (.tmp 21) 0, none, []⟩,
 ⟨4, (some 25), .ext (.tmp 21) 1, none, []⟩,
 ⟨5, (some 9), .mv (.tmp 24), none, []⟩,
 ⟨6, (some 10), .mv (.tmp 25), none, []⟩])
 (.seq (.seq (.reg [⟨0, (some 26), .mv (.tmp 10), none, []⟩,
 ⟨1, (some 27), .bin .neq 27 true (.tmp 26) (.con (.int .i64 0)), none, []⟩])
 (.cond (.tmp 27)
 (.seq (.reg [⟨0, (some 4), .mv (.con (.slice none 0 0)), none, []⟩,
 ⟨1, (some 5), .mv (.con (.bool false)), none, []⟩])
 (.ret))
 (.skip)))
 (.reg [⟨0, (some 28), .mv (.tmp 6), none, []⟩,
 ⟨1, (some 29), .mv (.tmp 9), none, []⟩,
 ⟨2, (some 30), .bslice 1 1 [(.int .i64 0)] [(0, 1, (.tmp 29))], none, []⟩,
 ⟨3, (some 31), .append 1 8 (.tmp 28) (.tmp 30), none, []⟩,
 ⟨4, (some 6), .mv (.tmp 31), none, []⟩])))))
 (.reg [⟨0, (some 32), .bin .add 3 true (.tmp 17) (.con (.int .i64 1)), none, []⟩,
 ⟨1, (some 17), .mv (.tmp 32), none, []⟩])))))))
 (.seq (.reg [⟨0, (some 33), .mv (.tmp 6), none, []⟩,
 ⟨1, (some 4), .mv (.tmp 33), none, []⟩,
 ⟨2, (some 5), .mv (.con (.bool true)), none, []⟩])
 (.ret))))),
 [.tmp 4, .tmp 5]⟩
theorem p_code_numbers : prepFun Go.Proofs.Tryd.prog [1, 0, 2, 3] Go.Proofs.Tryd.f61 = some v_code_numbers := by kernel_rfl

def v_strings_CutPrefix : VFun :=
⟨.seq (.reg [⟨0, (some 4), .mv (.con (.string ⟨#[]⟩)), none, []⟩,
 ⟨1, (some 5), .mv (.con (.bool false)), none, []⟩])
 (.seq (.reg [⟨0, (some 6), .mv (.tmp 0), none, []⟩,
 ⟨1, (some 7), .mv (.tmp 1), none, []⟩,
 ⟨2, (some 8), .call 75 [(.tmp 6), (.tmp 7)], none, []⟩,
 ⟨3, (some 9), .ext (.tmp 8) 0, none, []⟩,
 ⟨4, (some 10), .ext (.tmp 8) 1, none, []⟩,
 ⟨5, (some 4), .mv (.tmp 9), none, []⟩,
 ⟨6, (some 5), .mv (.tmp 10), none, []⟩])
 (.ret)),
 [.tmp 4, .tmp 5]⟩
theorem p_strings_CutPrefix : prepFun Go.Proofs.Tryd.prog [1, 0, 2, 3] Go.Proofs.Tryd.f62 = some v_strings_CutPrefix := by kernel_rfl

def v_code_readEnd : VFun :=
⟨.seq (.reg [⟨0, (some 2), .alloc [(.int .i64 0), (.int .i64 0), (.int .i64 0), (.int .i64 0)], none, []⟩,
 ⟨1, (some 3), .mv (.con (.bool false)), none, []⟩])
 (.seq (.seq (.reg [⟨0, (some 9), .load (some 8) (.glo 1), none, []⟩,
 ⟨1, (some 10), .mv (.con (.int .i64 0)), none, []⟩])
 (.block 0
 (.loop
 (.seq (.reg [⟨0, (some 11), .bin .lss 3 true (.tmp 10) (.con (.int .i64 4)), none, []⟩])
 (.seq (.cond (.tmp 11)
 (.skip)
 (.exit 0))
 (.seq (.block 1
 (.seq (.reg [⟨0, (some 12), .mv (.tmp 10), none, []⟩,
 ⟨1, (some 13), .idx 4 (some 2) 2 (.tmp 9) (.tmp 10), none, []⟩,
 ⟨2, (some 5), .alloc [(.string ⟨#[]⟩), (.int .i64 0)], none, []⟩,
 ⟨3, (some 4), .mv (.tmp 12), none, []⟩,
 ⟨4, none, .store 2 (.tmp 5) (.tmp 13), none, []⟩])
 (.seq (.reg [⟨0, (some 15), .mv (.tmp 0), none, []⟩,
 ⟨1, (some 16), .fieldA 0 (.tmp 5), none, []⟩,
 ⟨2, (some 17), .load none (.tmp 16), none, []⟩,
 ⟨3, (some 18), .fieldA 1 (.tmp 5), none, []⟩,
 ⟨4, (some 19), .load none (.tmp 18), none, []⟩,
 ⟨5, (some 20), .call 45 [(.tmp 15), (.tmp 17), (.tmp 19)], none, []⟩,
 ⟨6, (some 14), .mv (.tmp 20), none, []⟩,
 ⟨7, (some 21), .ext (.tmp 14) 0, none, []⟩,
 ⟨8, (some 22), .ext (.tmp 14) 1, none, []⟩,
 ⟨9, (some 6), .mv (.tmp 21), none, []⟩,
 ⟨10, (some 7), .mv (.tmp 22), none, []⟩])
 (.seq (.seq (.reg [⟨0, (some 23), .mv (.tmp 7), none, []⟩,
 ⟨1, (some 24), .un .not (.tmp 23), none, []⟩])
 (.cond (.tmp 24)
 (.exit 1)
 (.skip)))
 (.seq (.reg [⟨0, (some 25), .mv (.tmp 4), none, []⟩,
 ⟨1, (some 26), .bin .add 3 true (.tmp 25) (.con (.int .i64 1)), none, []⟩,
 ⟨2, (some 27), .build [(.int .i64 0), (.int .i64 0), (.int .i64 0), (.int .i64 0)] [(0, 1, (.tmp 26))], none, []⟩,
 ⟨3, (some 8), .alloc [(.int .i64 0), (.int .i64 0), (.int .i64 0), (.int .i64 0)], none, []⟩,
 ⟨4, none, .store 4 (.tmp 8) (.tmp 27), none, []⟩])
 (.seq (.seq (.reg [⟨0, (some 28), .fieldA 0 (.tmp 8), none, []⟩,
 ⟨1, (some 29), .load none (.tmp 28), none, []⟩,
 ⟨2, (some 30), .bin .eql 3 true (.tmp 29) (.con (.int .i64 1)), none, []⟩])
 (.cond (.tmp 30)
 (.seq (.reg [⟨0, (some 31), .mv (.tmp 6), none, []⟩,
 ⟨1, (some 32), .idxA none 1 (.tmp 31) (.con (.int .i64 0)), none, []⟩,
 ⟨2, (some 33), .load none (.tmp 32), none, []⟩,
 ⟨3, (some 34), .fieldA 2 (.tmp 8), none, []⟩,
 ⟨4, none, .store 1 (.tmp 34) (.tmp 33), none, []⟩])
 (.seq (.reg [⟨0, (some 35), .load (some 4) (.tmp 8), none, []⟩,
 ⟨1, none, .store 4 (.tmp 2) (.tmp 35), none, []⟩,
 ⟨2, (some 3), .mv (.con (.bool true)), none, []⟩])
 (.ret)))
 (.skip)))
 (.seq (.reg [⟨0, (some 36), .mv (.tmp 6), none, []⟩,
 ⟨1, (some 37), .idxA none 1 (.tmp 36) (.con (.int .i64 0)), none, []⟩,
 ⟨2, (some 38), .load none (.tmp 37), none, []⟩,
 ⟨3, (some 39), .fieldA 1 (.tmp 8), none, []⟩,
 ⟨4, none, .store 1 (.tmp 39) (.tmp 38), none, []⟩])
 (.seq (.seq (.reg [⟨0, (some 40), .fieldA 0 (.tmp 8), none, []⟩,
 ⟨1, (some 41), .load none (.tmp 40), none, []⟩,
 ⟨2, (some 42), .bin .eql 3 true (.tmp 41) (.con (.int .i64 2)), none, []⟩])
 (.cond (.tmp 42)
 (.reg [⟨0, (some 43), .mv (.tmp 6), none, []⟩,
 ⟨1, (some 44), .idxA none 1 (.tmp 43) (.con (.int .i64 1)), none, []⟩,
 ⟨2, (some 45), .load none (.tmp 44), none, []⟩,
 ⟨3, (some 46), .mv (.tmp 6), none, []⟩,
 ⟨4, (some 47), .idxA none 1 (.tmp 46) (.con (.int .i64 2)), none, []⟩,
 ⟨5, (some 48), .load none (.tmp 47), none, []⟩,
 ⟨6, (some 49), .fieldA 2 (.tmp 8), none, []⟩,
 ⟨7, none, .store 1 (.tmp 49) (.tmp 45), none, [(.tmp 47)]⟩,
 ⟨8, (some 50), .fieldA 3 (.tmp 8), none, []⟩,
 ⟨9, none, .store 1 (.tmp 50) (.tmp 48), none, []⟩])
 (.skip)))
 (.seq (.reg [⟨0, (some 51), .load (some 4) (.tmp 8), none, []⟩,
 ⟨1, none, .store 4 (.tmp 2) (.tmp 51), none, []⟩,
 ⟨2, (some 3), .mv (.con (.bool true)), none, []⟩])
 (.ret))))))))))
 (.reg [⟨0, (some 52), .bin .add 3 true (.tmp 10) (.con (.int .i64 1)), none, []⟩,
 ⟨1, (some 10), .mv (.tmp 52), none, []⟩])))))))
 (.seq (.reg [⟨0, (some 53), .build [(.int .i64 0), (.int .i64 0), (.int .i64 0), (.int .i64 0)] [], none, []⟩,
 ⟨1, none, .store 4 (.tmp 2) (.tmp 53), none, []⟩,
 ⟨2, (some 3), .mv (.con (.bool false)), none, []⟩])
 (.ret))),
 [.cell 2 (some 4), .tmp 3]⟩
theorem p_code_readEnd : prepFun Go.Proofs.Tryd.prog [1, 0, 2, 3] Go.Proofs.Tryd.f63 = some v_code_readEnd := by kernel_rfl

def v_code_readOp : VFun :=
⟨.seq (.reg [⟨0, (some 2), .alloc [(.int .i64 0), (.int .i64 0), (.int .i64 0), (.int .i64 0), (.int .i64 0), (.int .i64 0), (.int .i64 0)], none, []⟩,
 ⟨1, (some 3), .mv (.con (.bool false)), none, []⟩])
 (.seq (.reg [⟨0, (some 21), .build [(.int .i64 0), (.int .i64 0), (.int .i64 0), (.int .i64 0), (.int .i64 0), (.int .i64 0), (.int .i64 0)] [(6, 1, (.con (.int .i64 (-1))))], none, []⟩,
 ⟨1, (some 4), .alloc [(.int .i64 0), (.int .i64 0), (.int .i64 0), (.int .i64 0), (.int .i64 0), (.int .i64 0), (.int .i64 0)], none, []⟩,
 ⟨2, none, .store 7 (.tmp 4) (.tmp 21), none, []⟩])
 (.seq (.reg [⟨0, (some 22), .mv (.tmp 0), none, []⟩,
 ⟨1, (some 23), .call 60 [(.tmp 22), (.con (.string ⟨#[32]⟩))], none, []⟩,
 ⟨2, (some 5), .alloc [(.slice none 0 0)], none, []⟩,
 ⟨3, none, .store 1 (.tmp 5) (.tmp 23), none, []⟩])
 (.seq (.seq (.reg [⟨0, (some 24), .load none (.tmp 5), none, []⟩,
 ⟨1, (some 25), .idxA none 1 (.tmp 24) (.con (.int .i64 0)), none, []⟩,
 ⟨2, (some 26), .load none (.tmp 25), none, []⟩,
 ⟨3, (some 27), .bin .eql 9 true (.tmp 26) (.con (.string ⟨#[63]⟩)), none, []⟩,
 ⟨4, (some 28), .mv (.tmp 27), none, []⟩,
 ⟨5, (some 29), .load none (.tmp 5), (some (28, true)), []⟩,
 ⟨6, (some 30), .len (.tmp 29), (some (28, true)), []⟩,
 ⟨7, (some 31), .bin .gtr 3 true (.tmp 30) (.con (.int .i64 2)), (some (28, true)), []⟩,
 ⟨8, (some 32), .pick (.tmp 28) (.tmp 31) (.con (.bool false)), none, []⟩])
 (.cond (.tmp 32)
 (.seq (.reg [⟨0, (some 34), .load none (.tmp 5), none, []⟩,
 ⟨1, (some 35), .slice none 1 (.tmp 34) (some (.con (.int .i64 1))) (some (.con (.int .i64 2))) none, none, []⟩,
 ⟨2, (some 36), .call 61 [(.tmp 35), (.con (.int .i64 1))], none, []⟩,
 ⟨3, (some 33), .mv (.tmp 36), none, []⟩,
 ⟨4, (some 37), .ext (.tmp 33) 0, none, []⟩,
 ⟨5, (some 38), .ext (.tmp 33) 1, none, []⟩,
 ⟨6, (some 6), .mv (.tmp 37), none, []⟩,
 ⟨7, (some 7), .mv (.tmp 38), none, []⟩])
 (.seq (.seq (.reg [⟨0, (some 39), .mv (.tmp 7), none, []⟩,
 ⟨1, (some 40), .un .not (.tmp 39), none, []⟩,
 ⟨2, (some 41), .mv (.tmp 40), none, []⟩,
 ⟨3, (some 42), .mv (.tmp 6), (some (41, false)), []⟩,
 ⟨4, (some 43), .idxA none 1 (.tmp 42) (.con (.int .i64 0)), (some (41, false)), []⟩,
 ⟨5, (some 44), .load none (.tmp 43), (some (41, false)), []⟩,
 ⟨6, (some 45), .bin .eql 2 true (.tmp 44) (.con (.int .i64 (-1))), (some (41, false)), []⟩,
 ⟨7, (some 46), .pick (.tmp 41) (.con (.bool true)) (.tmp 45), none, []⟩])
 (.cond (.tmp 46)
 (.seq (.reg [⟨0, (some 47), .load (some 7) (.tmp 4), none, []⟩,
 ⟨1, none, .store 7 (.tmp 2) (.tmp 47), none, []⟩,
 ⟨2, (some 3), .mv (.con (.bool false)), none, []⟩])
 (.ret))
 (.skip)))
 (.reg [⟨0, (some 48), .mv (.tmp 6), none, []⟩,
 ⟨1, (some 49), .idxA none 1 (.tmp 48) (.con (.int .i64 0)), none, []⟩,
 ⟨2, (some 50), .load none (.tmp 49), none, []⟩,
 ⟨3, (some 51), .load none (.tmp 5), none, []⟩,
 ⟨4, (some 52), .slice none 1 (.tmp 51) (some (.con (.int .i64 2))) none none, none, []⟩,
 ⟨5, (some 53), .fieldA 6 (.tmp 4), none, []⟩,
 ⟨6, none, .store 1 (.tmp 53) (.tmp 50), none, [(.tmp 5)]⟩,
 ⟨7, none, .store 1 (.tmp 5) (.tmp 52), none, []⟩])))
 (.skip)))
 (.seq (.reg [⟨0, (some 54), .load none (.tmp 5), none, []⟩,
 ⟨1, (some 55), .len (.tmp 54), none, []⟩,
 ⟨2, (some 56), .bin .gtr 3 true (.tmp 55) (.con (.int .i64 2)), none, []⟩,
 ⟨3, (some 57), .mv (.tmp 56), none, []⟩,
 ⟨4, (some 58), .load none (.tmp 5), (some (57, true)), []⟩,
 ⟨5, (some 59), .idxA none 1 (.tmp 58) (.con (.int .i64 1)), (some (57, true)), []⟩,
 ⟨6, (some 60), .load none (.tmp 59), (some (57, true)), []⟩,
 ⟨7, (some 61), .bin .eql 9 true (.tmp 60) (.con (.string ⟨#[61]⟩)), (some (57, true)), []⟩,
 ⟨8, (some 62), .pick (.tmp 57) (.tmp 61) (.con (.bool false)), none, []⟩,
 ⟨9, (some 8), .mv (.tmp 62), none, []⟩])
 (.seq (.seq (.reg [⟨0, (some 63), .mv (.tmp 8), none, []⟩])
 (.cond (.tmp 63)
 (.seq (.reg [⟨0, (some 65), .load none (.tmp 5), none, []⟩,
 ⟨1, (some 66), .slice none 1 (.tmp 65) none (some (.con (.int .i64 1))) none, none, []⟩,
 ⟨2, (some 67), .call 61 [(.tmp 66), (.con (.int .i64 1))], none, []⟩,
 ⟨3, (some 64), .mv (.tmp 67), none, []⟩,
 ⟨4, (some 68), .ext (.tmp 64) 0, none, []⟩,
 ⟨5, (some 69), .ext (.tmp 64) 1, none, []⟩,
 ⟨6, (some 9), .mv (.tmp 68), none, []⟩,
 ⟨7, (some 10), .mv (.tmp 69), none, []⟩])
 (.seq (.seq (.reg [⟨0, (some 70), .mv (.tmp 10), none, []⟩,
 ⟨1, (some 71), .un .not (.tmp 70), none, []⟩])
 (.cond (.tmp 71)
 (.seq (.reg [⟨0, (some 72), .load (some 7) (.tmp 4), none, []⟩,
 ⟨1, none, .store 7 (.tmp 2) (.tmp 72), none, []⟩,
 ⟨2, (some 3), .mv (.con (.bool false)), none, []⟩])
 (.ret))
 (.skip)))
 (.reg [⟨0, (some 73), .mv (.tmp 9), none, []⟩,
 ⟨1, (some 74), .idxA none 1 (.tmp 73) (.con (.int .i64 0)), none, []⟩,
 ⟨2, (some 75), .load none (.tmp 74), none, []⟩,
 ⟨3, (some 76), .load none (.tmp 5), none, []⟩,
 ⟨4, (some 77), .slice none 1 (.tmp 76) (some (.con (.int .i64 2))) none none, none, []⟩,
 ⟨5, (some 78), .fieldA 1 (.tmp 4), none, []⟩,
 ⟨6, none, .store 1 (.tmp 78) (.tmp 75), none, [(.tmp 5)]⟩,
 ⟨7, none, .store 1 (.tmp 5) (.tmp 77), none, []⟩])))
 (.skip)))
 (.seq (.reg [⟨0, (some 79), .slice (some 25) 3 (.glo 0) none none none, none, []⟩,
 ⟨1, (some 80), .mkfn 77 [] [(.tmp 5)], none, []⟩,
 ⟨2, (some 81), .call 76 [(.tmp 79), (.tmp 80)], none, []⟩,
 ⟨3, (some 11), .mv (.tmp 81), none, []⟩])
 (.seq (.seq (.reg [⟨0, (some 82), .mv (.tmp 11), none, []⟩,
 ⟨1, (some 83), .bin .lss 3 true (.tmp 82) (.con (.int .i64 0)), none, []⟩])
 (.cond (.tmp 83)
 (.seq (.reg [⟨0, (some 84), .load (some 7) (.tmp 4), none, []⟩,
 ⟨1, none, .store 7 (.tmp 2) (.tmp 84), none, []⟩,
 ⟨2, (some 3), .mv (.con (.bool false)), none, []⟩])
 (.ret))
 (.skip)))
 (.seq (.reg [⟨0, (some 85), .mv (.tmp 11), none, []⟩,
 ⟨1, (some 86), .idxA (some 25) 3 (.glo 0) (.tmp 85), none, []⟩,
 ⟨2, (some 87), .load (some 3) (.tmp 86), none, []⟩,
 ⟨3, (some 12), .alloc [(.int .i64 0), (.int .i64 0), (.string ⟨#[]⟩)], none, []⟩,
 ⟨4, none, .store 3 (.tmp 12) (.tmp 87), none, []⟩])
 (.seq (.reg [⟨0, (some 88), .mv (.tmp 11), none, []⟩,
 ⟨1, (some 89), .bin .add 3 true (.tmp 88) (.con (.int .i64 1)), none, []⟩,
 ⟨2, (some 90), .fieldA 0 (.tmp 4), none, []⟩,
 ⟨3, none, .store 1 (.tmp 90) (.tmp 89), none, []⟩])
 (.seq (.seq (.reg [⟨0, (some 91), .mv (.tmp 8), none, []⟩,
 ⟨1, (some 92), .fieldA 0 (.tmp 12), none, []⟩,
 ⟨2, (some 93), .load none (.tmp 92), none, []⟩,
 ⟨3, (some 94), .bin .and 3 true (.tmp 93) (.con (.int .i64 1)), none, []⟩,
 ⟨4, (some 95), .bin .neq 3 true (.tmp 94) (.con (.int .i64 0)), none, []⟩,
 ⟨5, (some 96), .bin .neq 4 false (.tmp 91) (.tmp 95), none, []⟩])
 (.cond (.tmp 96)
 (.seq (.reg [⟨0, (some 97), .load (some 7) (.tmp 4), none, []⟩,
 ⟨1, none, .store 7 (.tmp 2) (.tmp 97), none, []⟩,
 ⟨2, (some 3), .mv (.con (.bool false)), none, []⟩])
 (.ret))
 (.skip)))
 (.seq (.reg [⟨0, (some 13), .mv (.con (.slice none 0 0)), none, []⟩])
 (.seq (.seq (.reg [⟨0, (some 98), .fieldA 2 (.tmp 4), none, []⟩,
 ⟨1, (some 99), .fieldA 3 (.tmp 4), none, []⟩,
 ⟨2, (some 100), .fieldA 4 (.tmp 4), none, []⟩,
 ⟨3, (some 101), .build [(.pointer none), (.pointer none), (.pointer none)] [(0, 1, (.tmp 98)), (1, 1, (.tmp 99)), (2, 1, (.tmp 100))], none, []⟩,
 ⟨4, (some 102), .mv (.con (.int .i64 0)), none, []⟩])
 (.block 0
 (.loop
 (.seq (.reg [⟨0, (some 103), .bin .lss 3 true (.tmp 102) (.con (.int .i64 3)), none, []⟩])
 (.seq (.cond (.tmp 103)
 (.skip)
 (.exit 0))
 (.seq (.block 1
 (.seq (.reg [⟨0, (some 104), .mv (.tmp 102), none, []⟩,
 ⟨1, (some 105), .idx 3 none 1 (.tmp 101) (.tmp 102), none, []⟩,
 ⟨2, (some 14), .mv (.tmp 104), none, []⟩,
 ⟨3, (some 15), .mv (.tmp 105), none, []⟩])
 (.seq (.reg [⟨0, (some 106), .fieldA 0 (.tmp 12), none, []⟩,
 ⟨1, (some 107), .load none (.tmp 106), none, []⟩,
 ⟨2, (some 108), .mv (.tmp 14), none, []⟩,
 ⟨3, (some 109), .bin .shl 3 true (.con (.int .i64 2)) (.tmp 108), none, []⟩,
 ⟨4, (some 110), .bin .and 3 false (.tmp 107) (.tmp 109), none, []⟩,
 ⟨5, (some 111), .bin .neq 3 true (.tmp 110) (.con (.int .i64 0)), none, []⟩])
 (.cond (.tmp 111)
 (.reg [⟨0, (some 112), .mv (.tmp 13), none, []⟩,
 ⟨1, (some 113), .mv (.tmp 15), none, []⟩,
 ⟨2, (some 114), .bslice 1 1 [(.pointer none)] [(0, 1, (.tmp 113))], none, []⟩,
 ⟨3, (some 115), .append 1 8 (.tmp 112) (.tmp 114), none, []⟩,
 ⟨4, (some 13), .mv (.tmp 115), none, []⟩])
 (.skip)))))
 (.reg [⟨0, (some 116), .bin .add 3 true (.tmp 102) (.con (.int .i64 1)), none, []⟩,
 ⟨1, (some 102), .mv (.tmp 116), none, []⟩])))))))
 (.seq (.reg [⟨0, (some 117), .mv (.tmp 13), none, []⟩,
 ⟨1, (some 118), .len (.tmp 117), none, []⟩,
 ⟨2, (some 16), .mv (.tmp 118), none, []⟩])
 (.seq (.seq (.reg [⟨0, (some 119), .fieldA 0 (.tmp 12), none, []⟩,
 ⟨1, (some 120), .load none (.tmp 119), none, []⟩,
 ⟨2, (some 121), .bin .and 3 true (.tmp 120) (.con (.int .i64 240)), none, []⟩,
 ⟨3, (some 122), .bin .neq 3 true (.tmp 121) (.con (.int .i64 0)), none, []⟩])
 (.cond (.tmp 122)
 (.reg [⟨0, (some 123), .mv (.tmp 16), none, []⟩,
 ⟨1, (some 124), .bin .add 3 true (.tmp 123) (.con (.int .i64 1)), none, []⟩,
 ⟨2, (some 16), .mv (.tmp 124), none, []⟩])
 (.skip)))
 (.seq (.reg [⟨0, (some 126), .load none (.tmp 5), none, []⟩,
 ⟨1, (some 127), .slice none 1 (.tmp 126) (some (.con (.int .i64 1))) none none, none, []⟩,
 ⟨2, (some 128), .mv (.tmp 16), none, []⟩,
 ⟨3, (some 129), .call 61 [(.tmp 127), (.tmp 128)], none, []⟩,
 ⟨4, (some 125), .mv (.tmp 129), none, []⟩,
 ⟨5, (some 130), .ext (.tmp 125) 0, none, []⟩,
 ⟨6, (some 131), .ext (.tmp 125) 1, none, []⟩,
 ⟨7, (some 17), .mv (.tmp 130), none, []⟩,
 ⟨8, (some 18), .mv (.tmp 131), none, []⟩])
 (.seq (.seq (.reg [⟨0, (some 132), .mv (.tmp 18), none, []⟩,
 ⟨1, (some 133), .un .not (.tmp 132), none, []⟩])
 (.cond (.tmp 133)
 (.seq (.reg [⟨0, (some 134), .load (some 7) (.tmp 4), none, []⟩,
 ⟨1, none, .store 7 (.tmp 2) (.tmp 134), none, []⟩,
 ⟨2, (some 3), .mv (.con (.bool false)), none, []⟩])
 (.ret))
 (.skip)))
 (.seq (.seq (.reg [⟨0, (some 135), .mv (.tmp 13), none, []⟩,
 ⟨1, (some 136), .len (.tmp 135), none, []⟩,
 ⟨2, (some 137), .mv (.con (.int .i64 0)), none, []⟩])
 (.block 2
 (.loop
 (.seq (.reg [⟨0, (some 138), .bin .lss 3 false (.tmp 137) (.tmp 136), none, []⟩])
 (.seq (.cond (.tmp 138)
 (.skip)
 (.exit 2))
 (.seq (.block 3
 (.seq (.reg [⟨0, (some 139), .mv (.tmp 137), none, []⟩,
 ⟨1, (some 140), .idxA none 1 (.tmp 135) (.tmp 137), none, []⟩,
 ⟨2, (some 141), .load none (.tmp 140), none, []⟩,
 ⟨3, (some 19), .mv (.tmp 139), none, []⟩,
 ⟨4, (some 20), .mv (.tmp 141), none, []⟩])
 (.reg [⟨0, (some 142), .mv (.tmp 20), none, []⟩,
 ⟨1, (some 143), .mv (.tmp 17), none, []⟩,
 ⟨2, (some 144), .mv (.tmp 19), none, []⟩,
 ⟨3, (some 145), .idxA none 1 (.tmp 143) (.tmp 144), none, []⟩,
 ⟨4, (some 146), .load none (.tmp 145), none, []⟩,
 ⟨5, (some 147), .nilck (.tmp 142), none, []⟩,
 ⟨6, none, .store 1 (.tmp 147) (.tmp 146), none, []⟩])))
 (.reg [⟨0, (some 148), .bin .add 3 true (.tmp 137) (.con (.int .i64 1)), none, []⟩,
 ⟨1, (some 137), .mv (.tmp 148), none, []⟩])))))))
 (.seq (.seq (.reg [⟨0, (some 149), .mv (.tmp 16), none, []⟩,
 ⟨1, (some 150), .mv (.tmp 13), none, []⟩,
 ⟨2, (some 151), .len (.tmp 150), none, []⟩,
 ⟨3, (some 152), .bin .gtr 3 false (.tmp 149) (.tmp 151), none, []⟩])
 (.cond (.tmp 152)
 (.reg [⟨0, (some 153), .mv (.tmp 17), none, []⟩,
 ⟨1, (some 154), .mv (.tmp 16), none, []⟩,
 ⟨2, (some 155), .bin .sub 3 true (.tmp 154) (.con (.int .i64 1)), none, []⟩,
 ⟨3, (some 156), .idxA none 1 (.tmp 153) (.tmp 155), none, []⟩,
 ⟨4, (some 157), .load none (.tmp 156), none, []⟩,
 ⟨5, (some 158), .fieldA 5 (.tmp 4), none, []⟩,
 ⟨6, none, .store 1 (.tmp 158) (.tmp 157), none, []⟩])
 (.skip)))
 (.seq (.reg [⟨0, (some 159), .load (some 7) (.tmp 4), none, []⟩,
 ⟨1, none, .store 7 (.tmp 2) (.tmp 159), none, []⟩,
 ⟨2, (some 3), .mv (.con (.bool true)), none, []⟩])
 (.ret)))))))))))))))))))),
 [.cell 2 (some 7), .tmp 3]⟩
theorem p_code_readOp : prepFun Go.Proofs.Tryd.prog [1, 0, 2, 3] Go.Proofs.Tryd.f64 = some v_code_readOp := by kernel_rfl

end Go.VX.Seat
end
section
set_option maxRecDepth 20000
/-! MADE BY PROGRAM (lits.py): functions as they are prepared. -/
namespace Go.VX.Seat
def v_internal_strconv_small : VFun :=
⟨.seq (.reg [⟨0, (some 2), .mv (.con (.string ⟨#[]⟩)), none, []⟩])
 (.seq (.seq (.reg [⟨0, (some 3), .mv (.tmp 0), none, []⟩,
 ⟨1, (some 4), .bin .lss 3 true (.tmp 3) (.con (.int .i64 10)), none, []⟩])
 (.cond (.tmp 4)
 (.seq (.reg [⟨0, (some 5), .mv (.tmp 0), none, []⟩,
 ⟨1, (some 6), .mv (.tmp 0), none, []⟩,
 ⟨2, (some 7), .bin .add 3 true (.tmp 6) (.con (.int .i64 1)), none, []⟩,
 ⟨3, (some 8), .slS 9 (.con (.string ⟨#[48, 49, 50, 51, 52, 53, 54, 55, 56, 57, 97, 98, 99, 100, 101, 102, 103, 104, 105, 106, 107, 108, 109, 110, 111, 112, 113, 114, 115, 116, 117, 118, 119, 120, 121, 122]⟩)) (some (.tmp 5)) (some (.tmp 7)), none, []⟩,
 ⟨4, (some 2), .mv (.tmp 8), none, []⟩])
 (.ret))
 (.skip)))
 (.seq (.reg [⟨0, (some 9), .mv (.tmp 0), none, []⟩,
 ⟨1, (some 10), .bin .mul 3 true (.tmp 9) (.con (.int .i64 2)), none, []⟩,
 ⟨2, (some 11), .mv (.tmp 0), none, []⟩,
 ⟨3, (some 12), .bin .mul 3 true (.tmp 11) (.con (.int .i64 2)), none, []⟩,
 ⟨4, (some 13), .bin .add 3 true (.tmp 12) (.con (.int .i64 2)), none, []⟩,
 ⟨5, (some 14), .slS 9 (.con (.string ⟨#[48, 48, 48, 49, 48, 50, 48, 51, 48, 52, 48, 53, 48, 54, 48, 55, 48, 56, 48, 57, 49, 48, 49, 49, 49, 50, 49, 51, 49, 52, 49, 53, 49, 54, 49, 55, 49, 56, 49, 57, 50, 48, 50, 49, 50, 50, 50, 51, 50, 52, 50, 53, 50, 54, 50, 55, 50, 56, 50, 57, 51, 48, 51, 49, 51, 50, 51, 51, 51, 52, 51, 53, 51, 54, 51, 55, 51, 56, 51, 57, 52, 48, 52, 49, 52, 50, 52, 51, 52, 52, 52, 53, 52, 54, 52, 55, 52, 56, 52, 57, 53, 48, 53, 49, 53, 50, 53, 51, 53, 52, 53, 53, 53, 54, 53, 55, 53, 56, 53, 57, 54, 48, 54, 49, 54, 50, 54, 51, 54, 52, 54, 53, 54, 54, 54, 55, 54, 56, 54, 57, 55, 48, 55, 49, 55, 50, 55, 51, 55, 52, 55, 53, 55, 54, 55, 55, 55, 56, 55, 57, 56, 48, 56, 49, 56, 50, 56, 51, 56, 52, 56, 53, 56, 54, 56, 55, 56, 56, 56, 57, 57, 48, 57, 49, 57, 50, 57, 51, 57, 52, 57, 53, 57, 54, 57, 55, 57, 56, 57, 57]⟩)) (some (.tmp 10)) (some (.tmp 13)), none, []⟩,
 ⟨6, (some 2), .mv (.tmp 14), none, []⟩])
 (.ret))),
 [.tmp 2]⟩
theorem p_internal_strconv_small : prepFun Go.Proofs.Tryd.prog [1, 0, 2, 3] Go.Proofs.Tryd.f66 = some v_internal_strconv_small := by kernel_rfl

def v_internal_strconv_numDigits : VFun :=
⟨.seq (.reg [⟨0, (some 2), .mv (.con (.int .i64 0)), none, []⟩])
 (.seq (.reg [⟨0, (some 4), .mv (.tmp 0), none, []⟩,
 ⟨1, (some 5), .call 79 [(.tmp 4)], none, []⟩,
 ⟨2, (some 6), .call 78 [(.tmp 5)], none, []⟩,
 ⟨3, (some 3), .mv (.tmp 6), none, []⟩])
 (.seq (.reg [⟨0, (some 7), .mv (.tmp 3), none, []⟩,
 ⟨1, (some 8), .mv (.tmp 0), none, []⟩,
 ⟨2, (some 9), .mv (.tmp 3), none, []⟩,
 ⟨3, (some 10), .idxA (some 20) 1 (.glo 2) (.tmp 9), none, []⟩,
 ⟨4, (some 11), .load none (.tmp 10), none, []⟩,
 ⟨5, (some 12), .bin .geq 130 false (.tmp 8) (.tmp 11), none, []⟩,
 ⟨6, (some 13), .call 80 [(.tmp 12)], none, []⟩,
 ⟨7, (some 14), .bin .add 3 false (.tmp 7) (.tmp 13), none, []⟩,
 ⟨8, (some 2), .mv (.tmp 14), none, []⟩])
 (.ret))),
 [.tmp 2]⟩
theorem p_internal_strconv_numDigits : prepFun Go.Proofs.Tryd.prog [1, 0, 2, 3] Go.Proofs.Tryd.f67 = some v_internal_strconv_numDigits := by kernel_rfl

def v_internal_strconv_formatBase10 : VFun :=
⟨.seq (.reg [⟨0, (some 17), .mv (.tmp 0), none, []⟩,
 ⟨1, (some 18), .len (.tmp 17), none, []⟩,
 ⟨2, (some 4), .mv (.tmp 18), none, []⟩])
 (.seq (.block 0
 (.loop
 (.seq (.seq (.reg [⟨0, (some 19), .mv (.tmp 4), none, []⟩,
 ⟨1, (some 20), .bin .geq 3 true (.tmp 19) (.con (.int .i64 8)), none, []⟩])
 (.cond (.tmp 20)
 (.skip)
 (.exit 0)))
 (.block 1
 (.seq (.reg [⟨0, (some 21), .mv (.tmp 1), none, []⟩,
 ⟨1, (some 22), .bin .rem 130 true (.tmp 21) (.con (.int .u64 100000000)), none, []⟩,
 ⟨2, (some 23), .conv 130 149 (.tmp 22), none, []⟩,
 ⟨3, (some 5), .mv (.tmp 23), none, []⟩])
 (.seq (.reg [⟨0, (some 24), .mv (.tmp 1), none, []⟩,
 ⟨1, (some 25), .bin .quo 130 true (.tmp 24) (.con (.int .u64 100000000)), none, []⟩,
 ⟨2, (some 1), .mv (.tmp 25), none, []⟩])
 (.seq (.reg [⟨0, (some 26), .mv (.tmp 5), none, []⟩,
 ⟨1, (some 27), .bin .quo 149 true (.tmp 26) (.con (.int .u32 10000)), none, []⟩,
 ⟨2, (some 28), .mv (.tmp 5), none, []⟩,
 ⟨3, (some 29), .bin .rem 149 true (.tmp 28) (.con (.int .u32 10000)), none, []⟩,
 ⟨4, (some 6), .mv (.tmp 27), none, []⟩,
 ⟨5, (some 7), .mv (.tmp 29), none, []⟩])
 (.seq (.reg [⟨0, (some 30), .mv (.tmp 7), none, []⟩,
 ⟨1, (some 31), .bin .quo 149 true (.tmp 30) (.con (.int .u32 100)), none, []⟩,
 ⟨2, (some 32), .bin .mul 149 true (.tmp 31) (.con (.int .u32 2)), none, []⟩,
 ⟨3, (some 33), .mv (.tmp 7), none, []⟩,
 ⟨4, (some 34), .bin .rem 149 true (.tmp 33) (.con (.int .u32 100)), none, []⟩,
 ⟨5, (some 35), .bin .mul 149 true (.tmp 34) (.con (.int .u32 2)), none, []⟩,
 ⟨6, (some 8), .mv (.tmp 32), none, []⟩,
 ⟨7, (some 9), .mv (.tmp 35), none, []⟩])
 (.seq (.reg [⟨0, (some 36), .mv (.tmp 6), none, []⟩,
 ⟨1, (some 37), .bin .quo 149 true (.tmp 36) (.con (.int .u32 100)), none, []⟩,
 ⟨2, (some 38), .bin .mul 149 true (.tmp 37) (.con (.int .u32 2)), none, []⟩,
 ⟨3, (some 39), .mv (.tmp 6), none, []⟩,
 ⟨4, (some 40), .bin .rem 149 true (.tmp 39) (.con (.int .u32 100)), none, []⟩,
 ⟨5, (some 41), .bin .mul 149 true (.tmp 40) (.con (.int .u32 2)), none, []⟩,
 ⟨6, (some 10), .mv (.tmp 38), none, []⟩,
 ⟨7, (some 11), .mv (.tmp 41), none, []⟩])
 (.seq (.reg [⟨0, (some 42), .mv (.tmp 0), none, []⟩,
 ⟨1, (some 43), .mv (.tmp 4), none, []⟩,
 ⟨2, (some 44), .bin .sub 3 true (.tmp 43) (.con (.int .i64 1)), none, []⟩,
 ⟨3, (some 45), .mv (.tmp 0), none, []⟩,
 ⟨4, (some 46), .mv (.tmp 4), none, []⟩,
 ⟨5, (some 47), .bin .sub 3 true (.tmp 46) (.con (.int .i64 2)), none, []⟩,
 ⟨6, (some 48), .mv (.tmp 9), none, []⟩,
 ⟨7, (some 49), .bin .add 149 true (.tmp 48) (.con (.int .u32 1)), none, []⟩,
 ⟨8, (some 50), .idxS 9 (.con (.string ⟨#[48, 48, 48, 49, 48, 50, 48, 51, 48, 52, 48, 53, 48, 54, 48, 55, 48, 56, 48, 57, 49, 48, 49, 49, 49, 50, 49, 51, 49, 52, 49, 53, 49, 54, 49, 55, 49, 56, 49, 57, 50, 48, 50, 49, 50, 50, 50, 51, 50, 52, 50, 53, 50, 54, 50, 55, 50, 56, 50, 57, 51, 48, 51, 49, 51, 50, 51, 51, 51, 52, 51, 53, 51, 54, 51, 55, 51, 56, 51, 57, 52, 48, 52, 49, 52, 50, 52, 51, 52, 52, 52, 53, 52, 54, 52, 55, 52, 56, 52, 57, 53, 48, 53, 49, 53, 50, 53, 51, 53, 52, 53, 53, 53, 54, 53, 55, 53, 56, 53, 57, 54, 48, 54, 49, 54, 50, 54, 51, 54, 52, 54, 53, 54, 54, 54, 55, 54, 56, 54, 57, 55, 48, 55, 49, 55, 50, 55, 51, 55, 52, 55, 53, 55, 54, 55, 55, 55, 56, 55, 57, 56, 48, 56, 49, 56, 50, 56, 51, 56, 52, 56, 53, 56, 54, 56, 55, 56, 56, 56, 57, 57, 48, 57, 49, 57, 50, 57, 51, 57, 52, 57, 53, 57, 54, 57, 55, 57, 56, 57, 57]⟩)) (.tmp 49), none, []⟩,
 ⟨9, (some 51), .mv (.tmp 9), none, []⟩,
 ⟨10, (some 52), .idxS 9 (.con (.string ⟨#[48, 48, 48, 49, 48, 50, 48, 51, 48, 52, 48, 53, 48, 54, 48, 55, 48, 56, 48, 57, 49, 48, 49, 49, 49, 50, 49, 51, 49, 52, 49, 53, 49, 54, 49, 55, 49, 56, 49, 57, 50, 48, 50, 49, 50, 50, 50, 51, 50, 52, 50, 53, 50, 54, 50, 55, 50, 56, 50, 57, 51, 48, 51, 49, 51, 50, 51, 51, 51, 52, 51, 53, 51, 54, 51, 55, 51, 56, 51, 57, 52, 48, 52, 49, 52, 50, 52, 51, 52, 52, 52, 53, 52, 54, 52, 55, 52, 56, 52, 57, 53, 48, 53, 49, 53, 50, 53, 51, 53, 52, 53, 53, 53, 54, 53, 55, 53, 56, 53, 57, 54, 48, 54, 49, 54, 50, 54, 51, 54, 52, 54, 53, 54, 54, 54, 55, 54, 56, 54, 57, 55, 48, 55, 49, 55, 50, 55, 51, 55, 52, 55, 53, 55, 54, 55, 55, 55, 56, 55, 57, 56, 48, 56, 49, 56, 50, 56, 51, 56, 52, 56, 53, 56, 54, 56, 55, 56, 56, 56, 57, 57, 48, 57, 49, 57, 50, 57, 51, 57, 52, 57, 53, 57, 54, 57, 55, 57, 56, 57, 57]⟩)) (.tmp 51), none, []⟩,
 ⟨11, (some 53), .idxA none 1 (.tmp 42) (.tmp 44), none, []⟩,
 ⟨12, none, .store 1 (.tmp 53) (.tmp 50), none, []⟩,
 ⟨13, (some 54), .idxA none 1 (.tmp 45) (.tmp 47), none, []⟩,
 ⟨14, none, .store 1 (.tmp 54) (.tmp 52), none, []⟩])
 (.seq (.reg [⟨0, (some 55), .mv (.tmp 0), none, []⟩,
 ⟨1, (some 56), .mv (.tmp 4), none, []⟩,
 ⟨2, (some 57), .bin .sub 3 true (.tmp 56) (.con (.int .i64 3)), none, []⟩,
 ⟨3, (some 58), .mv (.tmp 0), none, []⟩,
 ⟨4, (some 59), .mv (.tmp 4), none, []⟩,
 ⟨5, (some 60), .bin .sub 3 true (.tmp 59) (.con (.int .i64 4)), none, []⟩,
 ⟨6, (some 61), .mv (.tmp 8), none, []⟩,
 ⟨7, (some 62), .bin .add 149 true (.tmp 61) (.con (.int .u32 1)), none, []⟩,
 ⟨8, (some 63), .idxS 9 (.con (.string ⟨#[48, 48, 48, 49, 48, 50, 48, 51, 48, 52, 48, 53, 48, 54, 48, 55, 48, 56, 48, 57, 49, 48, 49, 49, 49, 50, 49, 51, 49, 52, 49, 53, 49, 54, 49, 55, 49, 56, 49, 57, 50, 48, 50, 49, 50, 50, 50, 51, 50, 52, 50, 53, 50, 54, 50, 55, 50, 56, 50, 57, 51, 48, 51, 49, 51, 50, 51, 51, 51, 52, 51, 53, 51, 54, 51, 55, 51, 56, 51, 57, 52, 48, 52, 49, 52, 50, 52, 51, 52, 52, 52, 53, 52, 54, 52, 55, 52, 56, 52, 57, 53, 48, 53, 49, 53, 50, 53, 51, 53, 52, 53, 53, 53, 54, 53, 55, 53, 56, 53, 57, 54, 48, 54, 49, 54, 50, 54, 51, 54, 52, 54, 53, 54, 54, 54, 55, 54, 56, 54, 57, 55, 48, 55, 49, 55, 50, 55, 51, 55, 52, 55, 53, 55, 54, 55, 55, 55, 56, 55, 57, 56, 48, 56, 49, 56, 50, 56, 51, 56, 52, 56, 53, 56, 54, 56, 55, 56, 56, 56, 57, 57, 48, 57, 49, 57, 50, 57, 51, 57, 52, 57, 53, 57, 54, 57, 55, 57, 56, 57, 57]⟩)) (.tmp 62), none, []⟩,
 ⟨9, (some 64), .mv (.tmp 8), none, []⟩,
 ⟨10, (some 65), .idxS 9 (.con (.string ⟨#[48, 48, 48, 49, 48, 50, 48, 51, 48, 52, 48, 53, 48, 54, 48, 55, 48, 56, 48, 57, 49, 48, 49, 49, 49, 50, 49, 51, 49, 52, 49, 53, 49, 54, 49, 55, 49, 56, 49, 57, 50, 48, 50, 49, 50, 50, 50, 51, 50, 52, 50, 53, 50, 54, 50, 55, 50, 56, 50, 57, 51, 48, 51, 49, 51, 50, 51, 51, 51, 52, 51, 53, 51, 54, 51, 55, 51, 56, 51, 57, 52, 48, 52, 49, 52, 50, 52, 51, 52, 52, 52, 53, 52, 54, 52, 55, 52, 56, 52, 57, 53, 48, 53, 49, 53, 50, 53, 51, 53, 52, 53, 53, 53, 54, 53, 55, 53, 56, 53, 57, 54, 48, 54, 49, 54, 50, 54, 51, 54, 52, 54, 53, 54, 54, 54, 55, 54, 56, 54, 57, 55, 48, 55, 49, 55, 50, 55, 51, 55, 52, 55, 53, 55, 54, 55, 55, 55, 56, 55, 57, 56, 48, 56, 49, 56, 50, 56, 51, 56, 52, 56, 53, 56, 54, 56, 55, 56, 56, 56, 57, 57, 48, 57, 49, 57, 50, 57, 51, 57, 52, 57, 53, 57, 54, 57, 55, 57, 56, 57, 57]⟩)) (.tmp 64), none, []⟩,
 ⟨11, (some 66), .idxA none 1 (.tmp 55) (.tmp 57), none, []⟩,
 ⟨12, none, .store 1 (.tmp 66) (.tmp 63), none, []⟩,
 ⟨13, (some 67), .idxA none 1 (.tmp 58) (.tmp 60), none, []⟩,
 ⟨14, none, .store 1 (.tmp 67) (.tmp 65), none, []⟩])
 (.seq (.reg [⟨0, (some 68), .mv (.tmp 0), none, []⟩,
 ⟨1, (some 69), .mv (.tmp 4), none, []⟩,
 ⟨2, (some 70), .bin .sub 3 true (.tmp 69) (.con (.int .i64 5)), none, []⟩,
 ⟨3, (some 71), .mv (.tmp 0), none, []⟩,
 ⟨4, (some 72), .mv (.tmp 4), none, []⟩,
 ⟨5, (some 73), .bin .sub 3 true (.tmp 72) (.con (.int .i64 6)), none, []⟩,
 ⟨6, (some 74), .mv (.tmp 11), none, []⟩,
 ⟨7, (some 75), .bin .add 149 true (.tmp 74) (.con (.int .u32 1)), none, []⟩,
 ⟨8, (some 76), .idxS 9 (.con (.string ⟨#[48, 48, 48, 49, 48, 50, 48, 51, 48, 52, 48, 53, 48, 54, 48, 55, 48, 56, 48, 57, 49, 48, 49, 49, 49, 50, 49, 51, 49, 52, 49, 53, 49, 54, 49, 55, 49, 56, 49, 57, 50, 48, 50, 49, 50, 50, 50, 51, 50, 52, 50, 53, 50, 54, 50, 55, 50, 56, 50, 57, 51, 48, 51, 49, 51, 50, 51, 51, 51, 52, 51, 53, 51, 54, 51, 55, 51, 56, 51, 57, 52, 48, 52, 49, 52, 50, 52, 51, 52, 52, 52, 53, 52, 54, 52, 55, 52, 56, 52, 57, 53, 48, 53, 49, 53, 50, 53, 51, 53, 52, 53, 53, 53, 54, 53, 55, 53, 56, 53, 57, 54, 48, 54, 49, 54, 50, 54, 51, 54, 52, 54, 53, 54, 54, 54, 55, 54, 56, 54, 57, 55, 48, 55, 49, 55, 50, 55, 51, 55, 52, 55, 53, 55, 54, 55, 55, 55, 56, 55, 57, 56, 48, 56, 49, 56, 50, 56, 51, 56, 52, 56, 53, 56, 54, 56, 55, 56, 56, 56, 57, 57, 48, 57, 49, 57, 50, 57, 51, 57, 52, 57, 53, 57, 54, 57, 55, 57, 56, 57, 57]⟩)) (.tmp 75), none, []⟩,
 ⟨9, (some 77), .mv (.tmp 11), none, []⟩,
 ⟨10, (some 78), .idxS 9 (.con (.string ⟨#[48, 48, 48, 49, 48, 50, 48, 51, 48, 52, 48, 53, 48, 54, 48, 55, 48, 56, 48, 57, 49, 48, 49, 49, 49, 50, 49, 51, 49, 52, 49, 53, 49, 54, 49, 55, 49, 56, 49, 57, 50, 48, 50, 49, 50, 50, 50, 51, 50, 52, 50, 53, 50, 54, 50, 55, 50, 56, 50, 57, 51, 48, 51, 49, 51, 50, 51, 51, 51, 52, 51, 53, 51, 54, 51, 55, 51, 56, 51, 57, 52, 48, 52, 49, 52, 50, 52, 51, 52, 52, 52, 53, 52, 54, 52, 55, 52, 56, 52, 57, 53, 48, 53, 49, 53, 50, 53, 51, 53, 52, 53, 53, 53, 54, 53, 55, 53, 56, 53, 57, 54, 48, 54, 49, 54, 50, 54, 51, 54, 52, 54, 53, 54, 54, 54, 55, 54, 56, 54, 57, 55, 48, 55, 49, 55, 50, 55, 51, 55, 52, 55, 53, 55, 54, 55, 55, 55, 56, 55, 57, 56, 48, 56, 49, 56, 50, 56, 51, 56, 52, 56, 53, 56, 54, 56, 55, 56, 56, 56, 57, 57, 48, 57, 49, 57, 50, 57, 51, 57, 52, 57, 53, 57, 54, 57, 55, 57, 56, 57, 57]⟩)) (.tmp 77), none, []⟩,
 ⟨11, (some 79), .idxA none 1 (.tmp 68) (.tmp 70), none, []⟩,
 ⟨12, none, .store 1 (.tmp 79) (.tmp 76), none, []⟩,
 ⟨13, (some 80), .idxA none 1 (.tmp 71) (.tmp 73), none, []⟩,
 ⟨14, none, .store 1 (.tmp 80) (.tmp 78), none, []⟩])
 (.seq (.reg [⟨0, (some 81), .mv (.tmp 0), none, []⟩,
 ⟨1, (some 82), .mv (.tmp 4), none, []⟩,
 ⟨2, (some 83), .bin .sub 3 true (.tmp 82) (.con (.int .i64 7)), none, []⟩,
 ⟨3, (some 84), .mv (.tmp 0), none, []⟩,
 ⟨4, (some 85), .mv (.tmp 4), none, []⟩,
 ⟨5, (some 86), .bin .sub 3 true (.tmp 85) (.con (.int .i64 8)), none, []⟩,
 ⟨6, (some 87), .mv (.tmp 10), none, []⟩,
 ⟨7, (some 88), .bin .add 149 true (.tmp 87) (.con (.int .u32 1)), none, []⟩,
 ⟨8, (some 89), .idxS 9 (.con (.string ⟨#[48, 48, 48, 49, 48, 50, 48, 51, 48, 52, 48, 53, 48, 54, 48, 55, 48, 56, 48, 57, 49, 48, 49, 49, 49, 50, 49, 51, 49, 52, 49, 53, 49, 54, 49, 55, 49, 56, 49, 57, 50, 48, 50, 49, 50, 50, 50, 51, 50, 52, 50, 53, 50, 54, 50, 55, 50, 56, 50, 57, 51, 48, 51, 49, 51, 50, 51, 51, 51, 52, 51, 53, 51, 54, 51, 55, 51, 56, 51, 57, 52, 48, 52, 49, 52, 50, 52, 51, 52, 52, 52, 53, 52, 54, 52, 55, 52, 56, 52, 57, 53, 48, 53, 49, 53, 50, 53, 51, 53, 52, 53, 53, 53, 54, 53, 55, 53, 56, 53, 57, 54, 48, 54, 49, 54, 50, 54, 51, 54, 52, 54, 53, 54, 54, 54, 55, 54, 56, 54, 57, 55, 48, 55, 49, 55, 50, 55, 51, 55, 52, 55, 53, 55, 54, 55, 55, 55, 56, 55, 57, 56, 48, 56, 49, 56, 50, 56, 51, 56, 52, 56, 53, 56, 54, 56, 55, 56, 56, 56, 57, 57, 48, 57, 49, 57, 50, 57, 51, 57, 52, 57, 53, 57, 54, 57, 55, 57, 56, 57, 57]⟩)) (.tmp 88), none, []⟩,
 ⟨9, (some 90), .mv (.tmp 10), none, []⟩,
 ⟨10, (some 91), .idxS 9 (.con (.string ⟨#[48, 48, 48, 49, 48, 50, 48, 51, 48, 52, 48, 53, 48, 54, 48, 55, 48, 56, 48, 57, 49, 48, 49, 49, 49, 50, 49, 51, 49, 52, 49, 53, 49, 54, 49, 55, 49, 56, 49, 57, 50, 48, 50, 49, 50, 50, 50, 51, 50, 52, 50, 53, 50, 54, 50, 55, 50, 56, 50, 57, 51, 48, 51, 49, 51, 50, 51, 51, 51, 52, 51, 53, 51, 54, 51, 55, 51, 56, 51, 57, 52, 48, 52, 49, 52, 50, 52, 51, 52, 52, 52, 53, 52, 54, 52, 55, 52, 56, 52, 57, 53, 48, 53, 49, 53, 50, 53, 51, 53, 52, 53, 53, 53, 54, 53, 55, 53, 56, 53, 57, 54, 48, 54, 49, 54, 50, 54, 51, 54, 52, 54, 53, 54, 54, 54, 55, 54, 56, 54, 57, 55, 48, 55, 49, 55, 50, 55, 51, 55, 52, 55, 53, 55, 54, 55, 55, 55, 56, 55, 57, 56, 48, 56, 49, 56, 50, 56, 51, 56, 52, 56, 53, 56, 54, 56, 55, 56, 56, 56, 57, 57, 48, 57, 49, 57, 50, 57, 51, 57, 52, 57, 53, 57, 54, 57, 55, 57, 56, 57, 57]⟩)) (.tmp 90), none, []⟩,
 ⟨11, (some 92), .idxA none 1 (.tmp 81) (.tmp 83), none, []⟩,
 ⟨12, none, .store 1 (.tmp 92) (.tmp 89), none, []⟩,
 ⟨13, (some 93), .idxA none 1 (.tmp 84) (.tmp 86), none, []⟩,
 ⟨14, none, .store 1 (.tmp 93) (.tmp 91), none, []⟩])
 (.reg [⟨0, (some 94), .mv (.tmp 4), none, []⟩,
 ⟨1, (some 95), .bin .sub 3 true (.tmp 94) (.con (.int .i64 8)), none, []⟩,
 ⟨2, (some 4), .mv (.tmp 95), none, []⟩]))))))))))))))
 (.seq (.reg [⟨0, (some 96), .mv (.tmp 1), none, []⟩,
 ⟨1, (some 97), .conv 130 149 (.tmp 96), none, []⟩,
 ⟨2, (some 12), .mv (.tmp 97), none, []⟩])
 (.seq (.seq (.reg [⟨0, (some 98), .mv (.tmp 4), none, []⟩,
 ⟨1, (some 99), .bin .geq 3 true (.tmp 98) (.con (.int .i64 4)), none, []⟩])
 (.cond (.tmp 99)
 (.seq (.reg [⟨0, (some 100), .mv (.tmp 12), none, []⟩,
 ⟨1, (some 101), .bin .rem 149 true (.tmp 100) (.con (.int .u32 10000)), none, []⟩,
 ⟨2, (some 13), .mv (.tmp 101), none, []⟩])
 (.seq (.reg [⟨0, (some 102), .mv (.tmp 12), none, []⟩,
 ⟨1, (some 103), .bin .quo 149 true (.tmp 102) (.con (.int .u32 10000)), none, []⟩,
 ⟨2, (some 12), .mv (.tmp 103), none, []⟩])
 (.seq (.reg [⟨0, (some 104), .mv (.tmp 13), none, []⟩,
 ⟨1, (some 105), .bin .quo 149 true (.tmp 104) (.con (.int .u32 100)), none, []⟩,
 ⟨2, (some 106), .bin .mul 149 true (.tmp 105) (.con (.int .u32 2)), none, []⟩,
 ⟨3, (some 107), .mv (.tmp 13), none, []⟩,
 ⟨4, (some 108), .bin .rem 149 true (.tmp 107) (.con (.int .u32 100)), none, []⟩,
 ⟨5, (some 109), .bin .mul 149 true (.tmp 108) (.con (.int .u32 2)), none, []⟩,
 ⟨6, (some 14), .mv (.tmp 106), none, []⟩,
 ⟨7, (some 15), .mv (.tmp 109), none, []⟩])
 (.seq (.reg [⟨0, (some 110), .mv (.tmp 0), none, []⟩,
 ⟨1, (some 111), .mv (.tmp 4), none, []⟩,
 ⟨2, (some 112), .bin .sub 3 true (.tmp 111) (.con (.int .i64 1)), none, []⟩,
 ⟨3, (some 113), .mv (.tmp 0), none, []⟩,
 ⟨4, (some 114), .mv (.tmp 4), none, []⟩,
 ⟨5, (some 115), .bin .sub 3 true (.tmp 114) (.con (.int .i64 2)), none, []⟩,
 ⟨6, (some 116), .mv (.tmp 15), none, []⟩,
 ⟨7, (some 117), .bin .add 149 true (.tmp 116) (.con (.int .u32 1)), none, []⟩,
 ⟨8, (some 118), .idxS 9 (.con (.string ⟨#[48, 48, 48, 49, 48, 50, 48, 51, 48, 52, 48, 53, 48, 54, 48, 55, 48, 56, 48, 57, 49, 48, 49, 49, 49, 50, 49, 51, 49, 52, 49, 53, 49, 54, 49, 55, 49, 56, 49, 57, 50, 48, 50, 49, 50, 50, 50, 51, 50, 52, 50, 53, 50, 54, 50, 55, 50, 56, 50, 57, 51, 48, 51, 49, 51, 50, 51, 51, 51, 52, 51, 53, 51, 54, 51, 55, 51, 56, 51, 57, 52, 48, 52, 49, 52, 50, 52, 51, 52, 52, 52, 53, 52, 54, 52, 55, 52, 56, 52, 57, 53, 48, 53, 49, 53, 50, 53, 51, 53, 52, 53, 53, 53, 54, 53, 55, 53, 56, 53, 57, 54, 48, 54, 49, 54, 50, 54, 51, 54, 52, 54, 53, 54, 54, 54, 55, 54, 56, 54, 57, 55, 48, 55, 49, 55, 50, 55, 51, 55, 52, 55, 53, 55, 54, 55, 55, 55, 56, 55, 57, 56, 48, 56, 49, 56, 50, 56, 51, 56, 52, 56, 53, 56, 54, 56, 55, 56, 56, 56, 57, 57, 48, 57, 49, 57, 50, 57, 51, 57, 52, 57, 53, 57, 54, 57, 55, 57, 56, 57, 57]⟩)) (.tmp 117), none, []⟩,
 ⟨9, (some 119), .mv (.tmp 15), none, []⟩,
 ⟨10, (some 120), .idxS 9 (.con (.string ⟨#[48, 48, 48, 49, 48, 50, 48, 51, 48, 52, 48, 53, 48, 54, 48, 55, 48, 56, 48, 57, 49, 48, 49, 49, 49, 50, 49, 51, 49, 52, 49, 53, 49, 54, 49, 55, 49, 56, 49, 57, 50, 48, 50, 49, 50, 50, 50, 51, 50, 52, 50, 53, 50, 54, 50, 55, 50, 56, 50, 57, 51, 48, 51, 49, 51, 50, 51, 51, 51, 52, 51, 53, 51, 54, 51, 55, 51, 56, 51, 57, 52, 48, 52, 49, 52, 50, 52, 51, 52, 52, 52, 53, 52, 54, 52, 55, 52, 56, 52, 57, 53, 48, 53, 49, 53, 50, 53, 51, 53, 52, 53, 53, 53, 54, 53, 55, 53, 56, 53, 57, 54, 48, 54, 49, 54, 50, 54, 51, 54, 52, 54, 53, 54, 54, 54, 55, 54, 56, 54, 57, 55, 48, 55, 49, 55, 50, 55, 51, 55, 52, 55, 53, 55, 54, 55, 55, 55, 56, 55, 57, 56, 48, 56, 49, 56, 50, 56, 51, 56, 52, 56, 53, 56, 54, 56, 55, 56, 56, 56, 57, 57, 48, 57, 49, 57, 50, 57, 51, 57, 52, 57, 53, 57, 54, 57, 55, 57, 56, 57, 57]⟩)) (.tmp 119), none, []⟩,
 ⟨11, (some 121), .idxA none 1 (.tmp 110) (.tmp 112), none, []⟩,
 ⟨12, none, .store 1 (.tmp 121) (.tmp 118), none, []⟩,
 ⟨13, (some 122), .idxA none 1 (.tmp 113) (.tmp 115), none, []⟩,
 ⟨14, none, .store 1 (.tmp 122) (.tmp 120), none, []⟩])
 (.seq (.reg [⟨0, (some 123), .mv (.tmp 0), none, []⟩,
 ⟨1, (some 124), .mv (.tmp 4), none, []⟩,
 ⟨2, (some 125), .bin .sub 3 true (.tmp 124) (.con (.int .i64 3)), none, []⟩,
 ⟨3, (some 126), .mv (.tmp 0), none, []⟩,
 ⟨4, (some 127), .mv (.tmp 4), none, []⟩,
 ⟨5, (some 128), .bin .sub 3 true (.tmp 127) (.con (.int .i64 4)), none, []⟩,
 ⟨6, (some 129), .mv (.tmp 14), none, []⟩,
 ⟨7, (some 130), .bin .add 149 true (.tmp 129) (.con (.int .u32 1)), none, []⟩,
 ⟨8, (some 131), .idxS 9 (.con (.string ⟨#[48, 48, 48, 49, 48, 50, 48, 51, 48, 52, 48, 53, 48, 54, 48, 55, 48, 56, 48, 57, 49, 48, 49, 49, 49, 50, 49, 51, 49, 52, 49, 53, 49, 54, 49, 55, 49, 56, 49, 57, 50, 48, 50, 49, 50, 50, 50, 51, 50, 52, 50, 53, 50, 54, 50, 55, 50, 56, 50, 57, 51, 48, 51, 49, 51, 50, 51, 51, 51, 52, 51, 53, 51, 54, 51, 55, 51, 56, 51, 57, 52, 48, 52, 49, 52, 50, 52, 51, 52, 52, 52, 53, 52, 54, 52, 55, 52, 56, 52, 57, 53, 48, 53, 49, 53, 50, 53, 51, 53, 52, 53, 53, 53, 54, 53, 55, 53, 56, 53, 57, 54, 48, 54, 49, 54, 50, 54, 51, 54, 52, 54, 53, 54, 54, 54, 55, 54, 56, 54, 57, 55, 48, 55, 49, 55, 50, 55, 51, 55, 52, 55, 53, 55, 54, 55, 55, 55, 56, 55, 57, 56, 48, 56, 49, 56, 50, 56, 51, 56, 52, 56, 53, 56, 54, 56, 55, 56, 56, 56, 57, 57, 48, 57, 49, 57, 50, 57, 51, 57, 52, 57, 53, 57, 54, 57, 55, 57, 56, 57, 57]⟩)) (.tmp 130), none, []⟩,
 ⟨9, (some 132), .mv (.tmp 14), none, []⟩,
 ⟨10, (some 133), .idxS 9 (.con (.string ⟨#[48, 48, 48, 49, 48, 50, 48, 51, 48, 52, 48, 53, 48, 54, 48, 55, 48, 56, 48, 57, 49, 48, 49, 49, 49, 50, 49, 51, 49, 52, 49, 53, 49, 54, 49, 55, 49, 56, 49, 57, 50, 48, 50, 49, 50, 50, 50, 51, 50, 52, 50, 53, 50, 54, 50, 55, 50, 56, 50, 57, 51, 48, 51, 49, 51, 50, 51, 51, 51, 52, 51, 53, 51, 54, 51, 55, 51, 56, 51, 57, 52, 48, 52, 49, 52, 50, 52, 51, 52, 52, 52, 53, 52, 54, 52, 55, 52, 56, 52, 57, 53, 48, 53, 49, 53, 50, 53, 51, 53, 52, 53, 53, 53, 54, 53, 55, 53, 56, 53, 57, 54, 48, 54, 49, 54, 50, 54, 51, 54, 52, 54, 53, 54, 54, 54, 55, 54, 56, 54, 57, 55, 48, 55, 49, 55, 50, 55, 51, 55, 52, 55, 53, 55, 54, 55, 55, 55, 56, 55, 57, 56, 48, 56, 49, 56, 50, 56, 51, 56, 52, 56, 53, 56, 54, 56, 55, 56, 56, 56, 57, 57, 48, 57, 49, 57, 50, 57, 51, 57, 52, 57, 53, 57, 54, 57, 55, 57, 56, 57, 57]⟩)) (.tmp 132), none, []⟩,
 ⟨11, (some 134), .idxA none 1 (.tmp 123) (.tmp 125), none, []⟩,
 ⟨12, none, .store 1 (.tmp 134) (.tmp 131), none, []⟩,
 ⟨13, (some 135), .idxA none 1 (.tmp 126) (.tmp 128), none, []⟩,
 ⟨14, none, .store 1 (.tmp 135) (.tmp 133), none, []⟩])
 (.reg [⟨0, (some 136), .mv (.tmp 4), none, []⟩,
 ⟨1, (some 137), .bin .sub 3 true (.tmp 136) (.con (.int .i64 4)), none, []⟩,
 ⟨2, (some 4), .mv (.tmp 137), none, []⟩]))))))
 (.skip)))
 (.seq (.seq (.reg [⟨0, (some 138), .mv (.tmp 4), none, []⟩,
 ⟨1, (some 139), .bin .geq 3 true (.tmp 138) (.con (.int .i64 2)), none, []⟩])
 (.cond (.tmp 139)
 (.seq (.reg [⟨0, (some 140), .mv (.tmp 12), none, []⟩,
 ⟨1, (some 141), .bin .rem 149 true (.tmp 140) (.con (.int .u32 100)), none, []⟩,
 ⟨2, (some 142), .bin .mul 149 true (.tmp 141) (.con (.int .u32 2)), none, []⟩,
 ⟨3, (some 16), .mv (.tmp 142), none, []⟩])
 (.seq (.reg [⟨0, (some 143), .mv (.tmp 12), none, []⟩,
 ⟨1, (some 144), .bin .quo 149 true (.tmp 143) (.con (.int .u32 100)), none, []⟩,
 ⟨2, (some 12), .mv (.tmp 144), none, []⟩])
 (.seq (.reg [⟨0, (some 145), .mv (.tmp 0), none, []⟩,
 ⟨1, (some 146), .mv (.tmp 4), none, []⟩,
 ⟨2, (some 147), .bin .sub 3 true (.tmp 146) (.con (.int .i64 1)), none, []⟩,
 ⟨3, (some 148), .mv (.tmp 0), none, []⟩,
 ⟨4, (some 149), .mv (.tmp 4), none, []⟩,
 ⟨5, (some 150), .bin .sub 3 true (.tmp 149) (.con (.int .i64 2)), none, []⟩,
 ⟨6, (some 151), .mv (.tmp 16), none, []⟩,
 ⟨7, (some 152), .bin .add 149 true (.tmp 151) (.con (.int .u32 1)), none, []⟩,
 ⟨8, (some 153), .idxS 9 (.con (.string ⟨#[48, 48, 48, 49, 48, 50, 48, 51, 48, 52, 48, 53, 48, 54, 48, 55, 48, 56, 48, 57, 49, 48, 49, 49, 49, 50, 49, 51, 49, 52, 49, 53, 49, 54, 49, 55, 49, 56, 49, 57, 50, 48, 50, 49, 50, 50, 50, 51, 50, 52, 50, 53, 50, 54, 50, 55, 50, 56, 50, 57, 51, 48, 51, 49, 51, 50, 51, 51, 51, 52, 51, 53, 51, 54, 51, 55, 51, 56, 51, 57, 52, 48, 52, 49, 52, 50, 52, 51, 52, 52, 52, 53, 52, 54, 52, 55, 52, 56, 52, 57, 53, 48, 53, 49, 53, 50, 53, 51, 53, 52, 53, 53, 53, 54, 53, 55, 53, 56, 53, 57, 54, 48, 54, 49, 54, 50, 54, 51, 54, 52, 54, 53, 54, 54, 54, 55, 54, 56, 54, 57, 55, 48, 55, 49, 55, 50, 55, 51, 55, 52, 55, 53, 55, 54, 55, 55, 55, 56, 55, 57, 56, 48, 56, 49, 56, 50, 56, 51, 56, 52, 56, 53, 56, 54, 56, 55, 56, 56, 56, 57, 57, 48, 57, 49, 57, 50, 57, 51, 57, 52, 57, 53, 57, 54, 57, 55, 57, 56, 57, 57]⟩)) (.tmp 152), none, []⟩,
 ⟨9, (some 154), .mv (.tmp 16), none, []⟩,
 ⟨10, (some 155), .idxS 9 (.con (.string ⟨#[48, 48, 48, 49, 48, 50, 48, 51, 48, 52, 48, 53, 48, 54, 48, 55, 48, 56, 48, 57, 49, 48, 49, 49, 49, 50, 49, 51, 49, 52, 49, 53, 49, 54, 49, 55, 49, 56, 49, 57, 50, 48, 50, 49, 50, 50, 50, 51, 50, 52, 50, 53, 50, 54, 50, 55, 50, 56, 50, 57, 51, 48, 51, 49, 51, 50, 51, 51, 51, 52, 51, 53, 51, 54, 51, 55, 51, 56, 51, 57, 52, 48, 52, 49, 52, 50, 52, 51, 52, 52, 52, 53, 52, 54, 52, 55, 52, 56, 52, 57, 53, 48, 53, 49, 53, 50, 53, 51, 53, 52, 53, 53, 53, 54, 53, 55, 53, 56, 53, 57, 54, 48, 54, 49, 54, 50, 54, 51, 54, 52, 54, 53, 54, 54, 54, 55, 54, 56, 54, 57, 55, 48, 55, 49, 55, 50, 55, 51, 55, 52, 55, 53, 55, 54, 55, 55, 55, 56, 55, 57, 56, 48, 56, 49, 56, 50, 56, 51, 56, 52, 56, 53, 56, 54, 56, 55, 56, 56, 56, 57, 57, 48, 57, 49, 57, 50, 57, 51, 57, 52, 57, 53, 57, 54, 57, 55, 57, 56, 57, 57]⟩)) (.tmp 154), none, []⟩,
 ⟨11, (some 156), .idxA none 1 (.tmp 145) (.tmp 147), none, []⟩,
 ⟨12, none, .store 1 (.tmp 156) (.tmp 153), none, []⟩,
 ⟨13, (some 157), .idxA none 1 (.tmp 148) (.tmp 150), none, []⟩,
 ⟨14, none, .store 1 (.tmp 157) (.tmp 155), none, []⟩])
 (.reg [⟨0, (some 158), .mv (.tmp 4), none, []⟩,
 ⟨1, (some 159), .bin .sub 3 true (.tmp 158) (.con (.int .i64 2)), none, []⟩,
 ⟨2, (some 4), .mv (.tmp 159), none, []⟩]))))
 (.skip)))
 (.seq (.reg [⟨0, (some 160), .mv (.tmp 4), none, []⟩,
 ⟨1, (some 161), .bin .gtr 3 true (.tmp 160) (.con (.int .i64 0)), none, []⟩])
 (.cond (.tmp 161)
 (.reg [⟨0, (some 162), .mv (.tmp 0), none, []⟩,
 ⟨1, (some 163), .mv (.tmp 12), none, []⟩,
 ⟨2, (some 164), .bin .add 149 true (.con (.int .u32 48)) (.tmp 163), none, []⟩,
 ⟨3, (some 165), .conv 149 5 (.tmp 164), none, []⟩,
 ⟨4, (some 166), .idxA none 1 (.tmp 162) (.con (.int .i64 0)), none, []⟩,
 ⟨5, none, .store 1 (.tmp 166) (.tmp 165), none, []⟩])
 (.skip))))))),
 []⟩
theorem p_internal_strconv_formatBase10 : prepFun Go.Proofs.Tryd.prog [1, 0, 2, 3] Go.Proofs.Tryd.f68 = some v_internal_strconv_formatBase10 := by kernel_rfl

def v_internal_strconv_formatBits : VFun :=
⟨.seq (.reg [⟨0, (some 10), .mv (.con (.slice none 0 0)), none, []⟩,
 ⟨1, (some 11), .mv (.con (.string ⟨#[]⟩)), none, []⟩])
 (.seq (.seq (.reg [⟨0, (some 19), .mv (.tmp 2), none, []⟩,
 ⟨1, (some 20), .bin .lss 3 true (.tmp 19) (.con (.int .i64 2)), none, []⟩,
 ⟨2, (some 21), .mv (.tmp 20), none, []⟩,
 ⟨3, (some 22), .mv (.tmp 2), (some (21, false)), []⟩,
 ⟨4, (some 23), .bin .eql 3 true (.tmp 22) (.con (.int .i64 10)), (some (21, false)), []⟩,
 ⟨5, (some 24), .pick (.tmp 21) (.con (.bool true)) (.tmp 23), none, []⟩,
 ⟨6, (some 25), .mv (.tmp 24), none, []⟩,
 ⟨7, (some 26), .mv (.tmp 2), (some (25, false)), []⟩,
 ⟨8, (some 27), .bin .gtr 3 true (.tmp 26) (.con (.int .i64 36)), (some (25, false)), []⟩,
 ⟨9, (some 28), .pick (.tmp 25) (.con (.bool true)) (.tmp 27), none, []⟩])
 (.cond (.tmp 28)
 (.reg [⟨0, (some 29), .mkif 9 (.con (.string ⟨#[115, 116, 114, 99, 111, 110, 118, 58, 32, 105, 108, 108, 101, 103, 97, 108, 32, 65, 112, 112, 101, 110, 100, 73, 110, 116, 47, 70, 111, 114, 109, 97, 116, 73, 110, 116, 32, 98, 97, 115, 101]⟩)), none, []⟩,
 ⟨1, none, .panic (.tmp 29), none, []⟩])
 (.skip)))
 (.seq (.reg [⟨0, (some 12), .alloc [(.int .u8 0), (.int .u8 0), (.int .u8 0), (.int .u8 0), (.int .u8 0), (.int .u8 0), (.int .u8 0), (.int .u8 0), (.int .u8 0), (.int .u8 0), (.int .u8 0), (.int .u8 0), (.int .u8 0), (.int .u8 0), (.int .u8 0), (.int .u8 0), (.int .u8 0), (.int .u8 0), (.int .u8 0), (.int .u8 0), (.int .u8 0), (.int .u8 0), (.int .u8 0), (.int .u8 0), (.int .u8 0), (.int .u8 0), (.int .u8 0), (.int .u8 0), (.int .u8 0), (.int .u8 0), (.int .u8 0), (.int .u8 0), (.int .u8 0), (.int .u8 0), (.int .u8 0), (.int .u8 0), (.int .u8 0), (.int .u8 0), (.int .u8 0), (.int .u8 0), (.int .u8 0), (.int .u8 0), (.int .u8 0), (.int .u8 0), (.int .u8 0), (.int .u8 0), (.int .u8 0), (.int .u8 0), (.int .u8 0), (.int .u8 0), (.int .u8 0), (.int .u8 0), (.int .u8 0), (.int .u8 0), (.int .u8 0), (.int .u8 0), (.int .u8 0), (.int .u8 0), (.int .u8 0), (.int .u8 0), (.int .u8 0), (.int .u8 0), (.int .u8 0), (.int .u8 0), (.int .u8 0)], none, []⟩])
 (.seq (.reg [⟨0, (some 13), .mv (.con (.int .i64 65)), none, []⟩])
 (.seq (.seq (.reg [⟨0, (some 30), .mv (.tmp 3), none, []⟩])
 (.cond (.tmp 30)
 (.reg [⟨0, (some 31), .mv (.tmp 1), none, []⟩,
 ⟨1, (some 32), .un .neg (.tmp 31), none, []⟩,
 ⟨2, (some 1), .mv (.tmp 32), none, []⟩])
 (.skip)))
 (.seq (.seq (.reg [⟨0, (some 33), .mv (.tmp 2), none, []⟩,
 ⟨1, (some 34), .call 81 [(.tmp 33)], none, []⟩])
 (.cond (.tmp 34)
 (.seq (.reg [⟨0, (some 35), .mv (.tmp 2), none, []⟩,
 ⟨1, (some 36), .conv 3 44 (.tmp 35), none, []⟩,
 ⟨2, (some 37), .call 82 [(.tmp 36)], none, []⟩,
 ⟨3, (some 38), .conv 3 44 (.tmp 37), none, []⟩,
 ⟨4, (some 14), .mv (.tmp 38), none, []⟩])
 (.seq (.reg [⟨0, (some 39), .mv (.tmp 2), none, []⟩,
 ⟨1, (some 40), .conv 3 130 (.tmp 39), none, []⟩,
 ⟨2, (some 15), .mv (.tmp 40), none, []⟩])
 (.seq (.reg [⟨0, (some 41), .mv (.tmp 2), none, []⟩,
 ⟨1, (some 42), .conv 3 44 (.tmp 41), none, []⟩,
 ⟨2, (some 43), .bin .sub 44 true (.tmp 42) (.con (.int .u64 1)), none, []⟩,
 ⟨3, (some 16), .mv (.tmp 43), none, []⟩])
 (.seq (.block 0
 (.loop
 (.seq (.seq (.reg [⟨0, (some 44), .mv (.tmp 1), none, []⟩,
 ⟨1, (some 45), .mv (.tmp 15), none, []⟩,
 ⟨2, (some 46), .bin .geq 130 false (.tmp 44) (.tmp 45), none, []⟩])
 (.cond (.tmp 46)
 (.skip)
 (.exit 0)))
 (.block 1
 (.seq (.reg [⟨0, (some 47), .mv (.tmp 13), none, []⟩,
 ⟨1, (some 48), .bin .sub 3 true (.tmp 47) (.con (.int .i64 1)), none, []⟩,
 ⟨2, (some 13), .mv (.tmp 48), none, []⟩])
 (.seq (.reg [⟨0, (some 49), .mv (.tmp 13), none, []⟩,
 ⟨1, (some 50), .mv (.tmp 1), none, []⟩,
 ⟨2, (some 51), .mv (.tmp 16), none, []⟩,
 ⟨3, (some 52), .bin .and 44 false (.tmp 50) (.tmp 51), none, []⟩,
 ⟨4, (some 53), .idxS 9 (.con (.string ⟨#[48, 49, 50, 51, 52, 53, 54, 55, 56, 57, 97, 98, 99, 100, 101, 102, 103, 104, 105, 106, 107, 108, 109, 110, 111, 112, 113, 114, 115, 116, 117, 118, 119, 120, 121, 122]⟩)) (.tmp 52), none, []⟩,
 ⟨5, (some 54), .idxA (some 65) 1 (.tmp 12) (.tmp 49), none, []⟩,
 ⟨6, none, .store 1 (.tmp 54) (.tmp 53), none, []⟩])
 (.reg [⟨0, (some 55), .mv (.tmp 1), none, []⟩,
 ⟨1, (some 56), .mv (.tmp 14), none, []⟩,
 ⟨2, (some 57), .bin .shr 130 false (.tmp 55) (.tmp 56), none, []⟩,
 ⟨3, (some 1), .mv (.tmp 57), none, []⟩])))))))
 (.seq (.reg [⟨0, (some 58), .mv (.tmp 13), none, []⟩,
 ⟨1, (some 59), .bin .sub 3 true (.tmp 58) (.con (.int .i64 1)), none, []⟩,
 ⟨2, (some 13), .mv (.tmp 59), none, []⟩])
 (.reg [⟨0, (some 60), .mv (.tmp 13), none, []⟩,
 ⟨1, (some 61), .mv (.tmp 1), none, []⟩,
 ⟨2, (some 62), .idxS 9 (.con (.string ⟨#[48, 49, 50, 51, 52, 53, 54, 55, 56, 57, 97, 98, 99, 100, 101, 102, 103, 104, 105, 106, 107, 108, 109, 110, 111, 112, 113, 114, 115, 116, 117, 118, 119, 120, 121, 122]⟩)) (.tmp 61), none, []⟩,
 ⟨3, (some 63), .idxA (some 65) 1 (.tmp 12) (.tmp 60), none, []⟩,
 ⟨4, none, .store 1 (.tmp 63) (.tmp 62), none, []⟩]))))))
 (.seq (.reg [⟨0, (some 64), .mv (.tmp 2), none, []⟩,
 ⟨1, (some 65), .conv 3 130 (.tmp 64), none, []⟩,
 ⟨2, (some 17), .mv (.tmp 65), none, []⟩])
 (.seq (.block 2
 (.loop
 (.seq (.seq (.reg [⟨0, (some 66), .mv (.tmp 1), none, []⟩,
 ⟨1, (some 67), .mv (.tmp 17), none, []⟩,
 ⟨2, (some 68), .bin .geq 130 false (.tmp 66) (.tmp 67), none, []⟩])
 (.cond (.tmp 68)
 (.skip)
 (.exit 2)))
 (.block 3
 (.seq (.reg [⟨0, (some 69), .mv (.tmp 13), none, []⟩,
 ⟨1, (some 70), .bin .sub 3 true (.tmp 69) (.con (.int .i64 1)), none, []⟩,
 ⟨2, (some 13), .mv (.tmp 70), none, []⟩])
 (.seq (.reg [⟨0, (some 71), .mv (.tmp 1), none, []⟩,
 ⟨1, (some 72), .mv (.tmp 17), none, []⟩,
 ⟨2, (some 73), .bin .quo 130 false (.tmp 71) (.tmp 72), none, []⟩,
 ⟨3, (some 18), .mv (.tmp 73), none, []⟩])
 (.seq (.reg [⟨0, (some 74), .mv (.tmp 13), none, []⟩,
 ⟨1, (some 75), .mv (.tmp 1), none, []⟩,
 ⟨2, (some 76), .mv (.tmp 18), none, []⟩,
 ⟨3, (some 77), .mv (.tmp 17), none, []⟩,
 ⟨4, (some 78), .bin .mul 130 false (.tmp 76) (.tmp 77), none, []⟩,
 ⟨5, (some 79), .bin .sub 130 false (.tmp 75) (.tmp 78), none, []⟩,
 ⟨6, (some 80), .idxS 9 (.con (.string ⟨#[48, 49, 50, 51, 52, 53, 54, 55, 56, 57, 97, 98, 99, 100, 101, 102, 103, 104, 105, 106, 107, 108, 109, 110, 111, 112, 113, 114, 115, 116, 117, 118, 119, 120, 121, 122]⟩)) (.tmp 79), none, []⟩,
 ⟨7, (some 81), .idxA (some 65) 1 (.tmp 12) (.tmp 74), none, []⟩,
 ⟨8, none, .store 1 (.tmp 81) (.tmp 80), none, []⟩])
 (.reg [⟨0, (some 82), .mv (.tmp 18), none, []⟩,
 ⟨1, (some 1), .mv (.tmp 82), none, []⟩]))))))))
 (.seq (.reg [⟨0, (some 83), .mv (.tmp 13), none, []⟩,
 ⟨1, (some 84), .bin .sub 3 true (.tmp 83) (.con (.int .i64 1)), none, []⟩,
 ⟨2, (some 13), .mv (.tmp 84), none, []⟩])
 (.reg [⟨0, (some 85), .mv (.tmp 13), none, []⟩,
 ⟨1, (some 86), .mv (.tmp 1), none, []⟩,
 ⟨2, (some 87), .idxS 9 (.con (.string ⟨#[48, 49, 50, 51, 52, 53, 54, 55, 56, 57, 97, 98, 99, 100, 101, 102, 103, 104, 105, 106, 107, 108, 109, 110, 111, 112, 113, 114, 115, 116, 117, 118, 119, 120, 121, 122]⟩)) (.tmp 86), none, []⟩,
 ⟨3, (some 88), .idxA (some 65) 1 (.tmp 12) (.tmp 85), none, []⟩,
 ⟨4, none, .store 1 (.tmp 88) (.tmp 87), none, []⟩]))))))
 (.seq (.seq (.reg [⟨0, (some 89), .mv (.tmp 3), none, []⟩])
 (.cond (.tmp 89)
 (.seq (.reg [⟨0, (some 90), .mv (.tmp 13), none, []⟩,
 ⟨1, (some 91), .bin .sub 3 true (.tmp 90) (.con (.int .i64 1)), none, []⟩,
 ⟨2, (some 13), .mv (.tmp 91), none, []⟩])
 (.reg [⟨0, (some 92), .mv (.tmp 13), none, []⟩,
 ⟨1, (some 93), .idxA (some 65) 1 (.tmp 12) (.tmp 92), none, []⟩,
 ⟨2, none, .store 1 (.tmp 93) (.con (.int .u8 45)), none, []⟩]))
 (.skip)))
 (.seq (.seq (.reg [⟨0, (some 94), .mv (.tmp 4), none, []⟩])
 (.cond (.tmp 94)
 (.seq (.reg [⟨0, (some 95), .mv (.tmp 0), none, []⟩,
 ⟨1, (some 96), .mv (.tmp 13), none, []⟩,
 ⟨2, (some 97), .slice (some 65) 1 (.tmp 12) (some (.tmp 96)) none none, none, []⟩,
 ⟨3, (some 98), .append 1 1 (.tmp 95) (.tmp 97), none, []⟩,
 ⟨4, (some 10), .mv (.tmp 98), none, []⟩])
 (.ret))
 (.skip)))
 (.seq (.reg [⟨0, (some 99), .mv (.tmp 13), none, []⟩,
 ⟨1, (some 100), .slice (some 65) 1 (.tmp 12) (some (.tmp 99)) none none, none, []⟩,
 ⟨2, (some 101), .b2s (.tmp 100), none, []⟩,
 ⟨3, (some 11), .mv (.tmp 101), none, []⟩])
 (.ret))))))))),
 [.tmp 10, .tmp 11]⟩
theorem p_internal_strconv_formatBits : prepFun Go.Proofs.Tryd.prog [1, 0, 2, 3] Go.Proofs.Tryd.f69 = some v_internal_strconv_formatBits := by kernel_rfl

def v_slices_IndexFunc_int : VFun :=
⟨.seq (.reg [⟨0, (some 4), .mv (.con (.int .i64 0)), none, []⟩])
 (.seq (.seq (.reg [⟨0, (some 6), .mv (.tmp 0), none, []⟩,
 ⟨1, (some 7), .len (.tmp 6), none, []⟩,
 ⟨2, (some 8), .mv (.con (.int .i64 0)), none, []⟩])
 (.block 0
 (.loop
 (.seq (.reg [⟨0, (some 9), .bin .lss 3 false (.tmp 8) (.tmp 7), none, []⟩])
 (.seq (.cond (.tmp 9)
 (.skip)
 (.exit 0))
 (.seq (.block 1
 (.seq (.reg [⟨0, (some 10), .mv (.tmp 8), none, []⟩,
 ⟨1, (some 5), .mv (.tmp 10), none, []⟩])
 (.seq (.reg [⟨0, (some 11), .mv (.tmp 1), none, []⟩,
 ⟨1, (some 12), .mv (.tmp 0), none, []⟩,
 ⟨2, (some 13), .mv (.tmp 5), none, []⟩,
 ⟨3, (some 14), .idxA none 1 (.tmp 12) (.tmp 13), none, []⟩,
 ⟨4, (some 15), .load none (.tmp 14), none, []⟩,
 ⟨5, (some 16), .callv (.tmp 11) [(.tmp 15)], none, []⟩])
 (.cond (.tmp 16)
 (.seq (.reg [⟨0, (some 17), .mv (.tmp 5), none, []⟩,
 ⟨1, (some 4), .mv (.tmp 17), none, []⟩])
 (.ret))
 (.skip)))))
 (.reg [⟨0, (some 18), .bin .add 3 true (.tmp 8) (.con (.int .i64 1)), none, []⟩,
 ⟨1, (some 8), .mv (.tmp 18), none, []⟩])))))))
 (.seq (.reg [⟨0, (some 4), .mv (.con (.int .i64 (-1))), none, []⟩])
 (.ret))),
 [.tmp 4]⟩
theorem p_slices_IndexFunc_int : prepFun Go.Proofs.Tryd.prog [1, 0, 2, 3] Go.Proofs.Tryd.f70 = some v_slices_IndexFunc_int := by kernel_rfl

def v_code_checker_reg : VFun :=
⟨.reg [⟨0, (some 6), .mv (.tmp 0), none, []⟩,
 ⟨1, (some 7), .mv (.tmp 2), none, []⟩,
 ⟨2, (some 8), .un .not (.tmp 7), none, []⟩,
 ⟨3, (some 9), .mv (.tmp 8), none, []⟩,
 ⟨4, (some 10), .mv (.tmp 1), (some (9, false)), []⟩,
 ⟨5, (some 11), .mv (.tmp 0), (some (9, false)), []⟩,
 ⟨6, (some 12), .nilck (.tmp 11), (some (9, false)), []⟩,
 ⟨7, (some 13), .fieldA 0 (.tmp 12), (some (9, false)), []⟩,
 ⟨8, (some 14), .fieldA 2 (.tmp 13), (some (9, false)), []⟩,
 ⟨9, (some 15), .load none (.tmp 14), (some (9, false)), []⟩,
 ⟨10, (some 16), .call 34 [(.tmp 10), (.tmp 15)], (some (9, false)), []⟩,
 ⟨11, (some 17), .pick (.tmp 9) (.con (.bool true)) (.tmp 16), none, []⟩,
 ⟨12, (some 18), .call 54 [(.tmp 6), (.tmp 17), (.con (.int .i64 2))], none, []⟩],
 []⟩
theorem p_code_checker_reg : prepFun Go.Proofs.Tryd.prog [1, 0, 2, 3] Go.Proofs.Tryd.f71 = some v_code_checker_reg := by kernel_rfl

def v_internal_stringslite_Cut : VFun :=
⟨.seq (.reg [⟨0, (some 4), .mv (.con (.string ⟨#[]⟩)), none, []⟩,
 ⟨1, (some 5), .mv (.con (.string ⟨#[]⟩)), none, []⟩,
 ⟨2, (some 6), .mv (.con (.bool false)), none, []⟩])
 (.seq (.seq (.reg [⟨0, (some 8), .mv (.tmp 0), none, []⟩,
 ⟨1, (some 9), .mv (.tmp 1), none, []⟩,
 ⟨2, (some 10), .call 83 [(.tmp 8), (.tmp 9)], none, []⟩,
 ⟨3, (some 7), .mv (.tmp 10), none, []⟩])
 (.seq (.reg [⟨0, (some 11), .mv (.tmp 7), none, []⟩,
 ⟨1, (some 12), .bin .geq 3 true (.tmp 11) (.con (.int .i64 0)), none, []⟩])
 (.cond (.tmp 12)
 (.seq (.reg [⟨0, (some 13), .mv (.tmp 0), none, []⟩,
 ⟨1, (some 14), .mv (.tmp 7), none, []⟩,
 ⟨2, (some 15), .slS 9 (.tmp 13) none (some (.tmp 14)), none, []⟩,
 ⟨3, (some 16), .mv (.tmp 0), none, []⟩,
 ⟨4, (some 17), .mv (.tmp 7), none, []⟩,
 ⟨5, (some 18), .mv (.tmp 1), none, []⟩,
 ⟨6, (some 19), .bi .len [9] 3 [(.tmp 18)], none, []⟩,
 ⟨7, (some 20), .bin .add 3 false (.tmp 17) (.tmp 19), none, []⟩,
 ⟨8, (some 21), .slS 9 (.tmp 16) (some (.tmp 20)) none, none, []⟩,
 ⟨9, (some 4), .mv (.tmp 15), none, []⟩,
 ⟨10, (some 5), .mv (.tmp 21), none, []⟩,
 ⟨11, (some 6), .mv (.con (.bool true)), none, []⟩])
 (.ret))
 (.skip))))
 (.seq (.reg [⟨0, (some 22), .mv (.tmp 0), none, []⟩,
 ⟨1, (some 4), .mv (.tmp 22), none, []⟩,
 ⟨2, (some 5), .mv (.con (.string ⟨#[]⟩)), none, []⟩,
 ⟨3, (some 6), .mv (.con (.bool false)), none, []⟩])
 (.ret))),
 [.tmp 4, .tmp 5, .tmp 6]⟩
theorem p_internal_stringslite_Cut : prepFun Go.Proofs.Tryd.prog [1, 0, 2, 3] Go.Proofs.Tryd.f72 = some v_internal_stringslite_Cut := by kernel_rfl

def v_strings_genSplit : VFun :=
⟨.seq (.reg [⟨0, (some 8), .mv (.con (.slice none 0 0)), none, []⟩])
 (.seq (.seq (.reg [⟨0, (some 12), .mv (.tmp 3), none, []⟩,
 ⟨1, (some 13), .bin .eql 3 true (.tmp 12) (.con (.int .i64 0)), none, []⟩])
 (.cond (.tmp 13)
 (.seq (.reg [⟨0, (some 8), .mv (.con (.slice none 0 0)), none, []⟩])
 (.ret))
 (.skip)))
 (.seq (.seq (.reg [⟨0, (some 14), .mv (.tmp 1), none, []⟩,
 ⟨1, (some 15), .bin .eql 9 true (.tmp 14) (.con (.string ⟨#[]⟩)), none, []⟩])
 (.cond (.tmp 15)
 (.seq (.reg [⟨0, (some 16), .mv (.tmp 0), none, []⟩,
 ⟨1, (some 17), .mv (.tmp 3), none, []⟩,
 ⟨2, (some 18), .call 84 [(.tmp 16), (.tmp 17)], none, []⟩,
 ⟨3, (some 8), .mv (.tmp 18), none, []⟩])
 (.ret))
 (.skip)))
 (.seq (.seq (.reg [⟨0, (some 19), .mv (.tmp 3), none, []⟩,
 ⟨1, (some 20), .bin .lss 3 true (.tmp 19) (.con (.int .i64 0)), none, []⟩])
 (.cond (.tmp 20)
 (.reg [⟨0, (some 21), .mv (.tmp 0), none, []⟩,
 ⟨1, (some 22), .mv (.tmp 1), none, []⟩,
 ⟨2, (some 23), .call 85 [(.tmp 21), (.tmp 22)], none, []⟩,
 ⟨3, (some 24), .bin .add 3 true (.tmp 23) (.con (.int .i64 1)), none, []⟩,
 ⟨4, (some 3), .mv (.tmp 24), none, []⟩])
 (.skip)))
 (.seq (.reg [⟨0, (some 25), .mv (.tmp 3), none, []⟩,
 ⟨1, (some 26), .mv (.tmp 0), none, []⟩,
 ⟨2, (some 27), .bi .len [9] 3 [(.tmp 26)], none, []⟩,
 ⟨3, (some 28), .bin .add 3 true (.tmp 27) (.con (.int .i64 1)), none, []⟩,
 ⟨4, (some 29), .bi .min [3, 3] 3 [(.tmp 25), (.tmp 28)], none, []⟩,
 ⟨5, (some 3), .mv (.tmp 29), none, []⟩])
 (.seq (.reg [⟨0, (some 30), .mv (.tmp 3), none, []⟩,
 ⟨1, (some 31), .mksl 1 16 [(.string ⟨#[]⟩)] (.tmp 30) (.tmp 30), none, []⟩,
 ⟨2, (some 9), .mv (.tmp 31), none, []⟩])
 (.seq (.reg [⟨0, (some 32), .mv (.tmp 3), none, []⟩,
 ⟨1, (some 33), .bin .sub 3 true (.tmp 32) (.con (.int .i64 1)), none, []⟩,
 ⟨2, (some 3), .mv (.tmp 33), none, []⟩])
 (.seq (.reg [⟨0, (some 10), .mv (.con (.int .i64 0)), none, []⟩])
 (.seq (.block 0
 (.loop
 (.seq (.seq (.reg [⟨0, (some 34), .mv (.tmp 10), none, []⟩,
 ⟨1, (some 35), .mv (.tmp 3), none, []⟩,
 ⟨2, (some 36), .bin .lss 3 false (.tmp 34) (.tmp 35), none, []⟩])
 (.cond (.tmp 36)
 (.skip)
 (.exit 0)))
 (.block 1
 (.seq (.reg [⟨0, (some 37), .mv (.tmp 0), none, []⟩,
 ⟨1, (some 38), .mv (.tmp 1), none, []⟩,
 ⟨2, (some 39), .call 86 [(.tmp 37), (.tmp 38)], none, []⟩,
 ⟨3, (some 11), .mv (.tmp 39), none, []⟩])
 (.seq (.seq (.reg [⟨0, (some 40), .mv (.tmp 11), none, []⟩,
 ⟨1, (some 41), .bin .lss 3 true (.tmp 40) (.con (.int .i64 0)), none, []⟩])
 (.cond (.tmp 41)
 (.exit 0)
 (.skip)))
 (.seq (.reg [⟨0, (some 42), .mv (.tmp 9), none, []⟩,
 ⟨1, (some 43), .mv (.tmp 10), none, []⟩,
 ⟨2, (some 44), .mv (.tmp 0), none, []⟩,
 ⟨3, (some 45), .mv (.tmp 11), none, []⟩,
 ⟨4, (some 46), .mv (.tmp 2), none, []⟩,
 ⟨5, (some 47), .bin .add 3 false (.tmp 45) (.tmp 46), none, []⟩,
 ⟨6, (some 48), .slS 9 (.tmp 44) none (some (.tmp 47)), none, []⟩,
 ⟨7, (some 49), .idxA none 1 (.tmp 42) (.tmp 43), none, []⟩,
 ⟨8, none, .store 1 (.tmp 49) (.tmp 48), none, []⟩])
 (.seq (.reg [⟨0, (some 50), .mv (.tmp 0), none, []⟩,
 ⟨1, (some 51), .mv (.tmp 11), none, []⟩,
 ⟨2, (some 52), .mv (.tmp 1), none, []⟩,
 ⟨3, (some 53), .bi .len [9] 3 [(.tmp 52)], none, []⟩,
 ⟨4, (some 54), .bin .add 3 false (.tmp 51) (.tmp 53), none, []⟩,
 ⟨5, (some 55), .slS 9 (.tmp 50) (some (.tmp 54)) none, none, []⟩,
 ⟨6, (some 0), .mv (.tmp 55), none, []⟩])
 (.reg [⟨0, (some 56), .mv (.tmp 10), none, []⟩,
 ⟨1, (some 57), .bin .add 3 true (.tmp 56) (.con (.int .i64 1)), none, []⟩,
 ⟨2, (some 10), .mv (.tmp 57), none, []⟩])))))))))
 (.seq (.reg [⟨0, (some 58), .mv (.tmp 9), none, []⟩,
 ⟨1, (some 59), .mv (.tmp 10), none, []⟩,
 ⟨2, (some 60), .mv (.tmp 0), none, []⟩,
 ⟨3, (some 61), .idxA none 1 (.tmp 58) (.tmp 59), none, []⟩,
 ⟨4, none, .store 1 (.tmp 61) (.tmp 60), none, []⟩])
 (.seq (.reg [⟨0, (some 62), .mv (.tmp 9), none, []⟩,
 ⟨1, (some 63), .mv (.tmp 10), none, []⟩,
 ⟨2, (some 64), .bin .add 3 true (.tmp 63) (.con (.int .i64 1)), none, []⟩,
 ⟨3, (some 65), .slice none 1 (.tmp 62) none (some (.tmp 64)) none, none, []⟩,
 ⟨4, (some 8), .mv (.tmp 65), none, []⟩])
 (.ret))))))))))),
 [.tmp 8]⟩
theorem p_strings_genSplit : prepFun Go.Proofs.Tryd.prog [1, 0, 2, 3] Go.Proofs.Tryd.f73 = some v_strings_genSplit := by kernel_rfl

def v_word_Read : VFun :=
⟨.seq (.reg [⟨0, (some 2), .mv (.con (.int .i64 0)), none, []⟩,
 ⟨1, (some 3), .mv (.con (.int .i64 0)), none, []⟩])
 (.seq (.reg [⟨0, (some 7), .mv (.tmp 0), none, []⟩,
 ⟨1, (some 8), .call 87 [(.tmp 7), (.con (.int .i64 10)), (.con (.int .i64 64))], none, []⟩,
 ⟨2, (some 6), .mv (.tmp 8), none, []⟩,
 ⟨3, (some 9), .ext (.tmp 6) 0, none, []⟩,
 ⟨4, (some 10), .ext (.tmp 6) 1, none, []⟩,
 ⟨5, (some 4), .mv (.tmp 9), none, []⟩,
 ⟨6, (some 5), .mv (.tmp 10), none, []⟩])
 (.seq (.seq (.reg [⟨0, (some 11), .mv (.tmp 5), none, []⟩,
 ⟨1, (some 12), .bin .neq 60 true (.tmp 11) (.con .nilIface), none, []⟩,
 ⟨2, (some 13), .mv (.tmp 12), none, []⟩,
 ⟨3, (some 14), .mv (.tmp 4), (some (13, false)), []⟩,
 ⟨4, (some 15), .call 41 [(.tmp 14)], (some (13, false)), []⟩,
 ⟨5, (some 16), .mv (.tmp 0), (some (13, false)), []⟩,
 ⟨6, (some 17), .bin .neq 9 false (.tmp 15) (.tmp 16), (some (13, false)), []⟩,
 ⟨7, (some 18), .pick (.tmp 13) (.con (.bool true)) (.tmp 17), none, []⟩])
 (.cond (.tmp 18)
 (.seq (.reg [⟨0, (some 2), .mv (.con (.int .i64 0)), none, []⟩,
 ⟨1, (some 3), .mv (.con (.int .i64 4)), none, []⟩])
 (.ret))
 (.skip)))
 (.seq (.reg [⟨0, (some 19), .mv (.tmp 4), none, []⟩,
 ⟨1, (some 2), .mv (.tmp 19), none, []⟩,
 ⟨2, (some 3), .mv (.con (.int .i64 0)), none, []⟩])
 (.ret)))),
 [.tmp 2, .tmp 3]⟩
theorem p_word_Read : prepFun Go.Proofs.Tryd.prog [1, 0, 2, 3] Go.Proofs.Tryd.f74 = some v_word_Read := by kernel_rfl

def v_internal_stringslite_CutPrefix : VFun :=
⟨.seq (.reg [⟨0, (some 4), .mv (.con (.string ⟨#[]⟩)), none, []⟩,
 ⟨1, (some 5), .mv (.con (.bool false)), none, []⟩])
 (.seq (.seq (.reg [⟨0, (some 6), .mv (.tmp 0), none, []⟩,
 ⟨1, (some 7), .mv (.tmp 1), none, []⟩,
 ⟨2, (some 8), .call 88 [(.tmp 6), (.tmp 7)], none, []⟩,
 ⟨3, (some 9), .un .not (.tmp 8), none, []⟩])
 (.cond (.tmp 9)
 (.seq (.reg [⟨0, (some 10), .mv (.tmp 0), none, []⟩,
 ⟨1, (some 4), .mv (.tmp 10), none, []⟩,
 ⟨2, (some 5), .mv (.con (.bool false)), none, []⟩])
 (.ret))
 (.skip)))
 (.seq (.reg [⟨0, (some 11), .mv (.tmp 0), none, []⟩,
 ⟨1, (some 12), .mv (.tmp 1), none, []⟩,
 ⟨2, (some 13), .bi .len [9] 3 [(.tmp 12)], none, []⟩,
 ⟨3, (some 14), .slS 9 (.tmp 11) (some (.tmp 13)) none, none, []⟩,
 ⟨4, (some 4), .mv (.tmp 14), none, []⟩,
 ⟨5, (some 5), .mv (.con (.bool true)), none, []⟩])
 (.ret))),
 [.tmp 4, .tmp 5]⟩
theorem p_internal_stringslite_CutPrefix : prepFun Go.Proofs.Tryd.prog [1, 0, 2, 3] Go.Proofs.Tryd.f75 = some v_internal_stringslite_CutPrefix := by kernel_rfl

def v_slices_IndexFunc_form : VFun :=
⟨.seq (.reg [⟨0, (some 4), .mv (.con (.int .i64 0)), none, []⟩])
 (.seq (.seq (.reg [⟨0, (some 6), .mv (.tmp 0), none, []⟩,
 ⟨1, (some 7), .len (.tmp 6), none, []⟩,
 ⟨2, (some 8), .mv (.con (.int .i64 0)), none, []⟩])
 (.block 0
 (.loop
 (.seq (.reg [⟨0, (some 9), .bin .lss 3 false (.tmp 8) (.tmp 7), none, []⟩])
 (.seq (.cond (.tmp 9)
 (.skip)
 (.exit 0))
 (.seq (.block 1
 (.seq (.reg [⟨0, (some 10), .mv (.tmp 8), none, []⟩,
 ⟨1, (some 5), .mv (.tmp 10), none, []⟩])
 (.seq (.reg [⟨0, (some 11), .mv (.tmp 1), none, []⟩,
 ⟨1, (some 12), .mv (.tmp 0), none, []⟩,
 ⟨2, (some 13), .mv (.tmp 5), none, []⟩,
 ⟨3, (some 14), .idxA none 3 (.tmp 12) (.tmp 13), none, []⟩,
 ⟨4, (some 15), .load (some 3) (.tmp 14), none, []⟩,
 ⟨5, (some 16), .callv (.tmp 11) [(.tmp 15)], none, []⟩])
 (.cond (.tmp 16)
 (.seq (.reg [⟨0, (some 17), .mv (.tmp 5), none, []⟩,
 ⟨1, (some 4), .mv (.tmp 17), none, []⟩])
 (.ret))
 (.skip)))))
 (.reg [⟨0, (some 18), .bin .add 3 true (.tmp 8) (.con (.int .i64 1)), none, []⟩,
 ⟨1, (some 8), .mv (.tmp 18), none, []⟩])))))))
 (.seq (.reg [⟨0, (some 4), .mv (.con (.int .i64 (-1))), none, []⟩])
 (.ret))),
 [.tmp 4]⟩
theorem p_slices_IndexFunc_form : prepFun Go.Proofs.Tryd.prog [1, 0, 2, 3] Go.Proofs.Tryd.f76 = some v_slices_IndexFunc_form := by kernel_rfl

def v_code_readOp_c1 : VFun :=
⟨.seq (.reg [⟨0, (some 2), .box (.tmp 0), none, []⟩,
 ⟨1, (some 3), .mv (.con (.bool false)), none, []⟩])
 (.seq (.reg [⟨0, (some 4), .fieldA 2 (.tmp 2), none, []⟩,
 ⟨1, (some 5), .load none (.tmp 4), none, []⟩,
 ⟨2, (some 6), .load none (.tmp 1), none, []⟩,
 ⟨3, (some 7), .idxA none 1 (.tmp 6) (.con (.int .i64 0)), none, []⟩,
 ⟨4, (some 8), .load none (.tmp 7), none, []⟩,
 ⟨5, (some 9), .bin .eql 9 false (.tmp 5) (.tmp 8), none, []⟩,
 ⟨6, (some 3), .mv (.tmp 9), none, []⟩])
 (.ret)),
 [.tmp 3]⟩
theorem p_code_readOp_c1 : prepFun Go.Proofs.Tryd.prog [1, 0, 2, 3] Go.Proofs.Tryd.f77 = some v_code_readOp_c1 := by kernel_rfl

def v_internal_strconv_log10Pow2 : VFun :=
⟨.seq (.reg [⟨0, (some 2), .mv (.con (.int .i64 0)), none, []⟩])
 (.seq (.reg [⟨0, (some 3), .mv (.tmp 0), none, []⟩,
 ⟨1, (some 4), .bin .mul 3 true (.tmp 3) (.con (.int .i64 78913)), none, []⟩,
 ⟨2, (some 5), .bin .shr 3 true (.tmp 4) (.con (.int .u64 18)), none, []⟩,
 ⟨3, (some 2), .mv (.tmp 5), none, []⟩])
 (.ret)),
 [.tmp 2]⟩
theorem p_internal_strconv_log10Pow2 : prepFun Go.Proofs.Tryd.prog [1, 0, 2, 3] Go.Proofs.Tryd.f78 = some v_internal_strconv_log10Pow2 := by kernel_rfl

def v_math_bits_Len64 : VFun :=
⟨.seq (.reg [⟨0, (some 2), .mv (.con (.int .i64 0)), none, []⟩])
 (.seq (.seq (.reg [⟨0, (some 3), .mv (.tmp 0), none, []⟩,
 ⟨1, (some 4), .bin .geq 130 true (.tmp 3) (.con (.int .u64 4294967296)), none, []⟩])
 (.cond (.tmp 4)
 (.seq (.reg [⟨0, (some 5), .mv (.tmp 0), none, []⟩,
 ⟨1, (some 6), .bin .shr 130 true (.tmp 5) (.con (.int .u64 32)), none, []⟩,
 ⟨2, (some 0), .mv (.tmp 6), none, []⟩])
 (.reg [⟨0, (some 2), .mv (.con (.int .i64 32)), none, []⟩]))
 (.skip)))
 (.seq (.seq (.reg [⟨0, (some 7), .mv (.tmp 0), none, []⟩,
 ⟨1, (some 8), .bin .geq 130 true (.tmp 7) (.con (.int .u64 65536)), none, []⟩])
 (.cond (.tmp 8)
 (.seq (.reg [⟨0, (some 9), .mv (.tmp 0), none, []⟩,
 ⟨1, (some 10), .bin .shr 130 true (.tmp 9) (.con (.int .u64 16)), none, []⟩,
 ⟨2, (some 0), .mv (.tmp 10), none, []⟩])
 (.reg [⟨0, (some 11), .mv (.tmp 2), none, []⟩,
 ⟨1, (some 12), .bin .add 3 true (.tmp 11) (.con (.int .i64 16)), none, []⟩,
 ⟨2, (some 2), .mv (.tmp 12), none, []⟩]))
 (.skip)))
 (.seq (.seq (.reg [⟨0, (some 13), .mv (.tmp 0), none, []⟩,
 ⟨1, (some 14), .bin .geq 130 true (.tmp 13) (.con (.int .u64 256)), none, []⟩])
 (.cond (.tmp 14)
 (.seq (.reg [⟨0, (some 15), .mv (.tmp 0), none, []⟩,
 ⟨1, (some 16), .bin .shr 130 true (.tmp 15) (.con (.int .u64 8)), none, []⟩,
 ⟨2, (some 0), .mv (.tmp 16), none, []⟩])
 (.reg [⟨0, (some 17), .mv (.tmp 2), none, []⟩,
 ⟨1, (some 18), .bin .add 3 true (.tmp 17) (.con (.int .i64 8)), none, []⟩,
 ⟨2, (some 2), .mv (.tmp 18), none, []⟩]))
 (.skip)))
 (.seq (.reg [⟨0, (some 19), .mv (.tmp 2), none, []⟩,
 ⟨1, (some 20), .mv (.tmp 0), none, []⟩,
 ⟨2, (some 21), .conv 130 5 (.tmp 20), none, []⟩,
 ⟨3, (some 22), .idxS 9 (.con (.string ⟨#[0, 1, 2, 2, 3, 3, 3, 3, 4, 4, 4, 4, 4, 4, 4, 4, 5, 5, 5, 5, 5, 5, 5, 5, 5, 5, 5, 5, 5, 5, 5, 5, 6, 6, 6, 6, 6, 6, 6, 6, 6, 6, 6, 6, 6, 6, 6, 6, 6, 6, 6, 6, 6, 6, 6, 6, 6, 6, 6, 6, 6, 6, 6, 6, 7, 7, 7, 7, 7, 7, 7, 7, 7, 7, 7, 7, 7, 7, 7, 7, 7, 7, 7, 7, 7, 7, 7, 7, 7, 7, 7, 7, 7, 7, 7, 7, 7, 7, 7, 7, 7, 7, 7, 7, 7, 7, 7, 7, 7, 7, 7, 7, 7, 7, 7, 7, 7, 7, 7, 7, 7, 7, 7, 7, 7, 7, 7, 7, 8, 8, 8, 8, 8, 8, 8, 8, 8, 8, 8, 8, 8, 8, 8, 8, 8, 8, 8, 8, 8, 8, 8, 8, 8, 8, 8, 8, 8, 8, 8, 8, 8, 8, 8, 8, 8, 8, 8, 8, 8, 8, 8, 8, 8, 8, 8, 8, 8, 8, 8, 8, 8, 8, 8, 8, 8, 8, 8, 8, 8, 8, 8, 8, 8, 8, 8, 8, 8, 8, 8, 8, 8, 8, 8, 8, 8, 8, 8, 8, 8, 8, 8, 8, 8, 8, 8, 8, 8, 8, 8, 8, 8, 8, 8, 8, 8, 8, 8, 8, 8, 8, 8, 8, 8, 8, 8, 8, 8, 8, 8, 8, 8, 8, 8, 8, 8, 8, 8, 8, 8, 8, 8, 8, 8, 8, 8, 8]⟩)) (.tmp 21), none, []⟩,
 ⟨4, (some 23), .conv 5 3 (.tmp 22), none, []⟩,
 ⟨5, (some 24), .bin .add 3 false (.tmp 19) (.tmp 23), none, []⟩,
 ⟨6, (some 2), .mv (.tmp 24), none, []⟩])
 (.ret))))),
 [.tmp 2]⟩
theorem p_math_bits_Len64 : prepFun Go.Proofs.Tryd.prog [1, 0, 2, 3] Go.Proofs.Tryd.f79 = some v_math_bits_Len64 := by kernel_rfl

def v_internal_strconv_bool2_int : VFun :=
⟨.seq (.reg [⟨0, (some 2), .mv (.con (.int .i64 0)), none, []⟩])
 (.seq (.seq (.reg [⟨0, (some 3), .mv (.tmp 0), none, []⟩])
 (.cond (.tmp 3)
 (.seq (.reg [⟨0, (some 2), .mv (.con (.int .i64 1)), none, []⟩])
 (.ret))
 (.skip)))
 (.seq (.reg [⟨0, (some 2), .mv (.con (.int .i64 0)), none, []⟩])
 (.ret))),
 [.tmp 2]⟩
theorem p_internal_strconv_bool2_int : prepFun Go.Proofs.Tryd.prog [1, 0, 2, 3] Go.Proofs.Tryd.f80 = some v_internal_strconv_bool2_int := by kernel_rfl

def v_internal_strconv_isPowerOfTwo : VFun :=
⟨.seq (.reg [⟨0, (some 2), .mv (.con (.bool false)), none, []⟩])
 (.seq (.reg [⟨0, (some 3), .mv (.tmp 0), none, []⟩,
 ⟨1, (some 4), .mv (.tmp 0), none, []⟩,
 ⟨2, (some 5), .bin .sub 3 true (.tmp 4) (.con (.int .i64 1)), none, []⟩,
 ⟨3, (some 6), .bin .and 3 false (.tmp 3) (.tmp 5), none, []⟩,
 ⟨4, (some 7), .bin .eql 3 true (.tmp 6) (.con (.int .i64 0)), none, []⟩,
 ⟨5, (some 2), .mv (.tmp 7), none, []⟩])
 (.ret)),
 [.tmp 2]⟩
theorem p_internal_strconv_isPowerOfTwo : prepFun Go.Proofs.Tryd.prog [1, 0, 2, 3] Go.Proofs.Tryd.f81 = some v_internal_strconv_isPowerOfTwo := by kernel_rfl

def v_math_bits_TrailingZeros : VFun :=
⟨.seq (.reg [⟨0, (some 2), .mv (.con (.int .i64 0)), none, []⟩])
 (.seq (.cond (.con (.bool false))
 (.seq (.reg [⟨0, (some 3), .mv (.tmp 0), none, []⟩,
 ⟨1, (some 4), .conv 44 149 (.tmp 3), none, []⟩,
 ⟨2, (some 5), .call 89 [(.tmp 4)], none, []⟩,
 ⟨3, (some 2), .mv (.tmp 5), none, []⟩])
 (.ret))
 (.skip))
 (.seq (.reg [⟨0, (some 6), .mv (.tmp 0), none, []⟩,
 ⟨1, (some 7), .call 90 [(.tmp 6)], none, []⟩,
 ⟨2, (some 2), .mv (.tmp 7), none, []⟩])
 (.ret))),
 [.tmp 2]⟩
theorem p_math_bits_TrailingZeros : prepFun Go.Proofs.Tryd.prog [1, 0, 2, 3] Go.Proofs.Tryd.f82 = some v_math_bits_TrailingZeros := by kernel_rfl

def v_internal_stringslite_Index : VFun :=
⟨.seq (.reg [⟨0, (some 4), .mv (.con (.int .i64 0)), none, []⟩])
 (.seq (.reg [⟨0, (some 14), .mv (.tmp 1), none, []⟩,
 ⟨1, (some 15), .bi .len [9] 3 [(.tmp 14)], none, []⟩,
 ⟨2, (some 5), .mv (.tmp 15), none, []⟩])
 (.seq (.block 0
 (.seq (.reg [⟨0, (some 17), .mv (.tmp 5), none, []⟩,
 ⟨1, (some 18), .bin .eql 3 true (.tmp 17) (.con (.int .i64 0)), none, []⟩,
 ⟨2, (some 19), .mv (.tmp 18), none, []⟩,
 ⟨3, (some 20), .mv (.tmp 1), (some (19, false)), []⟩,
 ⟨4, (some 21), .mv (.tmp 0), (some (19, false)), []⟩,
 ⟨5, (some 22), .bin .eql 9 false (.tmp 20) (.tmp 21), (some (19, false)), []⟩,
 ⟨6, (some 23), .pick (.tmp 19) (.con (.bool true)) (.tmp 22), none, []⟩,
 ⟨7, (some 16), .mv (.tmp 23), none, []⟩])
 (.cond (.tmp 16)
 (.seq (.reg [⟨0, (some 4), .mv (.con (.int .i64 0)), none, []⟩])
 (.ret))
 (.seq (.reg [⟨0, (some 25), .mv (.tmp 5), none, []⟩,
 ⟨1, (some 26), .bin .eql 3 true (.tmp 25) (.con (.int .i64 1)), none, []⟩,
 ⟨2, (some 24), .mv (.tmp 26), none, []⟩])
 (.cond (.tmp 24)
 (.seq (.reg [⟨0, (some 27), .mv (.tmp 0), none, []⟩,
 ⟨1, (some 28), .mv (.tmp 1), none, []⟩,
 ⟨2, (some 29), .idxS 9 (.tmp 28) (.con (.int .i64 0)), none, []⟩,
 ⟨3, (some 30), .call 91 [(.tmp 27), (.tmp 29)], none, []⟩,
 ⟨4, (some 4), .mv (.tmp 30), none, []⟩])
 (.ret))
 (.seq (.reg [⟨0, (some 32), .mv (.tmp 5), none, []⟩,
 ⟨1, (some 33), .mv (.tmp 0), none, []⟩,
 ⟨2, (some 34), .bi .len [9] 3 [(.tmp 33)], none, []⟩,
 ⟨3, (some 35), .bin .geq 3 false (.tmp 32) (.tmp 34), none, []⟩,
 ⟨4, (some 31), .mv (.tmp 35), none, []⟩])
 (.cond (.tmp 31)
 (.seq (.reg [⟨0, (some 4), .mv (.con (.int .i64 (-1))), none, []⟩])
 (.ret))
 (.seq (.reg [⟨0, (some 37), .mv (.tmp 5), none, []⟩,
 ⟨1, (some 38), .load none (.glo 3), none, []⟩,
 ⟨2, (some 39), .bin .leq 3 false (.tmp 37) (.tmp 38), none, []⟩,
 ⟨3, (some 40), .mv (.tmp 39), none, []⟩,
 ⟨4, (some 41), .mv (.tmp 0), (some (40, true)), []⟩,
 ⟨5, (some 42), .bi .len [9] 3 [(.tmp 41)], (some (40, true)), []⟩,
 ⟨6, (some 43), .bin .leq 3 true (.tmp 42) (.con (.int .i64 64)), (some (40, true)), []⟩,
 ⟨7, (some 44), .pick (.tmp 40) (.tmp 43) (.con (.bool false)), none, []⟩,
 ⟨8, (some 36), .mv (.tmp 44), none, []⟩])
 (.cond (.tmp 36)
 (.seq (.reg [⟨0, (some 45), .mv (.tmp 0), none, []⟩,
 ⟨1, (some 46), .mv (.tmp 1), none, []⟩,
 ⟨2, (some 47), .call 92 [(.tmp 45), (.tmp 46)], none, []⟩,
 ⟨3, (some 4), .mv (.tmp 47), none, []⟩])
 (.ret))
 (.skip))))))))))
 (.seq (.reg [⟨0, (some 48), .mv (.tmp 1), none, []⟩,
 ⟨1, (some 49), .idxS 9 (.tmp 48) (.con (.int .i64 0)), none, []⟩,
 ⟨2, (some 6), .mv (.tmp 49), none, []⟩])
 (.seq (.reg [⟨0, (some 50), .mv (.tmp 1), none, []⟩,
 ⟨1, (some 51), .idxS 9 (.tmp 50) (.con (.int .i64 1)), none, []⟩,
 ⟨2, (some 7), .mv (.tmp 51), none, []⟩])
 (.seq (.reg [⟨0, (some 8), .mv (.con (.int .i64 0)), none, []⟩])
 (.seq (.reg [⟨0, (some 52), .mv (.tmp 0), none, []⟩,
 ⟨1, (some 53), .bi .len [9] 3 [(.tmp 52)], none, []⟩,
 ⟨2, (some 54), .mv (.tmp 5), none, []⟩,
 ⟨3, (some 55), .bin .sub 3 false (.tmp 53) (.tmp 54), none, []⟩,
 ⟨4, (some 56), .bin .add 3 true (.tmp 55) (.con (.int .i64 1)), none, []⟩,
 ⟨5, (some 9), .mv (.tmp 56), none, []⟩])
 (.seq (.reg [⟨0, (some 10), .mv (.con (.int .i64 0)), none, []⟩])
 (.seq (.block 1
 (.loop
 (.seq (.seq (.reg [⟨0, (some 57), .mv (.tmp 8), none, []⟩,
 ⟨1, (some 58), .mv (.tmp 9), none, []⟩,
 ⟨2, (some 59), .bin .lss 3 false (.tmp 57) (.tmp 58), none, []⟩])
 (.cond (.tmp 59)
 (.skip)
 (.exit 1)))
 (.block 2
 (.seq (.seq (.reg [⟨0, (some 60), .mv (.tmp 0), none, []⟩,
 ⟨1, (some 61), .mv (.tmp 8), none, []⟩,
 ⟨2, (some 62), .idxS 9 (.tmp 60) (.tmp 61), none, []⟩,
 ⟨3, (some 63), .mv (.tmp 6), none, []⟩,
 ⟨4, (some 64), .bin .neq 5 false (.tmp 62) (.tmp 63), none, []⟩])
 (.cond (.tmp 64)
 (.seq (.reg [⟨0, (some 65), .mv (.tmp 0), none, []⟩,
 ⟨1, (some 66), .mv (.tmp 8), none, []⟩,
 ⟨2, (some 67), .bin .add 3 true (.tmp 66) (.con (.int .i64 1)), none, []⟩,
 ⟨3, (some 68), .mv (.tmp 9), none, []⟩,
 ⟨4, (some 69), .slS 9 (.tmp 65) (some (.tmp 67)) (some (.tmp 68)), none, []⟩,
 ⟨5, (some 70), .mv (.tmp 6), none, []⟩,
 ⟨6, (some 71), .call 91 [(.tmp 69), (.tmp 70)], none, []⟩,
 ⟨7, (some 11), .mv (.tmp 71), none, []⟩])
 (.seq (.seq (.reg [⟨0, (some 72), .mv (.tmp 11), none, []⟩,
 ⟨1, (some 73), .bin .lss 3 true (.tmp 72) (.con (.int .i64 0)), none, []⟩])
 (.cond (.tmp 73)
 (.seq (.reg [⟨0, (some 4), .mv (.con (.int .i64 (-1))), none, []⟩])
 (.ret))
 (.skip)))
 (.reg [⟨0, (some 74), .mv (.tmp 8), none, []⟩,
 ⟨1, (some 75), .mv (.tmp 11), none, []⟩,
 ⟨2, (some 76), .bin .add 3 true (.tmp 75) (.con (.int .i64 1)), none, []⟩,
 ⟨3, (some 77), .bin .add 3 false (.tmp 74) (.tmp 76), none, []⟩,
 ⟨4, (some 8), .mv (.tmp 77), none, []⟩])))
 (.skip)))
 (.seq (.seq (.reg [⟨0, (some 78), .mv (.tmp 0), none, []⟩,
 ⟨1, (some 79), .mv (.tmp 8), none, []⟩,
 ⟨2, (some 80), .bin .add 3 true (.tmp 79) (.con (.int .i64 1)), none, []⟩,
 ⟨3, (some 81), .idxS 9 (.tmp 78) (.tmp 80), none, []⟩,
 ⟨4, (some 82), .mv (.tmp 7), none, []⟩,
 ⟨5, (some 83), .bin .eql 5 false (.tmp 81) (.tmp 82), none, []⟩,
 ⟨6, (some 84), .mv (.tmp 83), none, []⟩,
 ⟨7, (some 85), .mv (.tmp 0), (some (84, true)), []⟩,
 ⟨8, (some 86), .mv (.tmp 8), (some (84, true)), []⟩,
 ⟨9, (some 87), .mv (.tmp 8), (some (84, true)), []⟩,
 ⟨10, (some 88), .mv (.tmp 5), (some (84, true)), []⟩,
 ⟨11, (some 89), .bin .add 3 false (.tmp 87) (.tmp 88), (some (84, true)), []⟩,
 ⟨12, (some 90), .slS 9 (.tmp 85) (some (.tmp 86)) (some (.tmp 89)), (some (84, true)), []⟩,
 ⟨13, (some 91), .mv (.tmp 1), (some (84, true)), []⟩,
 ⟨14, (some 92), .bin .eql 9 false (.tmp 90) (.tmp 91), (some (84, true)), []⟩,
 ⟨15, (some 93), .pick (.tmp 84) (.tmp 92) (.con (.bool false)), none, []⟩])
 (.cond (.tmp 93)
 (.seq (.reg [⟨0, (some 94), .mv (.tmp 8), none, []⟩,
 ⟨1, (some 4), .mv (.tmp 94), none, []⟩])
 (.ret))
 (.skip)))
 (.seq (.reg [⟨0, (some 95), .mv (.tmp 8), none, []⟩,
 ⟨1, (some 96), .bin .add 3 true (.tmp 95) (.con (.int .i64 1)), none, []⟩,
 ⟨2, (some 8), .mv (.tmp 96), none, []⟩])
 (.seq (.reg [⟨0, (some 97), .mv (.tmp 10), none, []⟩,
 ⟨1, (some 98), .bin .add 3 true (.tmp 97) (.con (.int .i64 1)), none, []⟩,
 ⟨2, (some 10), .mv (.tmp 98), none, []⟩])
 (.seq (.reg [⟨0, (some 99), .mv (.tmp 5), none, []⟩,
 ⟨1, (some 100), .load none (.glo 3), none, []⟩,
 ⟨2, (some 101), .bin .leq 3 false (.tmp 99) (.tmp 100), none, []⟩,
 ⟨3, (some 102), .mv (.tmp 101), none, []⟩,
 ⟨4, (some 103), .mv (.tmp 10), (some (102, true)), []⟩,
 ⟨5, (some 104), .mv (.tmp 8), (some (102, true)), []⟩,
 ⟨6, (some 105), .call 93 [(.tmp 104)], (some (102, true)), []⟩,
 ⟨7, (some 106), .bin .gtr 3 false (.tmp 103) (.tmp 105), (some (102, true)), []⟩,
 ⟨8, (some 107), .pick (.tmp 102) (.tmp 106) (.con (.bool false)), none, []⟩])
 (.cond (.tmp 107)
 (.seq (.reg [⟨0, (some 108), .mv (.tmp 0), none, []⟩,
 ⟨1, (some 109), .mv (.tmp 8), none, []⟩,
 ⟨2, (some 110), .slS 9 (.tmp 108) (some (.tmp 109)) none, none, []⟩,
 ⟨3, (some 111), .mv (.tmp 1), none, []⟩,
 ⟨4, (some 112), .call 92 [(.tmp 110), (.tmp 111)], none, []⟩,
 ⟨5, (some 12), .mv (.tmp 112), none, []⟩])
 (.seq (.seq (.reg [⟨0, (some 113), .mv (.tmp 12), none, []⟩,
 ⟨1, (some 114), .bin .geq 3 true (.tmp 113) (.con (.int .i64 0)), none, []⟩])
 (.cond (.tmp 114)
 (.seq (.reg [⟨0, (some 115), .mv (.tmp 12), none, []⟩,
 ⟨1, (some 116), .mv (.tmp 8), none, []⟩,
 ⟨2, (some 117), .bin .add 3 false (.tmp 115) (.tmp 116), none, []⟩,
 ⟨3, (some 4), .mv (.tmp 117), none, []⟩])
 (.ret))
 (.skip)))
 (.seq (.reg [⟨0, (some 4), .mv (.con (.int .i64 (-1))), none, []⟩])
 (.ret))))
 (.seq (.reg [⟨0, (some 118), .mv (.tmp 5), none, []⟩,
 ⟨1, (some 119), .load none (.glo 3), none, []⟩,
 ⟨2, (some 120), .bin .gtr 3 false (.tmp 118) (.tmp 119), none, []⟩,
 ⟨3, (some 121), .mv (.tmp 120), none, []⟩,
 ⟨4, (some 122), .mv (.tmp 10), (some (121, true)), []⟩,
 ⟨5, (some 123), .mv (.tmp 8), (some (121, true)), []⟩,
 ⟨6, (some 124), .bin .shr 3 true (.tmp 123) (.con (.int .u64 4)), (some (121, true)), []⟩,
 ⟨7, (some 125), .bin .add 3 true (.con (.int .i64 4)) (.tmp 124), (some (121, true)), []⟩,
 ⟨8, (some 126), .bin .geq 3 false (.tmp 122) (.tmp 125), (some (121, true)), []⟩,
 ⟨9, (some 127), .pick (.tmp 121) (.tmp 126) (.con (.bool false)), none, []⟩,
 ⟨10, (some 128), .mv (.tmp 127), none, []⟩,
 ⟨11, (some 129), .mv (.tmp 8), (some (128, true)), []⟩,
 ⟨12, (some 130), .mv (.tmp 9), (some (128, true)), []⟩,
 ⟨13, (some 131), .bin .lss 3 false (.tmp 129) (.tmp 130), (some (128, true)), []⟩,
 ⟨14, (some 132), .pick (.tmp 128) (.tmp 131) (.con (.bool false)), none, []⟩])
 (.cond (.tmp 132)
 (.seq (.reg [⟨0, (some 133), .mv (.tmp 0), none, []⟩,
 ⟨1, (some 134), .mv (.tmp 8), none, []⟩,
 ⟨2, (some 135), .slS 9 (.tmp 133) (some (.tmp 134)) none, none, []⟩,
 ⟨3, (some 136), .mv (.tmp 1), none, []⟩,
 ⟨4, (some 137), .call 94 [(.tmp 135), (.tmp 136)], none, []⟩,
 ⟨5, (some 13), .mv (.tmp 137), none, []⟩])
 (.seq (.seq (.reg [⟨0, (some 138), .mv (.tmp 13), none, []⟩,
 ⟨1, (some 139), .bin .lss 3 true (.tmp 138) (.con (.int .i64 0)), none, []⟩])
 (.cond (.tmp 139)
 (.seq (.reg [⟨0, (some 4), .mv (.con (.int .i64 (-1))), none, []⟩])
 (.ret))
 (.skip)))
 (.seq (.reg [⟨0, (some 140), .mv (.tmp 8), none, []⟩,
 ⟨1, (some 141), .mv (.tmp 13), none, []⟩,
 ⟨2, (some 142), .bin .add 3 false (.tmp 140) (.tmp 141), none, []⟩,
 ⟨3, (some 4), .mv (.tmp 142), none, []⟩])
 (.ret))))
 (.skip)))))))))))))
 (.seq (.reg [⟨0, (some 4), .mv (.con (.int .i64 (-1))), none, []⟩])
 (.ret)))))))))),
 [.tmp 4]⟩
theorem p_internal_stringslite_Index : prepFun Go.Proofs.Tryd.prog [1, 0, 2, 3] Go.Proofs.Tryd.f83 = some v_internal_stringslite_Index := by kernel_rfl

end Go.VX.Seat
end
section
set_option maxRecDepth 20000
/-! MADE BY PROGRAM (lits.py): functions as they are prepared. -/
namespace Go.VX.Seat
def v_strings_explode : VFun :=
⟨.seq (.reg [⟨0, (some 4), .mv (.con (.slice none 0 0)), none, []⟩])
 (.seq (.reg [⟨0, (some 10), .mv (.tmp 0), none, []⟩,
 ⟨1, (some 11), .call 95 [(.tmp 10)], none, []⟩,
 ⟨2, (some 5), .mv (.tmp 11), none, []⟩])
 (.seq (.seq (.reg [⟨0, (some 12), .mv (.tmp 1), none, []⟩,
 ⟨1, (some 13), .bin .lss 3 true (.tmp 12) (.con (.int .i64 0)), none, []⟩,
 ⟨2, (some 14), .mv (.tmp 13), none, []⟩,
 ⟨3, (some 15), .mv (.tmp 1), (some (14, false)), []⟩,
 ⟨4, (some 16), .mv (.tmp 5), (some (14, false)), []⟩,
 ⟨5, (some 17), .bin .gtr 3 false (.tmp 15) (.tmp 16), (some (14, false)), []⟩,
 ⟨6, (some 18), .pick (.tmp 14) (.con (.bool true)) (.tmp 17), none, []⟩])
 (.cond (.tmp 18)
 (.reg [⟨0, (some 19), .mv (.tmp 5), none, []⟩,
 ⟨1, (some 1), .mv (.tmp 19), none, []⟩])
 (.skip)))
 (.seq (.reg [⟨0, (some 20), .mv (.tmp 1), none, []⟩,
 ⟨1, (some 21), .mksl 1 16 [(.string ⟨#[]⟩)] (.tmp 20) (.tmp 20), none, []⟩,
 ⟨2, (some 6), .mv (.tmp 21), none, []⟩])
 (.seq (.seq (.reg [⟨0, (some 7), .mv (.con (.int .i64 0)), none, []⟩])
 (.block 0
 (.loop
 (.seq (.seq (.reg [⟨0, (some 22), .mv (.tmp 7), none, []⟩,
 ⟨1, (some 23), .mv (.tmp 1), none, []⟩,
 ⟨2, (some 24), .bin .sub 3 true (.tmp 23) (.con (.int .i64 1)), none, []⟩,
 ⟨3, (some 25), .bin .lss 3 false (.tmp 22) (.tmp 24), none, []⟩])
 (.cond (.tmp 25)
 (.skip)
 (.exit 0)))
 (.seq (.block 1
 (.seq (.reg [⟨0, (some 29), .mv (.tmp 0), none, []⟩,
 ⟨1, (some 30), .call 96 [(.tmp 29)], none, []⟩,
 ⟨2, (some 28), .mv (.tmp 30), none, []⟩,
 ⟨3, (some 31), .ext (.tmp 28) 0, none, []⟩,
 ⟨4, (some 32), .ext (.tmp 28) 1, none, []⟩,
 ⟨5, (some 8), .mv (.tmp 31), none, []⟩,
 ⟨6, (some 9), .mv (.tmp 32), none, []⟩])
 (.seq (.reg [⟨0, (some 33), .mv (.tmp 6), none, []⟩,
 ⟨1, (some 34), .mv (.tmp 7), none, []⟩,
 ⟨2, (some 35), .mv (.tmp 0), none, []⟩,
 ⟨3, (some 36), .mv (.tmp 9), none, []⟩,
 ⟨4, (some 37), .slS 9 (.tmp 35) none (some (.tmp 36)), none, []⟩,
 ⟨5, (some 38), .idxA none 1 (.tmp 33) (.tmp 34), none, []⟩,
 ⟨6, none, .store 1 (.tmp 38) (.tmp 37), none, []⟩])
 (.reg [⟨0, (some 39), .mv (.tmp 0), none, []⟩,
 ⟨1, (some 40), .mv (.tmp 9), none, []⟩,
 ⟨2, (some 41), .slS 9 (.tmp 39) (some (.tmp 40)) none, none, []⟩,
 ⟨3, (some 0), .mv (.tmp 41), none, []⟩]))))
 (.reg [⟨0, (some 26), .mv (.tmp 7), none, []⟩,
 ⟨1, (some 27), .bin .add 3 true (.tmp 26) (.con (.int .i64 1)), none, []⟩,
 ⟨2, (some 7), .mv (.tmp 27), none, []⟩]))))))
 (.seq (.seq (.reg [⟨0, (some 42), .mv (.tmp 1), none, []⟩,
 ⟨1, (some 43), .bin .gtr 3 true (.tmp 42) (.con (.int .i64 0)), none, []⟩])
 (.cond (.tmp 43)
 (.reg [⟨0, (some 44), .mv (.tmp 6), none, []⟩,
 ⟨1, (some 45), .mv (.tmp 1), none, []⟩,
 ⟨2, (some 46), .bin .sub 3 true (.tmp 45) (.con (.int .i64 1)), none, []⟩,
 ⟨3, (some 47), .mv (.tmp 0), none, []⟩,
 ⟨4, (some 48), .idxA none 1 (.tmp 44) (.tmp 46), none, []⟩,
 ⟨5, none, .store 1 (.tmp 48) (.tmp 47), none, []⟩])
 (.skip)))
 (.seq (.reg [⟨0, (some 49), .mv (.tmp 6), none, []⟩,
 ⟨1, (some 4), .mv (.tmp 49), none, []⟩])
 (.ret))))))),
 [.tmp 4]⟩
theorem p_strings_explode : prepFun Go.Proofs.Tryd.prog [1, 0, 2, 3] Go.Proofs.Tryd.f84 = some v_strings_explode := by kernel_rfl

def v_strings_Count : VFun :=
⟨.seq (.reg [⟨0, (some 4), .mv (.con (.int .i64 0)), none, []⟩])
 (.seq (.seq (.reg [⟨0, (some 7), .mv (.tmp 1), none, []⟩,
 ⟨1, (some 8), .bi .len [9] 3 [(.tmp 7)], none, []⟩,
 ⟨2, (some 9), .bin .eql 3 true (.tmp 8) (.con (.int .i64 0)), none, []⟩])
 (.cond (.tmp 9)
 (.seq (.reg [⟨0, (some 10), .mv (.tmp 0), none, []⟩,
 ⟨1, (some 11), .call 95 [(.tmp 10)], none, []⟩,
 ⟨2, (some 12), .bin .add 3 true (.tmp 11) (.con (.int .i64 1)), none, []⟩,
 ⟨3, (some 4), .mv (.tmp 12), none, []⟩])
 (.ret))
 (.skip)))
 (.seq (.seq (.reg [⟨0, (some 13), .mv (.tmp 1), none, []⟩,
 ⟨1, (some 14), .bi .len [9] 3 [(.tmp 13)], none, []⟩,
 ⟨2, (some 15), .bin .eql 3 true (.tmp 14) (.con (.int .i64 1)), none, []⟩])
 (.cond (.tmp 15)
 (.seq (.reg [⟨0, (some 16), .mv (.tmp 0), none, []⟩,
 ⟨1, (some 17), .mv (.tmp 1), none, []⟩,
 ⟨2, (some 18), .idxS 9 (.tmp 17) (.con (.int .i64 0)), none, []⟩,
 ⟨3, (some 19), .call 97 [(.tmp 16), (.tmp 18)], none, []⟩,
 ⟨4, (some 4), .mv (.tmp 19), none, []⟩])
 (.ret))
 (.skip)))
 (.seq (.reg [⟨0, (some 5), .mv (.con (.int .i64 0)), none, []⟩])
 (.block 0
 (.loop
 (.block 1
 (.seq (.reg [⟨0, (some 20), .mv (.tmp 0), none, []⟩,
 ⟨1, (some 21), .mv (.tmp 1), none, []⟩,
 ⟨2, (some 22), .call 86 [(.tmp 20), (.tmp 21)], none, []⟩,
 ⟨3, (some 6), .mv (.tmp 22), none, []⟩])
 (.seq (.seq (.reg [⟨0, (some 23), .mv (.tmp 6), none, []⟩,
 ⟨1, (some 24), .bin .eql 3 true (.tmp 23) (.con (.int .i64 (-1))), none, []⟩])
 (.cond (.tmp 24)
 (.seq (.reg [⟨0, (some 25), .mv (.tmp 5), none, []⟩,
 ⟨1, (some 4), .mv (.tmp 25), none, []⟩])
 (.ret))
 (.skip)))
 (.seq (.reg [⟨0, (some 26), .mv (.tmp 5), none, []⟩,
 ⟨1, (some 27), .bin .add 3 true (.tmp 26) (.con (.int .i64 1)), none, []⟩,
 ⟨2, (some 5), .mv (.tmp 27), none, []⟩])
 (.reg [⟨0, (some 28), .mv (.tmp 0), none, []⟩,
 ⟨1, (some 29), .mv (.tmp 6), none, []⟩,
 ⟨2, (some 30), .mv (.tmp 1), none, []⟩,
 ⟨3, (some 31), .bi .len [9] 3 [(.tmp 30)], none, []⟩,
 ⟨4, (some 32), .bin .add 3 false (.tmp 29) (.tmp 31), none, []⟩,
 ⟨5, (some 33), .slS 9 (.tmp 28) (some (.tmp 32)) none, none, []⟩,
 ⟨6, (some 0), .mv (.tmp 33), none, []⟩])))))))))),
 [.tmp 4]⟩
theorem p_strings_Count : prepFun Go.Proofs.Tryd.prog [1, 0, 2, 3] Go.Proofs.Tryd.f85 = some v_strings_Count := by kernel_rfl

def v_strings_Index : VFun :=
⟨.seq (.reg [⟨0, (some 4), .mv (.con (.int .i64 0)), none, []⟩])
 (.seq (.reg [⟨0, (some 5), .mv (.tmp 0), none, []⟩,
 ⟨1, (some 6), .mv (.tmp 1), none, []⟩,
 ⟨2, (some 7), .call 83 [(.tmp 5), (.tmp 6)], none, []⟩,
 ⟨3, (some 4), .mv (.tmp 7), none, []⟩])
 (.ret)),
 [.tmp 4]⟩
theorem p_strings_Index : prepFun Go.Proofs.Tryd.prog [1, 0, 2, 3] Go.Proofs.Tryd.f86 = some v_strings_Index := by kernel_rfl

def v_strconv_ParseInt : VFun :=
⟨.seq (.reg [⟨0, (some 6), .mv (.con (.int .i64 0)), none, []⟩,
 ⟨1, (some 7), .mv (.con .nilIface), none, []⟩])
 (.seq (.reg [⟨0, (some 10), .mv (.tmp 0), none, []⟩,
 ⟨1, (some 11), .mv (.tmp 1), none, []⟩,
 ⟨2, (some 12), .mv (.tmp 2), none, []⟩,
 ⟨3, (some 13), .call 98 [(.tmp 10), (.tmp 11), (.tmp 12)], none, []⟩,
 ⟨4, (some 9), .mv (.tmp 13), none, []⟩,
 ⟨5, (some 14), .ext (.tmp 9) 0, none, []⟩,
 ⟨6, (some 15), .ext (.tmp 9) 1, none, []⟩,
 ⟨7, (some 8), .mv (.tmp 14), none, []⟩,
 ⟨8, (some 7), .mv (.tmp 15), none, []⟩])
 (.seq (.seq (.reg [⟨0, (some 16), .mv (.tmp 7), none, []⟩,
 ⟨1, (some 17), .bin .neq 60 true (.tmp 16) (.con .nilIface), none, []⟩])
 (.cond (.tmp 17)
 (.seq (.reg [⟨0, (some 18), .mv (.tmp 8), none, []⟩,
 ⟨1, (some 19), .mv (.tmp 0), none, []⟩,
 ⟨2, (some 20), .mv (.tmp 1), none, []⟩,
 ⟨3, (some 21), .mv (.tmp 2), none, []⟩,
 ⟨4, (some 22), .mv (.tmp 7), none, []⟩,
 ⟨5, (some 23), .call 99 [(.con (.string ⟨#[80, 97, 114, 115, 101, 73, 110, 116]⟩)), (.tmp 19), (.tmp 20), (.tmp 21), (.tmp 22)], none, []⟩,
 ⟨6, (some 6), .mv (.tmp 18), none, []⟩,
 ⟨7, (some 7), .mv (.tmp 23), none, []⟩])
 (.ret))
 (.skip)))
 (.seq (.reg [⟨0, (some 24), .mv (.tmp 8), none, []⟩,
 ⟨1, (some 6), .mv (.tmp 24), none, []⟩,
 ⟨2, (some 7), .mv (.con .nilIface), none, []⟩])
 (.ret)))),
 [.tmp 6, .tmp 7]⟩
theorem p_strconv_ParseInt : prepFun Go.Proofs.Tryd.prog [1, 0, 2, 3] Go.Proofs.Tryd.f87 = some v_strconv_ParseInt := by kernel_rfl

def v_internal_stringslite_HasPrefix : VFun :=
⟨.seq (.reg [⟨0, (some 4), .mv (.con (.bool false)), none, []⟩])
 (.seq (.reg [⟨0, (some 5), .mv (.tmp 0), none, []⟩,
 ⟨1, (some 6), .bi .len [9] 3 [(.tmp 5)], none, []⟩,
 ⟨2, (some 7), .mv (.tmp 1), none, []⟩,
 ⟨3, (some 8), .bi .len [9] 3 [(.tmp 7)], none, []⟩,
 ⟨4, (some 9), .bin .geq 3 false (.tmp 6) (.tmp 8), none, []⟩,
 ⟨5, (some 10), .mv (.tmp 9), none, []⟩,
 ⟨6, (some 11), .mv (.tmp 0), (some (10, true)), []⟩,
 ⟨7, (some 12), .mv (.tmp 1), (some (10, true)), []⟩,
 ⟨8, (some 13), .bi .len [9] 3 [(.tmp 12)], (some (10, true)), []⟩,
 ⟨9, (some 14), .slS 9 (.tmp 11) none (some (.tmp 13)), (some (10, true)), []⟩,
 ⟨10, (some 15), .mv (.tmp 1), (some (10, true)), []⟩,
 ⟨11, (some 16), .bin .eql 9 false (.tmp 14) (.tmp 15), (some (10, true)), []⟩,
 ⟨12, (some 17), .pick (.tmp 10) (.tmp 16) (.con (.bool false)), none, []⟩,
 ⟨13, (some 4), .mv (.tmp 17), none, []⟩])
 (.ret)),
 [.tmp 4]⟩
theorem p_internal_stringslite_HasPrefix : prepFun Go.Proofs.Tryd.prog [1, 0, 2, 3] Go.Proofs.Tryd.f88 = some v_internal_stringslite_HasPrefix := by kernel_rfl

def v_internal_stringslite_IndexByte : VFun :=
⟨.seq (.reg [⟨0, (some 4), .mv (.con (.int .i64 0)), none, []⟩])
 (.seq (.reg [⟨0, (some 5), .mv (.tmp 0), none, []⟩,
 ⟨1, (some 6), .mv (.tmp 1), none, []⟩,
 ⟨2, (some 7), .call 100 [(.tmp 5), (.tmp 6)], none, []⟩,
 ⟨3, (some 4), .mv (.tmp 7), none, []⟩])
 (.ret)),
 [.tmp 4]⟩
theorem p_internal_stringslite_IndexByte : prepFun Go.Proofs.Tryd.prog [1, 0, 2, 3] Go.Proofs.Tryd.f91 = some v_internal_stringslite_IndexByte := by kernel_rfl

def v_internal_bytealg_Cutover : VFun :=
⟨.seq (.reg [⟨0, (some 2), .mv (.con (.int .i64 0)), none, []⟩])
 (.seq (.reg [⟨0, (some 3), .mv (.tmp 0), none, []⟩,
 ⟨1, (some 4), .bin .add 3 true (.tmp 3) (.con (.int .i64 16)), none, []⟩,
 ⟨2, (some 5), .bin .quo 3 true (.tmp 4) (.con (.int .i64 8)), none, []⟩,
 ⟨3, (some 2), .mv (.tmp 5), none, []⟩])
 (.ret)),
 [.tmp 2]⟩
theorem p_internal_bytealg_Cutover : prepFun Go.Proofs.Tryd.prog [1, 0, 2, 3] Go.Proofs.Tryd.f93 = some v_internal_bytealg_Cutover := by kernel_rfl

def v_internal_bytealg_IndexRabinKarp_string : VFun :=
⟨.seq (.reg [⟨0, (some 4), .mv (.con (.int .i64 0)), none, []⟩])
 (.seq (.reg [⟨0, (some 12), .mv (.tmp 1), none, []⟩,
 ⟨1, (some 13), .call 101 [(.tmp 12)], none, []⟩,
 ⟨2, (some 11), .mv (.tmp 13), none, []⟩,
 ⟨3, (some 14), .ext (.tmp 11) 0, none, []⟩,
 ⟨4, (some 15), .ext (.tmp 11) 1, none, []⟩,
 ⟨5, (some 5), .mv (.tmp 14), none, []⟩,
 ⟨6, (some 6), .mv (.tmp 15), none, []⟩])
 (.seq (.reg [⟨0, (some 16), .mv (.tmp 1), none, []⟩,
 ⟨1, (some 17), .bi .len [9] 3 [(.tmp 16)], none, []⟩,
 ⟨2, (some 7), .mv (.tmp 17), none, []⟩])
 (.seq (.reg [⟨0, (some 8), .mv (.con (.int .u32 0)), none, []⟩])
 (.seq (.seq (.reg [⟨0, (some 9), .mv (.con (.int .i64 0)), none, []⟩])
 (.block 0
 (.loop
 (.seq (.seq (.reg [⟨0, (some 18), .mv (.tmp 9), none, []⟩,
 ⟨1, (some 19), .mv (.tmp 7), none, []⟩,
 ⟨2, (some 20), .bin .lss 3 false (.tmp 18) (.tmp 19), none, []⟩])
 (.cond (.tmp 20)
 (.skip)
 (.exit 0)))
 (.seq (.block 1
 (.reg [⟨0, (some 23), .mv (.tmp 8), none, []⟩,
 ⟨1, (some 24), .bin .mul 149 true (.tmp 23) (.con (.int .u32 16777619)), none, []⟩,
 ⟨2, (some 25), .mv (.tmp 0), none, []⟩,
 ⟨3, (some 26), .mv (.tmp 9), none, []⟩,
 ⟨4, (some 27), .idxS 9 (.tmp 25) (.tmp 26), none, []⟩,
 ⟨5, (some 28), .conv 5 149 (.tmp 27), none, []⟩,
 ⟨6, (some 29), .bin .add 149 false (.tmp 24) (.tmp 28), none, []⟩,
 ⟨7, (some 8), .mv (.tmp 29), none, []⟩]))
 (.reg [⟨0, (some 21), .mv (.tmp 9), none, []⟩,
 ⟨1, (some 22), .bin .add 3 true (.tmp 21) (.con (.int .i64 1)), none, []⟩,
 ⟨2, (some 9), .mv (.tmp 22), none, []⟩]))))))
 (.seq (.seq (.reg [⟨0, (some 30), .mv (.tmp 8), none, []⟩,
 ⟨1, (some 31), .mv (.tmp 5), none, []⟩,
 ⟨2, (some 32), .bin .eql 149 false (.tmp 30) (.tmp 31), none, []⟩,
 ⟨3, (some 33), .mv (.tmp 32), none, []⟩,
 ⟨4, (some 34), .mv (.tmp 0), (some (33, true)), []⟩,
 ⟨5, (some 35), .mv (.tmp 7), (some (33, true)), []⟩,
 ⟨6, (some 36), .slS 9 (.tmp 34) none (some (.tmp 35)), (some (33, true)), []⟩,
 ⟨7, (some 37), .mv (.tmp 1), (some (33, true)), []⟩,
 ⟨8, (some 38), .bin .eql 9 false (.tmp 36) (.tmp 37), (some (33, true)), []⟩,
 ⟨9, (some 39), .pick (.tmp 33) (.tmp 38) (.con (.bool false)), none, []⟩])
 (.cond (.tmp 39)
 (.seq (.reg [⟨0, (some 4), .mv (.con (.int .i64 0)), none, []⟩])
 (.ret))
 (.skip)))
 (.seq (.seq (.reg [⟨0, (some 40), .mv (.tmp 7), none, []⟩,
 ⟨1, (some 10), .mv (.tmp 40), none, []⟩])
 (.block 2
 (.loop
 (.seq (.seq (.reg [⟨0, (some 41), .mv (.tmp 10), none, []⟩,
 ⟨1, (some 42), .mv (.tmp 0), none, []⟩,
 ⟨2, (some 43), .bi .len [9] 3 [(.tmp 42)], none, []⟩,
 ⟨3, (some 44), .bin .lss 3 false (.tmp 41) (.tmp 43), none, []⟩])
 (.cond (.tmp 44)
 (.skip)
 (.exit 2)))
 (.block 3
 (.seq (.reg [⟨0, (some 45), .mv (.tmp 8), none, []⟩,
 ⟨1, (some 46), .bin .mul 149 true (.tmp 45) (.con (.int .u32 16777619)), none, []⟩,
 ⟨2, (some 8), .mv (.tmp 46), none, []⟩])
 (.seq (.reg [⟨0, (some 47), .mv (.tmp 8), none, []⟩,
 ⟨1, (some 48), .mv (.tmp 0), none, []⟩,
 ⟨2, (some 49), .mv (.tmp 10), none, []⟩,
 ⟨3, (some 50), .idxS 9 (.tmp 48) (.tmp 49), none, []⟩,
 ⟨4, (some 51), .conv 5 149 (.tmp 50), none, []⟩,
 ⟨5, (some 52), .bin .add 149 false (.tmp 47) (.tmp 51), none, []⟩,
 ⟨6, (some 8), .mv (.tmp 52), none, []⟩])
 (.seq (.reg [⟨0, (some 53), .mv (.tmp 8), none, []⟩,
 ⟨1, (some 54), .mv (.tmp 6), none, []⟩,
 ⟨2, (some 55), .mv (.tmp 0), none, []⟩,
 ⟨3, (some 56), .mv (.tmp 10), none, []⟩,
 ⟨4, (some 57), .mv (.tmp 7), none, []⟩,
 ⟨5, (some 58), .bin .sub 3 false (.tmp 56) (.tmp 57), none, []⟩,
 ⟨6, (some 59), .idxS 9 (.tmp 55) (.tmp 58), none, []⟩,
 ⟨7, (some 60), .conv 5 149 (.tmp 59), none, []⟩,
 ⟨8, (some 61), .bin .mul 149 false (.tmp 54) (.tmp 60), none, []⟩,
 ⟨9, (some 62), .bin .sub 149 false (.tmp 53) (.tmp 61), none, []⟩,
 ⟨10, (some 8), .mv (.tmp 62), none, []⟩])
 (.seq (.reg [⟨0, (some 63), .mv (.tmp 10), none, []⟩,
 ⟨1, (some 64), .bin .add 3 true (.tmp 63) (.con (.int .i64 1)), none, []⟩,
 ⟨2, (some 10), .mv (.tmp 64), none, []⟩])
 (.seq (.reg [⟨0, (some 65), .mv (.tmp 8), none, []⟩,
 ⟨1, (some 66), .mv (.tmp 5), none, []⟩,
 ⟨2, (some 67), .bin .eql 149 false (.tmp 65) (.tmp 66), none, []⟩,
 ⟨3, (some 68), .mv (.tmp 67), none, []⟩,
 ⟨4, (some 69), .mv (.tmp 0), (some (68, true)), []⟩,
 ⟨5, (some 70), .mv (.tmp 10), (some (68, true)), []⟩,
 ⟨6, (some 71), .mv (.tmp 7), (some (68, true)), []⟩,
 ⟨7, (some 72), .bin .sub 3 false (.tmp 70) (.tmp 71), (some (68, true)), []⟩,
 ⟨8, (some 73), .mv (.tmp 10), (some (68, true)), []⟩,
 ⟨9, (some 74), .slS 9 (.tmp 69) (some (.tmp 72)) (some (.tmp 73)), (some (68, true)), []⟩,
 ⟨10, (some 75), .mv (.tmp 1), (some (68, true)), []⟩,
 ⟨11, (some 76), .bin .eql 9 false (.tmp 74) (.tmp 75), (some (68, true)), []⟩,
 ⟨12, (some 77), .pick (.tmp 68) (.tmp 76) (.con (.bool false)), none, []⟩])
 (.cond (.tmp 77)
 (.seq (.reg [⟨0, (some 78), .mv (.tmp 10), none, []⟩,
 ⟨1, (some 79), .mv (.tmp 7), none, []⟩,
 ⟨2, (some 80), .bin .sub 3 false (.tmp 78) (.tmp 79), none, []⟩,
 ⟨3, (some 4), .mv (.tmp 80), none, []⟩])
 (.ret))
 (.skip))))))))))))
 (.seq (.reg [⟨0, (some 4), .mv (.con (.int .i64 (-1))), none, []⟩])
 (.ret)))))))),
 [.tmp 4]⟩
theorem p_internal_bytealg_IndexRabinKarp_string : prepFun Go.Proofs.Tryd.prog [1, 0, 2, 3] Go.Proofs.Tryd.f94 = some v_internal_bytealg_IndexRabinKarp_string := by kernel_rfl

def v_unicode_utf8_DecodeRuneInString : VFun :=
⟨.seq (.reg [⟨0, (some 2), .mv (.con (.int .i32 0)), none, []⟩,
 ⟨1, (some 3), .mv (.con (.int .i64 0)), none, []⟩])
 (.seq (.seq (.reg [⟨0, (some 4), .mv (.tmp 0), none, []⟩,
 ⟨1, (some 5), .bin .neq 9 true (.tmp 4) (.con (.string ⟨#[]⟩)), none, []⟩,
 ⟨2, (some 6), .mv (.tmp 5), none, []⟩,
 ⟨3, (some 7), .mv (.tmp 0), (some (6, true)), []⟩,
 ⟨4, (some 8), .idxS 9 (.tmp 7) (.con (.int .i64 0)), (some (6, true)), []⟩,
 ⟨5, (some 9), .bin .lss 5 true (.tmp 8) (.con (.int .u8 128)), (some (6, true)), []⟩,
 ⟨6, (some 10), .pick (.tmp 6) (.tmp 9) (.con (.bool false)), none, []⟩])
 (.cond (.tmp 10)
 (.seq (.reg [⟨0, (some 11), .mv (.tmp 0), none, []⟩,
 ⟨1, (some 12), .idxS 9 (.tmp 11) (.con (.int .i64 0)), none, []⟩,
 ⟨2, (some 13), .conv 5 21 (.tmp 12), none, []⟩,
 ⟨3, (some 2), .mv (.tmp 13), none, []⟩,
 ⟨4, (some 3), .mv (.con (.int .i64 1)), none, []⟩])
 (.ret))
 (.reg [⟨0, (some 15), .mv (.tmp 0), none, []⟩,
 ⟨1, (some 16), .call 102 [(.tmp 15)], none, []⟩,
 ⟨2, (some 14), .mv (.tmp 16), none, []⟩,
 ⟨3, (some 17), .ext (.tmp 14) 0, none, []⟩,
 ⟨4, (some 18), .ext (.tmp 14) 1, none, []⟩,
 ⟨5, (some 2), .mv (.tmp 17), none, []⟩,
 ⟨6, (some 3), .mv (.tmp 18), none, []⟩])))
 (.ret)),
 [.tmp 2, .tmp 3]⟩
theorem p_unicode_utf8_DecodeRuneInString : prepFun Go.Proofs.Tryd.prog [1, 0, 2, 3] Go.Proofs.Tryd.f96 = some v_unicode_utf8_DecodeRuneInString := by kernel_rfl

def v_internal_strconv_ParseInt : VFun :=
⟨.seq (.reg [⟨0, (some 6), .mv (.con (.int .i64 0)), none, []⟩,
 ⟨1, (some 7), .mv (.con .nilIface), none, []⟩])
 (.seq (.seq (.reg [⟨0, (some 12), .mv (.tmp 0), none, []⟩,
 ⟨1, (some 13), .bin .eql 9 true (.tmp 12) (.con (.string ⟨#[]⟩)), none, []⟩])
 (.cond (.tmp 13)
 (.seq (.reg [⟨0, (some 14), .mkif 167 (.con (.int .i64 2)), none, []⟩,
 ⟨1, (some 6), .mv (.con (.int .i64 0)), none, []⟩,
 ⟨2, (some 7), .mv (.tmp 14), none, []⟩])
 (.ret))
 (.skip)))
 (.seq (.reg [⟨0, (some 8), .mv (.con (.bool false)), none, []⟩])
 (.seq (.seq (.reg [⟨0, (some 15), .mv (.tmp 0), none, []⟩,
 ⟨1, (some 16), .idxS 9 (.tmp 15) (.con (.int .i64 0)), none, []⟩])
 (.block 0
 (.seq (.reg [⟨0, (some 18), .bin .eql 5 true (.tmp 16) (.con (.int .u8 43)), none, []⟩,
 ⟨1, (some 17), .mv (.tmp 18), none, []⟩])
 (.cond (.tmp 17)
 (.reg [⟨0, (some 19), .mv (.tmp 0), none, []⟩,
 ⟨1, (some 20), .slS 9 (.tmp 19) (some (.con (.int .i64 1))) none, none, []⟩,
 ⟨2, (some 0), .mv (.tmp 20), none, []⟩])
 (.seq (.reg [⟨0, (some 22), .bin .eql 5 true (.tmp 16) (.con (.int .u8 45)), none, []⟩,
 ⟨1, (some 21), .mv (.tmp 22), none, []⟩])
 (.cond (.tmp 21)
 (.seq (.reg [⟨0, (some 23), .mv (.tmp 0), none, []⟩,
 ⟨1, (some 24), .slS 9 (.tmp 23) (some (.con (.int .i64 1))) none, none, []⟩,
 ⟨2, (some 0), .mv (.tmp 24), none, []⟩])
 (.reg [⟨0, (some 8), .mv (.con (.bool true)), none, []⟩]))
 (.skip)))))))
 (.seq (.reg [⟨0, (some 9), .mv (.con (.int .u64 0)), none, []⟩])
 (.seq (.reg [⟨0, (some 26), .mv (.tmp 0), none, []⟩,
 ⟨1, (some 27), .mv (.tmp 1), none, []⟩,
 ⟨2, (some 28), .mv (.tmp 2), none, []⟩,
 ⟨3, (some 29), .call 103 [(.tmp 26), (.tmp 27), (.tmp 28)], none, []⟩,
 ⟨4, (some 25), .mv (.tmp 29), none, []⟩,
 ⟨5, (some 30), .ext (.tmp 25) 0, none, []⟩,
 ⟨6, (some 31), .ext (.tmp 25) 1, none, []⟩,
 ⟨7, (some 9), .mv (.tmp 30), none, []⟩,
 ⟨8, (some 7), .mv (.tmp 31), none, []⟩])
 (.seq (.seq (.reg [⟨0, (some 32), .mv (.tmp 7), none, []⟩,
 ⟨1, (some 33), .bin .neq 60 true (.tmp 32) (.con .nilIface), none, []⟩,
 ⟨2, (some 34), .mv (.tmp 33), none, []⟩,
 ⟨3, (some 35), .mv (.tmp 7), (some (34, true)), []⟩,
 ⟨4, (some 36), .mkif 167 (.con (.int .i64 1)), (some (34, true)), []⟩,
 ⟨5, (some 37), .bin .neq 60 false (.tmp 35) (.tmp 36), (some (34, true)), []⟩,
 ⟨6, (some 38), .pick (.tmp 34) (.tmp 37) (.con (.bool false)), none, []⟩])
 (.cond (.tmp 38)
 (.seq (.reg [⟨0, (some 39), .mv (.tmp 7), none, []⟩,
 ⟨1, (some 6), .mv (.con (.int .i64 0)), none, []⟩,
 ⟨2, (some 7), .mv (.tmp 39), none, []⟩])
 (.ret))
 (.skip)))
 (.seq (.seq (.reg [⟨0, (some 40), .mv (.tmp 2), none, []⟩,
 ⟨1, (some 41), .bin .eql 3 true (.tmp 40) (.con (.int .i64 0)), none, []⟩])
 (.cond (.tmp 41)
 (.reg [⟨0, (some 2), .mv (.con (.int .i64 64)), none, []⟩])
 (.skip)))
 (.seq (.reg [⟨0, (some 42), .mv (.tmp 2), none, []⟩,
 ⟨1, (some 43), .bin .sub 3 true (.tmp 42) (.con (.int .i64 1)), none, []⟩,
 ⟨2, (some 44), .conv 3 44 (.tmp 43), none, []⟩,
 ⟨3, (some 45), .bin .shl 130 true (.con (.int .u64 1)) (.tmp 44), none, []⟩,
 ⟨4, (some 10), .mv (.tmp 45), none, []⟩])
 (.seq (.seq (.reg [⟨0, (some 46), .mv (.tmp 8), none, []⟩,
 ⟨1, (some 47), .un .not (.tmp 46), none, []⟩,
 ⟨2, (some 48), .mv (.tmp 47), none, []⟩,
 ⟨3, (some 49), .mv (.tmp 9), (some (48, true)), []⟩,
 ⟨4, (some 50), .mv (.tmp 10), (some (48, true)), []⟩,
 ⟨5, (some 51), .bin .geq 130 false (.tmp 49) (.tmp 50), (some (48, true)), []⟩,
 ⟨6, (some 52), .pick (.tmp 48) (.tmp 51) (.con (.bool false)), none, []⟩])
 (.cond (.tmp 52)
 (.seq (.reg [⟨0, (some 53), .mv (.tmp 10), none, []⟩,
 ⟨1, (some 54), .bin .sub 130 true (.tmp 53) (.con (.int .u64 1)), none, []⟩,
 ⟨2, (some 55), .conv 130 2 (.tmp 54), none, []⟩,
 ⟨3, (some 56), .mkif 167 (.con (.int .i64 1)), none, []⟩,
 ⟨4, (some 6), .mv (.tmp 55), none, []⟩,
 ⟨5, (some 7), .mv (.tmp 56), none, []⟩])
 (.ret))
 (.skip)))
 (.seq (.seq (.reg [⟨0, (some 57), .mv (.tmp 8), none, []⟩,
 ⟨1, (some 58), .mv (.tmp 57), none, []⟩,
 ⟨2, (some 59), .mv (.tmp 9), (some (58, true)), []⟩,
 ⟨3, (some 60), .mv (.tmp 10), (some (58, true)), []⟩,
 ⟨4, (some 61), .bin .gtr 130 false (.tmp 59) (.tmp 60), (some (58, true)), []⟩,
 ⟨5, (some 62), .pick (.tmp 58) (.tmp 61) (.con (.bool false)), none, []⟩])
 (.cond (.tmp 62)
 (.seq (.reg [⟨0, (some 63), .mv (.tmp 10), none, []⟩,
 ⟨1, (some 64), .conv 130 2 (.tmp 63), none, []⟩,
 ⟨2, (some 65), .un .neg (.tmp 64), none, []⟩,
 ⟨3, (some 66), .mkif 167 (.con (.int .i64 1)), none, []⟩,
 ⟨4, (some 6), .mv (.tmp 65), none, []⟩,
 ⟨5, (some 7), .mv (.tmp 66), none, []⟩])
 (.ret))
 (.skip)))
 (.seq (.reg [⟨0, (some 67), .mv (.tmp 9), none, []⟩,
 ⟨1, (some 68), .conv 130 2 (.tmp 67), none, []⟩,
 ⟨2, (some 11), .mv (.tmp 68), none, []⟩])
 (.seq (.seq (.reg [⟨0, (some 69), .mv (.tmp 8), none, []⟩])
 (.cond (.tmp 69)
 (.reg [⟨0, (some 70), .mv (.tmp 11), none, []⟩,
 ⟨1, (some 71), .un .neg (.tmp 70), none, []⟩,
 ⟨2, (some 11), .mv (.tmp 71), none, []⟩])
 (.skip)))
 (.seq (.reg [⟨0, (some 72), .mv (.tmp 11), none, []⟩,
 ⟨1, (some 6), .mv (.tmp 72), none, []⟩,
 ⟨2, (some 7), .mv (.con .nilIface), none, []⟩])
 (.ret)))))))))))))),
 [.tmp 6, .tmp 7]⟩
theorem p_internal_strconv_ParseInt : prepFun Go.Proofs.Tryd.prog [1, 0, 2, 3] Go.Proofs.Tryd.f98 = some v_internal_strconv_ParseInt := by kernel_rfl

def v_strconv_toError : VFun :=
⟨.seq (.reg [⟨0, (some 10), .mv (.con .nilIface), none, []⟩])
 (.seq (.seq (.reg [⟨0, (some 11), .mv (.tmp 4), none, []⟩])
 (.block 0
 (.seq (.reg [⟨0, (some 13), .mkif 167 (.con (.int .i64 2)), none, []⟩,
 ⟨1, (some 14), .bin .eql 60 false (.tmp 11) (.tmp 13), none, []⟩,
 ⟨2, (some 12), .mv (.tmp 14), none, []⟩])
 (.cond (.tmp 12)
 (.seq (.reg [⟨0, (some 15), .mv (.tmp 0), none, []⟩,
 ⟨1, (some 16), .mv (.tmp 1), none, []⟩,
 ⟨2, (some 17), .call 104 [(.tmp 15), (.tmp 16)], none, []⟩,
 ⟨3, (some 18), .mkif 170 (.tmp 17), none, []⟩,
 ⟨4, (some 10), .mv (.tmp 18), none, []⟩])
 (.ret))
 (.seq (.reg [⟨0, (some 20), .mkif 167 (.con (.int .i64 1)), none, []⟩,
 ⟨1, (some 21), .bin .eql 60 false (.tmp 11) (.tmp 20), none, []⟩,
 ⟨2, (some 19), .mv (.tmp 21), none, []⟩])
 (.cond (.tmp 19)
 (.seq (.reg [⟨0, (some 22), .mv (.tmp 0), none, []⟩,
 ⟨1, (some 23), .mv (.tmp 1), none, []⟩,
 ⟨2, (some 24), .call 105 [(.tmp 22), (.tmp 23)], none, []⟩,
 ⟨3, (some 25), .mkif 170 (.tmp 24), none, []⟩,
 ⟨4, (some 10), .mv (.tmp 25), none, []⟩])
 (.ret))
 (.seq (.reg [⟨0, (some 27), .mkif 167 (.con (.int .i64 3)), none, []⟩,
 ⟨1, (some 28), .bin .eql 60 false (.tmp 11) (.tmp 27), none, []⟩,
 ⟨2, (some 26), .mv (.tmp 28), none, []⟩])
 (.cond (.tmp 26)
 (.seq (.reg [⟨0, (some 29), .mv (.tmp 0), none, []⟩,
 ⟨1, (some 30), .mv (.tmp 1), none, []⟩,
 ⟨2, (some 31), .mv (.tmp 2), none, []⟩,
 ⟨3, (some 32), .call 106 [(.tmp 29), (.tmp 30), (.tmp 31)], none, []⟩,
 ⟨4, (some 33), .mkif 170 (.tmp 32), none, []⟩,
 ⟨5, (some 10), .mv (.tmp 33), none, []⟩])
 (.ret))
 (.seq (.reg [⟨0, (some 35), .mkif 167 (.con (.int .i64 4)), none, []⟩,
 ⟨1, (some 36), .bin .eql 60 false (.tmp 11) (.tmp 35), none, []⟩,
 ⟨2, (some 34), .mv (.tmp 36), none, []⟩])
 (.cond (.tmp 34)
 (.seq (.reg [⟨0, (some 37), .mv (.tmp 0), none, []⟩,
 ⟨1, (some 38), .mv (.tmp 1), none, []⟩,
 ⟨2, (some 39), .mv (.tmp 3), none, []⟩,
 ⟨3, (some 40), .call 107 [(.tmp 37), (.tmp 38), (.tmp 39)], none, []⟩,
 ⟨4, (some 41), .mkif 170 (.tmp 40), none, []⟩,
 ⟨5, (some 10), .mv (.tmp 41), none, []⟩])
 (.ret))
 (.skip)))))))))))
 (.seq (.reg [⟨0, (some 42), .mv (.tmp 4), none, []⟩,
 ⟨1, (some 10), .mv (.tmp 42), none, []⟩])
 (.ret))),
 [.tmp 10]⟩
theorem p_strconv_toError : prepFun Go.Proofs.Tryd.prog [1, 0, 2, 3] Go.Proofs.Tryd.f99 = some v_strconv_toError := by kernel_rfl

def v_internal_bytealg_hashStr_string : VFun :=
⟨.seq (.reg [⟨0, (some 2), .mv (.con (.int .u32 0)), none, []⟩,
 ⟨1, (some 3), .mv (.con (.int .u32 0)), none, []⟩])
 (.seq (.reg [⟨0, (some 4), .mv (.con (.int .u32 0)), none, []⟩])
 (.seq (.seq (.reg [⟨0, (some 5), .mv (.con (.int .i64 0)), none, []⟩])
 (.block 0
 (.loop
 (.seq (.seq (.reg [⟨0, (some 9), .mv (.tmp 5), none, []⟩,
 ⟨1, (some 10), .mv (.tmp 0), none, []⟩,
 ⟨2, (some 11), .bi .len [9] 3 [(.tmp 10)], none, []⟩,
 ⟨3, (some 12), .bin .lss 3 false (.tmp 9) (.tmp 11), none, []⟩])
 (.cond (.tmp 12)
 (.skip)
 (.exit 0)))
 (.seq (.block 1
 (.reg [⟨0, (some 15), .mv (.tmp 4), none, []⟩,
 ⟨1, (some 16), .bin .mul 149 true (.tmp 15) (.con (.int .u32 16777619)), none, []⟩,
 ⟨2, (some 17), .mv (.tmp 0), none, []⟩,
 ⟨3, (some 18), .mv (.tmp 5), none, []⟩,
 ⟨4, (some 19), .idxS 9 (.tmp 17) (.tmp 18), none, []⟩,
 ⟨5, (some 20), .conv 5 149 (.tmp 19), none, []⟩,
 ⟨6, (some 21), .bin .add 149 false (.tmp 16) (.tmp 20), none, []⟩,
 ⟨7, (some 4), .mv (.tmp 21), none, []⟩]))
 (.reg [⟨0, (some 13), .mv (.tmp 5), none, []⟩,
 ⟨1, (some 14), .bin .add 3 true (.tmp 13) (.con (.int .i64 1)), none, []⟩,
 ⟨2, (some 5), .mv (.tmp 14), none, []⟩]))))))
 (.seq (.reg [⟨0, (some 6), .mv (.con (.int .u32 1)), none, []⟩,
 ⟨1, (some 7), .mv (.con (.int .u32 16777619)), none, []⟩])
 (.seq (.seq (.reg [⟨0, (some 22), .mv (.tmp 0), none, []⟩,
 ⟨1, (some 23), .bi .len [9] 3 [(.tmp 22)], none, []⟩,
 ⟨2, (some 8), .mv (.tmp 23), none, []⟩])
 (.block 2
 (.loop
 (.seq (.seq (.reg [⟨0, (some 24), .mv (.tmp 8), none, []⟩,
 ⟨1, (some 25), .bin .gtr 3 true (.tmp 24) (.con (.int .i64 0)), none, []⟩])
 (.cond (.tmp 25)
 (.skip)
 (.exit 2)))
 (.seq (.block 3
 (.seq (.seq (.reg [⟨0, (some 28), .mv (.tmp 8), none, []⟩,
 ⟨1, (some 29), .bin .and 3 true (.tmp 28) (.con (.int .i64 1)), none, []⟩,
 ⟨2, (some 30), .bin .neq 3 true (.tmp 29) (.con (.int .i64 0)), none, []⟩])
 (.cond (.tmp 30)
 (.reg [⟨0, (some 31), .mv (.tmp 6), none, []⟩,
 ⟨1, (some 32), .mv (.tmp 7), none, []⟩,
 ⟨2, (some 33), .bin .mul 149 false (.tmp 31) (.tmp 32), none, []⟩,
 ⟨3, (some 6), .mv (.tmp 33), none, []⟩])
 (.skip)))
 (.reg [⟨0, (some 34), .mv (.tmp 7), none, []⟩,
 ⟨1, (some 35), .mv (.tmp 7), none, []⟩,
 ⟨2, (some 36), .bin .mul 149 false (.tmp 34) (.tmp 35), none, []⟩,
 ⟨3, (some 7), .mv (.tmp 36), none, []⟩])))
 (.reg [⟨0, (some 26), .mv (.tmp 8), none, []⟩,
 ⟨1, (some 27), .bin .shr 3 true (.tmp 26) (.con (.int .u64 1)), none, []⟩,
 ⟨2, (some 8), .mv (.tmp 27), none, []⟩]))))))
 (.seq (.reg [⟨0, (some 37), .mv (.tmp 4), none, []⟩,
 ⟨1, (some 38), .mv (.tmp 6), none, []⟩,
 ⟨2, (some 2), .mv (.tmp 37), none, []⟩,
 ⟨3, (some 3), .mv (.tmp 38), none, []⟩])
 (.ret)))))),
 [.tmp 2, .tmp 3]⟩
theorem p_internal_bytealg_hashStr_string : prepFun Go.Proofs.Tryd.prog [1, 0, 2, 3] Go.Proofs.Tryd.f101 = some v_internal_bytealg_hashStr_string := by kernel_rfl

def v_internal_strconv_ParseUint : VFun :=
⟨.seq (.reg [⟨0, (some 6), .mv (.con (.int .u64 0)), none, []⟩,
 ⟨1, (some 7), .mv (.con .nilIface), none, []⟩])
 (.seq (.seq (.reg [⟨0, (some 18), .mv (.tmp 0), none, []⟩,
 ⟨1, (some 19), .bin .eql 9 true (.tmp 18) (.con (.string ⟨#[]⟩)), none, []⟩])
 (.cond (.tmp 19)
 (.seq (.reg [⟨0, (some 20), .mkif 167 (.con (.int .i64 2)), none, []⟩,
 ⟨1, (some 6), .mv (.con (.int .u64 0)), none, []⟩,
 ⟨2, (some 7), .mv (.tmp 20), none, []⟩])
 (.ret))
 (.skip)))
 (.seq (.reg [⟨0, (some 21), .mv (.tmp 1), none, []⟩,
 ⟨1, (some 22), .bin .eql 3 true (.tmp 21) (.con (.int .i64 0)), none, []⟩,
 ⟨2, (some 8), .mv (.tmp 22), none, []⟩])
 (.seq (.reg [⟨0, (some 23), .mv (.tmp 0), none, []⟩,
 ⟨1, (some 9), .mv (.tmp 23), none, []⟩])
 (.seq (.block 0
 (.seq (.reg [⟨0, (some 26), .mv (.tmp 1), none, []⟩,
 ⟨1, (some 27), .bin .leq 3 true (.con (.int .i64 2)) (.tmp 26), none, []⟩,
 ⟨2, (some 28), .mv (.tmp 27), none, []⟩,
 ⟨3, (some 29), .mv (.tmp 1), (some (28, true)), []⟩,
 ⟨4, (some 30), .bin .leq 3 true (.tmp 29) (.con (.int .i64 36)), (some (28, true)), []⟩,
 ⟨5, (some 31), .pick (.tmp 28) (.tmp 30) (.con (.bool false)), none, []⟩,
 ⟨6, (some 25), .mv (.tmp 31), none, []⟩])
 (.cond (.tmp 25)
 (.skip)
 (.seq (.reg [⟨0, (some 33), .mv (.tmp 1), none, []⟩,
 ⟨1, (some 34), .bin .eql 3 true (.tmp 33) (.con (.int .i64 0)), none, []⟩,
 ⟨2, (some 32), .mv (.tmp 34), none, []⟩])
 (.cond (.tmp 32)
 (.seq (.reg [⟨0, (some 1), .mv (.con (.int .i64 10)), none, []⟩])
 (.seq (.reg [⟨0, (some 35), .mv (.tmp 0), none, []⟩,
 ⟨1, (some 36), .idxS 9 (.tmp 35) (.con (.int .i64 0)), none, []⟩,
 ⟨2, (some 37), .bin .eql 5 true (.tmp 36) (.con (.int .u8 48)), none, []⟩])
 (.cond (.tmp 37)
 (.block 1
 (.seq (.reg [⟨0, (some 41), .mv (.tmp 0), none, []⟩,
 ⟨1, (some 42), .bi .len [9] 3 [(.tmp 41)], none, []⟩,
 ⟨2, (some 43), .bin .geq 3 true (.tmp 42) (.con (.int .i64 3)), none, []⟩,
 ⟨3, (some 44), .mv (.tmp 43), none, []⟩,
 ⟨4, (some 45), .mv (.tmp 0), (some (44, true)), []⟩,
 ⟨5, (some 46), .idxS 9 (.tmp 45) (.con (.int .i64 1)), (some (44, true)), []⟩,
 ⟨6, (some 47), .call 108 [(.tmp 46)], (some (44, true)), []⟩,
 ⟨7, (some 48), .bin .eql 5 true (.tmp 47) (.con (.int .u8 98)), (some (44, true)), []⟩,
 ⟨8, (some 49), .pick (.tmp 44) (.tmp 48) (.con (.bool false)), none, []⟩,
 ⟨9, (some 40), .mv (.tmp 49), none, []⟩])
 (.cond (.tmp 40)
 (.seq (.reg [⟨0, (some 1), .mv (.con (.int .i64 2)), none, []⟩])
 (.reg [⟨0, (some 50), .mv (.tmp 0), none, []⟩,
 ⟨1, (some 51), .slS 9 (.tmp 50) (some (.con (.int .i64 2))) none, none, []⟩,
 ⟨2, (some 0), .mv (.tmp 51), none, []⟩]))
 (.seq (.reg [⟨0, (some 53), .mv (.tmp 0), none, []⟩,
 ⟨1, (some 54), .bi .len [9] 3 [(.tmp 53)], none, []⟩,
 ⟨2, (some 55), .bin .geq 3 true (.tmp 54) (.con (.int .i64 3)), none, []⟩,
 ⟨3, (some 56), .mv (.tmp 55), none, []⟩,
 ⟨4, (some 57), .mv (.tmp 0), (some (56, true)), []⟩,
 ⟨5, (some 58), .idxS 9 (.tmp 57) (.con (.int .i64 1)), (some (56, true)), []⟩,
 ⟨6, (some 59), .call 108 [(.tmp 58)], (some (56, true)), []⟩,
 ⟨7, (some 60), .bin .eql 5 true (.tmp 59) (.con (.int .u8 111)), (some (56, true)), []⟩,
 ⟨8, (some 61), .pick (.tmp 56) (.tmp 60) (.con (.bool false)), none, []⟩,
 ⟨9, (some 52), .mv (.tmp 61), none, []⟩])
 (.cond (.tmp 52)
 (.seq (.reg [⟨0, (some 1), .mv (.con (.int .i64 8)), none, []⟩])
 (.reg [⟨0, (some 62), .mv (.tmp 0), none, []⟩,
 ⟨1, (some 63), .slS 9 (.tmp 62) (some (.con (.int .i64 2))) none, none, []⟩,
 ⟨2, (some 0), .mv (.tmp 63), none, []⟩]))
 (.seq (.reg [⟨0, (some 65), .mv (.tmp 0), none, []⟩,
 ⟨1, (some 66), .bi .len [9] 3 [(.tmp 65)], none, []⟩,
 ⟨2, (some 67), .bin .geq 3 true (.tmp 66) (.con (.int .i64 3)), none, []⟩,
 ⟨3, (some 68), .mv (.tmp 67), none, []⟩,
 ⟨4, (some 69), .mv (.tmp 0), (some (68, true)), []⟩,
 ⟨5, (some 70), .idxS 9 (.tmp 69) (.con (.int .i64 1)), (some (68, true)), []⟩,
 ⟨6, (some 71), .call 108 [(.tmp 70)], (some (68, true)), []⟩,
 ⟨7, (some 72), .bin .eql 5 true (.tmp 71) (.con (.int .u8 120)), (some (68, true)), []⟩,
 ⟨8, (some 73), .pick (.tmp 68) (.tmp 72) (.con (.bool false)), none, []⟩,
 ⟨9, (some 64), .mv (.tmp 73), none, []⟩])
 (.cond (.tmp 64)
 (.seq (.reg [⟨0, (some 1), .mv (.con (.int .i64 16)), none, []⟩])
 (.reg [⟨0, (some 74), .mv (.tmp 0), none, []⟩,
 ⟨1, (some 75), .slS 9 (.tmp 74) (some (.con (.int .i64 2))) none, none, []⟩,
 ⟨2, (some 0), .mv (.tmp 75), none, []⟩]))
 (.seq (.reg [⟨0, (some 1), .mv (.con (.int .i64 8)), none, []⟩])
 (.reg [⟨0, (some 38), .mv (.tmp 0), none, []⟩,
 ⟨1, (some 39), .slS 9 (.tmp 38) (some (.con (.int .i64 1))) none, none, []⟩,
 ⟨2, (some 0), .mv (.tmp 39), none, []⟩])))))))))
 (.skip))))
 (.seq (.reg [⟨0, (some 24), .mkif 167 (.con (.int .i64 3)), none, []⟩,
 ⟨1, (some 6), .mv (.con (.int .u64 0)), none, []⟩,
 ⟨2, (some 7), .mv (.tmp 24), none, []⟩])
 (.ret)))))))
 (.seq (.seq (.reg [⟨0, (some 76), .mv (.tmp 2), none, []⟩,
 ⟨1, (some 77), .bin .eql 3 true (.tmp 76) (.con (.int .i64 0)), none, []⟩])
 (.cond (.tmp 77)
 (.reg [⟨0, (some 2), .mv (.con (.int .i64 64)), none, []⟩])
 (.seq (.reg [⟨0, (some 78), .mv (.tmp 2), none, []⟩,
 ⟨1, (some 79), .bin .lss 3 true (.tmp 78) (.con (.int .i64 0)), none, []⟩,
 ⟨2, (some 80), .mv (.tmp 79), none, []⟩,
 ⟨3, (some 81), .mv (.tmp 2), (some (80, false)), []⟩,
 ⟨4, (some 82), .bin .gtr 3 true (.tmp 81) (.con (.int .i64 64)), (some (80, false)), []⟩,
 ⟨5, (some 83), .pick (.tmp 80) (.con (.bool true)) (.tmp 82), none, []⟩])
 (.cond (.tmp 83)
 (.seq (.reg [⟨0, (some 84), .mkif 167 (.con (.int .i64 4)), none, []⟩,
 ⟨1, (some 6), .mv (.con (.int .u64 0)), none, []⟩,
 ⟨2, (some 7), .mv (.tmp 84), none, []⟩])
 (.ret))
 (.skip)))))
 (.seq (.reg [⟨0, (some 10), .mv (.con (.int .u64 0)), none, []⟩])
 (.seq (.seq (.reg [⟨0, (some 85), .mv (.tmp 1), none, []⟩])
 (.block 2
 (.seq (.reg [⟨0, (some 91), .bin .eql 3 true (.tmp 85) (.con (.int .i64 10)), none, []⟩,
 ⟨1, (some 90), .mv (.tmp 91), none, []⟩])
 (.cond (.tmp 90)
 (.reg [⟨0, (some 10), .mv (.con (.int .u64 1844674407370955162)), none, []⟩])
 (.seq (.reg [⟨0, (some 93), .bin .eql 3 true (.tmp 85) (.con (.int .i64 16)), none, []⟩,
 ⟨1, (some 92), .mv (.tmp 93), none, []⟩])
 (.cond (.tmp 92)
 (.reg [⟨0, (some 10), .mv (.con (.int .u64 1152921504606846976)), none, []⟩])
 (.reg [⟨0, (some 86), .mv (.tmp 1), none, []⟩,
 ⟨1, (some 87), .conv 3 130 (.tmp 86), none, []⟩,
 ⟨2, (some 88), .bin .quo 130 true (.con (.int .u64 18446744073709551615)) (.tmp 87), none, []⟩,
 ⟨3, (some 89), .bin .add 130 true (.tmp 88) (.con (.int .u64 1)), none, []⟩,
 ⟨4, (some 10), .mv (.tmp 89), none, []⟩])))))))
 (.seq (.reg [⟨0, (some 94), .mv (.tmp 2), none, []⟩,
 ⟨1, (some 95), .conv 3 44 (.tmp 94), none, []⟩,
 ⟨2, (some 96), .bin .shl 130 true (.con (.int .u64 1)) (.tmp 95), none, []⟩,
 ⟨3, (some 97), .bin .sub 130 true (.tmp 96) (.con (.int .u64 1)), none, []⟩,
 ⟨4, (some 11), .mv (.tmp 97), none, []⟩])
 (.seq (.reg [⟨0, (some 12), .mv (.con (.bool false)), none, []⟩])
 (.seq (.reg [⟨0, (some 13), .mv (.con (.int .u64 0)), none, []⟩])
 (.seq (.seq (.reg [⟨0, (some 98), .mv (.tmp 0), none, []⟩,
 ⟨1, (some 99), .s2b (.tmp 98), none, []⟩,
 ⟨2, (some 100), .len (.tmp 99), none, []⟩,
 ⟨3, (some 101), .mv (.con (.int .i64 0)), none, []⟩])
 (.block 3
 (.loop
 (.seq (.reg [⟨0, (some 102), .bin .lss 3 false (.tmp 101) (.tmp 100), none, []⟩])
 (.seq (.cond (.tmp 102)
 (.skip)
 (.exit 3))
 (.seq (.block 4
 (.seq (.reg [⟨0, (some 103), .idxA none 1 (.tmp 99) (.tmp 101), none, []⟩,
 ⟨1, (some 104), .load none (.tmp 103), none, []⟩,
 ⟨2, (some 15), .mv (.tmp 104), none, []⟩])
 (.seq (.reg [⟨0, (some 16), .mv (.con (.int .u8 0)), none, []⟩])
 (.seq (.block 5
 (.seq (.reg [⟨0, (some 107), .mv (.tmp 15), none, []⟩,
 ⟨1, (some 108), .bin .eql 5 true (.tmp 107) (.con (.int .u8 95)), none, []⟩,
 ⟨2, (some 109), .mv (.tmp 108), none, []⟩,
 ⟨3, (some 110), .mv (.tmp 8), (some (109, true)), []⟩,
 ⟨4, (some 111), .pick (.tmp 109) (.tmp 110) (.con (.bool false)), none, []⟩,
 ⟨5, (some 106), .mv (.tmp 111), none, []⟩])
 (.cond (.tmp 106)
 (.seq (.reg [⟨0, (some 12), .mv (.con (.bool true)), none, []⟩])
 (.exit 4))
 (.seq (.reg [⟨0, (some 113), .mv (.tmp 15), none, []⟩,
 ⟨1, (some 114), .bin .leq 5 true (.con (.int .u8 48)) (.tmp 113), none, []⟩,
 ⟨2, (some 115), .mv (.tmp 114), none, []⟩,
 ⟨3, (some 116), .mv (.tmp 15), (some (115, true)), []⟩,
 ⟨4, (some 117), .bin .leq 5 true (.tmp 116) (.con (.int .u8 57)), (some (115, true)), []⟩,
 ⟨5, (some 118), .pick (.tmp 115) (.tmp 117) (.con (.bool false)), none, []⟩,
 ⟨6, (some 112), .mv (.tmp 118), none, []⟩])
 (.cond (.tmp 112)
 (.reg [⟨0, (some 119), .mv (.tmp 15), none, []⟩,
 ⟨1, (some 120), .bin .sub 5 true (.tmp 119) (.con (.int .u8 48)), none, []⟩,
 ⟨2, (some 16), .mv (.tmp 120), none, []⟩])
 (.seq (.reg [⟨0, (some 122), .mv (.tmp 15), none, []⟩,
 ⟨1, (some 123), .call 108 [(.tmp 122)], none, []⟩,
 ⟨2, (some 124), .bin .leq 5 true (.con (.int .u8 97)) (.tmp 123), none, []⟩,
 ⟨3, (some 125), .mv (.tmp 124), none, []⟩,
 ⟨4, (some 126), .mv (.tmp 15), (some (125, true)), []⟩,
 ⟨5, (some 127), .call 108 [(.tmp 126)], (some (125, true)), []⟩,
 ⟨6, (some 128), .bin .leq 5 true (.tmp 127) (.con (.int .u8 122)), (some (125, true)), []⟩,
 ⟨7, (some 129), .pick (.tmp 125) (.tmp 128) (.con (.bool false)), none, []⟩,
 ⟨8, (some 121), .mv (.tmp 129), none, []⟩])
 (.cond (.tmp 121)
 (.reg [⟨0, (some 130), .mv (.tmp 15), none, []⟩,
 ⟨1, (some 131), .call 108 [(.tmp 130)], none, []⟩,
 ⟨2, (some 132), .bin .sub 5 true (.tmp 131) (.con (.int .u8 97)), none, []⟩,
 ⟨3, (some 133), .bin .add 5 true (.tmp 132) (.con (.int .u8 10)), none, []⟩,
 ⟨4, (some 16), .mv (.tmp 133), none, []⟩])
 (.seq (.reg [⟨0, (some 105), .mkif 167 (.con (.int .i64 2)), none, []⟩,
 ⟨1, (some 6), .mv (.con (.int .u64 0)), none, []⟩,
 ⟨2, (some 7), .mv (.tmp 105), none, []⟩])
 (.ret)))))))))
 (.seq (.seq (.reg [⟨0, (some 134), .mv (.tmp 16), none, []⟩,
 ⟨1, (some 135), .mv (.tmp 1), none, []⟩,
 ⟨2, (some 136), .conv 3 5 (.tmp 135), none, []⟩,
 ⟨3, (some 137), .bin .geq 5 false (.tmp 134) (.tmp 136), none, []⟩])
 (.cond (.tmp 137)
 (.seq (.reg [⟨0, (some 138), .mkif 167 (.con (.int .i64 2)), none, []⟩,
 ⟨1, (some 6), .mv (.con (.int .u64 0)), none, []⟩,
 ⟨2, (some 7), .mv (.tmp 138), none, []⟩])
 (.ret))
 (.skip)))
 (.seq (.seq (.reg [⟨0, (some 139), .mv (.tmp 13), none, []⟩,
 ⟨1, (some 140), .mv (.tmp 10), none, []⟩,
 ⟨2, (some 141), .bin .geq 130 false (.tmp 139) (.tmp 140), none, []⟩])
 (.cond (.tmp 141)
 (.seq (.reg [⟨0, (some 142), .mv (.tmp 11), none, []⟩,
 ⟨1, (some 143), .mkif 167 (.con (.int .i64 1)), none, []⟩,
 ⟨2, (some 6), .mv (.tmp 142), none, []⟩,
 ⟨3, (some 7), .mv (.tmp 143), none, []⟩])
 (.ret))
 (.skip)))
 (.seq (.reg [⟨0, (some 144), .mv (.tmp 13), none, []⟩,
 ⟨1, (some 145), .mv (.tmp 1), none, []⟩,
 ⟨2, (some 146), .conv 3 130 (.tmp 145), none, []⟩,
 ⟨3, (some 147), .bin .mul 130 false (.tmp 144) (.tmp 146), none, []⟩,
 ⟨4, (some 13), .mv (.tmp 147), none, []⟩])
 (.seq (.reg [⟨0, (some 148), .mv (.tmp 13), none, []⟩,
 ⟨1, (some 149), .mv (.tmp 16), none, []⟩,
 ⟨2, (some 150), .conv 5 130 (.tmp 149), none, []⟩,
 ⟨3, (some 151), .bin .add 130 false (.tmp 148) (.tmp 150), none, []⟩,
 ⟨4, (some 17), .mv (.tmp 151), none, []⟩])
 (.seq (.seq (.reg [⟨0, (some 152), .mv (.tmp 17), none, []⟩,
 ⟨1, (some 153), .mv (.tmp 13), none, []⟩,
 ⟨2, (some 154), .bin .lss 130 false (.tmp 152) (.tmp 153), none, []⟩,
 ⟨3, (some 155), .mv (.tmp 154), none, []⟩,
 ⟨4, (some 156), .mv (.tmp 17), (some (155, false)), []⟩,
 ⟨5, (some 157), .mv (.tmp 11), (some (155, false)), []⟩,
 ⟨6, (some 158), .bin .gtr 130 false (.tmp 156) (.tmp 157), (some (155, false)), []⟩,
 ⟨7, (some 159), .pick (.tmp 155) (.con (.bool true)) (.tmp 158), none, []⟩])
 (.cond (.tmp 159)
 (.seq (.reg [⟨0, (some 160), .mv (.tmp 11), none, []⟩,
 ⟨1, (some 161), .mkif 167 (.con (.int .i64 1)), none, []⟩,
 ⟨2, (some 6), .mv (.tmp 160), none, []⟩,
 ⟨3, (some 7), .mv (.tmp 161), none, []⟩])
 (.ret))
 (.skip)))
 (.reg [⟨0, (some 162), .mv (.tmp 17), none, []⟩,
 ⟨1, (some 13), .mv (.tmp 162), none, []⟩]))))))))))
 (.reg [⟨0, (some 163), .bin .add 3 true (.tmp 101) (.con (.int .i64 1)), none, []⟩,
 ⟨1, (some 101), .mv (.tmp 163), none, []⟩])))))))
 (.seq (.seq (.reg [⟨0, (some 164), .mv (.tmp 12), none, []⟩,
 ⟨1, (some 165), .mv (.tmp 164), none, []⟩,
 ⟨2, (some 166), .mv (.tmp 9), (some (165, true)), []⟩,
 ⟨3, (some 167), .call 109 [(.tmp 166)], (some (165, true)), []⟩,
 ⟨4, (some 168), .un .not (.tmp 167), (some (165, true)), []⟩,
 ⟨5, (some 169), .pick (.tmp 165) (.tmp 168) (.con (.bool false)), none, []⟩])
 (.cond (.tmp 169)
 (.seq (.reg [⟨0, (some 170), .mkif 167 (.con (.int .i64 2)), none, []⟩,
 ⟨1, (some 6), .mv (.con (.int .u64 0)), none, []⟩,
 ⟨2, (some 7), .mv (.tmp 170), none, []⟩])
 (.ret))
 (.skip)))
 (.seq (.reg [⟨0, (some 171), .mv (.tmp 13), none, []⟩,
 ⟨1, (some 6), .mv (.tmp 171), none, []⟩,
 ⟨2, (some 7), .mv (.con .nilIface), none, []⟩])
 (.ret)))))))))))))),
 [.tmp 6, .tmp 7]⟩
theorem p_internal_strconv_ParseUint : prepFun Go.Proofs.Tryd.prog [1, 0, 2, 3] Go.Proofs.Tryd.f103 = some v_internal_strconv_ParseUint := by kernel_rfl

def v_strconv_baseError : VFun :=
⟨.seq (.reg [⟨0, (some 6), .mv (.con (.pointer none)), none, []⟩])
 (.seq (.reg [⟨0, (some 7), .mv (.tmp 0), none, []⟩,
 ⟨1, (some 8), .mv (.tmp 1), none, []⟩,
 ⟨2, (some 9), .call 110 [(.tmp 8)], none, []⟩,
 ⟨3, (some 10), .mv (.tmp 2), none, []⟩,
 ⟨4, (some 11), .call 21 [(.tmp 10)], none, []⟩,
 ⟨5, (some 12), .bin .add 9 true (.con (.string ⟨#[105, 110, 118, 97, 108, 105, 100, 32, 98, 97, 115, 101, 32]⟩)) (.tmp 11), none, []⟩,
 ⟨6, (some 13), .call 111 [(.tmp 12)], none, []⟩,
 ⟨7, (some 14), .build [(.string ⟨#[]⟩), (.string ⟨#[]⟩), .nilIface] [(0, 1, (.tmp 7)), (1, 1, (.tmp 9)), (2, 1, (.tmp 13))], none, []⟩,
 ⟨8, (some 15), .box (.tmp 14), none, []⟩,
 ⟨9, (some 6), .mv (.tmp 15), none, []⟩])
 (.ret)),
 [.tmp 6]⟩
theorem p_strconv_baseError : prepFun Go.Proofs.Tryd.prog [1, 0, 2, 3] Go.Proofs.Tryd.f106 = some v_strconv_baseError := by kernel_rfl

def v_strconv_bitSizeError : VFun :=
⟨.seq (.reg [⟨0, (some 6), .mv (.con (.pointer none)), none, []⟩])
 (.seq (.reg [⟨0, (some 7), .mv (.tmp 0), none, []⟩,
 ⟨1, (some 8), .mv (.tmp 1), none, []⟩,
 ⟨2, (some 9), .call 110 [(.tmp 8)], none, []⟩,
 ⟨3, (some 10), .mv (.tmp 2), none, []⟩,
 ⟨4, (some 11), .call 21 [(.tmp 10)], none, []⟩,
 ⟨5, (some 12), .bin .add 9 true (.con (.string ⟨#[105, 110, 118, 97, 108, 105, 100, 32, 98, 105, 116, 32, 115, 105, 122, 101, 32]⟩)) (.tmp 11), none, []⟩,
 ⟨6, (some 13), .call 111 [(.tmp 12)], none, []⟩,
 ⟨7, (some 14), .build [(.string ⟨#[]⟩), (.string ⟨#[]⟩), .nilIface] [(0, 1, (.tmp 7)), (1, 1, (.tmp 9)), (2, 1, (.tmp 13))], none, []⟩,
 ⟨8, (some 15), .box (.tmp 14), none, []⟩,
 ⟨9, (some 6), .mv (.tmp 15), none, []⟩])
 (.ret)),
 [.tmp 6]⟩
theorem p_strconv_bitSizeError : prepFun Go.Proofs.Tryd.prog [1, 0, 2, 3] Go.Proofs.Tryd.f107 = some v_strconv_bitSizeError := by kernel_rfl

def v_internal_strconv_lower : VFun :=
⟨.seq (.reg [⟨0, (some 2), .mv (.con (.int .u8 0)), none, []⟩])
 (.seq (.reg [⟨0, (some 3), .mv (.tmp 0), none, []⟩,
 ⟨1, (some 4), .bin .or 5 true (.tmp 3) (.con (.int .u8 32)), none, []⟩,
 ⟨2, (some 2), .mv (.tmp 4), none, []⟩])
 (.ret)),
 [.tmp 2]⟩
theorem p_internal_strconv_lower : prepFun Go.Proofs.Tryd.prog [1, 0, 2, 3] Go.Proofs.Tryd.f108 = some v_internal_strconv_lower := by kernel_rfl

def v_internal_strconv_underscoreOK : VFun :=
⟨.seq (.reg [⟨0, (some 2), .mv (.con (.bool false)), none, []⟩])
 (.seq (.reg [⟨0, (some 3), .mv (.con (.int .i32 94)), none, []⟩])
 (.seq (.reg [⟨0, (some 4), .mv (.con (.int .i64 0)), none, []⟩])
 (.seq (.seq (.reg [⟨0, (some 6), .mv (.tmp 0), none, []⟩,
 ⟨1, (some 7), .bi .len [9] 3 [(.tmp 6)], none, []⟩,
 ⟨2, (some 8), .bin .geq 3 true (.tmp 7) (.con (.int .i64 1)), none, []⟩,
 ⟨3, (some 9), .mv (.tmp 8), none, []⟩,
 ⟨4, (some 10), .mv (.tmp 0), (some (9, true)), []⟩,
 ⟨5, (some 11), .idxS 9 (.tmp 10) (.con (.int .i64 0)), (some (9, true)), []⟩,
 ⟨6, (some 12), .bin .eql 5 true (.tmp 11) (.con (.int .u8 45)), (some (9, true)), []⟩,
 ⟨7, (some 13), .mv (.tmp 12), (some (9, true)), []⟩,
 ⟨8, (some 14), .mv (.tmp 0), (some (13, false)), []⟩,
 ⟨9, (some 15), .idxS 9 (.tmp 14) (.con (.int .i64 0)), (some (13, false)), []⟩,
 ⟨10, (some 16), .bin .eql 5 true (.tmp 15) (.con (.int .u8 43)), (some (13, false)), []⟩,
 ⟨11, (some 17), .pick (.tmp 13) (.con (.bool true)) (.tmp 16), (some (9, true)), []⟩,
 ⟨12, (some 18), .pick (.tmp 9) (.tmp 17) (.con (.bool false)), none, []⟩])
 (.cond (.tmp 18)
 (.reg [⟨0, (some 19), .mv (.tmp 0), none, []⟩,
 ⟨1, (some 20), .slS 9 (.tmp 19) (some (.con (.int .i64 1))) none, none, []⟩,
 ⟨2, (some 0), .mv (.tmp 20), none, []⟩])
 (.skip)))
 (.seq (.reg [⟨0, (some 5), .mv (.con (.bool false)), none, []⟩])
 (.seq (.seq (.reg [⟨0, (some 21), .mv (.tmp 0), none, []⟩,
 ⟨1, (some 22), .bi .len [9] 3 [(.tmp 21)], none, []⟩,
 ⟨2, (some 23), .bin .geq 3 true (.tmp 22) (.con (.int .i64 2)), none, []⟩,
 ⟨3, (some 24), .mv (.tmp 23), none, []⟩,
 ⟨4, (some 25), .mv (.tmp 0), (some (24, true)), []⟩,
 ⟨5, (some 26), .idxS 9 (.tmp 25) (.con (.int .i64 0)), (some (24, true)), []⟩,
 ⟨6, (some 27), .bin .eql 5 true (.tmp 26) (.con (.int .u8 48)), (some (24, true)), []⟩,
 ⟨7, (some 28), .pick (.tmp 24) (.tmp 27) (.con (.bool false)), none, []⟩,
 ⟨8, (some 29), .mv (.tmp 28), none, []⟩,
 ⟨9, (some 30), .mv (.tmp 0), (some (29, true)), []⟩,
 ⟨10, (some 31), .idxS 9 (.tmp 30) (.con (.int .i64 1)), (some (29, true)), []⟩,
 ⟨11, (some 32), .call 108 [(.tmp 31)], (some (29, true)), []⟩,
 ⟨12, (some 33), .bin .eql 5 true (.tmp 32) (.con (.int .u8 98)), (some (29, true)), []⟩,
 ⟨13, (some 34), .mv (.tmp 33), (some (29, true)), []⟩,
 ⟨14, (some 35), .mv (.tmp 0), (some (34, false)), []⟩,
 ⟨15, (some 36), .idxS 9 (.tmp 35) (.con (.int .i64 1)), (some (34, false)), []⟩,
 ⟨16, (some 37), .call 108 [(.tmp 36)], (some (34, false)), []⟩,
 ⟨17, (some 38), .bin .eql 5 true (.tmp 37) (.con (.int .u8 111)), (some (34, false)), []⟩,
 ⟨18, (some 39), .pick (.tmp 34) (.con (.bool true)) (.tmp 38), (some (29, true)), []⟩,
 ⟨19, (some 40), .mv (.tmp 39), (some (29, true)), []⟩,
 ⟨20, (some 41), .mv (.tmp 0), (some (40, false)), []⟩,
 ⟨21, (some 42), .idxS 9 (.tmp 41) (.con (.int .i64 1)), (some (40, false)), []⟩,
 ⟨22, (some 43), .call 108 [(.tmp 42)], (some (40, false)), []⟩,
 ⟨23, (some 44), .bin .eql 5 true (.tmp 43) (.con (.int .u8 120)), (some (40, false)), []⟩,
 ⟨24, (some 45), .pick (.tmp 40) (.con (.bool true)) (.tmp 44), (some (29, true)), []⟩,
 ⟨25, (some 46), .pick (.tmp 29) (.tmp 45) (.con (.bool false)), none, []⟩])
 (.cond (.tmp 46)
 (.seq (.reg [⟨0, (some 4), .mv (.con (.int .i64 2)), none, []⟩])
 (.seq (.reg [⟨0, (some 3), .mv (.con (.int .i32 48)), none, []⟩])
 (.reg [⟨0, (some 47), .mv (.tmp 0), none, []⟩,
 ⟨1, (some 48), .idxS 9 (.tmp 47) (.con (.int .i64 1)), none, []⟩,
 ⟨2, (some 49), .call 108 [(.tmp 48)], none, []⟩,
 ⟨3, (some 50), .bin .eql 5 true (.tmp 49) (.con (.int .u8 120)), none, []⟩,
 ⟨4, (some 5), .mv (.tmp 50), none, []⟩])))
 (.skip)))
 (.seq (.block 0
 (.loop
 (.seq (.seq (.reg [⟨0, (some 51), .mv (.tmp 4), none, []⟩,
 ⟨1, (some 52), .mv (.tmp 0), none, []⟩,
 ⟨2, (some 53), .bi .len [9] 3 [(.tmp 52)], none, []⟩,
 ⟨3, (some 54), .bin .lss 3 false (.tmp 51) (.tmp 53), none, []⟩])
 (.cond (.tmp 54)
 (.skip)
 (.exit 0)))
 (.seq (.block 1
 (.seq (.seq (.reg [⟨0, (some 57), .mv (.tmp 0), none, []⟩,
 ⟨1, (some 58), .mv (.tmp 4), none, []⟩,
 ⟨2, (some 59), .idxS 9 (.tmp 57) (.tmp 58), none, []⟩,
 ⟨3, (some 60), .bin .leq 5 true (.con (.int .u8 48)) (.tmp 59), none, []⟩,
 ⟨4, (some 61), .mv (.tmp 60), none, []⟩,
 ⟨5, (some 62), .mv (.tmp 0), (some (61, true)), []⟩,
 ⟨6, (some 63), .mv (.tmp 4), (some (61, true)), []⟩,
 ⟨7, (some 64), .idxS 9 (.tmp 62) (.tmp 63), (some (61, true)), []⟩,
 ⟨8, (some 65), .bin .leq 5 true (.tmp 64) (.con (.int .u8 57)), (some (61, true)), []⟩,
 ⟨9, (some 66), .pick (.tmp 61) (.tmp 65) (.con (.bool false)), none, []⟩,
 ⟨10, (some 67), .mv (.tmp 66), none, []⟩,
 ⟨11, (some 68), .mv (.tmp 5), (some (67, false)), []⟩,
 ⟨12, (some 69), .mv (.tmp 68), (some (67, false)), []⟩,
 ⟨13, (some 70), .mv (.tmp 0), (some (69, true)), []⟩,
 ⟨14, (some 71), .mv (.tmp 4), (some (69, true)), []⟩,
 ⟨15, (some 72), .idxS 9 (.tmp 70) (.tmp 71), (some (69, true)), []⟩,
 ⟨16, (some 73), .call 108 [(.tmp 72)], (some (69, true)), []⟩,
 ⟨17, (some 74), .bin .leq 5 true (.con (.int .u8 97)) (.tmp 73), (some (69, true)), []⟩,
 ⟨18, (some 75), .pick (.tmp 69) (.tmp 74) (.con (.bool false)), (some (67, false)), []⟩,
 ⟨19, (some 76), .mv (.tmp 75), (some (67, false)), []⟩,
 ⟨20, (some 77), .mv (.tmp 0), (some (76, true)), []⟩,
 ⟨21, (some 78), .mv (.tmp 4), (some (76, true)), []⟩,
 ⟨22, (some 79), .idxS 9 (.tmp 77) (.tmp 78), (some (76, true)), []⟩,
 ⟨23, (some 80), .call 108 [(.tmp 79)], (some (76, true)), []⟩,
 ⟨24, (some 81), .bin .leq 5 true (.tmp 80) (.con (.int .u8 102)), (some (76, true)), []⟩,
 ⟨25, (some 82), .pick (.tmp 76) (.tmp 81) (.con (.bool false)), (some (67, false)), []⟩,
 ⟨26, (some 83), .pick (.tmp 67) (.con (.bool true)) (.tmp 82), none, []⟩])
 (.cond (.tmp 83)
 (.seq (.reg [⟨0, (some 3), .mv (.con (.int .i32 48)), none, []⟩])
 (.exit 1))
 (.skip)))
 (.seq (.seq (.reg [⟨0, (some 84), .mv (.tmp 0), none, []⟩,
 ⟨1, (some 85), .mv (.tmp 4), none, []⟩,
 ⟨2, (some 86), .idxS 9 (.tmp 84) (.tmp 85), none, []⟩,
 ⟨3, (some 87), .bin .eql 5 true (.tmp 86) (.con (.int .u8 95)), none, []⟩])
 (.cond (.tmp 87)
 (.seq (.seq (.reg [⟨0, (some 88), .mv (.tmp 3), none, []⟩,
 ⟨1, (some 89), .bin .neq 21 true (.tmp 88) (.con (.int .i32 48)), none, []⟩])
 (.cond (.tmp 89)
 (.seq (.reg [⟨0, (some 2), .mv (.con (.bool false)), none, []⟩])
 (.ret))
 (.skip)))
 (.seq (.reg [⟨0, (some 3), .mv (.con (.int .i32 95)), none, []⟩])
 (.exit 1)))
 (.skip)))
 (.seq (.seq (.reg [⟨0, (some 90), .mv (.tmp 3), none, []⟩,
 ⟨1, (some 91), .bin .eql 21 true (.tmp 90) (.con (.int .i32 95)), none, []⟩])
 (.cond (.tmp 91)
 (.seq (.reg [⟨0, (some 2), .mv (.con (.bool false)), none, []⟩])
 (.ret))
 (.skip)))
 (.reg [⟨0, (some 3), .mv (.con (.int .i32 33)), none, []⟩])))))
 (.reg [⟨0, (some 55), .mv (.tmp 4), none, []⟩,
 ⟨1, (some 56), .bin .add 3 true (.tmp 55) (.con (.int .i64 1)), none, []⟩,
 ⟨2, (some 4), .mv (.tmp 56), none, []⟩])))))
 (.seq (.reg [⟨0, (some 92), .mv (.tmp 3), none, []⟩,
 ⟨1, (some 93), .bin .neq 21 true (.tmp 92) (.con (.int .i32 95)), none, []⟩,
 ⟨2, (some 2), .mv (.tmp 93), none, []⟩])
 (.ret)))))))),
 [.tmp 2]⟩
theorem p_internal_strconv_underscoreOK : prepFun Go.Proofs.Tryd.prog [1, 0, 2, 3] Go.Proofs.Tryd.f109 = some v_internal_strconv_underscoreOK := by kernel_rfl

def v_errors_New : VFun :=
⟨.seq (.reg [⟨0, (some 2), .mv (.con .nilIface), none, []⟩])
 (.seq (.reg [⟨0, (some 3), .mv (.tmp 0), none, []⟩,
 ⟨1, (some 4), .build [(.string ⟨#[]⟩)] [(0, 1, (.tmp 3))], none, []⟩,
 ⟨2, (some 5), .box (.tmp 4), none, []⟩,
 ⟨3, (some 6), .mkif 182 (.tmp 5), none, []⟩,
 ⟨4, (some 2), .mv (.tmp 6), none, []⟩])
 (.ret)),
 [.tmp 2]⟩
theorem p_errors_New : prepFun Go.Proofs.Tryd.prog [1, 0, 2, 3] Go.Proofs.Tryd.f111 = some v_errors_New := by kernel_rfl

end Go.VX.Seat
end
section
/-! MADE BY PROGRAM (lits.py): the functions of the seat. -/
set_option maxRecDepth 20000
namespace Go.VX.Seat
def fns : List (Nat × VFun) := [(5, v_l07_CodeSame), (8, v_l07_Cut), (9, v_code_Text), (10, v_code_Check), (11, v_l07_alive), (12, v_code_Parse), (13, v_r07_Same), (14, v_code_Same), (15, v_r07_Cut), (20, v_strings_Builder_WriteString), (21, v_strconv_Itoa), (22, v_code_opText), (23, v_code_endText), (26, v_code_lines_unit), (27, v_r07_SameBlocks), (28, v_slices_Equal_int), (29, v_slices_EqualFunc_Block), (30, v_code_Same_c1), (31, v_slices_Equal_Op), (34, v_code_within), (38, v_internal_strconv_Itoa), (39, v_code_of), (40, v_code_Read), (41, v_word_Show), (43, v_code_checker_unit), (44, v_code_lines_peek), (45, v_code_headed), (46, v_code_lines_take), (47, v_code_lines_block), (48, v_r07_SameOps), (52, v_internal_strconv_FormatInt), (53, v_strconv_FormatInt), (54, v_code_checker_must), (55, v_slices_ContainsFunc_int), (56, v_code_checker_unit_c1), (57, v_code_checker_op), (58, v_code_checker_end), (59, v_strings_Cut), (60, v_strings_Split), (61, v_code_numbers), (62, v_strings_CutPrefix), (63, v_code_readEnd), (64, v_code_readOp), (66, v_internal_strconv_small), (67, v_internal_strconv_numDigits), (68, v_internal_strconv_formatBase10), (69, v_internal_strconv_formatBits), (70, v_slices_IndexFunc_int), (71, v_code_checker_reg), (72, v_internal_stringslite_Cut), (73, v_strings_genSplit), (74, v_word_Read), (75, v_internal_stringslite_CutPrefix), (76, v_slices_IndexFunc_form), (77, v_code_readOp_c1), (78, v_internal_strconv_log10Pow2), (79, v_math_bits_Len64), (80, v_internal_strconv_bool2_int), (81, v_internal_strconv_isPowerOfTwo), (82, v_math_bits_TrailingZeros), (83, v_internal_stringslite_Index), (84, v_strings_explode), (85, v_strings_Count), (86, v_strings_Index), (87, v_strconv_ParseInt), (88, v_internal_stringslite_HasPrefix), (91, v_internal_stringslite_IndexByte), (93, v_internal_bytealg_Cutover), (94, v_internal_bytealg_IndexRabinKarp_string), (96, v_unicode_utf8_DecodeRuneInString), (98, v_internal_strconv_ParseInt), (99, v_strconv_toError), (101, v_internal_bytealg_hashStr_string), (103, v_internal_strconv_ParseUint), (106, v_strconv_baseError), (107, v_strconv_bitSizeError), (108, v_internal_strconv_lower), (109, v_internal_strconv_underscoreOK), (111, v_errors_New)]
def fnOf (f : FuncId) : Option VFun := match f with
  | 5 => some v_l07_CodeSame
  | 8 => some v_l07_Cut
  | 9 => some v_code_Text
  | 10 => some v_code_Check
  | 11 => some v_l07_alive
  | 12 => some v_code_Parse
  | 13 => some v_r07_Same
  | 14 => some v_code_Same
  | 15 => some v_r07_Cut
  | 20 => some v_strings_Builder_WriteString
  | 21 => some v_strconv_Itoa
  | 22 => some v_code_opText
  | 23 => some v_code_endText
  | 26 => some v_code_lines_unit
  | 27 => some v_r07_SameBlocks
  | 28 => some v_slices_Equal_int
  | 29 => some v_slices_EqualFunc_Block
  | 30 => some v_code_Same_c1
  | 31 => some v_slices_Equal_Op
  | 34 => some v_code_within
  | 38 => some v_internal_strconv_Itoa
  | 39 => some v_code_of
  | 40 => some v_code_Read
  | 41 => some v_word_Show
  | 43 => some v_code_checker_unit
  | 44 => some v_code_lines_peek
  | 45 => some v_code_headed
  | 46 => some v_code_lines_take
  | 47 => some v_code_lines_block
  | 48 => some v_r07_SameOps
  | 52 => some v_internal_strconv_FormatInt
  | 53 => some v_strconv_FormatInt
  | 54 => some v_code_checker_must
  | 55 => some v_slices_ContainsFunc_int
  | 56 => some v_code_checker_unit_c1
  | 57 => some v_code_checker_op
  | 58 => some v_code_checker_end
  | 59 => some v_strings_Cut
  | 60 => some v_strings_Split
  | 61 => some v_code_numbers
  | 62 => some v_strings_CutPrefix
  | 63 => some v_code_readEnd
  | 64 => some v_code_readOp
  | 66 => some v_internal_strconv_small
  | 67 => some v_internal_strconv_numDigits
  | 68 => some v_internal_strconv_formatBase10
  | 69 => some v_internal_strconv_formatBits
  | 70 => some v_slices_IndexFunc_int
  | 71 => some v_code_checker_reg
  | 72 => some v_internal_stringslite_Cut
  | 73 => some v_strings_genSplit
  | 74 => some v_word_Read
  | 75 => some v_internal_stringslite_CutPrefix
  | 76 => some v_slices_IndexFunc_form
  | 77 => some v_code_readOp_c1
  | 78 => some v_internal_strconv_log10Pow2
  | 79 => some v_math_bits_Len64
  | 80 => some v_internal_strconv_bool2_int
  | 81 => some v_internal_strconv_isPowerOfTwo
  | 82 => some v_math_bits_TrailingZeros
  | 83 => some v_internal_stringslite_Index
  | 84 => some v_strings_explode
  | 85 => some v_strings_Count
  | 86 => some v_strings_Index
  | 87 => some v_strconv_ParseInt
  | 88 => some v_internal_stringslite_HasPrefix
  | 91 => some v_internal_stringslite_IndexByte
  | 93 => some v_internal_bytealg_Cutover
  | 94 => some v_internal_bytealg_IndexRabinKarp_string
  | 96 => some v_unicode_utf8_DecodeRuneInString
  | 98 => some v_internal_strconv_ParseInt
  | 99 => some v_strconv_toError
  | 101 => some v_internal_bytealg_hashStr_string
  | 103 => some v_internal_strconv_ParseUint
  | 106 => some v_strconv_baseError
  | 107 => some v_strconv_bitSizeError
  | 108 => some v_internal_strconv_lower
  | 109 => some v_internal_strconv_underscoreOK
  | 111 => some v_errors_New
  | _ => none
theorem o_l07_CodeSame : FunOk Go.Proofs.Tryd.prog [1, 0, 2, 3] 5 v_l07_CodeSame := ⟨⟨Go.Proofs.Tryd.f5, _, by kernel_rfl, rfl, by kernel_rfl, p_l07_CodeSame⟩⟩
theorem o_l07_Cut : FunOk Go.Proofs.Tryd.prog [1, 0, 2, 3] 8 v_l07_Cut := ⟨⟨Go.Proofs.Tryd.f8, _, by kernel_rfl, rfl, by kernel_rfl, p_l07_Cut⟩⟩
theorem o_code_Text : FunOk Go.Proofs.Tryd.prog [1, 0, 2, 3] 9 v_code_Text := ⟨⟨Go.Proofs.Tryd.f9, _, by kernel_rfl, rfl, by kernel_rfl, p_code_Text⟩⟩
theorem o_code_Check : FunOk Go.Proofs.Tryd.prog [1, 0, 2, 3] 10 v_code_Check := ⟨⟨Go.Proofs.Tryd.f10, _, by kernel_rfl, rfl, by kernel_rfl, p_code_Check⟩⟩
theorem o_l07_alive : FunOk Go.Proofs.Tryd.prog [1, 0, 2, 3] 11 v_l07_alive := ⟨⟨Go.Proofs.Tryd.f11, _, by kernel_rfl, rfl, by kernel_rfl, p_l07_alive⟩⟩
theorem o_code_Parse : FunOk Go.Proofs.Tryd.prog [1, 0, 2, 3] 12 v_code_Parse := ⟨⟨Go.Proofs.Tryd.f12, _, by kernel_rfl, rfl, by kernel_rfl, p_code_Parse⟩⟩
theorem o_r07_Same : FunOk Go.Proofs.Tryd.prog [1, 0, 2, 3] 13 v_r07_Same := ⟨⟨Go.Proofs.Tryd.f13, _, by kernel_rfl, rfl, by kernel_rfl, p_r07_Same⟩⟩
theorem o_code_Same : FunOk Go.Proofs.Tryd.prog [1, 0, 2, 3] 14 v_code_Same := ⟨⟨Go.Proofs.Tryd.f14, _, by kernel_rfl, rfl, by kernel_rfl, p_code_Same⟩⟩
theorem o_r07_Cut : FunOk Go.Proofs.Tryd.prog [1, 0, 2, 3] 15 v_r07_Cut := ⟨⟨Go.Proofs.Tryd.f15, _, by kernel_rfl, rfl, by kernel_rfl, p_r07_Cut⟩⟩
theorem o_strings_Builder_WriteString : FunOk Go.Proofs.Tryd.prog [1, 0, 2, 3] 20 v_strings_Builder_WriteString := ⟨⟨Go.Proofs.Tryd.f20, _, by kernel_rfl, rfl, by kernel_rfl, p_strings_Builder_WriteString⟩⟩
theorem o_strconv_Itoa : FunOk Go.Proofs.Tryd.prog [1, 0, 2, 3] 21 v_strconv_Itoa := ⟨⟨Go.Proofs.Tryd.f21, _, by kernel_rfl, rfl, by kernel_rfl, p_strconv_Itoa⟩⟩
theorem o_code_opText : FunOk Go.Proofs.Tryd.prog [1, 0, 2, 3] 22 v_code_opText := ⟨⟨Go.Proofs.Tryd.f22, _, by kernel_rfl, rfl, by kernel_rfl, p_code_opText⟩⟩
theorem o_code_endText : FunOk Go.Proofs.Tryd.prog [1, 0, 2, 3] 23 v_code_endText := ⟨⟨Go.Proofs.Tryd.f23, _, by kernel_rfl, rfl, by kernel_rfl, p_code_endText⟩⟩
theorem o_code_lines_unit : FunOk Go.Proofs.Tryd.prog [1, 0, 2, 3] 26 v_code_lines_unit := ⟨⟨Go.Proofs.Tryd.f26, _, by kernel_rfl, rfl, by kernel_rfl, p_code_lines_unit⟩⟩
theorem o_r07_SameBlocks : FunOk Go.Proofs.Tryd.prog [1, 0, 2, 3] 27 v_r07_SameBlocks := ⟨⟨Go.Proofs.Tryd.f27, _, by kernel_rfl, rfl, by kernel_rfl, p_r07_SameBlocks⟩⟩
theorem o_slices_Equal_int : FunOk Go.Proofs.Tryd.prog [1, 0, 2, 3] 28 v_slices_Equal_int := ⟨⟨Go.Proofs.Tryd.f28, _, by kernel_rfl, rfl, by kernel_rfl, p_slices_Equal_int⟩⟩
theorem o_slices_EqualFunc_Block : FunOk Go.Proofs.Tryd.prog [1, 0, 2, 3] 29 v_slices_EqualFunc_Block := ⟨⟨Go.Proofs.Tryd.f29, _, by kernel_rfl, rfl, by kernel_rfl, p_slices_EqualFunc_Block⟩⟩
theorem o_code_Same_c1 : FunOk Go.Proofs.Tryd.prog [1, 0, 2, 3] 30 v_code_Same_c1 := ⟨⟨Go.Proofs.Tryd.f30, _, by kernel_rfl, rfl, by kernel_rfl, p_code_Same_c1⟩⟩
theorem o_slices_Equal_Op : FunOk Go.Proofs.Tryd.prog [1, 0, 2, 3] 31 v_slices_Equal_Op := ⟨⟨Go.Proofs.Tryd.f31, _, by kernel_rfl, rfl, by kernel_rfl, p_slices_Equal_Op⟩⟩
theorem o_code_within : FunOk Go.Proofs.Tryd.prog [1, 0, 2, 3] 34 v_code_within := ⟨⟨Go.Proofs.Tryd.f34, _, by kernel_rfl, rfl, by kernel_rfl, p_code_within⟩⟩
theorem o_internal_strconv_Itoa : FunOk Go.Proofs.Tryd.prog [1, 0, 2, 3] 38 v_internal_strconv_Itoa := ⟨⟨Go.Proofs.Tryd.f38, _, by kernel_rfl, rfl, by kernel_rfl, p_internal_strconv_Itoa⟩⟩
theorem o_code_of : FunOk Go.Proofs.Tryd.prog [1, 0, 2, 3] 39 v_code_of := ⟨⟨Go.Proofs.Tryd.f39, _, by kernel_rfl, rfl, by kernel_rfl, p_code_of⟩⟩
theorem o_code_Read : FunOk Go.Proofs.Tryd.prog [1, 0, 2, 3] 40 v_code_Read := ⟨⟨Go.Proofs.Tryd.f40, _, by kernel_rfl, rfl, by kernel_rfl, p_code_Read⟩⟩
theorem o_word_Show : FunOk Go.Proofs.Tryd.prog [1, 0, 2, 3] 41 v_word_Show := ⟨⟨Go.Proofs.Tryd.f41, _, by kernel_rfl, rfl, by kernel_rfl, p_word_Show⟩⟩
theorem o_code_checker_unit : FunOk Go.Proofs.Tryd.prog [1, 0, 2, 3] 43 v_code_checker_unit := ⟨⟨Go.Proofs.Tryd.f43, _, by kernel_rfl, rfl, by kernel_rfl, p_code_checker_unit⟩⟩
theorem o_code_lines_peek : FunOk Go.Proofs.Tryd.prog [1, 0, 2, 3] 44 v_code_lines_peek := ⟨⟨Go.Proofs.Tryd.f44, _, by kernel_rfl, rfl, by kernel_rfl, p_code_lines_peek⟩⟩
theorem o_code_headed : FunOk Go.Proofs.Tryd.prog [1, 0, 2, 3] 45 v_code_headed := ⟨⟨Go.Proofs.Tryd.f45, _, by kernel_rfl, rfl, by kernel_rfl, p_code_headed⟩⟩
theorem o_code_lines_take : FunOk Go.Proofs.Tryd.prog [1, 0, 2, 3] 46 v_code_lines_take := ⟨⟨Go.Proofs.Tryd.f46, _, by kernel_rfl, rfl, by kernel_rfl, p_code_lines_take⟩⟩
theorem o_code_lines_block : FunOk Go.Proofs.Tryd.prog [1, 0, 2, 3] 47 v_code_lines_block := ⟨⟨Go.Proofs.Tryd.f47, _, by kernel_rfl, rfl, by kernel_rfl, p_code_lines_block⟩⟩
theorem o_r07_SameOps : FunOk Go.Proofs.Tryd.prog [1, 0, 2, 3] 48 v_r07_SameOps := ⟨⟨Go.Proofs.Tryd.f48, _, by kernel_rfl, rfl, by kernel_rfl, p_r07_SameOps⟩⟩
theorem o_internal_strconv_FormatInt : FunOk Go.Proofs.Tryd.prog [1, 0, 2, 3] 52 v_internal_strconv_FormatInt := ⟨⟨Go.Proofs.Tryd.f52, _, by kernel_rfl, rfl, by kernel_rfl, p_internal_strconv_FormatInt⟩⟩
theorem o_strconv_FormatInt : FunOk Go.Proofs.Tryd.prog [1, 0, 2, 3] 53 v_strconv_FormatInt := ⟨⟨Go.Proofs.Tryd.f53, _, by kernel_rfl, rfl, by kernel_rfl, p_strconv_FormatInt⟩⟩
theorem o_code_checker_must : FunOk Go.Proofs.Tryd.prog [1, 0, 2, 3] 54 v_code_checker_must := ⟨⟨Go.Proofs.Tryd.f54, _, by kernel_rfl, rfl, by kernel_rfl, p_code_checker_must⟩⟩
theorem o_slices_ContainsFunc_int : FunOk Go.Proofs.Tryd.prog [1, 0, 2, 3] 55 v_slices_ContainsFunc_int := ⟨⟨Go.Proofs.Tryd.f55, _, by kernel_rfl, rfl, by kernel_rfl, p_slices_ContainsFunc_int⟩⟩
theorem o_code_checker_unit_c1 : FunOk Go.Proofs.Tryd.prog [1, 0, 2, 3] 56 v_code_checker_unit_c1 := ⟨⟨Go.Proofs.Tryd.f56, _, by kernel_rfl, rfl, by kernel_rfl, p_code_checker_unit_c1⟩⟩
theorem o_code_checker_op : FunOk Go.Proofs.Tryd.prog [1, 0, 2, 3] 57 v_code_checker_op := ⟨⟨Go.Proofs.Tryd.f57, _, by kernel_rfl, rfl, by kernel_rfl, p_code_checker_op⟩⟩
theorem o_code_checker_end : FunOk Go.Proofs.Tryd.prog [1, 0, 2, 3] 58 v_code_checker_end := ⟨⟨Go.Proofs.Tryd.f58, _, by kernel_rfl, rfl, by kernel_rfl, p_code_checker_end⟩⟩
theorem o_strings_Cut : FunOk Go.Proofs.Tryd.prog [1, 0, 2, 3] 59 v_strings_Cut := ⟨⟨Go.Proofs.Tryd.f59, _, by kernel_rfl, rfl, by kernel_rfl, p_strings_Cut⟩⟩
theorem o_strings_Split : FunOk Go.Proofs.Tryd.prog [1, 0, 2, 3] 60 v_strings_Split := ⟨⟨Go.Proofs.Tryd.f60, _, by kernel_rfl, rfl, by kernel_rfl, p_strings_Split⟩⟩
theorem o_code_numbers : FunOk Go.Proofs.Tryd.prog [1, 0, 2, 3] 61 v_code_numbers := ⟨⟨Go.Proofs.Tryd.f61, _, by kernel_rfl, rfl, by kernel_rfl, p_code_numbers⟩⟩
theorem o_strings_CutPrefix : FunOk Go.Proofs.Tryd.prog [1, 0, 2, 3] 62 v_strings_CutPrefix := ⟨⟨Go.Proofs.Tryd.f62, _, by kernel_rfl, rfl, by kernel_rfl, p_strings_CutPrefix⟩⟩
theorem o_code_readEnd : FunOk Go.Proofs.Tryd.prog [1, 0, 2, 3] 63 v_code_readEnd := ⟨⟨Go.Proofs.Tryd.f63, _, by kernel_rfl, rfl, by kernel_rfl, p_code_readEnd⟩⟩
theorem o_code_readOp : FunOk Go.Proofs.Tryd.prog [1, 0, 2, 3] 64 v_code_readOp := ⟨⟨Go.Proofs.Tryd.f64, _, by kernel_rfl, rfl, by kernel_rfl, p_code_readOp⟩⟩
theorem o_internal_strconv_small : FunOk Go.Proofs.Tryd.prog [1, 0, 2, 3] 66 v_internal_strconv_small := ⟨⟨Go.Proofs.Tryd.f66, _, by kernel_rfl, rfl, by kernel_rfl, p_internal_strconv_small⟩⟩
theorem o_internal_strconv_numDigits : FunOk Go.Proofs.Tryd.prog [1, 0, 2, 3] 67 v_internal_strconv_numDigits := ⟨⟨Go.Proofs.Tryd.f67, _, by kernel_rfl, rfl, by kernel_rfl, p_internal_strconv_numDigits⟩⟩
theorem o_internal_strconv_formatBase10 : FunOk Go.Proofs.Tryd.prog [1, 0, 2, 3] 68 v_internal_strconv_formatBase10 := ⟨⟨Go.Proofs.Tryd.f68, _, by kernel_rfl, rfl, by kernel_rfl, p_internal_strconv_formatBase10⟩⟩
theorem o_internal_strconv_formatBits : FunOk Go.Proofs.Tryd.prog [1, 0, 2, 3] 69 v_internal_strconv_formatBits := ⟨⟨Go.Proofs.Tryd.f69, _, by kernel_rfl, rfl, by kernel_rfl, p_internal_strconv_formatBits⟩⟩
theorem o_slices_IndexFunc_int : FunOk Go.Proofs.Tryd.prog [1, 0, 2, 3] 70 v_slices_IndexFunc_int := ⟨⟨Go.Proofs.Tryd.f70, _, by kernel_rfl, rfl, by kernel_rfl, p_slices_IndexFunc_int⟩⟩
theorem o_code_checker_reg : FunOk Go.Proofs.Tryd.prog [1, 0, 2, 3] 71 v_code_checker_reg := ⟨⟨Go.Proofs.Tryd.f71, _, by kernel_rfl, rfl, by kernel_rfl, p_code_checker_reg⟩⟩
theorem o_internal_stringslite_Cut : FunOk Go.Proofs.Tryd.prog [1, 0, 2, 3] 72 v_internal_stringslite_Cut := ⟨⟨Go.Proofs.Tryd.f72, _, by kernel_rfl, rfl, by kernel_rfl, p_internal_stringslite_Cut⟩⟩
theorem o_strings_genSplit : FunOk Go.Proofs.Tryd.prog [1, 0, 2, 3] 73 v_strings_genSplit := ⟨⟨Go.Proofs.Tryd.f73, _, by kernel_rfl, rfl, by kernel_rfl, p_strings_genSplit⟩⟩
theorem o_word_Read : FunOk Go.Proofs.Tryd.prog [1, 0, 2, 3] 74 v_word_Read := ⟨⟨Go.Proofs.Tryd.f74, _, by kernel_rfl, rfl, by kernel_rfl, p_word_Read⟩⟩
theorem o_internal_stringslite_CutPrefix : FunOk Go.Proofs.Tryd.prog [1, 0, 2, 3] 75 v_internal_stringslite_CutPrefix := ⟨⟨Go.Proofs.Tryd.f75, _, by kernel_rfl, rfl, by kernel_rfl, p_internal_stringslite_CutPrefix⟩⟩
theorem o_slices_IndexFunc_form : FunOk Go.Proofs.Tryd.prog [1, 0, 2, 3] 76 v_slices_IndexFunc_form := ⟨⟨Go.Proofs.Tryd.f76, _, by kernel_rfl, rfl, by kernel_rfl, p_slices_IndexFunc_form⟩⟩
theorem o_code_readOp_c1 : FunOk Go.Proofs.Tryd.prog [1, 0, 2, 3] 77 v_code_readOp_c1 := ⟨⟨Go.Proofs.Tryd.f77, _, by kernel_rfl, rfl, by kernel_rfl, p_code_readOp_c1⟩⟩
theorem o_internal_strconv_log10Pow2 : FunOk Go.Proofs.Tryd.prog [1, 0, 2, 3] 78 v_internal_strconv_log10Pow2 := ⟨⟨Go.Proofs.Tryd.f78, _, by kernel_rfl, rfl, by kernel_rfl, p_internal_strconv_log10Pow2⟩⟩
theorem o_math_bits_Len64 : FunOk Go.Proofs.Tryd.prog [1, 0, 2, 3] 79 v_math_bits_Len64 := ⟨⟨Go.Proofs.Tryd.f79, _, by kernel_rfl, rfl, by kernel_rfl, p_math_bits_Len64⟩⟩
theorem o_internal_strconv_bool2_int : FunOk Go.Proofs.Tryd.prog [1, 0, 2, 3] 80 v_internal_strconv_bool2_int := ⟨⟨Go.Proofs.Tryd.f80, _, by kernel_rfl, rfl, by kernel_rfl, p_internal_strconv_bool2_int⟩⟩
theorem o_internal_strconv_isPowerOfTwo : FunOk Go.Proofs.Tryd.prog [1, 0, 2, 3] 81 v_internal_strconv_isPowerOfTwo := ⟨⟨Go.Proofs.Tryd.f81, _, by kernel_rfl, rfl, by kernel_rfl, p_internal_strconv_isPowerOfTwo⟩⟩
theorem o_math_bits_TrailingZeros : FunOk Go.Proofs.Tryd.prog [1, 0, 2, 3] 82 v_math_bits_TrailingZeros := ⟨⟨Go.Proofs.Tryd.f82, _, by kernel_rfl, rfl, by kernel_rfl, p_math_bits_TrailingZeros⟩⟩
theorem o_internal_stringslite_Index : FunOk Go.Proofs.Tryd.prog [1, 0, 2, 3] 83 v_internal_stringslite_Index := ⟨⟨Go.Proofs.Tryd.f83, _, by kernel_rfl, rfl, by kernel_rfl, p_internal_stringslite_Index⟩⟩
theorem o_strings_explode : FunOk Go.Proofs.Tryd.prog [1, 0, 2, 3] 84 v_strings_explode := ⟨⟨Go.Proofs.Tryd.f84, _, by kernel_rfl, rfl, by kernel_rfl, p_strings_explode⟩⟩
theorem o_strings_Count : FunOk Go.Proofs.Tryd.prog [1, 0, 2, 3] 85 v_strings_Count := ⟨⟨Go.Proofs.Tryd.f85, _, by kernel_rfl, rfl, by kernel_rfl, p_strings_Count⟩⟩
theorem o_strings_Index : FunOk Go.Proofs.Tryd.prog [1, 0, 2, 3] 86 v_strings_Index := ⟨⟨Go.Proofs.Tryd.f86, _, by kernel_rfl, rfl, by kernel_rfl, p_strings_Index⟩⟩
theorem o_strconv_ParseInt : FunOk Go.Proofs.Tryd.prog [1, 0, 2, 3] 87 v_strconv_ParseInt := ⟨⟨Go.Proofs.Tryd.f87, _, by kernel_rfl, rfl, by kernel_rfl, p_strconv_ParseInt⟩⟩
theorem o_internal_stringslite_HasPrefix : FunOk Go.Proofs.Tryd.prog [1, 0, 2, 3] 88 v_internal_stringslite_HasPrefix := ⟨⟨Go.Proofs.Tryd.f88, _, by kernel_rfl, rfl, by kernel_rfl, p_internal_stringslite_HasPrefix⟩⟩
theorem o_internal_stringslite_IndexByte : FunOk Go.Proofs.Tryd.prog [1, 0, 2, 3] 91 v_internal_stringslite_IndexByte := ⟨⟨Go.Proofs.Tryd.f91, _, by kernel_rfl, rfl, by kernel_rfl, p_internal_stringslite_IndexByte⟩⟩
theorem o_internal_bytealg_Cutover : FunOk Go.Proofs.Tryd.prog [1, 0, 2, 3] 93 v_internal_bytealg_Cutover := ⟨⟨Go.Proofs.Tryd.f93, _, by kernel_rfl, rfl, by kernel_rfl, p_internal_bytealg_Cutover⟩⟩
theorem o_internal_bytealg_IndexRabinKarp_string : FunOk Go.Proofs.Tryd.prog [1, 0, 2, 3] 94 v_internal_bytealg_IndexRabinKarp_string := ⟨⟨Go.Proofs.Tryd.f94, _, by kernel_rfl, rfl, by kernel_rfl, p_internal_bytealg_IndexRabinKarp_string⟩⟩
theorem o_unicode_utf8_DecodeRuneInString : FunOk Go.Proofs.Tryd.prog [1, 0, 2, 3] 96 v_unicode_utf8_DecodeRuneInString := ⟨⟨Go.Proofs.Tryd.f96, _, by kernel_rfl, rfl, by kernel_rfl, p_unicode_utf8_DecodeRuneInString⟩⟩
theorem o_internal_strconv_ParseInt : FunOk Go.Proofs.Tryd.prog [1, 0, 2, 3] 98 v_internal_strconv_ParseInt := ⟨⟨Go.Proofs.Tryd.f98, _, by kernel_rfl, rfl, by kernel_rfl, p_internal_strconv_ParseInt⟩⟩
theorem o_strconv_toError : FunOk Go.Proofs.Tryd.prog [1, 0, 2, 3] 99 v_strconv_toError := ⟨⟨Go.Proofs.Tryd.f99, _, by kernel_rfl, rfl, by kernel_rfl, p_strconv_toError⟩⟩
theorem o_internal_bytealg_hashStr_string : FunOk Go.Proofs.Tryd.prog [1, 0, 2, 3] 101 v_internal_bytealg_hashStr_string := ⟨⟨Go.Proofs.Tryd.f101, _, by kernel_rfl, rfl, by kernel_rfl, p_internal_bytealg_hashStr_string⟩⟩
theorem o_internal_strconv_ParseUint : FunOk Go.Proofs.Tryd.prog [1, 0, 2, 3] 103 v_internal_strconv_ParseUint := ⟨⟨Go.Proofs.Tryd.f103, _, by kernel_rfl, rfl, by kernel_rfl, p_internal_strconv_ParseUint⟩⟩
theorem o_strconv_baseError : FunOk Go.Proofs.Tryd.prog [1, 0, 2, 3] 106 v_strconv_baseError := ⟨⟨Go.Proofs.Tryd.f106, _, by kernel_rfl, rfl, by kernel_rfl, p_strconv_baseError⟩⟩
theorem o_strconv_bitSizeError : FunOk Go.Proofs.Tryd.prog [1, 0, 2, 3] 107 v_strconv_bitSizeError := ⟨⟨Go.Proofs.Tryd.f107, _, by kernel_rfl, rfl, by kernel_rfl, p_strconv_bitSizeError⟩⟩
theorem o_internal_strconv_lower : FunOk Go.Proofs.Tryd.prog [1, 0, 2, 3] 108 v_internal_strconv_lower := ⟨⟨Go.Proofs.Tryd.f108, _, by kernel_rfl, rfl, by kernel_rfl, p_internal_strconv_lower⟩⟩
theorem o_internal_strconv_underscoreOK : FunOk Go.Proofs.Tryd.prog [1, 0, 2, 3] 109 v_internal_strconv_underscoreOK := ⟨⟨Go.Proofs.Tryd.f109, _, by kernel_rfl, rfl, by kernel_rfl, p_internal_strconv_underscoreOK⟩⟩
theorem o_errors_New : FunOk Go.Proofs.Tryd.prog [1, 0, 2, 3] 111 v_errors_New := ⟨⟨Go.Proofs.Tryd.f111, _, by kernel_rfl, rfl, by kernel_rfl, p_errors_New⟩⟩
theorem fn_ok (f : FuncId) (fn : VFun) (h : fnOf f = some fn) : FunOk Go.Proofs.Tryd.prog [1, 0, 2, 3] f fn := by
  unfold fnOf at h
  split at h
  · cases h; exact o_l07_CodeSame
  · cases h; exact o_l07_Cut
  · cases h; exact o_code_Text
  · cases h; exact o_code_Check
  · cases h; exact o_l07_alive
  · cases h; exact o_code_Parse
  · cases h; exact o_r07_Same
  · cases h; exact o_code_Same
  · cases h; exact o_r07_Cut
  · cases h; exact o_strings_Builder_WriteString
  · cases h; exact o_strconv_Itoa
  · cases h; exact o_code_opText
  · cases h; exact o_code_endText
  · cases h; exact o_code_lines_unit
  · cases h; exact o_r07_SameBlocks
  · cases h; exact o_slices_Equal_int
  · cases h; exact o_slices_EqualFunc_Block
  · cases h; exact o_code_Same_c1
  · cases h; exact o_slices_Equal_Op
  · cases h; exact o_code_within
  · cases h; exact o_internal_strconv_Itoa
  · cases h; exact o_code_of
  · cases h; exact o_code_Read
  · cases h; exact o_word_Show
  · cases h; exact o_code_checker_unit
  · cases h; exact o_code_lines_peek
  · cases h; exact o_code_headed
  · cases h; exact o_code_lines_take
  · cases h; exact o_code_lines_block
  · cases h; exact o_r07_SameOps
  · cases h; exact o_internal_strconv_FormatInt
  · cases h; exact o_strconv_FormatInt
  · cases h; exact o_code_checker_must
  · cases h; exact o_slices_ContainsFunc_int
  · cases h; exact o_code_checker_unit_c1
  · cases h; exact o_code_checker_op
  · cases h; exact o_code_checker_end
  · cases h; exact o_strings_Cut
  · cases h; exact o_strings_Split
  · cases h; exact o_code_numbers
  · cases h; exact o_strings_CutPrefix
  · cases h; exact o_code_readEnd
  · cases h; exact o_code_readOp
  · cases h; exact o_internal_strconv_small
  · cases h; exact o_internal_strconv_numDigits
  · cases h; exact o_internal_strconv_formatBase10
  · cases h; exact o_internal_strconv_formatBits
  · cases h; exact o_slices_IndexFunc_int
  · cases h; exact o_code_checker_reg
  · cases h; exact o_internal_stringslite_Cut
  · cases h; exact o_strings_genSplit
  · cases h; exact o_word_Read
  · cases h; exact o_internal_stringslite_CutPrefix
  · cases h; exact o_slices_IndexFunc_form
  · cases h; exact o_code_readOp_c1
  · cases h; exact o_internal_strconv_log10Pow2
  · cases h; exact o_math_bits_Len64
  · cases h; exact o_internal_strconv_bool2_int
  · cases h; exact o_internal_strconv_isPowerOfTwo
  · cases h; exact o_math_bits_TrailingZeros
  · cases h; exact o_internal_stringslite_Index
  · cases h; exact o_strings_explode
  · cases h; exact o_strings_Count
  · cases h; exact o_strings_Index
  · cases h; exact o_strconv_ParseInt
  · cases h; exact o_internal_stringslite_HasPrefix
  · cases h; exact o_internal_stringslite_IndexByte
  · cases h; exact o_internal_bytealg_Cutover
  · cases h; exact o_internal_bytealg_IndexRabinKarp_string
  · cases h; exact o_unicode_utf8_DecodeRuneInString
  · cases h; exact o_internal_strconv_ParseInt
  · cases h; exact o_strconv_toError
  · cases h; exact o_internal_bytealg_hashStr_string
  · cases h; exact o_internal_strconv_ParseUint
  · cases h; exact o_strconv_baseError
  · cases h; exact o_strconv_bitSizeError
  · cases h; exact o_internal_strconv_lower
  · cases h; exact o_internal_strconv_underscoreOK
  · cases h; exact o_errors_New
  · cases h
/-- The functions of the seat, and whatever more is told. -/
structure On (X : Cx) : Prop where
  F : X.F = fnOf
  P : X.P = Go.Proofs.Tryd.prog
end Go.VX.Seat
end
section
set_option linter.unusedVariables false
set_option linter.unusedSimpArgs false
namespace Go.VX.Seat
def oneK (k : Int) : Bool := decide (1 ≤ k) && decide (k ≤ 25)
def hasDst (k : Int) : Bool := decide (k ≠ 17) && decide (k ≠ 19) && decide (k ≠ 20) && decide (k ≠ 21) && decide (k ≠ 22)
def hasA (k : Int) : Bool := decide (k ≠ 1) && decide (k ≠ 18)
def hasB (k : Int) : Bool := decide (3 ≤ k) && decide (k ≤ 15) || decide (k = 17) || decide (k = 23) || decide (k = 24)
def hasC (k : Int) : Bool := decide (k = 12)
def arrK (k : Int) : Bool := decide (k = 16) || decide (k = 17) || decide (k = 25)
def cellK (k : Int) : Bool := decide (k = 18) || decide (k = 19)
def endA (k : Int) : Bool := decide (k ≠ 1)
def endTo (k : Int) : Bool := decide (k = 1) || decide (k = 2)
def endElse (k : Int) : Bool := decide (k = 2)
section
variable {X : Cx} {st : St}
end
end Go.VX.Seat
end
section
set_option linter.unusedVariables false
set_option linter.unusedSimpArgs false
namespace Go.VX.Seat
def regOkA (regs r : Int) : Bool := decide (0 ≤ r) && decide (r < regs)
section
variable {X : Cx} {st : St}
def hasN (k : Int) : Bool := decide (k = 1) || arrK k || cellK k || decide (k = 21)
def manyOf (ns nb : Nat) (spill k : Int) : Int := if arrK k then ns else if cellK k then spill else if decide (k = 21) then nb else -1
/-- The error of an operation. -/
def opErr (ns nb : Nat) (regs spill k d a b c n g : Int) : Int :=
  if oneK k = false then 4 else
  if (hasDst k && !regOkA regs d) || (hasA k && !regOkA regs a) || (hasB k && !regOkA regs b) || (hasC k && !regOkA regs c) then 2 else
  if decide (g ≠ -1) && !regOkA regs g then 2 else
  if decide (0 ≤ manyOf ns nb spill k) && (decide (n < 0) || decide (manyOf ns nb spill k ≤ n)) then 5 else
  if (!hasDst k && decide (d ≠ 0)) || (!hasA k && decide (a ≠ 0)) || (!hasB k && decide (b ≠ 0)) || (!hasC k && decide (c ≠ 0)) then 4 else
  if !hasN k && decide (n ≠ 0) then 4 else 0
end
end Go.VX.Seat
end
