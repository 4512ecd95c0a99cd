/- A part of the proofs of the statements of layer 17: L1, L2, L3, L4, L5, L6, L0, S1, S2. No condition is added here. -/
import Derived.Test.YtjimgnlmimimjaaDoorChecked
import Derived.Test.YtjimgnlmimimjaaDoorXC5
section
set_option maxRecDepth 20000
/-! MADE BY PROGRAM (lits.py): functions as they are prepared. -/
namespace Go.VX.Seat
def v_l17_TraceExtends : VFun :=
⟨.seq (.reg [⟨0, (some 3), .box (.tmp 0), none, []⟩,
 ⟨1, (some 6), .mv (.con (.bool false)), none, []⟩])
 (.seq (.reg [⟨0, (some 13), .load (some 6) (.tmp 3), none, []⟩,
 ⟨2, (some 15), .load (some 6) (.tmp 3), none, []⟩,
 ⟨4, (some 7), .alloc [(.slice none 0 0), (.int .i64 0), (.int .i64 0), (.int .i64 0), (.int .i64 0), (.slice none 0 0)], none, []⟩,
 ⟨5, (some 8), .alloc [(.slice none 0 0), (.int .i64 0), (.int .i64 0), (.int .i64 0), (.int .i64 0), (.slice none 0 0)], none, []⟩,
 ⟨1, (some 14), .call 11 [(.tmp 13)], none, [(.tmp 3)]⟩,
 ⟨3, (some 16), .call 11 [(.tmp 15)], none, []⟩,
 ⟨6, none, .store 6 (.tmp 7) (.tmp 14), none, []⟩,
 ⟨7, none, .store 6 (.tmp 8) (.tmp 16), none, []⟩])
 (.seq (.reg [⟨0, (some 18), .load (some 6) (.tmp 8), none, []⟩,
 ⟨1, (some 19), .mv (.tmp 1), none, []⟩,
 ⟨2, (some 20), .mv (.tmp 2), none, []⟩,
 ⟨3, (some 21), .call 12 [(.tmp 18), (.tmp 19), (.tmp 20)], none, []⟩,
 ⟨4, (some 17), .mv (.tmp 21), none, []⟩,
 ⟨5, (some 22), .ext (.tmp 17) 0, none, []⟩,
 ⟨6, (some 23), .ext (.tmp 17) 1, none, []⟩,
 ⟨7, (some 9), .alloc [(.slice none 0 0), (.int .i64 0), (.int .i64 0), (.int .i64 0), (.int .i64 0), (.slice none 0 0)], none, []⟩,
 ⟨8, none, .store 6 (.tmp 9) (.tmp 22), none, []⟩,
 ⟨9, (some 10), .mv (.tmp 23), none, []⟩])
 (.seq (.reg [⟨0, (some 24), .build [(.slice none 0 0), (.int .i64 0), (.int .i64 0), (.int .i64 0), (.int .i64 0), (.slice none 0 0)] [], none, []⟩,
 ⟨1, (some 25), .load (some 6) (.tmp 7), none, []⟩,
 ⟨2, (some 26), .mv (.tmp 1), none, []⟩,
 ⟨3, (some 27), .call 13 [(.tmp 25), (.con (.bool true)), (.tmp 26)], none, []⟩,
 ⟨4, (some 11), .alloc [(.slice none 0 0), (.int .i64 0), (.int .i64 0), (.int .i64 0), (.int .i64 0), (.slice none 0 0)], none, []⟩,
 ⟨5, none, .store 6 (.tmp 11) (.tmp 24), none, []⟩,
 ⟨6, (some 12), .mv (.tmp 27), none, []⟩])
 (.seq (.seq (.reg [⟨0, (some 28), .mv (.tmp 12), none, []⟩,
 ⟨1, (some 29), .bin .eql 27 true (.tmp 28) (.con (.int .i64 0)), none, []⟩])
 (.cond (.tmp 29)
 (.reg [⟨0, (some 31), .load (some 6) (.tmp 7), none, []⟩,
 ⟨1, (some 32), .mv (.tmp 1), none, []⟩,
 ⟨2, (some 33), .mv (.tmp 2), none, []⟩,
 ⟨3, (some 34), .call 14 [(.tmp 31), (.tmp 32), (.tmp 33)], none, []⟩,
 ⟨4, (some 30), .mv (.tmp 34), none, []⟩,
 ⟨5, (some 35), .ext (.tmp 30) 0, none, []⟩,
 ⟨6, (some 36), .ext (.tmp 30) 1, none, []⟩,
 ⟨7, none, .store 6 (.tmp 11) (.tmp 35), none, []⟩,
 ⟨8, (some 12), .mv (.tmp 36), none, []⟩])
 (.skip)))
 (.seq (.reg [⟨0, (some 37), .load (some 6) (.tmp 9), none, []⟩,
 ⟨1, (some 38), .load (some 6) (.tmp 11), none, []⟩,
 ⟨2, (some 39), .mv (.tmp 10), none, []⟩,
 ⟨3, (some 40), .mv (.tmp 12), none, []⟩,
 ⟨4, (some 41), .call 15 [(.tmp 37), (.tmp 38), (.tmp 39), (.tmp 40)], none, []⟩,
 ⟨5, (some 42), .mv (.tmp 41), none, []⟩,
 ⟨6, (some 43), .load (some 6) (.tmp 7), (some (42, true)), []⟩,
 ⟨7, (some 44), .load (some 6) (.tmp 8), (some (42, true)), []⟩,
 ⟨8, (some 45), .call 16 [(.tmp 43), (.tmp 44)], (some (42, true)), []⟩,
 ⟨9, (some 46), .pick (.tmp 42) (.tmp 45) (.con (.bool false)), none, []⟩,
 ⟨10, (some 47), .mv (.tmp 46), none, []⟩,
 ⟨11, (some 48), .call 17 [], (some (47, true)), []⟩,
 ⟨12, (some 49), .pick (.tmp 47) (.tmp 48) (.con (.bool false)), none, []⟩,
 ⟨13, (some 6), .mv (.tmp 49), none, []⟩])
 (.ret)))))),
 [.tmp 6]⟩
theorem p_l17_TraceExtends : prepFun Go.Proofs.Tryd.prog [0] Go.Proofs.Tryd.f3 = some v_l17_TraceExtends := by kernel_rfl

def v_l17_TraceFollows : VFun :=
⟨.seq (.reg [⟨0, (some 4), .box (.tmp 0), none, []⟩,
 ⟨1, (some 8), .mv (.con (.bool false)), none, []⟩])
 (.seq (.reg [⟨0, (some 18), .load (some 6) (.tmp 4), none, []⟩,
 ⟨2, (some 20), .load (some 6) (.tmp 4), none, []⟩,
 ⟨4, (some 22), .mv (.tmp 1), none, []⟩,
 ⟨6, (some 9), .alloc [(.slice none 0 0), (.int .i64 0), (.int .i64 0), (.int .i64 0), (.int .i64 0), (.slice none 0 0)], none, []⟩,
 ⟨7, (some 10), .alloc [(.slice none 0 0), (.int .i64 0), (.int .i64 0), (.int .i64 0), (.int .i64 0), (.slice none 0 0)], none, []⟩,
 ⟨1, (some 19), .call 11 [(.tmp 18)], none, [(.tmp 4)]⟩,
 ⟨3, (some 21), .call 11 [(.tmp 20)], none, []⟩,
 ⟨5, (some 23), .call 18 [(.tmp 22)], none, []⟩,
 ⟨8, none, .store 6 (.tmp 9) (.tmp 19), none, []⟩,
 ⟨9, none, .store 6 (.tmp 10) (.tmp 21), none, []⟩,
 ⟨10, (some 11), .mv (.tmp 23), none, []⟩])
 (.seq (.reg [⟨0, (some 25), .load (some 6) (.tmp 10), none, []⟩,
 ⟨1, (some 26), .mv (.tmp 1), none, []⟩,
 ⟨3, (some 28), .mv (.tmp 2), none, []⟩,
 ⟨4, (some 29), .mv (.tmp 3), none, []⟩,
 ⟨10, (some 12), .alloc [(.slice none 0 0), (.int .i64 0), (.int .i64 0), (.int .i64 0), (.int .i64 0), (.slice none 0 0)], none, []⟩,
 ⟨2, (some 27), .call 18 [(.tmp 26)], none, [(.tmp 10)]⟩,
 ⟨5, (some 30), .call 19 [(.tmp 25), (.tmp 27), (.tmp 28), (.tmp 29)], none, []⟩,
 ⟨6, (some 24), .mv (.tmp 30), none, []⟩,
 ⟨7, (some 31), .ext (.tmp 24) 0, none, []⟩,
 ⟨8, (some 32), .ext (.tmp 24) 1, none, []⟩,
 ⟨9, (some 33), .ext (.tmp 24) 2, none, []⟩,
 ⟨11, none, .store 6 (.tmp 12) (.tmp 31), none, []⟩,
 ⟨12, (some 13), .mv (.tmp 32), none, []⟩,
 ⟨13, (some 14), .mv (.tmp 33), none, []⟩])
 (.seq (.reg [⟨0, (some 34), .build [(.slice none 0 0), (.int .i64 0), (.int .i64 0), (.int .i64 0), (.int .i64 0), (.slice none 0 0)] [], none, []⟩,
 ⟨1, (some 35), .load (some 6) (.tmp 9), none, []⟩,
 ⟨2, (some 36), .mv (.tmp 11), none, []⟩,
 ⟨3, (some 37), .len (.tmp 36), none, []⟩,
 ⟨4, (some 38), .fieldA 5 (.tmp 9), none, []⟩,
 ⟨5, (some 39), .load none (.tmp 38), none, []⟩,
 ⟨6, (some 40), .len (.tmp 39), none, []⟩,
 ⟨7, (some 41), .bin .eql 3 false (.tmp 37) (.tmp 40), none, []⟩,
 ⟨8, (some 42), .mv (.tmp 2), none, []⟩,
 ⟨9, (some 43), .call 13 [(.tmp 35), (.tmp 41), (.tmp 42)], none, []⟩,
 ⟨10, (some 15), .alloc [(.slice none 0 0), (.int .i64 0), (.int .i64 0), (.int .i64 0), (.int .i64 0), (.slice none 0 0)], none, []⟩,
 ⟨11, none, .store 6 (.tmp 15) (.tmp 34), none, []⟩,
 ⟨12, (some 16), .mv (.con (.int .i64 0)), none, []⟩,
 ⟨13, (some 17), .mv (.tmp 43), none, []⟩])
 (.seq (.seq (.reg [⟨0, (some 44), .mv (.tmp 17), none, []⟩,
 ⟨1, (some 45), .bin .eql 27 true (.tmp 44) (.con (.int .i64 0)), none, []⟩])
 (.cond (.tmp 45)
 (.reg [⟨0, (some 47), .load (some 6) (.tmp 9), none, []⟩,
 ⟨1, (some 48), .mv (.tmp 11), none, []⟩,
 ⟨2, (some 49), .mv (.tmp 2), none, []⟩,
 ⟨3, (some 50), .mv (.tmp 3), none, []⟩,
 ⟨4, (some 51), .call 20 [(.tmp 47), (.tmp 48), (.tmp 49), (.tmp 50)], none, []⟩,
 ⟨5, (some 46), .mv (.tmp 51), none, []⟩,
 ⟨6, (some 52), .ext (.tmp 46) 0, none, []⟩,
 ⟨7, (some 53), .ext (.tmp 46) 1, none, []⟩,
 ⟨8, (some 54), .ext (.tmp 46) 2, none, []⟩,
 ⟨9, none, .store 6 (.tmp 15) (.tmp 52), none, []⟩,
 ⟨10, (some 16), .mv (.tmp 53), none, []⟩,
 ⟨11, (some 17), .mv (.tmp 54), none, []⟩])
 (.skip)))
 (.seq (.reg [⟨0, (some 55), .load (some 6) (.tmp 12), none, []⟩,
 ⟨1, (some 56), .load (some 6) (.tmp 15), none, []⟩,
 ⟨2, (some 57), .mv (.tmp 14), none, []⟩,
 ⟨3, (some 58), .mv (.tmp 17), none, []⟩,
 ⟨4, (some 59), .call 15 [(.tmp 55), (.tmp 56), (.tmp 57), (.tmp 58)], none, []⟩,
 ⟨5, (some 60), .mv (.tmp 59), none, []⟩,
 ⟨6, (some 61), .mv (.tmp 13), (some (60, true)), []⟩,
 ⟨7, (some 62), .mv (.tmp 16), (some (60, true)), []⟩,
 ⟨8, (some 63), .bin .eql 3 false (.tmp 61) (.tmp 62), (some (60, true)), []⟩,
 ⟨9, (some 64), .pick (.tmp 60) (.tmp 63) (.con (.bool false)), none, []⟩,
 ⟨10, (some 65), .mv (.tmp 64), none, []⟩,
 ⟨11, (some 66), .load (some 6) (.tmp 9), (some (65, true)), []⟩,
 ⟨12, (some 67), .load (some 6) (.tmp 10), (some (65, true)), []⟩,
 ⟨13, (some 68), .call 16 [(.tmp 66), (.tmp 67)], (some (65, true)), []⟩,
 ⟨14, (some 69), .pick (.tmp 65) (.tmp 68) (.con (.bool false)), none, []⟩,
 ⟨15, (some 70), .mv (.tmp 69), none, []⟩,
 ⟨16, (some 71), .call 17 [], (some (70, true)), []⟩,
 ⟨17, (some 72), .pick (.tmp 70) (.tmp 71) (.con (.bool false)), none, []⟩,
 ⟨18, (some 8), .mv (.tmp 72), none, []⟩])
 (.ret)))))),
 [.tmp 8]⟩
theorem p_l17_TraceFollows : prepFun Go.Proofs.Tryd.prog [0] Go.Proofs.Tryd.f4 = some v_l17_TraceFollows := by kernel_rfl

def v_l17_TraceUnrolls : VFun :=
⟨.seq (.reg [⟨0, (some 3), .box (.tmp 0), none, []⟩,
 ⟨1, (some 6), .mv (.con (.bool false)), none, []⟩])
 (.seq (.reg [⟨0, (some 17), .load (some 6) (.tmp 3), none, []⟩,
 ⟨2, (some 19), .load (some 6) (.tmp 3), none, []⟩,
 ⟨4, (some 7), .alloc [(.slice none 0 0), (.int .i64 0), (.int .i64 0), (.int .i64 0), (.int .i64 0), (.slice none 0 0)], none, []⟩,
 ⟨5, (some 8), .alloc [(.slice none 0 0), (.int .i64 0), (.int .i64 0), (.int .i64 0), (.int .i64 0), (.slice none 0 0)], none, []⟩,
 ⟨1, (some 18), .call 11 [(.tmp 17)], none, [(.tmp 3)]⟩,
 ⟨3, (some 20), .call 11 [(.tmp 19)], none, []⟩,
 ⟨6, none, .store 6 (.tmp 7) (.tmp 18), none, []⟩,
 ⟨7, none, .store 6 (.tmp 8) (.tmp 20), none, []⟩])
 (.seq (.reg [⟨0, (some 22), .load (some 6) (.tmp 8), none, []⟩,
 ⟨1, (some 23), .mv (.tmp 1), none, []⟩,
 ⟨2, (some 24), .mv (.tmp 2), none, []⟩,
 ⟨3, (some 25), .call 21 [(.tmp 22), (.tmp 23), (.tmp 24)], none, []⟩,
 ⟨4, (some 21), .mv (.tmp 25), none, []⟩,
 ⟨5, (some 26), .ext (.tmp 21) 0, none, []⟩,
 ⟨6, (some 27), .ext (.tmp 21) 1, none, []⟩,
 ⟨7, (some 9), .alloc [(.slice none 0 0), (.int .i64 0), (.int .i64 0), (.int .i64 0), (.int .i64 0), (.slice none 0 0)], none, []⟩,
 ⟨8, none, .store 6 (.tmp 9) (.tmp 26), none, []⟩,
 ⟨9, (some 10), .mv (.tmp 27), none, []⟩])
 (.seq (.reg [⟨0, (some 29), .load (some 6) (.tmp 8), none, []⟩,
 ⟨1, (some 30), .call 22 [(.tmp 29)], none, []⟩,
 ⟨2, (some 28), .mv (.tmp 30), none, []⟩,
 ⟨3, (some 31), .ext (.tmp 28) 0, none, []⟩,
 ⟨4, (some 32), .ext (.tmp 28) 1, none, []⟩,
 ⟨5, (some 11), .mv (.tmp 31), none, []⟩,
 ⟨6, (some 12), .mv (.tmp 32), none, []⟩])
 (.seq (.reg [⟨0, (some 33), .build [(.slice none 0 0), (.int .i64 0), (.int .i64 0), (.int .i64 0), (.int .i64 0), (.slice none 0 0)] [], none, []⟩,
 ⟨1, (some 34), .load (some 6) (.tmp 7), none, []⟩,
 ⟨2, (some 35), .mv (.tmp 1), none, []⟩,
 ⟨3, (some 36), .call 13 [(.tmp 34), (.con (.bool true)), (.tmp 35)], none, []⟩,
 ⟨4, (some 13), .alloc [(.slice none 0 0), (.int .i64 0), (.int .i64 0), (.int .i64 0), (.int .i64 0), (.slice none 0 0)], none, []⟩,
 ⟨5, none, .store 6 (.tmp 13) (.tmp 33), none, []⟩,
 ⟨6, (some 14), .mv (.tmp 36), none, []⟩])
 (.seq (.seq (.reg [⟨0, (some 37), .mv (.tmp 14), none, []⟩,
 ⟨1, (some 38), .bin .eql 27 true (.tmp 37) (.con (.int .i64 0)), none, []⟩])
 (.cond (.tmp 38)
 (.reg [⟨0, (some 40), .load (some 6) (.tmp 7), none, []⟩,
 ⟨1, (some 41), .mv (.tmp 1), none, []⟩,
 ⟨2, (some 42), .mv (.tmp 2), none, []⟩,
 ⟨3, (some 43), .call 23 [(.tmp 40), (.tmp 41), (.tmp 42)], none, []⟩,
 ⟨4, (some 39), .mv (.tmp 43), none, []⟩,
 ⟨5, (some 44), .ext (.tmp 39) 0, none, []⟩,
 ⟨6, (some 45), .ext (.tmp 39) 1, none, []⟩,
 ⟨7, none, .store 6 (.tmp 13) (.tmp 44), none, []⟩,
 ⟨8, (some 14), .mv (.tmp 45), none, []⟩])
 (.skip)))
 (.seq (.reg [⟨0, (some 46), .load (some 6) (.tmp 7), none, []⟩,
 ⟨1, (some 47), .call 24 [(.tmp 46)], none, []⟩,
 ⟨2, (some 15), .mv (.tmp 47), none, []⟩])
 (.seq (.reg [⟨0, (some 16), .mv (.con (.slice none 0 0)), none, []⟩])
 (.seq (.seq (.reg [⟨0, (some 48), .mv (.tmp 15), none, []⟩,
 ⟨1, (some 49), .bin .eql 27 true (.tmp 48) (.con (.int .i64 0)), none, []⟩])
 (.cond (.tmp 49)
 (.reg [⟨0, (some 50), .load (some 6) (.tmp 7), none, []⟩,
 ⟨1, (some 51), .call 25 [(.tmp 50)], none, []⟩,
 ⟨2, (some 16), .mv (.tmp 51), none, []⟩])
 (.skip)))
 (.seq (.reg [⟨0, (some 52), .load (some 6) (.tmp 9), none, []⟩,
 ⟨1, (some 53), .load (some 6) (.tmp 13), none, []⟩,
 ⟨2, (some 54), .mv (.tmp 10), none, []⟩,
 ⟨3, (some 55), .mv (.tmp 14), none, []⟩,
 ⟨4, (some 56), .call 15 [(.tmp 52), (.tmp 53), (.tmp 54), (.tmp 55)], none, []⟩,
 ⟨5, (some 57), .mv (.tmp 56), none, []⟩,
 ⟨6, (some 58), .mv (.tmp 12), (some (57, true)), []⟩,
 ⟨7, (some 59), .mv (.tmp 15), (some (57, true)), []⟩,
 ⟨8, (some 60), .bin .eql 27 false (.tmp 58) (.tmp 59), (some (57, true)), []⟩,
 ⟨9, (some 61), .pick (.tmp 57) (.tmp 60) (.con (.bool false)), none, []⟩,
 ⟨10, (some 62), .mv (.tmp 61), none, []⟩,
 ⟨11, (some 63), .mv (.tmp 11), (some (62, true)), []⟩,
 ⟨12, (some 64), .mv (.tmp 16), (some (62, true)), []⟩,
 ⟨13, (some 65), .call 26 [(.tmp 63), (.tmp 64)], (some (62, true)), []⟩,
 ⟨14, (some 66), .pick (.tmp 62) (.tmp 65) (.con (.bool false)), none, []⟩,
 ⟨15, (some 67), .mv (.tmp 66), none, []⟩,
 ⟨16, (some 68), .load (some 6) (.tmp 7), (some (67, true)), []⟩,
 ⟨17, (some 69), .load (some 6) (.tmp 8), (some (67, true)), []⟩,
 ⟨18, (some 70), .call 16 [(.tmp 68), (.tmp 69)], (some (67, true)), []⟩,
 ⟨19, (some 71), .pick (.tmp 67) (.tmp 70) (.con (.bool false)), none, []⟩,
 ⟨20, (some 72), .mv (.tmp 71), none, []⟩,
 ⟨21, (some 73), .call 17 [], (some (72, true)), []⟩,
 ⟨22, (some 74), .pick (.tmp 72) (.tmp 73) (.con (.bool false)), none, []⟩,
 ⟨23, (some 6), .mv (.tmp 74), none, []⟩])
 (.ret)))))))))),
 [.tmp 6]⟩
theorem p_l17_TraceUnrolls : prepFun Go.Proofs.Tryd.prog [0] Go.Proofs.Tryd.f5 = some v_l17_TraceUnrolls := by kernel_rfl

def v_l17_TraceAgain : VFun :=
⟨.seq (.reg [⟨0, (some 3), .box (.tmp 0), none, []⟩,
 ⟨1, (some 6), .mv (.con (.bool false)), none, []⟩])
 (.seq (.reg [⟨0, (some 17), .load (some 6) (.tmp 3), none, []⟩,
 ⟨1, (some 18), .call 11 [(.tmp 17)], none, []⟩,
 ⟨2, (some 7), .alloc [(.slice none 0 0), (.int .i64 0), (.int .i64 0), (.int .i64 0), (.int .i64 0), (.slice none 0 0)], none, []⟩,
 ⟨3, none, .store 6 (.tmp 7) (.tmp 18), none, []⟩])
 (.seq (.reg [⟨0, (some 19), .mv (.tmp 2), none, []⟩,
 ⟨1, (some 20), .conv 5 3 (.tmp 19), none, []⟩,
 ⟨2, (some 21), .bin .rem 3 true (.tmp 20) (.con (.int .i64 17)), none, []⟩,
 ⟨3, (some 8), .mv (.tmp 21), none, []⟩])
 (.seq (.reg [⟨0, (some 23), .load (some 6) (.tmp 3), none, []⟩,
 ⟨1, (some 24), .call 11 [(.tmp 23)], none, []⟩,
 ⟨2, (some 25), .mv (.tmp 1), none, []⟩,
 ⟨3, (some 26), .mv (.tmp 8), none, []⟩,
 ⟨4, (some 27), .call 21 [(.tmp 24), (.tmp 25), (.tmp 26)], none, []⟩,
 ⟨5, (some 22), .mv (.tmp 27), none, []⟩,
 ⟨6, (some 28), .ext (.tmp 22) 0, none, []⟩,
 ⟨7, (some 29), .ext (.tmp 22) 1, none, []⟩,
 ⟨8, (some 9), .alloc [(.slice none 0 0), (.int .i64 0), (.int .i64 0), (.int .i64 0), (.int .i64 0), (.slice none 0 0)], none, []⟩,
 ⟨9, none, .store 6 (.tmp 9) (.tmp 28), none, []⟩,
 ⟨10, (some 10), .mv (.tmp 29), none, []⟩])
 (.seq (.seq (.reg [⟨0, (some 30), .mv (.tmp 10), none, []⟩,
 ⟨1, (some 31), .bin .neq 27 true (.tmp 30) (.con (.int .i64 0)), none, []⟩])
 (.cond (.tmp 31)
 (.seq (.reg [⟨0, (some 32), .mv (.tmp 10), none, []⟩,
 ⟨1, (some 33), .bin .neq 27 true (.tmp 32) (.con (.int .i64 11)), none, []⟩,
 ⟨2, (some 34), .mv (.tmp 33), none, []⟩,
 ⟨3, (some 35), .mv (.tmp 8), (some (34, false)), []⟩,
 ⟨4, (some 36), .bin .gtr 3 true (.tmp 35) (.con (.int .i64 0)), (some (34, false)), []⟩,
 ⟨5, (some 37), .pick (.tmp 34) (.con (.bool true)) (.tmp 36), none, []⟩,
 ⟨6, (some 38), .mv (.tmp 37), none, []⟩,
 ⟨7, (some 39), .call 17 [], (some (38, true)), []⟩,
 ⟨8, (some 40), .pick (.tmp 38) (.tmp 39) (.con (.bool false)), none, []⟩,
 ⟨9, (some 6), .mv (.tmp 40), none, []⟩])
 (.ret))
 (.skip)))
 (.seq (.reg [⟨0, (some 41), .fieldA 5 (.tmp 7), none, []⟩,
 ⟨1, (some 42), .load none (.tmp 41), none, []⟩,
 ⟨2, (some 43), .mv (.tmp 1), none, []⟩,
 ⟨3, (some 44), .idxA none 6 (.tmp 42) (.tmp 43), none, []⟩,
 ⟨4, (some 45), .load (some 6) (.tmp 44), none, []⟩,
 ⟨5, (some 46), .fieldA 5 (.tmp 9), none, []⟩,
 ⟨6, (some 47), .load none (.tmp 46), none, []⟩,
 ⟨7, (some 48), .mv (.tmp 1), none, []⟩,
 ⟨8, (some 49), .idxA none 6 (.tmp 47) (.tmp 48), none, []⟩,
 ⟨9, (some 50), .load (some 6) (.tmp 49), none, []⟩,
 ⟨10, (some 11), .alloc [(.slice none 0 0), (.int .i64 0), (.int .i64 0), (.int .i64 0), (.int .i64 0), (.int .i64 0)], none, []⟩,
 ⟨11, (some 12), .alloc [(.slice none 0 0), (.int .i64 0), (.int .i64 0), (.int .i64 0), (.int .i64 0), (.int .i64 0)], none, []⟩,
 ⟨12, none, .store 6 (.tmp 11) (.tmp 45), none, [(.tmp 46), (.tmp 49)]⟩,
 ⟨13, none, .store 6 (.tmp 12) (.tmp 50), none, []⟩])
 (.seq (.reg [⟨0, (some 13), .mv (.con (.int .i64 0)), none, []⟩])
 (.seq (.seq (.reg [⟨0, (some 51), .fieldA 1 (.tmp 11), none, []⟩,
 ⟨1, (some 52), .fieldA 0 (.tmp 51), none, []⟩,
 ⟨2, (some 53), .load none (.tmp 52), none, []⟩,
 ⟨3, (some 54), .bin .eql 3 true (.tmp 53) (.con (.int .i64 2)), none, []⟩])
 (.cond (.tmp 54)
 (.seq (.reg [⟨0, (some 13), .mv (.con (.int .i64 1)), none, []⟩])
 (.seq (.reg [⟨0, (some 55), .fieldA 1 (.tmp 11), none, []⟩,
 ⟨1, (some 56), .fieldA 2 (.tmp 55), none, []⟩,
 ⟨2, (some 57), .load none (.tmp 56), none, []⟩,
 ⟨3, (some 58), .mv (.tmp 1), none, []⟩,
 ⟨4, (some 59), .bin .eql 3 false (.tmp 57) (.tmp 58), none, []⟩])
 (.cond (.tmp 59)
 (.reg [⟨0, (some 13), .mv (.con (.int .i64 3)), none, []⟩])
 (.skip))))
 (.skip)))
 (.seq (.reg [⟨0, (some 60), .fieldA 0 (.tmp 11), none, []⟩,
 ⟨1, (some 61), .load none (.tmp 60), none, []⟩,
 ⟨2, (some 62), .len (.tmp 61), none, []⟩,
 ⟨3, (some 14), .mv (.tmp 62), none, []⟩])
 (.seq (.seq (.reg [⟨0, (some 63), .fieldA 0 (.tmp 12), none, []⟩,
 ⟨1, (some 64), .load none (.tmp 63), none, []⟩,
 ⟨2, (some 65), .len (.tmp 64), none, []⟩,
 ⟨3, (some 66), .mv (.tmp 14), none, []⟩,
 ⟨4, (some 67), .mv (.tmp 8), none, []⟩,
 ⟨5, (some 68), .mv (.tmp 14), none, []⟩,
 ⟨6, (some 69), .mv (.tmp 13), none, []⟩,
 ⟨7, (some 70), .bin .add 3 false (.tmp 68) (.tmp 69), none, []⟩,
 ⟨8, (some 71), .bin .mul 3 false (.tmp 67) (.tmp 70), none, []⟩,
 ⟨9, (some 72), .bin .add 3 false (.tmp 66) (.tmp 71), none, []⟩,
 ⟨10, (some 73), .bin .neq 3 false (.tmp 65) (.tmp 72), none, []⟩,
 ⟨11, (some 74), .mv (.tmp 73), none, []⟩,
 ⟨12, (some 75), .fieldA 1 (.tmp 12), (some (74, false)), []⟩,
 ⟨13, (some 76), .load (some 4) (.tmp 75), (some (74, false)), []⟩,
 ⟨14, (some 77), .fieldA 1 (.tmp 11), (some (74, false)), []⟩,
 ⟨15, (some 78), .load (some 4) (.tmp 77), (some (74, false)), []⟩,
 ⟨16, (some 79), .bin .neq 47 false (.tmp 76) (.tmp 78), (some (74, false)), []⟩,
 ⟨17, (some 80), .pick (.tmp 74) (.con (.bool true)) (.tmp 79), none, []⟩,
 ⟨18, (some 81), .mv (.tmp 80), none, []⟩,
 ⟨19, (some 82), .fieldA 2 (.tmp 9), (some (81, false)), []⟩,
 ⟨20, (some 83), .load none (.tmp 82), (some (81, false)), []⟩,
 ⟨21, (some 84), .fieldA 2 (.tmp 7), (some (81, false)), []⟩,
 ⟨22, (some 85), .load none (.tmp 84), (some (81, false)), []⟩,
 ⟨23, (some 86), .mv (.tmp 13), (some (81, false)), []⟩,
 ⟨24, (some 87), .bin .quo 3 true (.tmp 86) (.con (.int .i64 2)), (some (81, false)), []⟩,
 ⟨25, (some 88), .bin .mul 3 true (.tmp 87) (.con (.int .i64 2)), (some (81, false)), []⟩,
 ⟨26, (some 89), .mv (.tmp 8), (some (81, false)), []⟩,
 ⟨27, (some 90), .bin .mul 3 false (.tmp 88) (.tmp 89), (some (81, false)), []⟩,
 ⟨28, (some 91), .bin .add 3 false (.tmp 85) (.tmp 90), (some (81, false)), []⟩,
 ⟨29, (some 92), .bin .neq 3 false (.tmp 83) (.tmp 91), (some (81, false)), []⟩,
 ⟨30, (some 93), .pick (.tmp 81) (.con (.bool true)) (.tmp 92), none, []⟩])
 (.cond (.tmp 93)
 (.seq (.reg [⟨0, (some 6), .mv (.con (.bool false)), none, []⟩])
 (.ret))
 (.skip)))
 (.seq (.seq (.reg [⟨0, (some 15), .mv (.con (.int .i64 0)), none, []⟩])
 (.block 0
 (.loop
 (.seq (.seq (.reg [⟨0, (some 94), .mv (.tmp 15), none, []⟩,
 ⟨1, (some 95), .mv (.tmp 8), none, []⟩,
 ⟨2, (some 96), .bin .leq 3 false (.tmp 94) (.tmp 95), none, []⟩])
 (.cond (.tmp 96)
 (.skip)
 (.exit 0)))
 (.seq (.block 1
 (.seq (.reg [⟨0, (some 16), .mv (.con (.int .i64 0)), none, []⟩])
 (.block 2
 (.loop
 (.seq (.seq (.reg [⟨0, (some 99), .mv (.tmp 16), none, []⟩,
 ⟨1, (some 100), .mv (.tmp 14), none, []⟩,
 ⟨2, (some 101), .bin .lss 3 false (.tmp 99) (.tmp 100), none, []⟩])
 (.cond (.tmp 101)
 (.skip)
 (.exit 2)))
 (.seq (.block 3
 (.seq (.reg [⟨0, (some 104), .fieldA 0 (.tmp 12), none, []⟩,
 ⟨1, (some 105), .load none (.tmp 104), none, []⟩,
 ⟨2, (some 106), .mv (.tmp 15), none, []⟩,
 ⟨3, (some 107), .mv (.tmp 14), none, []⟩,
 ⟨4, (some 108), .mv (.tmp 13), none, []⟩,
 ⟨5, (some 109), .bin .add 3 false (.tmp 107) (.tmp 108), none, []⟩,
 ⟨6, (some 110), .bin .mul 3 false (.tmp 106) (.tmp 109), none, []⟩,
 ⟨7, (some 111), .mv (.tmp 16), none, []⟩,
 ⟨8, (some 112), .bin .add 3 false (.tmp 110) (.tmp 111), none, []⟩,
 ⟨9, (some 113), .idxA none 7 (.tmp 105) (.tmp 112), none, []⟩,
 ⟨10, (some 114), .load (some 7) (.tmp 113), none, []⟩,
 ⟨11, (some 115), .fieldA 0 (.tmp 11), none, []⟩,
 ⟨12, (some 116), .load none (.tmp 115), none, []⟩,
 ⟨13, (some 117), .mv (.tmp 16), none, []⟩,
 ⟨14, (some 118), .idxA none 7 (.tmp 116) (.tmp 117), none, []⟩,
 ⟨15, (some 119), .load (some 7) (.tmp 118), none, []⟩,
 ⟨16, (some 120), .bin .neq 51 false (.tmp 114) (.tmp 119), none, []⟩])
 (.cond (.tmp 120)
 (.seq (.reg [⟨0, (some 6), .mv (.con (.bool false)), none, []⟩])
 (.ret))
 (.skip))))
 (.reg [⟨0, (some 102), .mv (.tmp 16), none, []⟩,
 ⟨1, (some 103), .bin .add 3 true (.tmp 102) (.con (.int .i64 1)), none, []⟩,
 ⟨2, (some 16), .mv (.tmp 103), none, []⟩])))))))
 (.reg [⟨0, (some 97), .mv (.tmp 15), none, []⟩,
 ⟨1, (some 98), .bin .add 3 true (.tmp 97) (.con (.int .i64 1)), none, []⟩,
 ⟨2, (some 15), .mv (.tmp 98), none, []⟩]))))))
 (.seq (.reg [⟨0, (some 121), .fieldA 5 (.tmp 9), none, []⟩,
 ⟨1, (some 122), .load none (.tmp 121), none, []⟩,
 ⟨2, (some 123), .mv (.tmp 1), none, []⟩,
 ⟨3, (some 124), .load (some 6) (.tmp 11), none, []⟩,
 ⟨4, (some 125), .fieldA 2 (.tmp 7), none, []⟩,
 ⟨5, (some 126), .load none (.tmp 125), none, []⟩,
 ⟨6, (some 127), .idxA none 6 (.tmp 122) (.tmp 123), none, []⟩,
 ⟨7, none, .store 6 (.tmp 127) (.tmp 124), none, [(.tmp 125)]⟩,
 ⟨8, (some 128), .fieldA 2 (.tmp 9), none, []⟩,
 ⟨9, none, .store 1 (.tmp 128) (.tmp 126), none, []⟩])
 (.seq (.reg [⟨0, (some 129), .load (some 6) (.tmp 9), none, []⟩,
 ⟨1, (some 130), .load (some 6) (.tmp 7), none, []⟩,
 ⟨2, (some 131), .call 16 [(.tmp 129), (.tmp 130)], none, []⟩,
 ⟨3, (some 132), .mv (.tmp 131), none, []⟩,
 ⟨4, (some 133), .call 17 [], (some (132, true)), []⟩,
 ⟨5, (some 134), .pick (.tmp 132) (.tmp 133) (.con (.bool false)), none, []⟩,
 ⟨6, (some 6), .mv (.tmp 134), none, []⟩])
 (.ret))))))))))))),
 [.tmp 6]⟩
theorem p_l17_TraceAgain : prepFun Go.Proofs.Tryd.prog [0] Go.Proofs.Tryd.f6 = some v_l17_TraceAgain := by kernel_rfl

def v_l17_TraceLikely : VFun :=
⟨.seq (.reg [⟨0, (some 3), .box (.tmp 0), none, []⟩,
 ⟨1, (some 6), .mv (.con (.bool false)), none, []⟩])
 (.seq (.reg [⟨0, (some 16), .load (some 6) (.tmp 3), none, []⟩,
 ⟨1, (some 17), .call 11 [(.tmp 16)], none, []⟩,
 ⟨2, (some 18), .mv (.tmp 1), none, []⟩,
 ⟨3, (some 19), .call 18 [(.tmp 18)], none, []⟩,
 ⟨4, (some 7), .alloc [(.slice none 0 0), (.int .i64 0), (.int .i64 0), (.int .i64 0), (.int .i64 0), (.slice none 0 0)], none, []⟩,
 ⟨5, none, .store 6 (.tmp 7) (.tmp 17), none, []⟩,
 ⟨6, (some 8), .mv (.tmp 19), none, []⟩])
 (.seq (.reg [⟨0, (some 21), .load (some 6) (.tmp 3), none, []⟩,
 ⟨1, (some 22), .call 11 [(.tmp 21)], none, []⟩,
 ⟨2, (some 23), .mv (.tmp 1), none, []⟩,
 ⟨3, (some 24), .call 18 [(.tmp 23)], none, []⟩,
 ⟨4, (some 25), .mv (.tmp 2), none, []⟩,
 ⟨5, (some 26), .call 27 [(.tmp 22), (.tmp 24), (.tmp 25)], none, []⟩,
 ⟨6, (some 20), .mv (.tmp 26), none, []⟩,
 ⟨7, (some 27), .ext (.tmp 20) 0, none, []⟩,
 ⟨8, (some 28), .ext (.tmp 20) 1, none, []⟩,
 ⟨9, (some 9), .mv (.tmp 27), none, []⟩,
 ⟨10, (some 10), .mv (.tmp 28), none, []⟩])
 (.seq (.reg [⟨0, (some 30), .load (some 6) (.tmp 3), none, []⟩,
 ⟨1, (some 31), .call 11 [(.tmp 30)], none, []⟩,
 ⟨2, (some 32), .mv (.tmp 1), none, []⟩,
 ⟨3, (some 33), .call 18 [(.tmp 32)], none, []⟩,
 ⟨4, (some 34), .mv (.tmp 2), none, []⟩,
 ⟨5, (some 35), .call 28 [(.tmp 31), (.tmp 33), (.tmp 34)], none, []⟩,
 ⟨6, (some 29), .mv (.tmp 35), none, []⟩,
 ⟨7, (some 36), .ext (.tmp 29) 0, none, []⟩,
 ⟨8, (some 37), .ext (.tmp 29) 1, none, []⟩,
 ⟨9, (some 11), .mv (.tmp 36), none, []⟩,
 ⟨10, (some 12), .mv (.tmp 37), none, []⟩])
 (.seq (.seq (.reg [⟨0, (some 38), .load (some 6) (.tmp 7), none, []⟩,
 ⟨1, (some 39), .mv (.tmp 8), none, []⟩,
 ⟨2, (some 40), .len (.tmp 39), none, []⟩,
 ⟨3, (some 41), .fieldA 5 (.tmp 7), none, []⟩,
 ⟨4, (some 42), .load none (.tmp 41), none, []⟩,
 ⟨5, (some 43), .len (.tmp 42), none, []⟩,
 ⟨6, (some 44), .bin .eql 3 false (.tmp 40) (.tmp 43), none, []⟩,
 ⟨7, (some 45), .mv (.tmp 2), none, []⟩,
 ⟨8, (some 46), .call 13 [(.tmp 38), (.tmp 44), (.tmp 45)], none, []⟩,
 ⟨9, (some 13), .mv (.tmp 46), none, []⟩])
 (.seq (.reg [⟨0, (some 47), .mv (.tmp 13), none, []⟩,
 ⟨1, (some 48), .bin .neq 27 true (.tmp 47) (.con (.int .i64 0)), none, []⟩])
 (.cond (.tmp 48)
 (.seq (.reg [⟨0, (some 49), .mv (.tmp 10), none, []⟩,
 ⟨1, (some 50), .mv (.tmp 13), none, []⟩,
 ⟨2, (some 51), .bin .eql 27 false (.tmp 49) (.tmp 50), none, []⟩,
 ⟨3, (some 52), .mv (.tmp 51), none, []⟩,
 ⟨4, (some 53), .mv (.tmp 12), (some (52, true)), []⟩,
 ⟨5, (some 54), .mv (.tmp 13), (some (52, true)), []⟩,
 ⟨6, (some 55), .bin .eql 27 false (.tmp 53) (.tmp 54), (some (52, true)), []⟩,
 ⟨7, (some 56), .pick (.tmp 52) (.tmp 55) (.con (.bool false)), none, []⟩,
 ⟨8, (some 57), .mv (.tmp 56), none, []⟩,
 ⟨9, (some 58), .mv (.tmp 9), (some (57, true)), []⟩,
 ⟨10, (some 59), .bin .eql 3 true (.tmp 58) (.con (.int .i64 0)), (some (57, true)), []⟩,
 ⟨11, (some 60), .pick (.tmp 57) (.tmp 59) (.con (.bool false)), none, []⟩,
 ⟨12, (some 61), .mv (.tmp 60), none, []⟩,
 ⟨13, (some 62), .mv (.tmp 11), (some (61, true)), []⟩,
 ⟨14, (some 63), .len (.tmp 62), (some (61, true)), []⟩,
 ⟨15, (some 64), .bin .eql 3 true (.tmp 63) (.con (.int .i64 0)), (some (61, true)), []⟩,
 ⟨16, (some 65), .pick (.tmp 61) (.tmp 64) (.con (.bool false)), none, []⟩,
 ⟨17, (some 66), .mv (.tmp 65), none, []⟩,
 ⟨18, (some 67), .call 17 [], (some (66, true)), []⟩,
 ⟨19, (some 68), .pick (.tmp 66) (.tmp 67) (.con (.bool false)), none, []⟩,
 ⟨20, (some 6), .mv (.tmp 68), none, []⟩])
 (.ret))
 (.skip))))
 (.seq (.reg [⟨0, (some 69), .load (some 6) (.tmp 7), none, []⟩,
 ⟨1, (some 70), .mv (.tmp 8), none, []⟩,
 ⟨2, (some 71), .mv (.tmp 2), none, []⟩,
 ⟨3, (some 72), .call 29 [(.tmp 69), (.tmp 70), (.tmp 71)], none, []⟩,
 ⟨4, (some 14), .mv (.tmp 72), none, []⟩,
 ⟨5, (some 15), .mv (.con (.int .i64 0)), none, []⟩])
 (.seq (.seq (.reg [⟨0, (some 73), .mv (.tmp 14), none, []⟩,
 ⟨1, (some 74), .bin .lss 3 true (.tmp 73) (.con (.int .i64 0)), none, []⟩])
 (.cond (.tmp 74)
 (.reg [⟨0, (some 14), .mv (.con (.int .i64 0)), none, []⟩,
 ⟨1, (some 15), .mv (.con (.int .i64 5)), none, []⟩])
 (.skip)))
 (.seq (.reg [⟨0, (some 75), .mv (.tmp 9), none, []⟩,
 ⟨1, (some 76), .mv (.tmp 14), none, []⟩,
 ⟨2, (some 77), .bin .eql 3 false (.tmp 75) (.tmp 76), none, []⟩,
 ⟨3, (some 78), .mv (.tmp 77), none, []⟩,
 ⟨4, (some 79), .mv (.tmp 10), (some (78, true)), []⟩,
 ⟨5, (some 80), .mv (.tmp 15), (some (78, true)), []⟩,
 ⟨6, (some 81), .bin .eql 27 false (.tmp 79) (.tmp 80), (some (78, true)), []⟩,
 ⟨7, (some 82), .pick (.tmp 78) (.tmp 81) (.con (.bool false)), none, []⟩,
 ⟨8, (some 83), .mv (.tmp 82), none, []⟩,
 ⟨9, (some 84), .mv (.tmp 12), (some (83, true)), []⟩,
 ⟨10, (some 85), .bin .eql 27 true (.tmp 84) (.con (.int .i64 0)), (some (83, true)), []⟩,
 ⟨11, (some 86), .pick (.tmp 83) (.tmp 85) (.con (.bool false)), none, []⟩,
 ⟨12, (some 87), .mv (.tmp 86), none, []⟩,
 ⟨13, (some 88), .mv (.tmp 11), (some (87, true)), []⟩,
 ⟨14, (some 89), .load (some 6) (.tmp 7), (some (87, true)), []⟩,
 ⟨15, (some 90), .mv (.tmp 8), (some (87, true)), []⟩,
 ⟨16, (some 91), .mv (.tmp 2), (some (87, true)), []⟩,
 ⟨17, (some 92), .call 30 [(.tmp 89), (.tmp 90), (.tmp 91)], (some (87, true)), []⟩,
 ⟨18, (some 93), .call 26 [(.tmp 88), (.tmp 92)], (some (87, true)), []⟩,
 ⟨19, (some 94), .pick (.tmp 87) (.tmp 93) (.con (.bool false)), none, []⟩,
 ⟨20, (some 95), .mv (.tmp 94), none, []⟩,
 ⟨21, (some 96), .call 17 [], (some (95, true)), []⟩,
 ⟨22, (some 97), .pick (.tmp 95) (.tmp 96) (.con (.bool false)), none, []⟩,
 ⟨23, (some 6), .mv (.tmp 97), none, []⟩])
 (.ret)))))))),
 [.tmp 6]⟩
theorem p_l17_TraceLikely : prepFun Go.Proofs.Tryd.prog [0] Go.Proofs.Tryd.f7 = some v_l17_TraceLikely := by kernel_rfl

def v_l17_cut : VFun :=
⟨.seq (.reg [⟨0, (some 1), .box (.tmp 0), none, []⟩,
 ⟨1, (some 2), .alloc [(.slice none 0 0), (.int .i64 0), (.int .i64 0), (.int .i64 0), (.int .i64 0), (.slice none 0 0)], none, []⟩])
 (.seq (.reg [⟨0, (some 3), .load (some 6) (.tmp 1), none, []⟩,
 ⟨1, (some 4), .call 38 [(.tmp 3), (.con (.int .i64 16)), (.con (.int .i64 60))], none, []⟩,
 ⟨2, none, .store 6 (.tmp 2) (.tmp 4), none, []⟩])
 (.ret)),
 [.cell 2 (some 6)]⟩
theorem p_l17_cut : prepFun Go.Proofs.Tryd.prog [0] Go.Proofs.Tryd.f11 = some v_l17_cut := by kernel_rfl

def v_trace_Extend : VFun :=
⟨.seq (.reg [⟨0, (some 3), .box (.tmp 0), none, []⟩,
 ⟨1, (some 6), .alloc [(.slice none 0 0), (.int .i64 0), (.int .i64 0), (.int .i64 0), (.int .i64 0), (.slice none 0 0)], none, []⟩,
 ⟨2, (some 7), .mv (.con (.int .i64 0)), none, []⟩])
 (.seq (.seq (.reg [⟨0, (some 12), .load (some 6) (.tmp 3), none, []⟩,
 ⟨1, (some 13), .mv (.tmp 1), none, []⟩,
 ⟨2, (some 14), .call 39 [(.tmp 12), (.tmp 13)], none, []⟩,
 ⟨3, (some 8), .mv (.tmp 14), none, []⟩])
 (.seq (.reg [⟨0, (some 15), .mv (.tmp 8), none, []⟩,
 ⟨1, (some 16), .bin .neq 27 true (.tmp 15) (.con (.int .i64 0)), none, []⟩])
 (.cond (.tmp 16)
 (.seq (.reg [⟨0, (some 17), .build [(.slice none 0 0), (.int .i64 0), (.int .i64 0), (.int .i64 0), (.int .i64 0), (.slice none 0 0)] [], none, []⟩,
 ⟨1, (some 18), .mv (.tmp 8), none, []⟩,
 ⟨2, none, .store 6 (.tmp 6) (.tmp 17), none, []⟩,
 ⟨3, (some 7), .mv (.tmp 18), none, []⟩])
 (.ret))
 (.skip))))
 (.seq (.seq (.reg [⟨0, (some 19), .mv (.tmp 2), none, []⟩,
 ⟨1, (some 20), .bin .lss 3 true (.tmp 19) (.con (.int .i64 0)), none, []⟩,
 ⟨2, (some 21), .mv (.tmp 20), none, []⟩,
 ⟨3, (some 22), .mv (.tmp 2), (some (21, false)), []⟩,
 ⟨4, (some 23), .bin .gtr 3 true (.tmp 22) (.con (.int .i64 2)), (some (21, false)), []⟩,
 ⟨5, (some 24), .pick (.tmp 21) (.con (.bool true)) (.tmp 23), none, []⟩])
 (.cond (.tmp 24)
 (.seq (.reg [⟨0, (some 25), .build [(.slice none 0 0), (.int .i64 0), (.int .i64 0), (.int .i64 0), (.int .i64 0), (.slice none 0 0)] [], none, []⟩,
 ⟨1, none, .store 6 (.tmp 6) (.tmp 25), none, []⟩,
 ⟨2, (some 7), .mv (.con (.int .i64 2)), none, []⟩])
 (.ret))
 (.skip)))
 (.seq (.reg [⟨0, (some 27), .load (some 6) (.tmp 3), none, []⟩,
 ⟨1, (some 28), .mv (.tmp 1), none, []⟩,
 ⟨2, (some 29), .mv (.tmp 2), none, []⟩,
 ⟨3, (some 30), .call 40 [(.tmp 27), (.tmp 28), (.tmp 29)], none, []⟩,
 ⟨4, (some 26), .mv (.tmp 30), none, []⟩,
 ⟨5, (some 31), .ext (.tmp 26) 0, none, []⟩,
 ⟨6, (some 32), .ext (.tmp 26) 1, none, []⟩,
 ⟨7, (some 9), .mv (.tmp 31), none, []⟩,
 ⟨8, (some 10), .mv (.tmp 32), none, []⟩])
 (.seq (.seq (.reg [⟨0, (some 33), .mv (.tmp 10), none, []⟩,
 ⟨1, (some 34), .un .not (.tmp 33), none, []⟩])
 (.cond (.tmp 34)
 (.seq (.reg [⟨0, (some 35), .build [(.slice none 0 0), (.int .i64 0), (.int .i64 0), (.int .i64 0), (.int .i64 0), (.slice none 0 0)] [], none, []⟩,
 ⟨1, none, .store 6 (.tmp 6) (.tmp 35), none, []⟩,
 ⟨2, (some 7), .mv (.con (.int .i64 5)), none, []⟩])
 (.ret))
 (.skip)))
 (.seq (.reg [⟨0, (some 36), .load (some 6) (.tmp 3), none, []⟩,
 ⟨1, (some 37), .call 41 [(.tmp 36)], none, []⟩,
 ⟨2, (some 11), .alloc [(.slice none 0 0), (.int .i64 0), (.int .i64 0), (.int .i64 0), (.int .i64 0), (.slice none 0 0)], none, []⟩,
 ⟨3, none, .store 6 (.tmp 11) (.tmp 37), none, []⟩])
 (.seq (.reg [⟨0, (some 38), .mv (.tmp 1), none, []⟩,
 ⟨1, (some 39), .mv (.tmp 2), none, []⟩,
 ⟨2, (some 40), .fieldA 5 (.tmp 3), none, []⟩,
 ⟨3, (some 41), .load none (.tmp 40), none, []⟩,
 ⟨4, (some 42), .mv (.tmp 9), none, []⟩,
 ⟨5, (some 43), .idxA none 6 (.tmp 41) (.tmp 42), none, []⟩,
 ⟨6, (some 44), .load (some 6) (.tmp 43), none, []⟩,
 ⟨7, (some 45), .call 42 [(.tmp 11), (.tmp 38), (.tmp 39), (.tmp 44)], none, []⟩])
 (.seq (.seq (.reg [⟨0, (some 46), .load (some 6) (.tmp 11), none, []⟩,
 ⟨1, (some 47), .call 43 [(.tmp 46)], none, []⟩,
 ⟨2, (some 48), .bin .neq 27 true (.tmp 47) (.con (.int .i64 0)), none, []⟩])
 (.cond (.tmp 48)
 (.seq (.reg [⟨0, (some 49), .build [(.slice none 0 0), (.int .i64 0), (.int .i64 0), (.int .i64 0), (.int .i64 0), (.slice none 0 0)] [], none, []⟩,
 ⟨1, none, .store 6 (.tmp 6) (.tmp 49), none, []⟩,
 ⟨2, (some 7), .mv (.con (.int .i64 11)), none, []⟩])
 (.ret))
 (.skip)))
 (.seq (.reg [⟨0, (some 50), .load (some 6) (.tmp 11), none, []⟩,
 ⟨1, none, .store 6 (.tmp 6) (.tmp 50), none, []⟩,
 ⟨2, (some 7), .mv (.con (.int .i64 0)), none, []⟩])
 (.ret))))))))),
 [.cell 6 (some 6), .tmp 7]⟩
theorem p_trace_Extend : prepFun Go.Proofs.Tryd.prog [0] Go.Proofs.Tryd.f12 = some v_trace_Extend := by kernel_rfl

def v_l17_there : VFun :=
⟨.seq (.reg [⟨0, (some 3), .box (.tmp 0), none, []⟩,
 ⟨1, (some 6), .mv (.con (.int .i64 0)), none, []⟩])
 (.seq (.seq (.reg [⟨0, (some 8), .load (some 6) (.tmp 3), none, []⟩,
 ⟨1, (some 9), .call 24 [(.tmp 8)], none, []⟩,
 ⟨2, (some 7), .mv (.tmp 9), none, []⟩])
 (.seq (.reg [⟨0, (some 10), .mv (.tmp 7), none, []⟩,
 ⟨1, (some 11), .bin .neq 27 true (.tmp 10) (.con (.int .i64 0)), none, []⟩])
 (.cond (.tmp 11)
 (.seq (.reg [⟨0, (some 12), .mv (.tmp 7), none, []⟩,
 ⟨1, (some 6), .mv (.tmp 12), none, []⟩])
 (.ret))
 (.skip))))
 (.seq (.seq (.reg [⟨0, (some 13), .mv (.tmp 1), none, []⟩,
 ⟨1, (some 14), .un .not (.tmp 13), none, []⟩,
 ⟨2, (some 15), .mv (.tmp 14), none, []⟩,
 ⟨3, (some 16), .mv (.tmp 2), (some (15, false)), []⟩,
 ⟨4, (some 17), .bin .lss 3 true (.tmp 16) (.con (.int .i64 0)), (some (15, false)), []⟩,
 ⟨5, (some 18), .pick (.tmp 15) (.con (.bool true)) (.tmp 17), none, []⟩,
 ⟨6, (some 19), .mv (.tmp 18), none, []⟩,
 ⟨7, (some 20), .mv (.tmp 2), (some (19, false)), []⟩,
 ⟨8, (some 21), .fieldA 5 (.tmp 3), (some (19, false)), []⟩,
 ⟨9, (some 22), .load none (.tmp 21), (some (19, false)), []⟩,
 ⟨10, (some 23), .len (.tmp 22), (some (19, false)), []⟩,
 ⟨11, (some 24), .bin .geq 3 false (.tmp 20) (.tmp 23), (some (19, false)), []⟩,
 ⟨12, (some 25), .pick (.tmp 19) (.con (.bool true)) (.tmp 24), none, []⟩])
 (.cond (.tmp 25)
 (.seq (.reg [⟨0, (some 6), .mv (.con (.int .i64 2)), none, []⟩])
 (.ret))
 (.skip)))
 (.seq (.reg [⟨0, (some 6), .mv (.con (.int .i64 0)), none, []⟩])
 (.ret)))),
 [.tmp 6]⟩
theorem p_l17_there : prepFun Go.Proofs.Tryd.prog [0] Go.Proofs.Tryd.f13 = some v_l17_there := by kernel_rfl

def v_r17_Extend : VFun :=
⟨.seq (.reg [⟨0, (some 3), .box (.tmp 0), none, []⟩,
 ⟨1, (some 6), .alloc [(.slice none 0 0), (.int .i64 0), (.int .i64 0), (.int .i64 0), (.int .i64 0), (.slice none 0 0)], none, []⟩,
 ⟨2, (some 7), .mv (.con (.int .i64 0)), none, []⟩])
 (.seq (.seq (.reg [⟨0, (some 11), .mv (.tmp 2), none, []⟩,
 ⟨1, (some 12), .bin .lss 3 true (.tmp 11) (.con (.int .i64 0)), none, []⟩,
 ⟨2, (some 13), .mv (.tmp 12), none, []⟩,
 ⟨3, (some 14), .mv (.tmp 2), (some (13, false)), []⟩,
 ⟨4, (some 15), .bin .gtr 3 true (.tmp 14) (.con (.int .i64 2)), (some (13, false)), []⟩,
 ⟨5, (some 16), .pick (.tmp 13) (.con (.bool true)) (.tmp 15), none, []⟩])
 (.cond (.tmp 16)
 (.seq (.reg [⟨0, (some 17), .build [(.slice none 0 0), (.int .i64 0), (.int .i64 0), (.int .i64 0), (.int .i64 0), (.slice none 0 0)] [], none, []⟩,
 ⟨1, none, .store 6 (.tmp 6) (.tmp 17), none, []⟩,
 ⟨2, (some 7), .mv (.con (.int .i64 2)), none, []⟩])
 (.ret))
 (.skip)))
 (.seq (.seq (.reg [⟨0, (some 18), .load (some 6) (.tmp 3), none, []⟩,
 ⟨1, (some 19), .mv (.tmp 1), none, []⟩,
 ⟨2, (some 20), .mv (.tmp 2), none, []⟩,
 ⟨3, (some 21), .call 44 [(.tmp 18), (.tmp 19), (.tmp 20)], none, []⟩,
 ⟨4, (some 22), .un .not (.tmp 21), none, []⟩])
 (.cond (.tmp 22)
 (.seq (.reg [⟨0, (some 23), .build [(.slice none 0 0), (.int .i64 0), (.int .i64 0), (.int .i64 0), (.int .i64 0), (.slice none 0 0)] [], none, []⟩,
 ⟨1, none, .store 6 (.tmp 6) (.tmp 23), none, []⟩,
 ⟨2, (some 7), .mv (.con (.int .i64 5)), none, []⟩])
 (.ret))
 (.skip)))
 (.seq (.reg [⟨0, (some 25), .fieldA 5 (.tmp 3), none, []⟩,
 ⟨1, (some 26), .load none (.tmp 25), none, []⟩,
 ⟨2, (some 27), .mv (.tmp 1), none, []⟩,
 ⟨3, (some 28), .idxA none 6 (.tmp 26) (.tmp 27), none, []⟩,
 ⟨4, (some 29), .fieldA 1 (.tmp 28), none, []⟩,
 ⟨5, (some 30), .load (some 4) (.tmp 29), none, []⟩,
 ⟨6, (some 31), .mv (.tmp 2), none, []⟩,
 ⟨7, (some 32), .call 45 [(.tmp 30), (.tmp 31)], none, []⟩,
 ⟨8, (some 24), .mv (.tmp 32), none, []⟩,
 ⟨9, (some 33), .ext (.tmp 24) 0, none, []⟩,
 ⟨10, (some 34), .ext (.tmp 24) 1, none, []⟩,
 ⟨11, (some 8), .mv (.tmp 33), none, []⟩,
 ⟨12, (some 9), .mv (.tmp 34), none, []⟩])
 (.seq (.reg [⟨0, (some 35), .load (some 6) (.tmp 3), none, []⟩,
 ⟨1, (some 36), .mv (.tmp 1), none, []⟩,
 ⟨2, (some 37), .mv (.tmp 2), none, []⟩,
 ⟨3, (some 38), .fieldA 5 (.tmp 3), none, []⟩,
 ⟨4, (some 39), .load none (.tmp 38), none, []⟩,
 ⟨5, (some 40), .mv (.tmp 8), none, []⟩,
 ⟨6, (some 41), .idxA none 6 (.tmp 39) (.tmp 40), none, []⟩,
 ⟨7, (some 42), .load (some 6) (.tmp 41), none, []⟩,
 ⟨9, (some 10), .alloc [(.slice none 0 0), (.int .i64 0), (.int .i64 0), (.int .i64 0), (.int .i64 0), (.slice none 0 0)], none, []⟩,
 ⟨8, (some 43), .call 46 [(.tmp 35), (.tmp 36), (.tmp 37), (.tmp 42)], none, []⟩,
 ⟨10, none, .store 6 (.tmp 10) (.tmp 43), none, []⟩])
 (.seq (.seq (.reg [⟨0, (some 44), .load (some 6) (.tmp 10), none, []⟩,
 ⟨1, (some 45), .call 24 [(.tmp 44)], none, []⟩,
 ⟨2, (some 46), .bin .neq 27 true (.tmp 45) (.con (.int .i64 0)), none, []⟩])
 (.cond (.tmp 46)
 (.seq (.reg [⟨0, (some 47), .build [(.slice none 0 0), (.int .i64 0), (.int .i64 0), (.int .i64 0), (.int .i64 0), (.slice none 0 0)] [], none, []⟩,
 ⟨1, none, .store 6 (.tmp 6) (.tmp 47), none, []⟩,
 ⟨2, (some 7), .mv (.con (.int .i64 11)), none, []⟩])
 (.ret))
 (.skip)))
 (.seq (.reg [⟨0, (some 48), .load (some 6) (.tmp 10), none, []⟩,
 ⟨1, none, .store 6 (.tmp 6) (.tmp 48), none, []⟩,
 ⟨2, (some 7), .mv (.con (.int .i64 0)), none, []⟩])
 (.ret))))))),
 [.cell 6 (some 6), .tmp 7]⟩
theorem p_r17_Extend : prepFun Go.Proofs.Tryd.prog [0] Go.Proofs.Tryd.f14 = some v_r17_Extend := by kernel_rfl

end Go.VX.Seat
end
section
set_option maxRecDepth 20000
/-! MADE BY PROGRAM (lits.py): functions as they are prepared. -/
namespace Go.VX.Seat
def v_l17_same : VFun :=
⟨.seq (.reg [⟨0, (some 4), .box (.tmp 0), none, []⟩,
 ⟨1, (some 5), .box (.tmp 1), none, []⟩,
 ⟨2, (some 8), .mv (.con (.bool false)), none, []⟩])
 (.seq (.reg [⟨0, (some 9), .mv (.tmp 2), none, []⟩,
 ⟨1, (some 10), .mv (.tmp 3), none, []⟩,
 ⟨2, (some 11), .bin .eql 27 false (.tmp 9) (.tmp 10), none, []⟩,
 ⟨3, (some 12), .mv (.tmp 11), none, []⟩,
 ⟨4, (some 13), .mv (.tmp 3), (some (12, true)), []⟩,
 ⟨5, (some 14), .bin .eql 27 true (.tmp 13) (.con (.int .i64 0)), (some (12, true)), []⟩,
 ⟨6, (some 15), .mv (.tmp 14), (some (12, true)), []⟩,
 ⟨7, (some 16), .load (some 6) (.tmp 4), (some (15, true)), []⟩,
 ⟨8, (some 17), .load (some 6) (.tmp 5), (some (15, true)), []⟩,
 ⟨9, (some 18), .call 16 [(.tmp 16), (.tmp 17)], (some (15, true)), []⟩,
 ⟨10, (some 19), .pick (.tmp 15) (.tmp 18) (.con (.bool false)), (some (12, true)), []⟩,
 ⟨11, (some 20), .mv (.tmp 19), (some (12, true)), []⟩,
 ⟨12, (some 21), .mv (.tmp 3), (some (20, false)), []⟩,
 ⟨13, (some 22), .bin .neq 27 true (.tmp 21) (.con (.int .i64 0)), (some (20, false)), []⟩,
 ⟨14, (some 23), .mv (.tmp 22), (some (20, false)), []⟩,
 ⟨15, (some 24), .fieldA 5 (.tmp 4), (some (23, true)), []⟩,
 ⟨16, (some 25), .load none (.tmp 24), (some (23, true)), []⟩,
 ⟨17, (some 26), .len (.tmp 25), (some (23, true)), []⟩,
 ⟨18, (some 27), .fieldA 0 (.tmp 4), (some (23, true)), []⟩,
 ⟨19, (some 28), .load none (.tmp 27), (some (23, true)), []⟩,
 ⟨20, (some 29), .len (.tmp 28), (some (23, true)), []⟩,
 ⟨21, (some 30), .bin .add 3 false (.tmp 26) (.tmp 29), (some (23, true)), []⟩,
 ⟨22, (some 31), .fieldA 2 (.tmp 4), (some (23, true)), []⟩,
 ⟨23, (some 32), .load none (.tmp 31), (some (23, true)), []⟩,
 ⟨24, (some 33), .bin .add 3 false (.tmp 30) (.tmp 32), (some (23, true)), []⟩,
 ⟨25, (some 34), .fieldA 1 (.tmp 4), (some (23, true)), []⟩,
 ⟨26, (some 35), .load none (.tmp 34), (some (23, true)), []⟩,
 ⟨27, (some 36), .bin .add 3 false (.tmp 33) (.tmp 35), (some (23, true)), []⟩,
 ⟨28, (some 37), .fieldA 3 (.tmp 4), (some (23, true)), []⟩,
 ⟨29, (some 38), .load none (.tmp 37), (some (23, true)), []⟩,
 ⟨30, (some 39), .bin .add 3 false (.tmp 36) (.tmp 38), (some (23, true)), []⟩,
 ⟨31, (some 40), .fieldA 4 (.tmp 4), (some (23, true)), []⟩,
 ⟨32, (some 41), .load none (.tmp 40), (some (23, true)), []⟩,
 ⟨33, (some 42), .bin .add 3 false (.tmp 39) (.tmp 41), (some (23, true)), []⟩,
 ⟨34, (some 43), .bin .eql 3 true (.tmp 42) (.con (.int .i64 0)), (some (23, true)), []⟩,
 ⟨35, (some 44), .pick (.tmp 23) (.tmp 43) (.con (.bool false)), (some (20, false)), []⟩,
 ⟨36, (some 45), .pick (.tmp 20) (.con (.bool true)) (.tmp 44), (some (12, true)), []⟩,
 ⟨37, (some 46), .pick (.tmp 12) (.tmp 45) (.con (.bool false)), none, []⟩,
 ⟨38, (some 8), .mv (.tmp 46), none, []⟩])
 (.ret)),
 [.tmp 8]⟩
theorem p_l17_same : prepFun Go.Proofs.Tryd.prog [0] Go.Proofs.Tryd.f15 = some v_l17_same := by kernel_rfl

def v_r07_Same : VFun :=
⟨.seq (.reg [⟨0, (some 2), .box (.tmp 0), none, []⟩,
 ⟨1, (some 3), .box (.tmp 1), none, []⟩,
 ⟨2, (some 4), .mv (.con (.bool false)), none, []⟩])
 (.seq (.seq (.reg [⟨0, (some 6), .fieldA 0 (.tmp 2), none, []⟩,
 ⟨1, (some 7), .load none (.tmp 6), none, []⟩,
 ⟨2, (some 8), .len (.tmp 7), none, []⟩,
 ⟨3, (some 9), .fieldA 0 (.tmp 3), none, []⟩,
 ⟨4, (some 10), .load none (.tmp 9), none, []⟩,
 ⟨5, (some 11), .len (.tmp 10), none, []⟩,
 ⟨6, (some 12), .bin .neq 3 false (.tmp 8) (.tmp 11), none, []⟩,
 ⟨7, (some 13), .mv (.tmp 12), none, []⟩,
 ⟨8, (some 14), .fieldA 1 (.tmp 2), (some (13, false)), []⟩,
 ⟨9, (some 15), .load none (.tmp 14), (some (13, false)), []⟩,
 ⟨10, (some 16), .fieldA 1 (.tmp 3), (some (13, false)), []⟩,
 ⟨11, (some 17), .load none (.tmp 16), (some (13, false)), []⟩,
 ⟨12, (some 18), .bin .neq 3 false (.tmp 15) (.tmp 17), (some (13, false)), []⟩,
 ⟨13, (some 19), .pick (.tmp 13) (.con (.bool true)) (.tmp 18), none, []⟩,
 ⟨14, (some 20), .mv (.tmp 19), none, []⟩,
 ⟨15, (some 21), .fieldA 2 (.tmp 2), (some (20, false)), []⟩,
 ⟨16, (some 22), .load none (.tmp 21), (some (20, false)), []⟩,
 ⟨17, (some 23), .fieldA 2 (.tmp 3), (some (20, false)), []⟩,
 ⟨18, (some 24), .load none (.tmp 23), (some (20, false)), []⟩,
 ⟨19, (some 25), .bin .neq 3 false (.tmp 22) (.tmp 24), (some (20, false)), []⟩,
 ⟨20, (some 26), .pick (.tmp 20) (.con (.bool true)) (.tmp 25), none, []⟩,
 ⟨21, (some 27), .mv (.tmp 26), none, []⟩,
 ⟨22, (some 28), .fieldA 3 (.tmp 2), (some (27, false)), []⟩,
 ⟨23, (some 29), .load none (.tmp 28), (some (27, false)), []⟩,
 ⟨24, (some 30), .fieldA 3 (.tmp 3), (some (27, false)), []⟩,
 ⟨25, (some 31), .load none (.tmp 30), (some (27, false)), []⟩,
 ⟨26, (some 32), .bin .neq 3 false (.tmp 29) (.tmp 31), (some (27, false)), []⟩,
 ⟨27, (some 33), .pick (.tmp 27) (.con (.bool true)) (.tmp 32), none, []⟩,
 ⟨28, (some 34), .mv (.tmp 33), none, []⟩,
 ⟨29, (some 35), .fieldA 4 (.tmp 2), (some (34, false)), []⟩,
 ⟨30, (some 36), .load none (.tmp 35), (some (34, false)), []⟩,
 ⟨31, (some 37), .fieldA 4 (.tmp 3), (some (34, false)), []⟩,
 ⟨32, (some 38), .load none (.tmp 37), (some (34, false)), []⟩,
 ⟨33, (some 39), .bin .neq 3 false (.tmp 36) (.tmp 38), (some (34, false)), []⟩,
 ⟨34, (some 40), .pick (.tmp 34) (.con (.bool true)) (.tmp 39), none, []⟩])
 (.cond (.tmp 40)
 (.seq (.reg [⟨0, (some 4), .mv (.con (.bool false)), none, []⟩])
 (.ret))
 (.skip)))
 (.seq (.seq (.reg [⟨0, (some 5), .mv (.con (.int .i64 0)), none, []⟩])
 (.block 0
 (.loop
 (.seq (.seq (.reg [⟨0, (some 41), .mv (.tmp 5), none, []⟩,
 ⟨1, (some 42), .fieldA 0 (.tmp 2), none, []⟩,
 ⟨2, (some 43), .load none (.tmp 42), none, []⟩,
 ⟨3, (some 44), .len (.tmp 43), none, []⟩,
 ⟨4, (some 45), .bin .lss 3 false (.tmp 41) (.tmp 44), none, []⟩])
 (.cond (.tmp 45)
 (.skip)
 (.exit 0)))
 (.seq (.block 1
 (.seq (.reg [⟨0, (some 48), .fieldA 0 (.tmp 2), none, []⟩,
 ⟨1, (some 49), .load none (.tmp 48), none, []⟩,
 ⟨2, (some 50), .mv (.tmp 5), none, []⟩,
 ⟨3, (some 51), .idxA none 1 (.tmp 49) (.tmp 50), none, []⟩,
 ⟨4, (some 52), .load none (.tmp 51), none, []⟩,
 ⟨5, (some 53), .fieldA 0 (.tmp 3), none, []⟩,
 ⟨6, (some 54), .load none (.tmp 53), none, []⟩,
 ⟨7, (some 55), .mv (.tmp 5), none, []⟩,
 ⟨8, (some 56), .idxA none 1 (.tmp 54) (.tmp 55), none, []⟩,
 ⟨9, (some 57), .load none (.tmp 56), none, []⟩,
 ⟨10, (some 58), .bin .neq 3 false (.tmp 52) (.tmp 57), none, []⟩])
 (.cond (.tmp 58)
 (.seq (.reg [⟨0, (some 4), .mv (.con (.bool false)), none, []⟩])
 (.ret))
 (.skip))))
 (.reg [⟨0, (some 46), .mv (.tmp 5), none, []⟩,
 ⟨1, (some 47), .bin .add 3 true (.tmp 46) (.con (.int .i64 1)), none, []⟩,
 ⟨2, (some 5), .mv (.tmp 47), none, []⟩]))))))
 (.seq (.reg [⟨0, (some 59), .fieldA 5 (.tmp 2), none, []⟩,
 ⟨1, (some 60), .load none (.tmp 59), none, []⟩,
 ⟨2, (some 61), .fieldA 5 (.tmp 3), none, []⟩,
 ⟨3, (some 62), .load none (.tmp 61), none, []⟩,
 ⟨4, (some 63), .call 47 [(.tmp 60), (.tmp 62)], none, []⟩,
 ⟨5, (some 4), .mv (.tmp 63), none, []⟩])
 (.ret)))),
 [.tmp 4]⟩
theorem p_r07_Same : prepFun Go.Proofs.Tryd.prog [0] Go.Proofs.Tryd.f16 = some v_r07_Same := by kernel_rfl

def v_l17_alive : VFun :=
⟨.seq (.reg [⟨0, (some 0), .mv (.con (.bool false)), none, []⟩])
 (.seq (.reg [⟨0, (some 13), .call 48 [], none, []⟩,
 ⟨1, (some 14), .call 21 [(.tmp 13), (.con (.int .i64 1)), (.con (.int .i64 1))], none, []⟩,
 ⟨2, (some 12), .mv (.tmp 14), none, []⟩,
 ⟨3, (some 15), .ext (.tmp 12) 0, none, []⟩,
 ⟨4, (some 16), .ext (.tmp 12) 1, none, []⟩,
 ⟨5, (some 1), .alloc [(.slice none 0 0), (.int .i64 0), (.int .i64 0), (.int .i64 0), (.int .i64 0), (.slice none 0 0)], none, []⟩,
 ⟨6, none, .store 6 (.tmp 1) (.tmp 15), none, []⟩,
 ⟨7, (some 2), .mv (.tmp 16), none, []⟩])
 (.seq (.reg [⟨0, (some 18), .call 48 [], none, []⟩,
 ⟨1, (some 19), .call 22 [(.tmp 18)], none, []⟩,
 ⟨2, (some 17), .mv (.tmp 19), none, []⟩,
 ⟨3, (some 20), .ext (.tmp 17) 0, none, []⟩,
 ⟨4, (some 21), .ext (.tmp 17) 1, none, []⟩,
 ⟨5, (some 3), .mv (.tmp 20), none, []⟩,
 ⟨6, (some 4), .mv (.tmp 21), none, []⟩])
 (.seq (.reg [⟨0, (some 23), .call 48 [], none, []⟩,
 ⟨1, (some 24), .call 12 [(.tmp 23), (.con (.int .i64 2)), (.con (.int .i64 0))], none, []⟩,
 ⟨2, (some 22), .mv (.tmp 24), none, []⟩,
 ⟨3, (some 25), .ext (.tmp 22) 0, none, []⟩,
 ⟨4, (some 26), .ext (.tmp 22) 1, none, []⟩,
 ⟨5, (some 5), .alloc [(.slice none 0 0), (.int .i64 0), (.int .i64 0), (.int .i64 0), (.int .i64 0), (.slice none 0 0)], none, []⟩,
 ⟨6, none, .store 6 (.tmp 5) (.tmp 25), none, []⟩,
 ⟨7, (some 6), .mv (.tmp 26), none, []⟩])
 (.seq (.reg [⟨0, (some 28), .call 48 [], none, []⟩,
 ⟨1, (some 29), .build [(.int .i64 0), (.int .i64 0), (.int .i64 0)] [(0, 1, (.con (.int .i64 1))), (1, 1, (.con (.int .i64 1)))], none, []⟩,
 ⟨2, (some 30), .build [(.int .i64 0), (.int .i64 0), (.int .i64 0)] [(0, 1, (.con (.int .i64 9))), (1, 1, (.con (.int .i64 8))), (2, 1, (.con (.int .i64 1)))], none, []⟩,
 ⟨3, (some 31), .build [(.int .i64 0), (.int .i64 0), (.int .i64 0)] [(0, 1, (.con (.int .i64 1)))], none, []⟩,
 ⟨4, (some 32), .bslice 3 3 [(.int .i64 0), (.int .i64 0), (.int .i64 0)] [(0, 3, (.tmp 29)), (3, 3, (.tmp 30)), (6, 3, (.tmp 31))], none, []⟩,
 ⟨5, (some 33), .call 27 [(.tmp 28), (.tmp 32), (.con (.int .i64 1))], none, []⟩,
 ⟨6, (some 27), .mv (.tmp 33), none, []⟩,
 ⟨7, (some 34), .ext (.tmp 27) 0, none, []⟩,
 ⟨8, (some 35), .ext (.tmp 27) 1, none, []⟩,
 ⟨9, (some 7), .mv (.tmp 34), none, []⟩,
 ⟨10, (some 8), .mv (.tmp 35), none, []⟩])
 (.seq (.reg [⟨0, (some 37), .call 48 [], none, []⟩,
 ⟨1, (some 38), .build [(.int .i64 0), (.int .i64 0), (.int .i64 0)] [(0, 1, (.con (.int .i64 1))), (1, 1, (.con (.int .i64 1)))], none, []⟩,
 ⟨2, (some 39), .build [(.int .i64 0), (.int .i64 0), (.int .i64 0)] [(0, 1, (.con (.int .i64 9))), (1, 1, (.con (.int .i64 8))), (2, 1, (.con (.int .i64 1)))], none, []⟩,
 ⟨3, (some 40), .build [(.int .i64 0), (.int .i64 0), (.int .i64 0)] [(0, 1, (.con (.int .i64 1)))], none, []⟩,
 ⟨4, (some 41), .bslice 3 3 [(.int .i64 0), (.int .i64 0), (.int .i64 0)] [(0, 3, (.tmp 38)), (3, 3, (.tmp 39)), (6, 3, (.tmp 40))], none, []⟩,
 ⟨5, (some 42), .call 19 [(.tmp 37), (.tmp 41), (.con (.int .i64 0)), (.con (.int .i64 9))], none, []⟩,
 ⟨6, (some 36), .mv (.tmp 42), none, []⟩,
 ⟨7, (some 43), .ext (.tmp 36) 0, none, []⟩,
 ⟨8, (some 44), .ext (.tmp 36) 1, none, []⟩,
 ⟨9, (some 45), .ext (.tmp 36) 2, none, []⟩,
 ⟨10, (some 9), .alloc [(.slice none 0 0), (.int .i64 0), (.int .i64 0), (.int .i64 0), (.int .i64 0), (.slice none 0 0)], none, []⟩,
 ⟨11, none, .store 6 (.tmp 9) (.tmp 43), none, []⟩,
 ⟨12, (some 10), .mv (.tmp 44), none, []⟩,
 ⟨13, (some 11), .mv (.tmp 45), none, []⟩])
 (.seq (.reg [⟨0, (some 46), .mv (.tmp 2), none, []⟩,
 ⟨1, (some 47), .bin .eql 27 true (.tmp 46) (.con (.int .i64 0)), none, []⟩,
 ⟨2, (some 48), .mv (.tmp 47), none, []⟩,
 ⟨3, (some 49), .fieldA 5 (.tmp 1), (some (48, true)), []⟩,
 ⟨4, (some 50), .load none (.tmp 49), (some (48, true)), []⟩,
 ⟨5, (some 51), .len (.tmp 50), (some (48, true)), []⟩,
 ⟨6, (some 52), .bin .eql 3 true (.tmp 51) (.con (.int .i64 3)), (some (48, true)), []⟩,
 ⟨7, (some 53), .pick (.tmp 48) (.tmp 52) (.con (.bool false)), none, []⟩,
 ⟨8, (some 54), .mv (.tmp 53), none, []⟩,
 ⟨9, (some 55), .fieldA 5 (.tmp 1), (some (54, true)), []⟩,
 ⟨10, (some 56), .load none (.tmp 55), (some (54, true)), []⟩,
 ⟨11, (some 57), .idxA none 6 (.tmp 56) (.con (.int .i64 1)), (some (54, true)), []⟩,
 ⟨12, (some 58), .fieldA 0 (.tmp 57), (some (54, true)), []⟩,
 ⟨13, (some 59), .load none (.tmp 58), (some (54, true)), []⟩,
 ⟨14, (some 60), .len (.tmp 59), (some (54, true)), []⟩,
 ⟨15, (some 61), .bin .eql 3 true (.tmp 60) (.con (.int .i64 5)), (some (54, true)), []⟩,
 ⟨16, (some 62), .pick (.tmp 54) (.tmp 61) (.con (.bool false)), none, []⟩,
 ⟨17, (some 63), .mv (.tmp 62), none, []⟩,
 ⟨18, (some 64), .fieldA 5 (.tmp 1), (some (63, true)), []⟩,
 ⟨19, (some 65), .load none (.tmp 64), (some (63, true)), []⟩,
 ⟨20, (some 66), .idxA none 6 (.tmp 65) (.con (.int .i64 1)), (some (63, true)), []⟩,
 ⟨21, (some 67), .fieldA 0 (.tmp 66), (some (63, true)), []⟩,
 ⟨22, (some 68), .load none (.tmp 67), (some (63, true)), []⟩,
 ⟨23, (some 69), .idxA none 7 (.tmp 68) (.con (.int .i64 3)), (some (63, true)), []⟩,
 ⟨24, (some 70), .fieldA 0 (.tmp 69), (some (63, true)), []⟩,
 ⟨25, (some 71), .load none (.tmp 70), (some (63, true)), []⟩,
 ⟨26, (some 72), .bin .eql 3 true (.tmp 71) (.con (.int .i64 21)), (some (63, true)), []⟩,
 ⟨27, (some 73), .pick (.tmp 63) (.tmp 72) (.con (.bool false)), none, []⟩,
 ⟨28, (some 74), .mv (.tmp 73), none, []⟩,
 ⟨29, (some 75), .fieldA 2 (.tmp 1), (some (74, true)), []⟩,
 ⟨30, (some 76), .load none (.tmp 75), (some (74, true)), []⟩,
 ⟨31, (some 77), .bin .eql 3 true (.tmp 76) (.con (.int .i64 4)), (some (74, true)), []⟩,
 ⟨32, (some 78), .pick (.tmp 74) (.tmp 77) (.con (.bool false)), none, []⟩,
 ⟨33, (some 79), .mv (.tmp 78), none, []⟩,
 ⟨34, (some 80), .mv (.tmp 4), (some (79, true)), []⟩,
 ⟨35, (some 81), .bin .eql 27 true (.tmp 80) (.con (.int .i64 0)), (some (79, true)), []⟩,
 ⟨36, (some 82), .pick (.tmp 79) (.tmp 81) (.con (.bool false)), none, []⟩,
 ⟨37, (some 83), .mv (.tmp 82), none, []⟩,
 ⟨38, (some 84), .mv (.tmp 3), (some (83, true)), []⟩,
 ⟨39, (some 85), .len (.tmp 84), (some (83, true)), []⟩,
 ⟨40, (some 86), .bin .eql 3 true (.tmp 85) (.con (.int .i64 1)), (some (83, true)), []⟩,
 ⟨41, (some 87), .pick (.tmp 83) (.tmp 86) (.con (.bool false)), none, []⟩,
 ⟨42, (some 88), .mv (.tmp 87), none, []⟩,
 ⟨43, (some 89), .mv (.tmp 3), (some (88, true)), []⟩,
 ⟨44, (some 90), .idxA none 1 (.tmp 89) (.con (.int .i64 0)), (some (88, true)), []⟩,
 ⟨45, (some 91), .load none (.tmp 90), (some (88, true)), []⟩,
 ⟨46, (some 92), .bin .eql 3 true (.tmp 91) (.con (.int .i64 1)), (some (88, true)), []⟩,
 ⟨47, (some 93), .pick (.tmp 88) (.tmp 92) (.con (.bool false)), none, []⟩,
 ⟨48, (some 94), .mv (.tmp 93), none, []⟩,
 ⟨49, (some 95), .mv (.tmp 6), (some (94, true)), []⟩,
 ⟨50, (some 96), .bin .eql 27 true (.tmp 95) (.con (.int .i64 5)), (some (94, true)), []⟩,
 ⟨51, (some 97), .pick (.tmp 94) (.tmp 96) (.con (.bool false)), none, []⟩,
 ⟨52, (some 98), .mv (.tmp 97), none, []⟩,
 ⟨53, (some 99), .mv (.tmp 7), (some (98, true)), []⟩,
 ⟨54, (some 100), .bin .eql 3 true (.tmp 99) (.con (.int .i64 1)), (some (98, true)), []⟩,
 ⟨55, (some 101), .pick (.tmp 98) (.tmp 100) (.con (.bool false)), none, []⟩,
 ⟨56, (some 102), .mv (.tmp 101), none, []⟩,
 ⟨57, (some 103), .mv (.tmp 8), (some (102, true)), []⟩,
 ⟨58, (some 104), .bin .eql 27 true (.tmp 103) (.con (.int .i64 0)), (some (102, true)), []⟩,
 ⟨59, (some 105), .pick (.tmp 102) (.tmp 104) (.con (.bool false)), none, []⟩,
 ⟨60, (some 106), .mv (.tmp 105), none, []⟩,
 ⟨61, (some 107), .mv (.tmp 11), (some (106, true)), []⟩,
 ⟨62, (some 108), .bin .eql 27 true (.tmp 107) (.con (.int .i64 0)), (some (106, true)), []⟩,
 ⟨63, (some 109), .pick (.tmp 106) (.tmp 108) (.con (.bool false)), none, []⟩,
 ⟨64, (some 110), .mv (.tmp 109), none, []⟩,
 ⟨65, (some 111), .mv (.tmp 10), (some (110, true)), []⟩,
 ⟨66, (some 112), .bin .eql 3 true (.tmp 111) (.con (.int .i64 1)), (some (110, true)), []⟩,
 ⟨67, (some 113), .pick (.tmp 110) (.tmp 112) (.con (.bool false)), none, []⟩,
 ⟨68, (some 114), .mv (.tmp 113), none, []⟩,
 ⟨69, (some 115), .fieldA 5 (.tmp 9), (some (114, true)), []⟩,
 ⟨70, (some 116), .load none (.tmp 115), (some (114, true)), []⟩,
 ⟨71, (some 117), .len (.tmp 116), (some (114, true)), []⟩,
 ⟨72, (some 118), .bin .eql 3 true (.tmp 117) (.con (.int .i64 3)), (some (114, true)), []⟩,
 ⟨73, (some 119), .pick (.tmp 114) (.tmp 118) (.con (.bool false)), none, []⟩,
 ⟨74, (some 0), .mv (.tmp 119), none, []⟩])
 (.ret))))))),
 [.tmp 0]⟩
theorem p_l17_alive : prepFun Go.Proofs.Tryd.prog [0] Go.Proofs.Tryd.f17 = some v_l17_alive := by kernel_rfl

def v_l17_profile : VFun :=
⟨.seq (.reg [⟨0, (some 2), .mv (.con (.slice none 0 0)), none, []⟩])
 (.seq (.reg [⟨0, (some 3), .bslice 3 0 [(.int .i64 0), (.int .i64 0), (.int .i64 0)] [], none, []⟩,
 ⟨1, (some 4), .mv (.tmp 0), none, []⟩,
 ⟨2, (some 5), .mv (.tmp 0), none, []⟩,
 ⟨3, (some 6), .len (.tmp 5), none, []⟩,
 ⟨4, (some 7), .bi .min [3, 3] 3 [(.tmp 6), (.con (.int .i64 20))], none, []⟩,
 ⟨5, (some 8), .slice none 3 (.tmp 4) none (some (.tmp 7)) none, none, []⟩,
 ⟨6, (some 9), .append 3 24 (.tmp 3) (.tmp 8), none, []⟩,
 ⟨7, (some 2), .mv (.tmp 9), none, []⟩])
 (.ret)),
 [.tmp 2]⟩
theorem p_l17_profile : prepFun Go.Proofs.Tryd.prog [0] Go.Proofs.Tryd.f18 = some v_l17_profile := by kernel_rfl

def v_trace_Follow : VFun :=
⟨.seq (.reg [⟨0, (some 4), .box (.tmp 0), none, []⟩,
 ⟨1, (some 8), .alloc [(.slice none 0 0), (.int .i64 0), (.int .i64 0), (.int .i64 0), (.int .i64 0), (.slice none 0 0)], none, []⟩,
 ⟨2, (some 9), .mv (.con (.int .i64 0)), none, []⟩,
 ⟨3, (some 10), .mv (.con (.int .i64 0)), none, []⟩])
 (.seq (.seq (.reg [⟨0, (some 14), .load (some 6) (.tmp 4), none, []⟩,
 ⟨1, (some 15), .mv (.tmp 1), none, []⟩,
 ⟨2, (some 16), .mv (.tmp 2), none, []⟩,
 ⟨3, (some 17), .call 49 [(.tmp 14), (.tmp 15), (.tmp 16)], none, []⟩,
 ⟨4, (some 11), .mv (.tmp 17), none, []⟩])
 (.seq (.reg [⟨0, (some 18), .mv (.tmp 11), none, []⟩,
 ⟨1, (some 19), .bin .neq 27 true (.tmp 18) (.con (.int .i64 0)), none, []⟩])
 (.cond (.tmp 19)
 (.seq (.reg [⟨0, (some 20), .build [(.slice none 0 0), (.int .i64 0), (.int .i64 0), (.int .i64 0), (.int .i64 0), (.slice none 0 0)] [], none, []⟩,
 ⟨1, (some 21), .mv (.tmp 11), none, []⟩,
 ⟨2, none, .store 6 (.tmp 8) (.tmp 20), none, []⟩,
 ⟨3, (some 9), .mv (.con (.int .i64 0)), none, []⟩,
 ⟨4, (some 10), .mv (.tmp 21), none, []⟩])
 (.ret))
 (.skip))))
 (.seq (.seq (.reg [⟨0, (some 22), .mv (.tmp 3), none, []⟩,
 ⟨1, (some 23), .bin .lss 3 true (.tmp 22) (.con (.int .i64 0)), none, []⟩])
 (.cond (.tmp 23)
 (.seq (.reg [⟨0, (some 24), .build [(.slice none 0 0), (.int .i64 0), (.int .i64 0), (.int .i64 0), (.int .i64 0), (.slice none 0 0)] [], none, []⟩,
 ⟨1, none, .store 6 (.tmp 8) (.tmp 24), none, []⟩,
 ⟨2, (some 9), .mv (.con (.int .i64 0)), none, []⟩,
 ⟨3, (some 10), .mv (.con (.int .i64 2)), none, []⟩])
 (.ret))
 (.skip)))
 (.seq (.reg [⟨0, (some 25), .load (some 6) (.tmp 4), none, []⟩,
 ⟨1, (some 26), .call 41 [(.tmp 25)], none, []⟩,
 ⟨2, (some 12), .alloc [(.slice none 0 0), (.int .i64 0), (.int .i64 0), (.int .i64 0), (.int .i64 0), (.slice none 0 0)], none, []⟩,
 ⟨3, none, .store 6 (.tmp 12) (.tmp 26), none, []⟩])
 (.seq (.reg [⟨0, (some 27), .load (some 6) (.tmp 4), none, []⟩,
 ⟨1, (some 28), .mv (.tmp 1), none, []⟩,
 ⟨2, (some 29), .mv (.tmp 2), none, []⟩,
 ⟨3, (some 30), .mv (.tmp 3), none, []⟩,
 ⟨4, (some 31), .call 50 [(.tmp 12), (.tmp 27), (.tmp 28), (.tmp 29), (.tmp 30)], none, []⟩,
 ⟨5, (some 13), .mv (.tmp 31), none, []⟩])
 (.seq (.seq (.reg [⟨0, (some 32), .load (some 6) (.tmp 12), none, []⟩,
 ⟨1, (some 33), .call 43 [(.tmp 32)], none, []⟩,
 ⟨2, (some 34), .bin .neq 27 true (.tmp 33) (.con (.int .i64 0)), none, []⟩])
 (.cond (.tmp 34)
 (.seq (.reg [⟨0, (some 35), .build [(.slice none 0 0), (.int .i64 0), (.int .i64 0), (.int .i64 0), (.int .i64 0), (.slice none 0 0)] [], none, []⟩,
 ⟨1, none, .store 6 (.tmp 8) (.tmp 35), none, []⟩,
 ⟨2, (some 9), .mv (.con (.int .i64 0)), none, []⟩,
 ⟨3, (some 10), .mv (.con (.int .i64 11)), none, []⟩])
 (.ret))
 (.skip)))
 (.seq (.reg [⟨0, (some 36), .load (some 6) (.tmp 12), none, []⟩,
 ⟨1, (some 37), .mv (.tmp 13), none, []⟩,
 ⟨2, none, .store 6 (.tmp 8) (.tmp 36), none, []⟩,
 ⟨3, (some 9), .mv (.tmp 37), none, []⟩,
 ⟨4, (some 10), .mv (.con (.int .i64 0)), none, []⟩])
 (.ret))))))),
 [.cell 8 (some 6), .tmp 9, .tmp 10]⟩
theorem p_trace_Follow : prepFun Go.Proofs.Tryd.prog [0] Go.Proofs.Tryd.f19 = some v_trace_Follow := by kernel_rfl

def v_r17_Follow : VFun :=
⟨.seq (.reg [⟨0, (some 4), .box (.tmp 0), none, []⟩,
 ⟨1, (some 8), .alloc [(.slice none 0 0), (.int .i64 0), (.int .i64 0), (.int .i64 0), (.int .i64 0), (.slice none 0 0)], none, []⟩,
 ⟨2, (some 9), .mv (.con (.int .i64 0)), none, []⟩,
 ⟨3, (some 10), .mv (.con (.int .i64 0)), none, []⟩])
 (.seq (.seq (.reg [⟨0, (some 13), .mv (.tmp 3), none, []⟩,
 ⟨1, (some 14), .bin .lss 3 true (.tmp 13) (.con (.int .i64 0)), none, []⟩])
 (.cond (.tmp 14)
 (.seq (.reg [⟨0, (some 15), .build [(.slice none 0 0), (.int .i64 0), (.int .i64 0), (.int .i64 0), (.int .i64 0), (.slice none 0 0)] [], none, []⟩,
 ⟨1, none, .store 6 (.tmp 8) (.tmp 15), none, []⟩,
 ⟨2, (some 9), .mv (.con (.int .i64 0)), none, []⟩,
 ⟨3, (some 10), .mv (.con (.int .i64 2)), none, []⟩])
 (.ret))
 (.skip)))
 (.seq (.reg [⟨0, (some 17), .load (some 6) (.tmp 4), none, []⟩,
 ⟨1, (some 18), .load (some 6) (.tmp 4), none, []⟩,
 ⟨2, (some 19), .load (some 6) (.tmp 4), none, []⟩,
 ⟨3, (some 20), .mv (.tmp 1), none, []⟩,
 ⟨4, (some 21), .mv (.tmp 2), none, []⟩,
 ⟨6, (some 23), .mv (.tmp 3), none, []⟩,
 ⟨11, (some 11), .alloc [(.slice none 0 0), (.int .i64 0), (.int .i64 0), (.int .i64 0), (.int .i64 0), (.slice none 0 0)], none, []⟩,
 ⟨5, (some 22), .call 30 [(.tmp 19), (.tmp 20), (.tmp 21)], none, [(.tmp 4), (.tmp 4)]⟩,
 ⟨7, (some 24), .call 51 [(.tmp 17), (.tmp 18), (.tmp 22), (.tmp 23)], none, []⟩,
 ⟨8, (some 16), .mv (.tmp 24), none, []⟩,
 ⟨9, (some 25), .ext (.tmp 16) 0, none, []⟩,
 ⟨10, (some 26), .ext (.tmp 16) 1, none, []⟩,
 ⟨12, none, .store 6 (.tmp 11) (.tmp 25), none, []⟩,
 ⟨13, (some 12), .mv (.tmp 26), none, []⟩])
 (.seq (.seq (.reg [⟨0, (some 27), .load (some 6) (.tmp 11), none, []⟩,
 ⟨1, (some 28), .call 24 [(.tmp 27)], none, []⟩,
 ⟨2, (some 29), .bin .neq 27 true (.tmp 28) (.con (.int .i64 0)), none, []⟩])
 (.cond (.tmp 29)
 (.seq (.reg [⟨0, (some 30), .build [(.slice none 0 0), (.int .i64 0), (.int .i64 0), (.int .i64 0), (.int .i64 0), (.slice none 0 0)] [], none, []⟩,
 ⟨1, none, .store 6 (.tmp 8) (.tmp 30), none, []⟩,
 ⟨2, (some 9), .mv (.con (.int .i64 0)), none, []⟩,
 ⟨3, (some 10), .mv (.con (.int .i64 11)), none, []⟩])
 (.ret))
 (.skip)))
 (.seq (.reg [⟨0, (some 31), .load (some 6) (.tmp 11), none, []⟩,
 ⟨1, (some 32), .mv (.tmp 12), none, []⟩,
 ⟨2, none, .store 6 (.tmp 8) (.tmp 31), none, []⟩,
 ⟨3, (some 9), .mv (.tmp 32), none, []⟩,
 ⟨4, (some 10), .mv (.con (.int .i64 0)), none, []⟩])
 (.ret))))),
 [.cell 8 (some 6), .tmp 9, .tmp 10]⟩
theorem p_r17_Follow : prepFun Go.Proofs.Tryd.prog [0] Go.Proofs.Tryd.f20 = some v_r17_Follow := by kernel_rfl

def v_trace_Unroll : VFun :=
⟨.seq (.reg [⟨0, (some 3), .box (.tmp 0), none, []⟩,
 ⟨1, (some 6), .alloc [(.slice none 0 0), (.int .i64 0), (.int .i64 0), (.int .i64 0), (.int .i64 0), (.slice none 0 0)], none, []⟩,
 ⟨2, (some 7), .mv (.con (.int .i64 0)), none, []⟩])
 (.seq (.seq (.reg [⟨0, (some 12), .load (some 6) (.tmp 3), none, []⟩,
 ⟨1, (some 13), .mv (.tmp 1), none, []⟩,
 ⟨2, (some 14), .call 39 [(.tmp 12), (.tmp 13)], none, []⟩,
 ⟨3, (some 8), .mv (.tmp 14), none, []⟩])
 (.seq (.reg [⟨0, (some 15), .mv (.tmp 8), none, []⟩,
 ⟨1, (some 16), .bin .neq 27 true (.tmp 15) (.con (.int .i64 0)), none, []⟩])
 (.cond (.tmp 16)
 (.seq (.reg [⟨0, (some 17), .build [(.slice none 0 0), (.int .i64 0), (.int .i64 0), (.int .i64 0), (.int .i64 0), (.slice none 0 0)] [], none, []⟩,
 ⟨1, (some 18), .mv (.tmp 8), none, []⟩,
 ⟨2, none, .store 6 (.tmp 6) (.tmp 17), none, []⟩,
 ⟨3, (some 7), .mv (.tmp 18), none, []⟩])
 (.ret))
 (.skip))))
 (.seq (.reg [⟨0, (some 20), .load (some 6) (.tmp 3), none, []⟩,
 ⟨1, (some 21), .mv (.tmp 1), none, []⟩,
 ⟨2, (some 22), .call 52 [(.tmp 20), (.tmp 21)], none, []⟩,
 ⟨3, (some 19), .mv (.tmp 22), none, []⟩,
 ⟨4, (some 23), .ext (.tmp 19) 0, none, []⟩,
 ⟨5, (some 24), .ext (.tmp 19) 1, none, []⟩,
 ⟨6, (some 9), .mv (.tmp 23), none, []⟩,
 ⟨7, (some 10), .mv (.tmp 24), none, []⟩])
 (.seq (.seq (.reg [⟨0, (some 25), .mv (.tmp 10), none, []⟩,
 ⟨1, (some 26), .un .not (.tmp 25), none, []⟩])
 (.cond (.tmp 26)
 (.seq (.reg [⟨0, (some 27), .build [(.slice none 0 0), (.int .i64 0), (.int .i64 0), (.int .i64 0), (.int .i64 0), (.slice none 0 0)] [], none, []⟩,
 ⟨1, none, .store 6 (.tmp 6) (.tmp 27), none, []⟩,
 ⟨2, (some 7), .mv (.con (.int .i64 5)), none, []⟩])
 (.ret))
 (.skip)))
 (.seq (.seq (.reg [⟨0, (some 28), .mv (.tmp 2), none, []⟩,
 ⟨1, (some 29), .bin .lss 3 true (.tmp 28) (.con (.int .i64 0)), none, []⟩,
 ⟨2, (some 30), .mv (.tmp 29), none, []⟩,
 ⟨3, (some 31), .mv (.tmp 2), (some (30, false)), []⟩,
 ⟨4, (some 32), .bin .gtr 3 true (.tmp 31) (.con (.int .i64 16)), (some (30, false)), []⟩,
 ⟨5, (some 33), .pick (.tmp 30) (.con (.bool true)) (.tmp 32), none, []⟩])
 (.cond (.tmp 33)
 (.seq (.reg [⟨0, (some 34), .build [(.slice none 0 0), (.int .i64 0), (.int .i64 0), (.int .i64 0), (.int .i64 0), (.slice none 0 0)] [], none, []⟩,
 ⟨1, none, .store 6 (.tmp 6) (.tmp 34), none, []⟩,
 ⟨2, (some 7), .mv (.con (.int .i64 2)), none, []⟩])
 (.ret))
 (.skip)))
 (.seq (.reg [⟨0, (some 35), .load (some 6) (.tmp 3), none, []⟩,
 ⟨1, (some 36), .call 41 [(.tmp 35)], none, []⟩,
 ⟨2, (some 11), .alloc [(.slice none 0 0), (.int .i64 0), (.int .i64 0), (.int .i64 0), (.int .i64 0), (.slice none 0 0)], none, []⟩,
 ⟨3, none, .store 6 (.tmp 11) (.tmp 36), none, []⟩])
 (.seq (.seq (.reg [⟨0, (some 37), .mv (.tmp 2), none, []⟩,
 ⟨1, (some 38), .mv (.con (.int .i64 0)), none, []⟩])
 (.block 0
 (.loop
 (.seq (.reg [⟨0, (some 39), .bin .lss 3 false (.tmp 38) (.tmp 37), none, []⟩])
 (.seq (.cond (.tmp 39)
 (.skip)
 (.exit 0))
 (.seq (.block 1
 (.reg [⟨0, (some 40), .mv (.tmp 1), none, []⟩,
 ⟨1, (some 41), .mv (.tmp 9), none, []⟩,
 ⟨2, (some 42), .fieldA 5 (.tmp 3), none, []⟩,
 ⟨3, (some 43), .load none (.tmp 42), none, []⟩,
 ⟨4, (some 44), .mv (.tmp 1), none, []⟩,
 ⟨5, (some 45), .idxA none 6 (.tmp 43) (.tmp 44), none, []⟩,
 ⟨6, (some 46), .load (some 6) (.tmp 45), none, []⟩,
 ⟨7, (some 47), .call 42 [(.tmp 11), (.tmp 40), (.tmp 41), (.tmp 46)], none, []⟩]))
 (.reg [⟨0, (some 48), .bin .add 3 true (.tmp 38) (.con (.int .i64 1)), none, []⟩,
 ⟨1, (some 38), .mv (.tmp 48), none, []⟩])))))))
 (.seq (.seq (.reg [⟨0, (some 49), .load (some 6) (.tmp 11), none, []⟩,
 ⟨1, (some 50), .call 43 [(.tmp 49)], none, []⟩,
 ⟨2, (some 51), .bin .neq 27 true (.tmp 50) (.con (.int .i64 0)), none, []⟩])
 (.cond (.tmp 51)
 (.seq (.reg [⟨0, (some 52), .build [(.slice none 0 0), (.int .i64 0), (.int .i64 0), (.int .i64 0), (.int .i64 0), (.slice none 0 0)] [], none, []⟩,
 ⟨1, none, .store 6 (.tmp 6) (.tmp 52), none, []⟩,
 ⟨2, (some 7), .mv (.con (.int .i64 11)), none, []⟩])
 (.ret))
 (.skip)))
 (.seq (.reg [⟨0, (some 53), .load (some 6) (.tmp 11), none, []⟩,
 ⟨1, none, .store 6 (.tmp 6) (.tmp 53), none, []⟩,
 ⟨2, (some 7), .mv (.con (.int .i64 0)), none, []⟩])
 (.ret))))))))),
 [.cell 6 (some 6), .tmp 7]⟩
theorem p_trace_Unroll : prepFun Go.Proofs.Tryd.prog [0] Go.Proofs.Tryd.f21 = some v_trace_Unroll := by kernel_rfl

def v_trace_Loops : VFun :=
⟨.seq (.reg [⟨0, (some 1), .box (.tmp 0), none, []⟩,
 ⟨1, (some 2), .mv (.con (.slice none 0 0)), none, []⟩,
 ⟨2, (some 3), .mv (.con (.int .i64 0)), none, []⟩])
 (.seq (.seq (.reg [⟨0, (some 9), .load (some 6) (.tmp 1), none, []⟩,
 ⟨1, (some 10), .call 43 [(.tmp 9)], none, []⟩,
 ⟨2, (some 4), .mv (.tmp 10), none, []⟩])
 (.seq (.reg [⟨0, (some 11), .mv (.tmp 4), none, []⟩,
 ⟨1, (some 12), .bin .neq 27 true (.tmp 11) (.con (.int .i64 0)), none, []⟩])
 (.cond (.tmp 12)
 (.seq (.reg [⟨0, (some 13), .mv (.tmp 4), none, []⟩,
 ⟨1, (some 2), .mv (.con (.slice none 0 0)), none, []⟩,
 ⟨2, (some 3), .mv (.tmp 13), none, []⟩])
 (.ret))
 (.skip))))
 (.seq (.reg [⟨0, (some 5), .mv (.con (.slice none 0 0)), none, []⟩])
 (.seq (.seq (.reg [⟨0, (some 14), .fieldA 5 (.tmp 1), none, []⟩,
 ⟨1, (some 15), .load none (.tmp 14), none, []⟩,
 ⟨2, (some 16), .len (.tmp 15), none, []⟩,
 ⟨3, (some 17), .mv (.con (.int .i64 0)), none, []⟩])
 (.block 0
 (.loop
 (.seq (.reg [⟨0, (some 18), .bin .lss 3 false (.tmp 17) (.tmp 16), none, []⟩])
 (.seq (.cond (.tmp 18)
 (.skip)
 (.exit 0))
 (.seq (.block 1
 (.seq (.reg [⟨0, (some 19), .mv (.tmp 17), none, []⟩,
 ⟨1, (some 6), .mv (.tmp 19), none, []⟩])
 (.seq (.reg [⟨0, (some 21), .load (some 6) (.tmp 1), none, []⟩,
 ⟨1, (some 22), .mv (.tmp 6), none, []⟩,
 ⟨2, (some 23), .call 52 [(.tmp 21), (.tmp 22)], none, []⟩,
 ⟨3, (some 20), .mv (.tmp 23), none, []⟩,
 ⟨4, (some 24), .ext (.tmp 20) 0, none, []⟩,
 ⟨5, (some 25), .ext (.tmp 20) 1, none, []⟩,
 ⟨6, (some 7), .mv (.tmp 24), none, []⟩,
 ⟨7, (some 8), .mv (.tmp 25), none, []⟩])
 (.seq (.reg [⟨0, (some 26), .mv (.tmp 8), none, []⟩])
 (.cond (.tmp 26)
 (.reg [⟨0, (some 27), .mv (.tmp 5), none, []⟩,
 ⟨1, (some 28), .mv (.tmp 6), none, []⟩,
 ⟨2, (some 29), .bslice 1 1 [(.int .i64 0)] [(0, 1, (.tmp 28))], none, []⟩,
 ⟨3, (some 30), .append 1 8 (.tmp 27) (.tmp 29), none, []⟩,
 ⟨4, (some 5), .mv (.tmp 30), none, []⟩])
 (.skip))))))
 (.reg [⟨0, (some 31), .bin .add 3 true (.tmp 17) (.con (.int .i64 1)), none, []⟩,
 ⟨1, (some 17), .mv (.tmp 31), none, []⟩])))))))
 (.seq (.reg [⟨0, (some 32), .mv (.tmp 5), none, []⟩,
 ⟨1, (some 2), .mv (.tmp 32), none, []⟩,
 ⟨2, (some 3), .mv (.con (.int .i64 0)), none, []⟩])
 (.ret))))),
 [.tmp 2, .tmp 3]⟩
theorem p_trace_Loops : prepFun Go.Proofs.Tryd.prog [0] Go.Proofs.Tryd.f22 = some v_trace_Loops := by kernel_rfl

def v_r17_Unroll : VFun :=
⟨.seq (.reg [⟨0, (some 3), .box (.tmp 0), none, []⟩,
 ⟨1, (some 6), .alloc [(.slice none 0 0), (.int .i64 0), (.int .i64 0), (.int .i64 0), (.int .i64 0), (.slice none 0 0)], none, []⟩,
 ⟨2, (some 7), .mv (.con (.int .i64 0)), none, []⟩])
 (.seq (.reg [⟨0, (some 11), .load (some 6) (.tmp 3), none, []⟩,
 ⟨1, (some 12), .mv (.tmp 1), none, []⟩,
 ⟨2, (some 13), .call 53 [(.tmp 11), (.tmp 12)], none, []⟩,
 ⟨3, (some 8), .mv (.tmp 13), none, []⟩])
 (.seq (.seq (.reg [⟨0, (some 14), .mv (.tmp 8), none, []⟩,
 ⟨1, (some 15), .bin .lss 3 true (.tmp 14) (.con (.int .i64 0)), none, []⟩])
 (.cond (.tmp 15)
 (.seq (.reg [⟨0, (some 16), .build [(.slice none 0 0), (.int .i64 0), (.int .i64 0), (.int .i64 0), (.int .i64 0), (.slice none 0 0)] [], none, []⟩,
 ⟨1, none, .store 6 (.tmp 6) (.tmp 16), none, []⟩,
 ⟨2, (some 7), .mv (.con (.int .i64 5)), none, []⟩])
 (.ret))
 (.skip)))
 (.seq (.seq (.reg [⟨0, (some 17), .mv (.tmp 2), none, []⟩,
 ⟨1, (some 18), .bin .lss 3 true (.tmp 17) (.con (.int .i64 0)), none, []⟩,
 ⟨2, (some 19), .mv (.tmp 18), none, []⟩,
 ⟨3, (some 20), .mv (.tmp 2), (some (19, false)), []⟩,
 ⟨4, (some 21), .bin .gtr 3 true (.tmp 20) (.con (.int .i64 16)), (some (19, false)), []⟩,
 ⟨5, (some 22), .pick (.tmp 19) (.con (.bool true)) (.tmp 21), none, []⟩])
 (.cond (.tmp 22)
 (.seq (.reg [⟨0, (some 23), .build [(.slice none 0 0), (.int .i64 0), (.int .i64 0), (.int .i64 0), (.int .i64 0), (.slice none 0 0)] [], none, []⟩,
 ⟨1, none, .store 6 (.tmp 6) (.tmp 23), none, []⟩,
 ⟨2, (some 7), .mv (.con (.int .i64 2)), none, []⟩])
 (.ret))
 (.skip)))
 (.seq (.reg [⟨0, (some 24), .load (some 6) (.tmp 3), none, []⟩,
 ⟨1, (some 25), .call 54 [(.tmp 24)], none, []⟩,
 ⟨2, (some 9), .alloc [(.slice none 0 0), (.int .i64 0), (.int .i64 0), (.int .i64 0), (.int .i64 0), (.slice none 0 0)], none, []⟩,
 ⟨3, none, .store 6 (.tmp 9) (.tmp 25), none, []⟩])
 (.seq (.seq (.reg [⟨0, (some 10), .mv (.con (.int .i64 0)), none, []⟩])
 (.block 0
 (.loop
 (.seq (.seq (.reg [⟨0, (some 26), .mv (.tmp 10), none, []⟩,
 ⟨1, (some 27), .mv (.tmp 2), none, []⟩,
 ⟨2, (some 28), .bin .lss 3 false (.tmp 26) (.tmp 27), none, []⟩])
 (.cond (.tmp 28)
 (.skip)
 (.exit 0)))
 (.seq (.block 1
 (.reg [⟨0, (some 31), .load (some 6) (.tmp 9), none, []⟩,
 ⟨1, (some 32), .mv (.tmp 1), none, []⟩,
 ⟨2, (some 33), .mv (.tmp 8), none, []⟩,
 ⟨3, (some 34), .fieldA 5 (.tmp 3), none, []⟩,
 ⟨4, (some 35), .load none (.tmp 34), none, []⟩,
 ⟨5, (some 36), .mv (.tmp 1), none, []⟩,
 ⟨6, (some 37), .idxA none 6 (.tmp 35) (.tmp 36), none, []⟩,
 ⟨7, (some 38), .load (some 6) (.tmp 37), none, []⟩,
 ⟨8, (some 39), .call 46 [(.tmp 31), (.tmp 32), (.tmp 33), (.tmp 38)], none, []⟩,
 ⟨9, none, .store 6 (.tmp 9) (.tmp 39), none, []⟩]))
 (.reg [⟨0, (some 29), .mv (.tmp 10), none, []⟩,
 ⟨1, (some 30), .bin .add 3 true (.tmp 29) (.con (.int .i64 1)), none, []⟩,
 ⟨2, (some 10), .mv (.tmp 30), none, []⟩]))))))
 (.seq (.seq (.reg [⟨0, (some 40), .load (some 6) (.tmp 9), none, []⟩,
 ⟨1, (some 41), .call 24 [(.tmp 40)], none, []⟩,
 ⟨2, (some 42), .bin .neq 27 true (.tmp 41) (.con (.int .i64 0)), none, []⟩])
 (.cond (.tmp 42)
 (.seq (.reg [⟨0, (some 43), .build [(.slice none 0 0), (.int .i64 0), (.int .i64 0), (.int .i64 0), (.int .i64 0), (.slice none 0 0)] [], none, []⟩,
 ⟨1, none, .store 6 (.tmp 6) (.tmp 43), none, []⟩,
 ⟨2, (some 7), .mv (.con (.int .i64 11)), none, []⟩])
 (.ret))
 (.skip)))
 (.seq (.reg [⟨0, (some 44), .load (some 6) (.tmp 9), none, []⟩,
 ⟨1, none, .store 6 (.tmp 6) (.tmp 44), none, []⟩,
 ⟨2, (some 7), .mv (.con (.int .i64 0)), none, []⟩])
 (.ret)))))))),
 [.cell 6 (some 6), .tmp 7]⟩
theorem p_r17_Unroll : prepFun Go.Proofs.Tryd.prog [0] Go.Proofs.Tryd.f23 = some v_r17_Unroll := by kernel_rfl

def v_r07_Check : VFun :=
⟨.seq (.reg [⟨0, (some 1), .box (.tmp 0), none, []⟩,
 ⟨1, (some 2), .mv (.con (.int .i64 0)), none, []⟩])
 (.seq (.reg [⟨0, (some 7), .load (some 6) (.tmp 1), none, []⟩,
 ⟨1, (some 8), .call 55 [(.tmp 7)], none, []⟩,
 ⟨2, (some 6), .mv (.tmp 8), none, []⟩,
 ⟨3, (some 9), .ext (.tmp 6) 0, none, []⟩,
 ⟨4, (some 10), .ext (.tmp 6) 1, none, []⟩,
 ⟨5, (some 11), .ext (.tmp 6) 2, none, []⟩,
 ⟨6, (some 3), .mv (.tmp 9), none, []⟩,
 ⟨7, (some 4), .mv (.tmp 10), none, []⟩,
 ⟨8, (some 5), .mv (.tmp 11), none, []⟩])
 (.seq (.reg [⟨0, (some 12), .mv (.tmp 3), none, []⟩,
 ⟨1, (some 2), .mv (.tmp 12), none, []⟩])
 (.ret))),
 [.tmp 2]⟩
theorem p_r07_Check : prepFun Go.Proofs.Tryd.prog [0] Go.Proofs.Tryd.f24 = some v_r07_Check := by kernel_rfl

def v_r17_Loops : VFun :=
⟨.seq (.reg [⟨0, (some 1), .box (.tmp 0), none, []⟩,
 ⟨1, (some 2), .mv (.con (.slice none 0 0)), none, []⟩])
 (.seq (.reg [⟨0, (some 3), .mv (.con (.slice none 0 0)), none, []⟩])
 (.seq (.seq (.reg [⟨0, (some 4), .mv (.con (.int .i64 0)), none, []⟩])
 (.block 0
 (.loop
 (.seq (.seq (.reg [⟨0, (some 5), .mv (.tmp 4), none, []⟩,
 ⟨1, (some 6), .fieldA 5 (.tmp 1), none, []⟩,
 ⟨2, (some 7), .load none (.tmp 6), none, []⟩,
 ⟨3, (some 8), .len (.tmp 7), none, []⟩,
 ⟨4, (some 9), .bin .lss 3 false (.tmp 5) (.tmp 8), none, []⟩])
 (.cond (.tmp 9)
 (.skip)
 (.exit 0)))
 (.seq (.block 1
 (.seq (.reg [⟨0, (some 12), .load (some 6) (.tmp 1), none, []⟩,
 ⟨1, (some 13), .mv (.tmp 4), none, []⟩,
 ⟨2, (some 14), .call 53 [(.tmp 12), (.tmp 13)], none, []⟩,
 ⟨3, (some 15), .bin .geq 3 true (.tmp 14) (.con (.int .i64 0)), none, []⟩])
 (.cond (.tmp 15)
 (.reg [⟨0, (some 16), .mv (.tmp 3), none, []⟩,
 ⟨1, (some 17), .mv (.tmp 4), none, []⟩,
 ⟨2, (some 18), .bslice 1 1 [(.int .i64 0)] [(0, 1, (.tmp 17))], none, []⟩,
 ⟨3, (some 19), .append 1 8 (.tmp 16) (.tmp 18), none, []⟩,
 ⟨4, (some 3), .mv (.tmp 19), none, []⟩])
 (.skip))))
 (.reg [⟨0, (some 10), .mv (.tmp 4), none, []⟩,
 ⟨1, (some 11), .bin .add 3 true (.tmp 10) (.con (.int .i64 1)), none, []⟩,
 ⟨2, (some 4), .mv (.tmp 11), none, []⟩]))))))
 (.seq (.reg [⟨0, (some 20), .mv (.tmp 3), none, []⟩,
 ⟨1, (some 2), .mv (.tmp 20), none, []⟩])
 (.ret)))),
 [.tmp 2]⟩
theorem p_r17_Loops : prepFun Go.Proofs.Tryd.prog [0] Go.Proofs.Tryd.f25 = some v_r17_Loops := by kernel_rfl

def v_l17_ints : VFun :=
⟨.seq (.reg [⟨0, (some 4), .mv (.con (.bool false)), none, []⟩])
 (.seq (.seq (.reg [⟨0, (some 6), .mv (.tmp 0), none, []⟩,
 ⟨1, (some 7), .len (.tmp 6), none, []⟩,
 ⟨2, (some 8), .mv (.tmp 1), none, []⟩,
 ⟨3, (some 9), .len (.tmp 8), none, []⟩,
 ⟨4, (some 10), .bin .neq 3 false (.tmp 7) (.tmp 9), none, []⟩])
 (.cond (.tmp 10)
 (.seq (.reg [⟨0, (some 4), .mv (.con (.bool false)), none, []⟩])
 (.ret))
 (.skip)))
 (.seq (.seq (.reg [⟨0, (some 5), .mv (.con (.int .i64 0)), none, []⟩])
 (.block 0
 (.loop
 (.seq (.seq (.reg [⟨0, (some 11), .mv (.tmp 5), none, []⟩,
 ⟨1, (some 12), .mv (.tmp 0), none, []⟩,
 ⟨2, (some 13), .len (.tmp 12), none, []⟩,
 ⟨3, (some 14), .bin .lss 3 false (.tmp 11) (.tmp 13), none, []⟩])
 (.cond (.tmp 14)
 (.skip)
 (.exit 0)))
 (.seq (.block 1
 (.seq (.reg [⟨0, (some 17), .mv (.tmp 0), none, []⟩,
 ⟨1, (some 18), .mv (.tmp 5), none, []⟩,
 ⟨2, (some 19), .idxA none 1 (.tmp 17) (.tmp 18), none, []⟩,
 ⟨3, (some 20), .load none (.tmp 19), none, []⟩,
 ⟨4, (some 21), .mv (.tmp 1), none, []⟩,
 ⟨5, (some 22), .mv (.tmp 5), none, []⟩,
 ⟨6, (some 23), .idxA none 1 (.tmp 21) (.tmp 22), none, []⟩,
 ⟨7, (some 24), .load none (.tmp 23), none, []⟩,
 ⟨8, (some 25), .bin .neq 3 false (.tmp 20) (.tmp 24), none, []⟩])
 (.cond (.tmp 25)
 (.seq (.reg [⟨0, (some 4), .mv (.con (.bool false)), none, []⟩])
 (.ret))
 (.skip))))
 (.reg [⟨0, (some 15), .mv (.tmp 5), none, []⟩,
 ⟨1, (some 16), .bin .add 3 true (.tmp 15) (.con (.int .i64 1)), none, []⟩,
 ⟨2, (some 5), .mv (.tmp 16), none, []⟩]))))))
 (.seq (.reg [⟨0, (some 4), .mv (.con (.bool true)), none, []⟩])
 (.ret)))),
 [.tmp 4]⟩
theorem p_l17_ints : prepFun Go.Proofs.Tryd.prog [0] Go.Proofs.Tryd.f26 = some v_l17_ints := by kernel_rfl

def v_trace_Likely : VFun :=
⟨.seq (.reg [⟨0, (some 3), .box (.tmp 0), none, []⟩,
 ⟨1, (some 6), .mv (.con (.int .i64 0)), none, []⟩,
 ⟨2, (some 7), .mv (.con (.int .i64 0)), none, []⟩])
 (.seq (.seq (.reg [⟨0, (some 11), .load (some 6) (.tmp 3), none, []⟩,
 ⟨1, (some 12), .mv (.tmp 1), none, []⟩,
 ⟨2, (some 13), .mv (.tmp 2), none, []⟩,
 ⟨3, (some 14), .call 49 [(.tmp 11), (.tmp 12), (.tmp 13)], none, []⟩,
 ⟨4, (some 8), .mv (.tmp 14), none, []⟩])
 (.seq (.reg [⟨0, (some 15), .mv (.tmp 8), none, []⟩,
 ⟨1, (some 16), .bin .neq 27 true (.tmp 15) (.con (.int .i64 0)), none, []⟩])
 (.cond (.tmp 16)
 (.seq (.reg [⟨0, (some 17), .mv (.tmp 8), none, []⟩,
 ⟨1, (some 6), .mv (.con (.int .i64 0)), none, []⟩,
 ⟨2, (some 7), .mv (.tmp 17), none, []⟩])
 (.ret))
 (.skip))))
 (.seq (.reg [⟨0, (some 19), .load (some 6) (.tmp 3), none, []⟩,
 ⟨1, (some 20), .mv (.tmp 1), none, []⟩,
 ⟨2, (some 21), .mv (.tmp 2), none, []⟩,
 ⟨3, (some 22), .call 56 [(.tmp 19), (.tmp 20), (.tmp 21)], none, []⟩,
 ⟨4, (some 18), .mv (.tmp 22), none, []⟩,
 ⟨5, (some 23), .ext (.tmp 18) 0, none, []⟩,
 ⟨6, (some 24), .ext (.tmp 18) 1, none, []⟩,
 ⟨7, (some 9), .mv (.tmp 23), none, []⟩,
 ⟨8, (some 10), .mv (.tmp 24), none, []⟩])
 (.seq (.seq (.reg [⟨0, (some 25), .mv (.tmp 10), none, []⟩,
 ⟨1, (some 26), .un .not (.tmp 25), none, []⟩])
 (.cond (.tmp 26)
 (.seq (.reg [⟨0, (some 6), .mv (.con (.int .i64 0)), none, []⟩,
 ⟨1, (some 7), .mv (.con (.int .i64 5)), none, []⟩])
 (.ret))
 (.skip)))
 (.seq (.reg [⟨0, (some 27), .mv (.tmp 9), none, []⟩,
 ⟨1, (some 6), .mv (.tmp 27), none, []⟩,
 ⟨2, (some 7), .mv (.con (.int .i64 0)), none, []⟩])
 (.ret))))),
 [.tmp 6, .tmp 7]⟩
theorem p_trace_Likely : prepFun Go.Proofs.Tryd.prog [0] Go.Proofs.Tryd.f27 = some v_trace_Likely := by kernel_rfl

def v_trace_Trace : VFun :=
⟨.seq (.reg [⟨0, (some 3), .box (.tmp 0), none, []⟩,
 ⟨1, (some 6), .mv (.con (.slice none 0 0)), none, []⟩,
 ⟨2, (some 7), .mv (.con (.int .i64 0)), none, []⟩])
 (.seq (.seq (.reg [⟨0, (some 9), .load (some 6) (.tmp 3), none, []⟩,
 ⟨1, (some 10), .mv (.tmp 1), none, []⟩,
 ⟨2, (some 11), .mv (.tmp 2), none, []⟩,
 ⟨3, (some 12), .call 49 [(.tmp 9), (.tmp 10), (.tmp 11)], none, []⟩,
 ⟨4, (some 8), .mv (.tmp 12), none, []⟩])
 (.seq (.reg [⟨0, (some 13), .mv (.tmp 8), none, []⟩,
 ⟨1, (some 14), .bin .neq 27 true (.tmp 13) (.con (.int .i64 0)), none, []⟩])
 (.cond (.tmp 14)
 (.seq (.reg [⟨0, (some 15), .mv (.tmp 8), none, []⟩,
 ⟨1, (some 6), .mv (.con (.slice none 0 0)), none, []⟩,
 ⟨2, (some 7), .mv (.tmp 15), none, []⟩])
 (.ret))
 (.skip))))
 (.seq (.reg [⟨0, (some 16), .load (some 6) (.tmp 3), none, []⟩,
 ⟨1, (some 17), .mv (.tmp 1), none, []⟩,
 ⟨2, (some 18), .mv (.tmp 2), none, []⟩,
 ⟨3, (some 19), .call 57 [(.tmp 16), (.tmp 17), (.tmp 18)], none, []⟩,
 ⟨4, (some 6), .mv (.tmp 19), none, []⟩,
 ⟨5, (some 7), .mv (.con (.int .i64 0)), none, []⟩])
 (.ret))),
 [.tmp 6, .tmp 7]⟩
theorem p_trace_Trace : prepFun Go.Proofs.Tryd.prog [0] Go.Proofs.Tryd.f28 = some v_trace_Trace := by kernel_rfl

def v_r17_Likely : VFun :=
⟨.seq (.reg [⟨0, (some 3), .box (.tmp 0), none, []⟩,
 ⟨1, (some 6), .mv (.con (.int .i64 0)), none, []⟩])
 (.seq (.reg [⟨0, (some 8), .mv (.tmp 1), none, []⟩,
 ⟨1, (some 9), .mv (.tmp 2), none, []⟩,
 ⟨2, (some 10), .idxA none 3 (.tmp 8) (.tmp 9), none, []⟩,
 ⟨3, (some 11), .load (some 3) (.tmp 10), none, []⟩,
 ⟨4, (some 7), .alloc [(.int .i64 0), (.int .i64 0), (.int .i64 0)], none, []⟩,
 ⟨5, none, .store 3 (.tmp 7) (.tmp 11), none, []⟩])
 (.seq (.seq (.reg [⟨0, (some 12), .fieldA 5 (.tmp 3), none, []⟩,
 ⟨1, (some 13), .load none (.tmp 12), none, []⟩,
 ⟨2, (some 14), .mv (.tmp 2), none, []⟩,
 ⟨3, (some 15), .idxA none 6 (.tmp 13) (.tmp 14), none, []⟩,
 ⟨4, (some 16), .fieldA 1 (.tmp 15), none, []⟩,
 ⟨5, (some 17), .fieldA 0 (.tmp 16), none, []⟩,
 ⟨6, (some 18), .load none (.tmp 17), none, []⟩])
 (.block 0
 (.seq (.reg [⟨0, (some 20), .bin .eql 3 true (.tmp 18) (.con (.int .i64 1)), none, []⟩,
 ⟨1, (some 19), .mv (.tmp 20), none, []⟩])
 (.cond (.tmp 19)
 (.seq (.reg [⟨0, (some 21), .fieldA 1 (.tmp 7), none, []⟩,
 ⟨1, (some 22), .load none (.tmp 21), none, []⟩,
 ⟨2, (some 23), .bin .gtr 3 true (.tmp 22) (.con (.int .i64 0)), none, []⟩])
 (.cond (.tmp 23)
 (.seq (.reg [⟨0, (some 6), .mv (.con (.int .i64 0)), none, []⟩])
 (.ret))
 (.skip)))
 (.seq (.reg [⟨0, (some 25), .bin .eql 3 true (.tmp 18) (.con (.int .i64 2)), none, []⟩,
 ⟨1, (some 24), .mv (.tmp 25), none, []⟩])
 (.cond (.tmp 24)
 (.seq (.seq (.reg [⟨0, (some 26), .fieldA 1 (.tmp 7), none, []⟩,
 ⟨1, (some 27), .load none (.tmp 26), none, []⟩,
 ⟨2, (some 28), .fieldA 2 (.tmp 7), none, []⟩,
 ⟨3, (some 29), .load none (.tmp 28), none, []⟩,
 ⟨4, (some 30), .bin .geq 3 false (.tmp 27) (.tmp 29), none, []⟩,
 ⟨5, (some 31), .mv (.tmp 30), none, []⟩,
 ⟨6, (some 32), .fieldA 1 (.tmp 7), (some (31, true)), []⟩,
 ⟨7, (some 33), .load none (.tmp 32), (some (31, true)), []⟩,
 ⟨8, (some 34), .bin .gtr 3 true (.tmp 33) (.con (.int .i64 0)), (some (31, true)), []⟩,
 ⟨9, (some 35), .pick (.tmp 31) (.tmp 34) (.con (.bool false)), none, []⟩])
 (.cond (.tmp 35)
 (.seq (.reg [⟨0, (some 6), .mv (.con (.int .i64 1)), none, []⟩])
 (.ret))
 (.skip)))
 (.seq (.reg [⟨0, (some 36), .fieldA 2 (.tmp 7), none, []⟩,
 ⟨1, (some 37), .load none (.tmp 36), none, []⟩,
 ⟨2, (some 38), .fieldA 1 (.tmp 7), none, []⟩,
 ⟨3, (some 39), .load none (.tmp 38), none, []⟩,
 ⟨4, (some 40), .bin .gtr 3 false (.tmp 37) (.tmp 39), none, []⟩,
 ⟨5, (some 41), .mv (.tmp 40), none, []⟩,
 ⟨6, (some 42), .fieldA 2 (.tmp 7), (some (41, true)), []⟩,
 ⟨7, (some 43), .load none (.tmp 42), (some (41, true)), []⟩,
 ⟨8, (some 44), .bin .gtr 3 true (.tmp 43) (.con (.int .i64 0)), (some (41, true)), []⟩,
 ⟨9, (some 45), .pick (.tmp 41) (.tmp 44) (.con (.bool false)), none, []⟩])
 (.cond (.tmp 45)
 (.seq (.reg [⟨0, (some 6), .mv (.con (.int .i64 2)), none, []⟩])
 (.ret))
 (.skip))))
 (.skip)))))))
 (.seq (.reg [⟨0, (some 6), .mv (.con (.int .i64 (-1))), none, []⟩])
 (.ret)))),
 [.tmp 6]⟩
theorem p_r17_Likely : prepFun Go.Proofs.Tryd.prog [0] Go.Proofs.Tryd.f29 = some v_r17_Likely := by kernel_rfl

def v_r17_Trace : VFun :=
⟨.seq (.reg [⟨0, (some 3), .box (.tmp 0), none, []⟩,
 ⟨1, (some 6), .mv (.con (.slice none 0 0)), none, []⟩])
 (.seq (.reg [⟨0, (some 11), .mv (.tmp 2), none, []⟩,
 ⟨1, (some 12), .bslice 1 1 [(.int .i64 0)] [(0, 1, (.tmp 11))], none, []⟩,
 ⟨2, (some 7), .mv (.tmp 12), none, []⟩])
 (.block 0
 (.loop
 (.block 1
 (.seq (.reg [⟨0, (some 13), .mv (.tmp 7), none, []⟩,
 ⟨1, (some 14), .mv (.tmp 7), none, []⟩,
 ⟨2, (some 15), .len (.tmp 14), none, []⟩,
 ⟨3, (some 16), .bin .sub 3 true (.tmp 15) (.con (.int .i64 1)), none, []⟩,
 ⟨4, (some 17), .idxA none 1 (.tmp 13) (.tmp 16), none, []⟩,
 ⟨5, (some 18), .load none (.tmp 17), none, []⟩,
 ⟨6, (some 8), .mv (.tmp 18), none, []⟩])
 (.seq (.reg [⟨0, (some 20), .fieldA 5 (.tmp 3), none, []⟩,
 ⟨1, (some 21), .load none (.tmp 20), none, []⟩,
 ⟨2, (some 22), .mv (.tmp 8), none, []⟩,
 ⟨3, (some 23), .idxA none 6 (.tmp 21) (.tmp 22), none, []⟩,
 ⟨4, (some 24), .fieldA 1 (.tmp 23), none, []⟩,
 ⟨5, (some 25), .load (some 4) (.tmp 24), none, []⟩,
 ⟨6, (some 26), .load (some 6) (.tmp 3), none, []⟩,
 ⟨7, (some 27), .mv (.tmp 1), none, []⟩,
 ⟨8, (some 28), .mv (.tmp 8), none, []⟩,
 ⟨9, (some 29), .call 29 [(.tmp 26), (.tmp 27), (.tmp 28)], none, [(.tmp 20), (.tmp 24)]⟩,
 ⟨10, (some 30), .call 45 [(.tmp 25), (.tmp 29)], none, []⟩,
 ⟨11, (some 19), .mv (.tmp 30), none, []⟩,
 ⟨12, (some 31), .ext (.tmp 19) 0, none, []⟩,
 ⟨13, (some 32), .ext (.tmp 19) 1, none, []⟩,
 ⟨14, (some 9), .mv (.tmp 31), none, []⟩,
 ⟨15, (some 10), .mv (.tmp 32), none, []⟩])
 (.seq (.seq (.reg [⟨0, (some 33), .mv (.tmp 10), none, []⟩,
 ⟨1, (some 34), .un .not (.tmp 33), none, []⟩,
 ⟨2, (some 35), .mv (.tmp 34), none, []⟩,
 ⟨3, (some 36), .fieldA 5 (.tmp 3), (some (35, false)), []⟩,
 ⟨4, (some 37), .load none (.tmp 36), (some (35, false)), []⟩,
 ⟨5, (some 38), .mv (.tmp 9), (some (35, false)), []⟩,
 ⟨6, (some 39), .idxA none 6 (.tmp 37) (.tmp 38), (some (35, false)), []⟩,
 ⟨7, (some 40), .fieldA 5 (.tmp 39), (some (35, false)), []⟩,
 ⟨8, (some 41), .load none (.tmp 40), (some (35, false)), []⟩,
 ⟨9, (some 42), .fieldA 5 (.tmp 3), (some (35, false)), []⟩,
 ⟨10, (some 43), .load none (.tmp 42), (some (35, false)), []⟩,
 ⟨11, (some 44), .mv (.tmp 2), (some (35, false)), []⟩,
 ⟨12, (some 45), .idxA none 6 (.tmp 43) (.tmp 44), (some (35, false)), []⟩,
 ⟨13, (some 46), .fieldA 5 (.tmp 45), (some (35, false)), []⟩,
 ⟨14, (some 47), .load none (.tmp 46), (some (35, false)), []⟩,
 ⟨15, (some 48), .bin .neq 3 false (.tmp 41) (.tmp 47), (some (35, false)), []⟩,
 ⟨16, (some 49), .pick (.tmp 35) (.con (.bool true)) (.tmp 48), none, []⟩,
 ⟨17, (some 50), .mv (.tmp 49), none, []⟩,
 ⟨18, (some 51), .mv (.tmp 7), (some (50, false)), []⟩,
 ⟨19, (some 52), .mv (.tmp 9), (some (50, false)), []⟩,
 ⟨20, (some 53), .call 58 [(.tmp 51), (.tmp 52)], (some (50, false)), []⟩,
 ⟨21, (some 54), .pick (.tmp 50) (.con (.bool true)) (.tmp 53), none, []⟩])
 (.cond (.tmp 54)
 (.seq (.reg [⟨0, (some 55), .mv (.tmp 7), none, []⟩,
 ⟨1, (some 6), .mv (.tmp 55), none, []⟩])
 (.ret))
 (.skip)))
 (.reg [⟨0, (some 56), .mv (.tmp 7), none, []⟩,
 ⟨1, (some 57), .mv (.tmp 9), none, []⟩,
 ⟨2, (some 58), .bslice 1 1 [(.int .i64 0)] [(0, 1, (.tmp 57))], none, []⟩,
 ⟨3, (some 59), .append 1 8 (.tmp 56) (.tmp 58), none, []⟩,
 ⟨4, (some 7), .mv (.tmp 59), none, []⟩])))))))),
 [.tmp 6]⟩
theorem p_r17_Trace : prepFun Go.Proofs.Tryd.prog [0] Go.Proofs.Tryd.f30 = some v_r17_Trace := by kernel_rfl

end Go.VX.Seat
end
section
set_option maxRecDepth 20000
/-! MADE BY PROGRAM (lits.py): functions as they are prepared. -/
namespace Go.VX.Seat
def v_r07_Cut : VFun :=
⟨.seq (.reg [⟨0, (some 3), .box (.tmp 0), none, []⟩,
 ⟨1, (some 6), .alloc [(.slice none 0 0), (.int .i64 0), (.int .i64 0), (.int .i64 0), (.int .i64 0), (.slice none 0 0)], none, []⟩])
 (.seq (.reg [⟨0, (some 11), .load (some 6) (.tmp 3), none, []⟩,
 ⟨1, (some 7), .alloc [(.slice none 0 0), (.int .i64 0), (.int .i64 0), (.int .i64 0), (.int .i64 0), (.slice none 0 0)], none, []⟩,
 ⟨2, none, .store 6 (.tmp 7) (.tmp 11), none, []⟩])
 (.seq (.reg [⟨0, (some 12), .bslice 1 0 [(.int .i64 0)] [], none, []⟩,
 ⟨1, (some 13), .fieldA 0 (.tmp 3), none, []⟩,
 ⟨2, (some 14), .load none (.tmp 13), none, []⟩,
 ⟨3, (some 15), .fieldA 0 (.tmp 3), none, []⟩,
 ⟨4, (some 16), .load none (.tmp 15), none, []⟩,
 ⟨5, (some 17), .len (.tmp 16), none, []⟩,
 ⟨6, (some 18), .bi .min [3, 3] 3 [(.tmp 17), (.con (.int .i64 17))], none, []⟩,
 ⟨7, (some 19), .slice none 1 (.tmp 14) none (some (.tmp 18)) none, none, []⟩,
 ⟨8, (some 20), .append 1 8 (.tmp 12) (.tmp 19), none, []⟩,
 ⟨9, (some 21), .fieldA 0 (.tmp 7), none, []⟩,
 ⟨10, none, .store 1 (.tmp 21) (.tmp 20), none, []⟩])
 (.seq (.reg [⟨0, (some 22), .fieldA 5 (.tmp 7), none, []⟩,
 ⟨1, none, .store 1 (.tmp 22) (.con (.slice none 0 0)), none, []⟩])
 (.seq (.seq (.reg [⟨0, (some 8), .mv (.con (.int .i64 0)), none, []⟩])
 (.block 0
 (.loop
 (.seq (.seq (.reg [⟨0, (some 23), .mv (.tmp 8), none, []⟩,
 ⟨1, (some 24), .fieldA 5 (.tmp 3), none, []⟩,
 ⟨2, (some 25), .load none (.tmp 24), none, []⟩,
 ⟨3, (some 26), .len (.tmp 25), none, []⟩,
 ⟨4, (some 27), .bin .lss 3 false (.tmp 23) (.tmp 26), none, []⟩,
 ⟨5, (some 28), .mv (.tmp 27), none, []⟩,
 ⟨6, (some 29), .mv (.tmp 8), (some (28, true)), []⟩,
 ⟨7, (some 30), .mv (.tmp 1), (some (28, true)), []⟩,
 ⟨8, (some 31), .bin .lss 3 false (.tmp 29) (.tmp 30), (some (28, true)), []⟩,
 ⟨9, (some 32), .pick (.tmp 28) (.tmp 31) (.con (.bool false)), none, []⟩])
 (.cond (.tmp 32)
 (.skip)
 (.exit 0)))
 (.seq (.block 1
 (.seq (.reg [⟨0, (some 35), .fieldA 5 (.tmp 3), none, []⟩,
 ⟨1, (some 36), .load none (.tmp 35), none, []⟩,
 ⟨2, (some 37), .mv (.tmp 8), none, []⟩,
 ⟨3, (some 38), .idxA none 6 (.tmp 36) (.tmp 37), none, []⟩,
 ⟨4, (some 39), .load (some 6) (.tmp 38), none, []⟩,
 ⟨5, (some 9), .alloc [(.slice none 0 0), (.int .i64 0), (.int .i64 0), (.int .i64 0), (.int .i64 0), (.int .i64 0)], none, []⟩,
 ⟨6, none, .store 6 (.tmp 9) (.tmp 39), none, []⟩])
 (.seq (.reg [⟨0, (some 40), .bslice 7 0 [(.int .i64 0), (.int .i64 0), (.int .i64 0), (.int .i64 0), (.int .i64 0), (.int .i64 0), (.int .i64 0)] [], none, []⟩,
 ⟨1, (some 41), .fieldA 5 (.tmp 3), none, []⟩,
 ⟨2, (some 42), .load none (.tmp 41), none, []⟩,
 ⟨3, (some 43), .mv (.tmp 8), none, []⟩,
 ⟨4, (some 44), .idxA none 6 (.tmp 42) (.tmp 43), none, []⟩,
 ⟨5, (some 45), .fieldA 0 (.tmp 44), none, []⟩,
 ⟨6, (some 46), .load none (.tmp 45), none, []⟩,
 ⟨7, (some 47), .fieldA 5 (.tmp 3), none, []⟩,
 ⟨8, (some 48), .load none (.tmp 47), none, []⟩,
 ⟨9, (some 49), .mv (.tmp 8), none, []⟩,
 ⟨10, (some 50), .idxA none 6 (.tmp 48) (.tmp 49), none, []⟩,
 ⟨11, (some 51), .fieldA 0 (.tmp 50), none, []⟩,
 ⟨12, (some 52), .load none (.tmp 51), none, []⟩,
 ⟨13, (some 53), .len (.tmp 52), none, []⟩,
 ⟨14, (some 54), .mv (.tmp 2), none, []⟩,
 ⟨15, (some 55), .bi .max [3, 3] 3 [(.tmp 54), (.con (.int .i64 0))], none, []⟩,
 ⟨16, (some 56), .bi .min [3, 3] 3 [(.tmp 53), (.tmp 55)], none, []⟩,
 ⟨17, (some 57), .slice none 7 (.tmp 46) none (some (.tmp 56)) none, none, []⟩,
 ⟨18, (some 58), .append 7 56 (.tmp 40) (.tmp 57), none, []⟩,
 ⟨19, (some 59), .fieldA 0 (.tmp 9), none, []⟩,
 ⟨20, none, .store 1 (.tmp 59) (.tmp 58), none, []⟩])
 (.seq (.reg [⟨0, (some 60), .mv (.tmp 2), none, []⟩,
 ⟨1, (some 61), .fieldA 0 (.tmp 9), none, []⟩,
 ⟨2, (some 62), .load none (.tmp 61), none, []⟩,
 ⟨3, (some 63), .len (.tmp 62), none, []⟩,
 ⟨4, (some 64), .bin .sub 3 false (.tmp 60) (.tmp 63), none, []⟩,
 ⟨5, (some 2), .mv (.tmp 64), none, []⟩])
 (.seq (.reg [⟨0, (some 65), .fieldA 5 (.tmp 7), none, []⟩,
 ⟨1, (some 66), .load none (.tmp 65), none, []⟩,
 ⟨2, (some 10), .mv (.tmp 66), none, []⟩])
 (.reg [⟨0, (some 67), .mv (.tmp 10), none, []⟩,
 ⟨1, (some 68), .load (some 6) (.tmp 9), none, []⟩,
 ⟨2, (some 69), .bslice 6 1 [(.slice none 0 0), (.int .i64 0), (.int .i64 0), (.int .i64 0), (.int .i64 0), (.int .i64 0)] [(0, 6, (.tmp 68))], none, []⟩,
 ⟨3, (some 70), .append 6 64 (.tmp 67) (.tmp 69), none, []⟩,
 ⟨4, (some 71), .fieldA 5 (.tmp 7), none, []⟩,
 ⟨5, none, .store 1 (.tmp 71) (.tmp 70), none, []⟩]))))))
 (.reg [⟨0, (some 33), .mv (.tmp 8), none, []⟩,
 ⟨1, (some 34), .bin .add 3 true (.tmp 33) (.con (.int .i64 1)), none, []⟩,
 ⟨2, (some 8), .mv (.tmp 34), none, []⟩]))))))
 (.seq (.reg [⟨0, (some 72), .load (some 6) (.tmp 7), none, []⟩,
 ⟨1, none, .store 6 (.tmp 6) (.tmp 72), none, []⟩])
 (.ret)))))),
 [.cell 6 (some 6)]⟩
theorem p_r07_Cut : prepFun Go.Proofs.Tryd.prog [0] Go.Proofs.Tryd.f38 = some v_r07_Cut := by kernel_rfl

def v_trace_look : VFun :=
⟨.seq (.reg [⟨0, (some 2), .box (.tmp 0), none, []⟩,
 ⟨1, (some 4), .mv (.con (.int .i64 0)), none, []⟩])
 (.seq (.seq (.reg [⟨0, (some 6), .load (some 6) (.tmp 2), none, []⟩,
 ⟨1, (some 7), .call 43 [(.tmp 6)], none, []⟩,
 ⟨2, (some 5), .mv (.tmp 7), none, []⟩])
 (.seq (.reg [⟨0, (some 8), .mv (.tmp 5), none, []⟩,
 ⟨1, (some 9), .bin .neq 27 true (.tmp 8) (.con (.int .i64 0)), none, []⟩])
 (.cond (.tmp 9)
 (.seq (.reg [⟨0, (some 10), .mv (.tmp 5), none, []⟩,
 ⟨1, (some 4), .mv (.tmp 10), none, []⟩])
 (.ret))
 (.skip))))
 (.seq (.seq (.reg [⟨0, (some 11), .mv (.tmp 1), none, []⟩,
 ⟨1, (some 12), .bin .lss 3 true (.tmp 11) (.con (.int .i64 0)), none, []⟩,
 ⟨2, (some 13), .mv (.tmp 12), none, []⟩,
 ⟨3, (some 14), .mv (.tmp 1), (some (13, false)), []⟩,
 ⟨4, (some 15), .fieldA 5 (.tmp 2), (some (13, false)), []⟩,
 ⟨5, (some 16), .load none (.tmp 15), (some (13, false)), []⟩,
 ⟨6, (some 17), .len (.tmp 16), (some (13, false)), []⟩,
 ⟨7, (some 18), .bin .geq 3 false (.tmp 14) (.tmp 17), (some (13, false)), []⟩,
 ⟨8, (some 19), .pick (.tmp 13) (.con (.bool true)) (.tmp 18), none, []⟩])
 (.cond (.tmp 19)
 (.seq (.reg [⟨0, (some 4), .mv (.con (.int .i64 2)), none, []⟩])
 (.ret))
 (.skip)))
 (.seq (.reg [⟨0, (some 4), .mv (.con (.int .i64 0)), none, []⟩])
 (.ret)))),
 [.tmp 4]⟩
theorem p_trace_look : prepFun Go.Proofs.Tryd.prog [0] Go.Proofs.Tryd.f39 = some v_trace_look := by kernel_rfl

def v_trace_next : VFun :=
⟨.seq (.reg [⟨0, (some 3), .box (.tmp 0), none, []⟩,
 ⟨1, (some 6), .mv (.con (.int .i64 0)), none, []⟩,
 ⟨2, (some 7), .mv (.con (.bool false)), none, []⟩])
 (.seq (.reg [⟨0, (some 11), .fieldA 5 (.tmp 3), none, []⟩,
 ⟨1, (some 12), .load none (.tmp 11), none, []⟩,
 ⟨2, (some 13), .mv (.tmp 1), none, []⟩,
 ⟨3, (some 14), .idxA none 6 (.tmp 12) (.tmp 13), none, []⟩,
 ⟨4, (some 15), .load (some 6) (.tmp 14), none, []⟩,
 ⟨5, (some 8), .alloc [(.slice none 0 0), (.int .i64 0), (.int .i64 0), (.int .i64 0), (.int .i64 0), (.int .i64 0)], none, []⟩,
 ⟨6, none, .store 6 (.tmp 8) (.tmp 15), none, []⟩])
 (.seq (.reg [⟨0, (some 16), .fieldA 1 (.tmp 8), none, []⟩,
 ⟨1, (some 17), .fieldA 2 (.tmp 16), none, []⟩,
 ⟨2, (some 18), .load none (.tmp 17), none, []⟩,
 ⟨3, (some 9), .mv (.tmp 18), none, []⟩])
 (.seq (.seq (.reg [⟨0, (some 19), .mv (.tmp 2), none, []⟩,
 ⟨1, (some 20), .bin .eql 3 true (.tmp 19) (.con (.int .i64 2)), none, []⟩])
 (.cond (.tmp 20)
 (.reg [⟨0, (some 21), .fieldA 1 (.tmp 8), none, []⟩,
 ⟨1, (some 22), .fieldA 3 (.tmp 21), none, []⟩,
 ⟨2, (some 23), .load none (.tmp 22), none, []⟩,
 ⟨3, (some 9), .mv (.tmp 23), none, []⟩])
 (.skip)))
 (.seq (.reg [⟨0, (some 10), .mv (.con (.int .i64 2)), none, []⟩])
 (.seq (.seq (.reg [⟨0, (some 24), .mv (.tmp 2), none, []⟩,
 ⟨1, (some 25), .bin .eql 3 true (.tmp 24) (.con (.int .i64 0)), none, []⟩])
 (.cond (.tmp 25)
 (.reg [⟨0, (some 10), .mv (.con (.int .i64 1)), none, []⟩])
 (.skip)))
 (.seq (.seq (.reg [⟨0, (some 26), .fieldA 1 (.tmp 8), none, []⟩,
 ⟨1, (some 27), .fieldA 0 (.tmp 26), none, []⟩,
 ⟨2, (some 28), .load none (.tmp 27), none, []⟩,
 ⟨3, (some 29), .mv (.tmp 10), none, []⟩,
 ⟨4, (some 30), .bin .neq 3 false (.tmp 28) (.tmp 29), none, []⟩])
 (.cond (.tmp 30)
 (.seq (.reg [⟨0, (some 6), .mv (.con (.int .i64 0)), none, []⟩,
 ⟨1, (some 7), .mv (.con (.bool false)), none, []⟩])
 (.ret))
 (.skip)))
 (.seq (.reg [⟨0, (some 31), .mv (.tmp 9), none, []⟩,
 ⟨1, (some 32), .fieldA 5 (.tmp 3), none, []⟩,
 ⟨2, (some 33), .load none (.tmp 32), none, []⟩,
 ⟨3, (some 34), .mv (.tmp 9), none, []⟩,
 ⟨4, (some 35), .idxA none 6 (.tmp 33) (.tmp 34), none, []⟩,
 ⟨5, (some 36), .fieldA 5 (.tmp 35), none, []⟩,
 ⟨6, (some 37), .load none (.tmp 36), none, []⟩,
 ⟨7, (some 38), .fieldA 5 (.tmp 8), none, []⟩,
 ⟨8, (some 39), .load none (.tmp 38), none, []⟩,
 ⟨9, (some 40), .bin .eql 3 false (.tmp 37) (.tmp 39), none, []⟩,
 ⟨10, (some 6), .mv (.tmp 31), none, [(.tmp 32), (.tmp 36), (.tmp 38)]⟩,
 ⟨11, (some 7), .mv (.tmp 40), none, []⟩])
 (.ret)))))))),
 [.tmp 6, .tmp 7]⟩
theorem p_trace_next : prepFun Go.Proofs.Tryd.prog [0] Go.Proofs.Tryd.f40 = some v_trace_next := by kernel_rfl

def v_code_Copy : VFun :=
⟨.seq (.reg [⟨0, (some 1), .box (.tmp 0), none, []⟩,
 ⟨1, (some 2), .alloc [(.slice none 0 0), (.int .i64 0), (.int .i64 0), (.int .i64 0), (.int .i64 0), (.slice none 0 0)], none, []⟩])
 (.seq (.reg [⟨0, (some 4), .fieldA 0 (.tmp 1), none, []⟩,
 ⟨1, (some 5), .load none (.tmp 4), none, []⟩,
 ⟨3, (some 7), .fieldA 5 (.tmp 1), none, []⟩,
 ⟨4, (some 8), .load none (.tmp 7), none, []⟩,
 ⟨2, (some 6), .call 65 [(.tmp 5)], none, [(.tmp 7)]⟩,
 ⟨6, (some 10), .fieldA 0 (.tmp 1), none, []⟩,
 ⟨5, (some 9), .call 66 [(.tmp 8)], none, []⟩,
 ⟨7, none, .store 1 (.tmp 10) (.tmp 6), none, []⟩,
 ⟨8, (some 11), .fieldA 5 (.tmp 1), none, []⟩,
 ⟨9, none, .store 1 (.tmp 11) (.tmp 9), none, []⟩])
 (.seq (.seq (.reg [⟨0, (some 12), .fieldA 5 (.tmp 1), none, []⟩,
 ⟨1, (some 13), .load none (.tmp 12), none, []⟩,
 ⟨2, (some 14), .len (.tmp 13), none, []⟩,
 ⟨3, (some 15), .mv (.con (.int .i64 0)), none, []⟩])
 (.block 0
 (.loop
 (.seq (.reg [⟨0, (some 16), .bin .lss 3 false (.tmp 15) (.tmp 14), none, []⟩])
 (.seq (.cond (.tmp 16)
 (.skip)
 (.exit 0))
 (.seq (.block 1
 (.seq (.reg [⟨0, (some 17), .mv (.tmp 15), none, []⟩,
 ⟨1, (some 3), .mv (.tmp 17), none, []⟩])
 (.reg [⟨0, (some 18), .fieldA 5 (.tmp 1), none, []⟩,
 ⟨1, (some 19), .load none (.tmp 18), none, []⟩,
 ⟨2, (some 20), .mv (.tmp 3), none, []⟩,
 ⟨3, (some 21), .fieldA 5 (.tmp 1), none, []⟩,
 ⟨4, (some 22), .load none (.tmp 21), none, []⟩,
 ⟨5, (some 23), .mv (.tmp 3), none, []⟩,
 ⟨6, (some 24), .idxA none 6 (.tmp 22) (.tmp 23), none, []⟩,
 ⟨7, (some 25), .fieldA 0 (.tmp 24), none, []⟩,
 ⟨8, (some 26), .load none (.tmp 25), none, []⟩,
 ⟨9, (some 27), .call 67 [(.tmp 26)], none, [(.tmp 18)]⟩,
 ⟨10, (some 28), .idxA none 6 (.tmp 19) (.tmp 20), none, []⟩,
 ⟨11, (some 29), .fieldA 0 (.tmp 28), none, []⟩,
 ⟨12, none, .store 1 (.tmp 29) (.tmp 27), none, []⟩])))
 (.reg [⟨0, (some 30), .bin .add 3 true (.tmp 15) (.con (.int .i64 1)), none, []⟩,
 ⟨1, (some 15), .mv (.tmp 30), none, []⟩])))))))
 (.seq (.reg [⟨0, (some 31), .load (some 6) (.tmp 1), none, []⟩,
 ⟨1, none, .store 6 (.tmp 2) (.tmp 31), none, []⟩])
 (.ret)))),
 [.cell 2 (some 6)]⟩
theorem p_code_Copy : prepFun Go.Proofs.Tryd.prog [0] Go.Proofs.Tryd.f41 = some v_code_Copy := by kernel_rfl

def v_trace_extend : VFun :=
⟨.seq (.reg [⟨0, (some 7), .box (.tmp 3), none, []⟩])
 (.seq (.reg [⟨0, (some 11), .mv (.tmp 0), none, []⟩,
 ⟨1, (some 12), .nilck (.tmp 11), none, []⟩,
 ⟨2, (some 13), .fieldA 5 (.tmp 12), none, []⟩,
 ⟨3, (some 14), .load none (.tmp 13), none, []⟩,
 ⟨4, (some 15), .mv (.tmp 1), none, []⟩,
 ⟨5, (some 16), .idxA none 6 (.tmp 14) (.tmp 15), none, []⟩,
 ⟨6, (some 8), .mv (.tmp 16), none, []⟩])
 (.seq (.seq (.reg [⟨0, (some 17), .mv (.tmp 2), none, []⟩])
 (.block 0
 (.seq (.reg [⟨0, (some 19), .bin .eql 3 true (.tmp 17) (.con (.int .i64 1)), none, []⟩,
 ⟨1, (some 18), .mv (.tmp 19), none, []⟩])
 (.cond (.tmp 18)
 (.seq (.reg [⟨0, (some 20), .mv (.tmp 0), none, []⟩,
 ⟨1, (some 21), .nilck (.tmp 20), none, []⟩,
 ⟨2, (some 22), .fieldA 2 (.tmp 21), none, []⟩,
 ⟨3, (some 23), .load none (.tmp 22), none, []⟩,
 ⟨4, (some 24), .mv (.tmp 0), none, []⟩,
 ⟨5, (some 25), .nilck (.tmp 24), none, []⟩,
 ⟨6, (some 26), .fieldA 2 (.tmp 25), none, []⟩,
 ⟨7, (some 27), .load none (.tmp 26), none, []⟩,
 ⟨8, (some 28), .bin .add 3 true (.tmp 27) (.con (.int .i64 1)), none, []⟩,
 ⟨9, (some 9), .mv (.tmp 23), none, [(.tmp 26)]⟩,
 ⟨10, (some 10), .mv (.tmp 28), none, []⟩])
 (.seq (.reg [⟨0, (some 29), .mv (.tmp 0), none, []⟩,
 ⟨1, (some 30), .nilck (.tmp 29), none, []⟩,
 ⟨2, (some 31), .fieldA 2 (.tmp 30), none, []⟩,
 ⟨3, (some 32), .load none (.tmp 31), none, []⟩,
 ⟨4, (some 33), .bin .add 3 true (.tmp 32) (.con (.int .i64 2)), none, []⟩,
 ⟨5, (some 34), .nilck (.tmp 29), none, []⟩,
 ⟨6, (some 35), .fieldA 2 (.tmp 34), none, []⟩,
 ⟨7, none, .store 1 (.tmp 35) (.tmp 33), none, []⟩])
 (.reg [⟨0, (some 36), .mv (.tmp 8), none, []⟩,
 ⟨1, (some 37), .mv (.tmp 8), none, []⟩,
 ⟨2, (some 38), .nilck (.tmp 37), none, []⟩,
 ⟨3, (some 39), .fieldA 0 (.tmp 38), none, []⟩,
 ⟨4, (some 40), .load none (.tmp 39), none, []⟩,
 ⟨5, (some 41), .mv (.tmp 9), none, []⟩,
 ⟨6, (some 42), .build [(.int .i64 0), (.int .i64 0), (.int .i64 0), (.int .i64 0), (.int .i64 0), (.int .i64 0), (.int .i64 0)] [(0, 1, (.con (.int .i64 1))), (1, 1, (.tmp 41)), (6, 1, (.con (.int .i64 (-1))))], none, []⟩,
 ⟨7, (some 43), .mv (.tmp 10), none, []⟩,
 ⟨8, (some 44), .mv (.tmp 8), none, []⟩,
 ⟨9, (some 45), .nilck (.tmp 44), none, []⟩,
 ⟨10, (some 46), .fieldA 1 (.tmp 45), none, []⟩,
 ⟨11, (some 47), .fieldA 1 (.tmp 46), none, []⟩,
 ⟨12, (some 48), .load none (.tmp 47), none, []⟩,
 ⟨13, (some 49), .mv (.tmp 9), none, []⟩,
 ⟨14, (some 50), .build [(.int .i64 0), (.int .i64 0), (.int .i64 0), (.int .i64 0), (.int .i64 0), (.int .i64 0), (.int .i64 0)] [(0, 1, (.con (.int .i64 11))), (1, 1, (.tmp 43)), (2, 1, (.tmp 48)), (3, 1, (.tmp 49)), (6, 1, (.con (.int .i64 (-1))))], none, []⟩,
 ⟨15, (some 51), .mv (.tmp 10), none, []⟩,
 ⟨16, (some 52), .mv (.tmp 8), none, []⟩,
 ⟨17, (some 53), .nilck (.tmp 52), none, []⟩,
 ⟨18, (some 54), .fieldA 1 (.tmp 53), none, []⟩,
 ⟨19, (some 55), .fieldA 3 (.tmp 54), none, []⟩,
 ⟨20, (some 56), .load none (.tmp 55), none, []⟩,
 ⟨21, (some 57), .build [(.int .i64 0), (.int .i64 0), (.int .i64 0), (.int .i64 0), (.int .i64 0), (.int .i64 0), (.int .i64 0)] [(0, 1, (.con (.int .i64 21))), (2, 1, (.tmp 51)), (5, 1, (.tmp 56)), (6, 1, (.con (.int .i64 (-1))))], none, []⟩,
 ⟨22, (some 58), .bslice 7 3 [(.int .i64 0), (.int .i64 0), (.int .i64 0), (.int .i64 0), (.int .i64 0), (.int .i64 0), (.int .i64 0)] [(0, 7, (.tmp 42)), (7, 7, (.tmp 50)), (14, 7, (.tmp 57))], none, []⟩,
 ⟨23, (some 59), .append 7 56 (.tmp 40) (.tmp 58), none, []⟩,
 ⟨24, (some 60), .nilck (.tmp 36), none, []⟩,
 ⟨25, (some 61), .fieldA 0 (.tmp 60), none, []⟩,
 ⟨26, none, .store 1 (.tmp 61) (.tmp 59), none, []⟩])))
 (.seq (.reg [⟨0, (some 63), .bin .eql 3 true (.tmp 17) (.con (.int .i64 2)), none, []⟩,
 ⟨1, (some 62), .mv (.tmp 63), none, []⟩])
 (.cond (.tmp 62)
 (.reg [⟨0, (some 64), .mv (.tmp 8), none, []⟩,
 ⟨1, (some 65), .mv (.tmp 8), none, []⟩,
 ⟨2, (some 66), .nilck (.tmp 65), none, []⟩,
 ⟨3, (some 67), .fieldA 0 (.tmp 66), none, []⟩,
 ⟨4, (some 68), .load none (.tmp 67), none, []⟩,
 ⟨5, (some 69), .mv (.tmp 8), none, []⟩,
 ⟨6, (some 70), .nilck (.tmp 69), none, []⟩,
 ⟨7, (some 71), .fieldA 1 (.tmp 70), none, []⟩,
 ⟨8, (some 72), .fieldA 1 (.tmp 71), none, []⟩,
 ⟨9, (some 73), .load none (.tmp 72), none, []⟩,
 ⟨10, (some 74), .mv (.tmp 8), none, []⟩,
 ⟨11, (some 75), .nilck (.tmp 74), none, []⟩,
 ⟨12, (some 76), .fieldA 1 (.tmp 75), none, []⟩,
 ⟨13, (some 77), .fieldA 2 (.tmp 76), none, []⟩,
 ⟨14, (some 78), .load none (.tmp 77), none, []⟩,
 ⟨15, (some 79), .build [(.int .i64 0), (.int .i64 0), (.int .i64 0), (.int .i64 0), (.int .i64 0), (.int .i64 0), (.int .i64 0)] [(0, 1, (.con (.int .i64 21))), (2, 1, (.tmp 73)), (5, 1, (.tmp 78)), (6, 1, (.con (.int .i64 (-1))))], none, []⟩,
 ⟨16, (some 80), .bslice 7 1 [(.int .i64 0), (.int .i64 0), (.int .i64 0), (.int .i64 0), (.int .i64 0), (.int .i64 0), (.int .i64 0)] [(0, 7, (.tmp 79))], none, []⟩,
 ⟨17, (some 81), .append 7 56 (.tmp 68) (.tmp 80), none, []⟩,
 ⟨18, (some 82), .nilck (.tmp 64), none, []⟩,
 ⟨19, (some 83), .fieldA 0 (.tmp 82), none, []⟩,
 ⟨20, none, .store 1 (.tmp 83) (.tmp 81), none, []⟩])
 (.skip)))))))
 (.seq (.reg [⟨0, (some 84), .mv (.tmp 8), none, []⟩,
 ⟨1, (some 85), .mv (.tmp 8), none, []⟩,
 ⟨2, (some 86), .nilck (.tmp 85), none, []⟩,
 ⟨3, (some 87), .fieldA 0 (.tmp 86), none, []⟩,
 ⟨4, (some 88), .load none (.tmp 87), none, []⟩,
 ⟨5, (some 89), .fieldA 0 (.tmp 7), none, []⟩,
 ⟨6, (some 90), .load none (.tmp 89), none, []⟩,
 ⟨7, (some 91), .append 7 56 (.tmp 88) (.tmp 90), none, []⟩,
 ⟨8, (some 92), .nilck (.tmp 84), none, []⟩,
 ⟨9, (some 93), .fieldA 0 (.tmp 92), none, []⟩,
 ⟨10, none, .store 1 (.tmp 93) (.tmp 91), none, []⟩])
 (.reg [⟨0, (some 94), .mv (.tmp 8), none, []⟩,
 ⟨1, (some 95), .fieldA 1 (.tmp 7), none, []⟩,
 ⟨2, (some 96), .load (some 4) (.tmp 95), none, []⟩,
 ⟨3, (some 97), .nilck (.tmp 94), none, []⟩,
 ⟨4, (some 98), .fieldA 1 (.tmp 97), none, []⟩,
 ⟨5, none, .store 4 (.tmp 98) (.tmp 96), none, []⟩])))),
 []⟩
theorem p_trace_extend : prepFun Go.Proofs.Tryd.prog [0] Go.Proofs.Tryd.f42 = some v_trace_extend := by kernel_rfl

def v_code_Check : VFun :=
⟨.seq (.reg [⟨0, (some 1), .box (.tmp 0), none, []⟩,
 ⟨1, (some 2), .mv (.con (.int .i64 0)), none, []⟩])
 (.seq (.reg [⟨0, (some 3), .load (some 6) (.tmp 1), none, []⟩,
 ⟨1, (some 4), .call 68 [(.tmp 3)], none, []⟩,
 ⟨2, (some 5), .field 2 none (.tmp 4), none, []⟩,
 ⟨3, (some 2), .mv (.tmp 5), none, []⟩])
 (.ret)),
 [.tmp 2]⟩
theorem p_code_Check : prepFun Go.Proofs.Tryd.prog [0] Go.Proofs.Tryd.f43 = some v_code_Check := by kernel_rfl

def v_r17_Can : VFun :=
⟨.seq (.reg [⟨0, (some 3), .box (.tmp 0), none, []⟩,
 ⟨1, (some 6), .mv (.con (.bool false)), none, []⟩])
 (.seq (.reg [⟨0, (some 10), .fieldA 5 (.tmp 3), none, []⟩,
 ⟨1, (some 11), .load none (.tmp 10), none, []⟩,
 ⟨2, (some 12), .mv (.tmp 1), none, []⟩,
 ⟨3, (some 13), .idxA none 6 (.tmp 11) (.tmp 12), none, []⟩,
 ⟨4, (some 14), .fieldA 1 (.tmp 13), none, []⟩,
 ⟨5, (some 15), .load (some 4) (.tmp 14), none, []⟩,
 ⟨6, (some 16), .mv (.tmp 2), none, []⟩,
 ⟨7, (some 17), .call 45 [(.tmp 15), (.tmp 16)], none, []⟩,
 ⟨8, (some 9), .mv (.tmp 17), none, []⟩,
 ⟨9, (some 18), .ext (.tmp 9) 0, none, []⟩,
 ⟨10, (some 19), .ext (.tmp 9) 1, none, []⟩,
 ⟨11, (some 7), .mv (.tmp 18), none, []⟩,
 ⟨12, (some 8), .mv (.tmp 19), none, []⟩])
 (.seq (.reg [⟨0, (some 20), .mv (.tmp 8), none, []⟩,
 ⟨1, (some 21), .mv (.tmp 20), none, []⟩,
 ⟨2, (some 22), .fieldA 5 (.tmp 3), (some (21, true)), []⟩,
 ⟨3, (some 23), .load none (.tmp 22), (some (21, true)), []⟩,
 ⟨4, (some 24), .mv (.tmp 7), (some (21, true)), []⟩,
 ⟨5, (some 25), .idxA none 6 (.tmp 23) (.tmp 24), (some (21, true)), []⟩,
 ⟨6, (some 26), .fieldA 5 (.tmp 25), (some (21, true)), []⟩,
 ⟨7, (some 27), .load none (.tmp 26), (some (21, true)), []⟩,
 ⟨8, (some 28), .fieldA 5 (.tmp 3), (some (21, true)), []⟩,
 ⟨9, (some 29), .load none (.tmp 28), (some (21, true)), []⟩,
 ⟨10, (some 30), .mv (.tmp 1), (some (21, true)), []⟩,
 ⟨11, (some 31), .idxA none 6 (.tmp 29) (.tmp 30), (some (21, true)), []⟩,
 ⟨12, (some 32), .fieldA 5 (.tmp 31), (some (21, true)), []⟩,
 ⟨13, (some 33), .load none (.tmp 32), (some (21, true)), []⟩,
 ⟨14, (some 34), .bin .eql 3 false (.tmp 27) (.tmp 33), (some (21, true)), []⟩,
 ⟨15, (some 35), .pick (.tmp 21) (.tmp 34) (.con (.bool false)), none, []⟩,
 ⟨16, (some 6), .mv (.tmp 35), none, []⟩])
 (.ret))),
 [.tmp 6]⟩
theorem p_r17_Can : prepFun Go.Proofs.Tryd.prog [0] Go.Proofs.Tryd.f44 = some v_r17_Can := by kernel_rfl

def v_r17_Next : VFun :=
⟨.seq (.reg [⟨0, (some 2), .box (.tmp 0), none, []⟩,
 ⟨1, (some 4), .mv (.con (.int .i64 0)), none, []⟩,
 ⟨2, (some 5), .mv (.con (.bool false)), none, []⟩])
 (.seq (.block 0
 (.seq (.seq (.reg [⟨0, (some 7), .mv (.tmp 1), none, []⟩,
 ⟨1, (some 8), .bin .eql 3 true (.tmp 7) (.con (.int .i64 0)), none, []⟩,
 ⟨2, (some 9), .mv (.tmp 8), none, []⟩,
 ⟨3, (some 10), .fieldA 0 (.tmp 2), (some (9, true)), []⟩,
 ⟨4, (some 11), .load none (.tmp 10), (some (9, true)), []⟩,
 ⟨5, (some 12), .bin .eql 3 true (.tmp 11) (.con (.int .i64 1)), (some (9, true)), []⟩,
 ⟨6, (some 13), .pick (.tmp 9) (.tmp 12) (.con (.bool false)), none, []⟩,
 ⟨7, (some 6), .mv (.tmp 13), none, []⟩])
 (.cond (.tmp 6)
 (.skip)
 (.reg [⟨0, (some 14), .mv (.tmp 1), none, []⟩,
 ⟨1, (some 15), .bin .eql 3 true (.tmp 14) (.con (.int .i64 1)), none, []⟩,
 ⟨2, (some 16), .mv (.tmp 15), none, []⟩,
 ⟨3, (some 17), .fieldA 0 (.tmp 2), (some (16, true)), []⟩,
 ⟨4, (some 18), .load none (.tmp 17), (some (16, true)), []⟩,
 ⟨5, (some 19), .bin .eql 3 true (.tmp 18) (.con (.int .i64 2)), (some (16, true)), []⟩,
 ⟨6, (some 20), .pick (.tmp 16) (.tmp 19) (.con (.bool false)), none, []⟩,
 ⟨7, (some 6), .mv (.tmp 20), none, []⟩])))
 (.cond (.tmp 6)
 (.seq (.reg [⟨0, (some 21), .fieldA 2 (.tmp 2), none, []⟩,
 ⟨1, (some 22), .load none (.tmp 21), none, []⟩,
 ⟨2, (some 4), .mv (.tmp 22), none, []⟩,
 ⟨3, (some 5), .mv (.con (.bool true)), none, []⟩])
 (.ret))
 (.seq (.reg [⟨0, (some 24), .mv (.tmp 1), none, []⟩,
 ⟨1, (some 25), .bin .eql 3 true (.tmp 24) (.con (.int .i64 2)), none, []⟩,
 ⟨2, (some 26), .mv (.tmp 25), none, []⟩,
 ⟨3, (some 27), .fieldA 0 (.tmp 2), (some (26, true)), []⟩,
 ⟨4, (some 28), .load none (.tmp 27), (some (26, true)), []⟩,
 ⟨5, (some 29), .bin .eql 3 true (.tmp 28) (.con (.int .i64 2)), (some (26, true)), []⟩,
 ⟨6, (some 30), .pick (.tmp 26) (.tmp 29) (.con (.bool false)), none, []⟩,
 ⟨7, (some 23), .mv (.tmp 30), none, []⟩])
 (.cond (.tmp 23)
 (.seq (.reg [⟨0, (some 31), .fieldA 3 (.tmp 2), none, []⟩,
 ⟨1, (some 32), .load none (.tmp 31), none, []⟩,
 ⟨2, (some 4), .mv (.tmp 32), none, []⟩,
 ⟨3, (some 5), .mv (.con (.bool true)), none, []⟩])
 (.ret))
 (.skip))))))
 (.seq (.reg [⟨0, (some 4), .mv (.con (.int .i64 0)), none, []⟩,
 ⟨1, (some 5), .mv (.con (.bool false)), none, []⟩])
 (.ret))),
 [.tmp 4, .tmp 5]⟩
theorem p_r17_Next : prepFun Go.Proofs.Tryd.prog [0] Go.Proofs.Tryd.f45 = some v_r17_Next := by kernel_rfl

def v_r17_with : VFun :=
⟨.seq (.reg [⟨0, (some 4), .box (.tmp 0), none, []⟩,
 ⟨1, (some 7), .box (.tmp 3), none, []⟩,
 ⟨2, (some 8), .alloc [(.slice none 0 0), (.int .i64 0), (.int .i64 0), (.int .i64 0), (.int .i64 0), (.slice none 0 0)], none, []⟩])
 (.seq (.reg [⟨0, (some 15), .load (some 6) (.tmp 4), none, []⟩,
 ⟨1, (some 16), .call 54 [(.tmp 15)], none, []⟩,
 ⟨2, (some 9), .alloc [(.slice none 0 0), (.int .i64 0), (.int .i64 0), (.int .i64 0), (.int .i64 0), (.slice none 0 0)], none, []⟩,
 ⟨3, none, .store 6 (.tmp 9) (.tmp 16), none, []⟩])
 (.seq (.reg [⟨0, (some 17), .fieldA 5 (.tmp 9), none, []⟩,
 ⟨1, (some 18), .load none (.tmp 17), none, []⟩,
 ⟨2, (some 19), .mv (.tmp 1), none, []⟩,
 ⟨3, (some 20), .idxA none 6 (.tmp 18) (.tmp 19), none, []⟩,
 ⟨4, (some 10), .mv (.tmp 20), none, []⟩])
 (.seq (.reg [⟨0, (some 21), .mv (.tmp 10), none, []⟩,
 ⟨1, (some 22), .nilck (.tmp 21), none, []⟩,
 ⟨2, (some 23), .fieldA 1 (.tmp 22), none, []⟩,
 ⟨3, (some 24), .load (some 4) (.tmp 23), none, []⟩,
 ⟨4, (some 11), .alloc [(.int .i64 0), (.int .i64 0), (.int .i64 0), (.int .i64 0)], none, []⟩,
 ⟨5, none, .store 4 (.tmp 11) (.tmp 24), none, []⟩])
 (.seq (.reg [⟨0, (some 25), .bslice 7 0 [(.int .i64 0), (.int .i64 0), (.int .i64 0), (.int .i64 0), (.int .i64 0), (.int .i64 0), (.int .i64 0)] [], none, []⟩,
 ⟨1, (some 26), .mv (.tmp 10), none, []⟩,
 ⟨2, (some 27), .nilck (.tmp 26), none, []⟩,
 ⟨3, (some 28), .fieldA 0 (.tmp 27), none, []⟩,
 ⟨4, (some 29), .load none (.tmp 28), none, []⟩,
 ⟨5, (some 30), .append 7 56 (.tmp 25) (.tmp 29), none, []⟩,
 ⟨6, (some 12), .mv (.tmp 30), none, []⟩])
 (.seq (.seq (.reg [⟨0, (some 31), .mv (.tmp 2), none, []⟩])
 (.block 0
 (.seq (.reg [⟨0, (some 33), .bin .eql 3 true (.tmp 31) (.con (.int .i64 1)), none, []⟩,
 ⟨1, (some 32), .mv (.tmp 33), none, []⟩])
 (.cond (.tmp 32)
 (.seq (.reg [⟨0, (some 34), .fieldA 2 (.tmp 4), none, []⟩,
 ⟨1, (some 35), .load none (.tmp 34), none, []⟩,
 ⟨2, (some 36), .fieldA 2 (.tmp 4), none, []⟩,
 ⟨3, (some 37), .load none (.tmp 36), none, []⟩,
 ⟨4, (some 38), .bin .add 3 true (.tmp 37) (.con (.int .i64 1)), none, []⟩,
 ⟨5, (some 13), .mv (.tmp 35), none, [(.tmp 36)]⟩,
 ⟨6, (some 14), .mv (.tmp 38), none, []⟩])
 (.seq (.reg [⟨0, (some 39), .mv (.tmp 12), none, []⟩,
 ⟨1, (some 40), .mv (.tmp 13), none, []⟩,
 ⟨2, (some 41), .build [(.int .i64 0), (.int .i64 0), (.int .i64 0), (.int .i64 0), (.int .i64 0), (.int .i64 0), (.int .i64 0)] [(0, 1, (.con (.int .i64 1))), (1, 1, (.tmp 40)), (6, 1, (.con (.int .i64 (-1))))], none, []⟩,
 ⟨3, (some 42), .mv (.tmp 14), none, []⟩,
 ⟨4, (some 43), .fieldA 1 (.tmp 11), none, []⟩,
 ⟨5, (some 44), .load none (.tmp 43), none, []⟩,
 ⟨6, (some 45), .mv (.tmp 13), none, []⟩,
 ⟨7, (some 46), .build [(.int .i64 0), (.int .i64 0), (.int .i64 0), (.int .i64 0), (.int .i64 0), (.int .i64 0), (.int .i64 0)] [(0, 1, (.con (.int .i64 11))), (1, 1, (.tmp 42)), (2, 1, (.tmp 44)), (3, 1, (.tmp 45)), (6, 1, (.con (.int .i64 (-1))))], none, []⟩,
 ⟨8, (some 47), .mv (.tmp 14), none, []⟩,
 ⟨9, (some 48), .fieldA 3 (.tmp 11), none, []⟩,
 ⟨10, (some 49), .load none (.tmp 48), none, []⟩,
 ⟨11, (some 50), .build [(.int .i64 0), (.int .i64 0), (.int .i64 0), (.int .i64 0), (.int .i64 0), (.int .i64 0), (.int .i64 0)] [(0, 1, (.con (.int .i64 21))), (2, 1, (.tmp 47)), (5, 1, (.tmp 49)), (6, 1, (.con (.int .i64 (-1))))], none, []⟩,
 ⟨12, (some 51), .bslice 7 3 [(.int .i64 0), (.int .i64 0), (.int .i64 0), (.int .i64 0), (.int .i64 0), (.int .i64 0), (.int .i64 0)] [(0, 7, (.tmp 41)), (7, 7, (.tmp 46)), (14, 7, (.tmp 50))], none, []⟩,
 ⟨13, (some 52), .append 7 56 (.tmp 39) (.tmp 51), none, []⟩,
 ⟨14, (some 12), .mv (.tmp 52), none, []⟩])
 (.reg [⟨0, (some 53), .fieldA 2 (.tmp 4), none, []⟩,
 ⟨1, (some 54), .load none (.tmp 53), none, []⟩,
 ⟨2, (some 55), .bin .add 3 true (.tmp 54) (.con (.int .i64 2)), none, []⟩,
 ⟨3, (some 56), .fieldA 2 (.tmp 9), none, []⟩,
 ⟨4, none, .store 1 (.tmp 56) (.tmp 55), none, []⟩])))
 (.seq (.reg [⟨0, (some 58), .bin .eql 3 true (.tmp 31) (.con (.int .i64 2)), none, []⟩,
 ⟨1, (some 57), .mv (.tmp 58), none, []⟩])
 (.cond (.tmp 57)
 (.reg [⟨0, (some 59), .mv (.tmp 12), none, []⟩,
 ⟨1, (some 60), .fieldA 1 (.tmp 11), none, []⟩,
 ⟨2, (some 61), .load none (.tmp 60), none, []⟩,
 ⟨3, (some 62), .fieldA 2 (.tmp 11), none, []⟩,
 ⟨4, (some 63), .load none (.tmp 62), none, []⟩,
 ⟨5, (some 64), .build [(.int .i64 0), (.int .i64 0), (.int .i64 0), (.int .i64 0), (.int .i64 0), (.int .i64 0), (.int .i64 0)] [(0, 1, (.con (.int .i64 21))), (2, 1, (.tmp 61)), (5, 1, (.tmp 63)), (6, 1, (.con (.int .i64 (-1))))], none, []⟩,
 ⟨6, (some 65), .bslice 7 1 [(.int .i64 0), (.int .i64 0), (.int .i64 0), (.int .i64 0), (.int .i64 0), (.int .i64 0), (.int .i64 0)] [(0, 7, (.tmp 64))], none, []⟩,
 ⟨7, (some 66), .append 7 56 (.tmp 59) (.tmp 65), none, []⟩,
 ⟨8, (some 12), .mv (.tmp 66), none, []⟩])
 (.skip)))))))
 (.seq (.reg [⟨0, (some 67), .mv (.tmp 10), none, []⟩,
 ⟨1, (some 68), .mv (.tmp 10), none, []⟩,
 ⟨2, (some 69), .mv (.tmp 12), none, []⟩,
 ⟨3, (some 70), .fieldA 0 (.tmp 7), none, []⟩,
 ⟨4, (some 71), .load none (.tmp 70), none, []⟩,
 ⟨6, (some 73), .fieldA 1 (.tmp 7), none, []⟩,
 ⟨7, (some 74), .load (some 4) (.tmp 73), none, []⟩,
 ⟨5, (some 72), .append 7 56 (.tmp 69) (.tmp 71), none, [(.tmp 73)]⟩,
 ⟨8, (some 75), .nilck (.tmp 67), none, []⟩,
 ⟨9, (some 76), .fieldA 0 (.tmp 75), none, []⟩,
 ⟨10, none, .store 1 (.tmp 76) (.tmp 72), none, [(.tmp 73)]⟩,
 ⟨11, (some 77), .nilck (.tmp 68), none, []⟩,
 ⟨12, (some 78), .fieldA 1 (.tmp 77), none, []⟩,
 ⟨13, none, .store 4 (.tmp 78) (.tmp 74), none, []⟩])
 (.seq (.reg [⟨0, (some 79), .load (some 6) (.tmp 9), none, []⟩,
 ⟨1, none, .store 6 (.tmp 8) (.tmp 79), none, []⟩])
 (.ret)))))))),
 [.cell 8 (some 6)]⟩
theorem p_r17_with : prepFun Go.Proofs.Tryd.prog [0] Go.Proofs.Tryd.f46 = some v_r17_with := by kernel_rfl

def v_r07_SameBlocks : VFun :=
⟨.seq (.reg [⟨0, (some 4), .mv (.con (.bool false)), none, []⟩])
 (.seq (.seq (.reg [⟨0, (some 6), .mv (.tmp 0), none, []⟩,
 ⟨1, (some 7), .len (.tmp 6), none, []⟩,
 ⟨2, (some 8), .mv (.tmp 1), none, []⟩,
 ⟨3, (some 9), .len (.tmp 8), none, []⟩,
 ⟨4, (some 10), .bin .neq 3 false (.tmp 7) (.tmp 9), none, []⟩])
 (.cond (.tmp 10)
 (.seq (.reg [⟨0, (some 4), .mv (.con (.bool false)), none, []⟩])
 (.ret))
 (.skip)))
 (.seq (.seq (.reg [⟨0, (some 5), .mv (.con (.int .i64 0)), none, []⟩])
 (.block 0
 (.loop
 (.seq (.seq (.reg [⟨0, (some 11), .mv (.tmp 5), none, []⟩,
 ⟨1, (some 12), .mv (.tmp 0), none, []⟩,
 ⟨2, (some 13), .len (.tmp 12), none, []⟩,
 ⟨3, (some 14), .bin .lss 3 false (.tmp 11) (.tmp 13), none, []⟩])
 (.cond (.tmp 14)
 (.skip)
 (.exit 0)))
 (.seq (.block 1
 (.seq (.reg [⟨0, (some 17), .mv (.tmp 0), none, []⟩,
 ⟨1, (some 18), .mv (.tmp 5), none, []⟩,
 ⟨2, (some 19), .idxA none 6 (.tmp 17) (.tmp 18), none, []⟩,
 ⟨3, (some 20), .fieldA 0 (.tmp 19), none, []⟩,
 ⟨4, (some 21), .load none (.tmp 20), none, []⟩,
 ⟨5, (some 22), .mv (.tmp 1), none, []⟩,
 ⟨6, (some 23), .mv (.tmp 5), none, []⟩,
 ⟨7, (some 24), .idxA none 6 (.tmp 22) (.tmp 23), none, []⟩,
 ⟨8, (some 25), .fieldA 0 (.tmp 24), none, []⟩,
 ⟨9, (some 26), .load none (.tmp 25), none, []⟩,
 ⟨10, (some 27), .call 69 [(.tmp 21), (.tmp 26)], none, []⟩,
 ⟨11, (some 28), .un .not (.tmp 27), none, []⟩,
 ⟨12, (some 29), .mv (.tmp 28), none, []⟩,
 ⟨13, (some 30), .mv (.tmp 0), (some (29, false)), []⟩,
 ⟨14, (some 31), .mv (.tmp 5), (some (29, false)), []⟩,
 ⟨15, (some 32), .idxA none 6 (.tmp 30) (.tmp 31), (some (29, false)), []⟩,
 ⟨16, (some 33), .fieldA 1 (.tmp 32), (some (29, false)), []⟩,
 ⟨17, (some 34), .load (some 4) (.tmp 33), (some (29, false)), []⟩,
 ⟨18, (some 35), .mv (.tmp 1), (some (29, false)), []⟩,
 ⟨19, (some 36), .mv (.tmp 5), (some (29, false)), []⟩,
 ⟨20, (some 37), .idxA none 6 (.tmp 35) (.tmp 36), (some (29, false)), []⟩,
 ⟨21, (some 38), .fieldA 1 (.tmp 37), (some (29, false)), []⟩,
 ⟨22, (some 39), .load (some 4) (.tmp 38), (some (29, false)), []⟩,
 ⟨23, (some 40), .bin .neq 47 false (.tmp 34) (.tmp 39), (some (29, false)), []⟩,
 ⟨24, (some 41), .pick (.tmp 29) (.con (.bool true)) (.tmp 40), none, []⟩,
 ⟨25, (some 42), .mv (.tmp 41), none, []⟩,
 ⟨26, (some 43), .mv (.tmp 0), (some (42, false)), []⟩,
 ⟨27, (some 44), .mv (.tmp 5), (some (42, false)), []⟩,
 ⟨28, (some 45), .idxA none 6 (.tmp 43) (.tmp 44), (some (42, false)), []⟩,
 ⟨29, (some 46), .fieldA 5 (.tmp 45), (some (42, false)), []⟩,
 ⟨30, (some 47), .load none (.tmp 46), (some (42, false)), []⟩,
 ⟨31, (some 48), .mv (.tmp 1), (some (42, false)), []⟩,
 ⟨32, (some 49), .mv (.tmp 5), (some (42, false)), []⟩,
 ⟨33, (some 50), .idxA none 6 (.tmp 48) (.tmp 49), (some (42, false)), []⟩,
 ⟨34, (some 51), .fieldA 5 (.tmp 50), (some (42, false)), []⟩,
 ⟨35, (some 52), .load none (.tmp 51), (some (42, false)), []⟩,
 ⟨36, (some 53), .bin .neq 3 false (.tmp 47) (.tmp 52), (some (42, false)), []⟩,
 ⟨37, (some 54), .pick (.tmp 42) (.con (.bool true)) (.tmp 53), none, []⟩])
 (.cond (.tmp 54)
 (.seq (.reg [⟨0, (some 4), .mv (.con (.bool false)), none, []⟩])
 (.ret))
 (.skip))))
 (.reg [⟨0, (some 15), .mv (.tmp 5), none, []⟩,
 ⟨1, (some 16), .bin .add 3 true (.tmp 15) (.con (.int .i64 1)), none, []⟩,
 ⟨2, (some 5), .mv (.tmp 16), none, []⟩]))))))
 (.seq (.reg [⟨0, (some 4), .mv (.con (.bool true)), none, []⟩])
 (.ret)))),
 [.tmp 4]⟩
theorem p_r07_SameBlocks : prepFun Go.Proofs.Tryd.prog [0] Go.Proofs.Tryd.f47 = some v_r07_SameBlocks := by kernel_rfl

def v_l17_loop : VFun :=
⟨.seq (.reg [⟨0, (some 0), .alloc [(.slice none 0 0), (.int .i64 0), (.int .i64 0), (.int .i64 0), (.int .i64 0), (.slice none 0 0)], none, []⟩])
 (.seq (.reg [⟨0, (some 1), .build [(.int .i64 0), (.int .i64 0), (.int .i64 0), (.int .i64 0)] [(0, 1, (.con (.int .i64 1))), (2, 1, (.con (.int .i64 1)))], none, []⟩,
 ⟨1, (some 2), .build [(.slice none 0 0), (.int .i64 0), (.int .i64 0), (.int .i64 0), (.int .i64 0), (.int .i64 0)] [(1, 4, (.tmp 1)), (5, 1, (.con (.int .i64 (-1))))], none, []⟩,
 ⟨2, (some 3), .build [(.int .i64 0), (.int .i64 0), (.int .i64 0), (.int .i64 0), (.int .i64 0), (.int .i64 0), (.int .i64 0)] [(0, 1, (.con (.int .i64 3))), (1, 1, (.con (.int .i64 0))), (2, 1, (.con (.int .i64 0))), (3, 1, (.con (.int .i64 1))), (6, 1, (.con (.int .i64 (-1))))], none, []⟩,
 ⟨3, (some 4), .bslice 7 1 [(.int .i64 0), (.int .i64 0), (.int .i64 0), (.int .i64 0), (.int .i64 0), (.int .i64 0), (.int .i64 0)] [(0, 7, (.tmp 3))], none, []⟩,
 ⟨4, (some 5), .build [(.int .i64 0), (.int .i64 0), (.int .i64 0), (.int .i64 0)] [(0, 1, (.con (.int .i64 2))), (1, 1, (.con (.int .i64 0))), (2, 1, (.con (.int .i64 1))), (3, 1, (.con (.int .i64 2)))], none, []⟩,
 ⟨5, (some 6), .build [(.slice none 0 0), (.int .i64 0), (.int .i64 0), (.int .i64 0), (.int .i64 0), (.int .i64 0)] [(0, 1, (.tmp 4)), (1, 4, (.tmp 5)), (5, 1, (.con (.int .i64 (-1))))], none, []⟩,
 ⟨6, (some 7), .build [(.int .i64 0), (.int .i64 0), (.int .i64 0), (.int .i64 0)] [(0, 1, (.con (.int .i64 3))), (1, 1, (.con (.int .i64 0)))], none, []⟩,
 ⟨7, (some 8), .build [(.slice none 0 0), (.int .i64 0), (.int .i64 0), (.int .i64 0), (.int .i64 0), (.int .i64 0)] [(1, 4, (.tmp 7)), (5, 1, (.con (.int .i64 (-1))))], none, []⟩,
 ⟨8, (some 9), .bslice 6 3 [(.slice none 0 0), (.int .i64 0), (.int .i64 0), (.int .i64 0), (.int .i64 0), (.int .i64 0)] [(0, 6, (.tmp 2)), (6, 6, (.tmp 6)), (12, 6, (.tmp 8))], none, []⟩,
 ⟨9, (some 10), .build [(.slice none 0 0), (.int .i64 0), (.int .i64 0), (.int .i64 0), (.int .i64 0), (.slice none 0 0)] [(1, 1, (.con (.int .i64 2))), (2, 1, (.con (.int .i64 2))), (5, 1, (.tmp 9))], none, []⟩,
 ⟨10, none, .store 6 (.tmp 0) (.tmp 10), none, []⟩])
 (.ret)),
 [.cell 0 (some 6)]⟩
theorem p_l17_loop : prepFun Go.Proofs.Tryd.prog [0] Go.Proofs.Tryd.f48 = some v_l17_loop := by kernel_rfl

def v_trace_with : VFun :=
⟨.seq (.reg [⟨0, (some 3), .box (.tmp 0), none, []⟩,
 ⟨1, (some 6), .mv (.con (.int .i64 0)), none, []⟩])
 (.seq (.seq (.reg [⟨0, (some 8), .load (some 6) (.tmp 3), none, []⟩,
 ⟨1, (some 9), .call 43 [(.tmp 8)], none, []⟩,
 ⟨2, (some 7), .mv (.tmp 9), none, []⟩])
 (.seq (.reg [⟨0, (some 10), .mv (.tmp 7), none, []⟩,
 ⟨1, (some 11), .bin .neq 27 true (.tmp 10) (.con (.int .i64 0)), none, []⟩])
 (.cond (.tmp 11)
 (.seq (.reg [⟨0, (some 12), .mv (.tmp 7), none, []⟩,
 ⟨1, (some 6), .mv (.tmp 12), none, []⟩])
 (.ret))
 (.skip))))
 (.seq (.seq (.reg [⟨0, (some 13), .mv (.tmp 1), none, []⟩,
 ⟨1, (some 14), .len (.tmp 13), none, []⟩,
 ⟨2, (some 15), .fieldA 5 (.tmp 3), none, []⟩,
 ⟨3, (some 16), .load none (.tmp 15), none, []⟩,
 ⟨4, (some 17), .len (.tmp 16), none, []⟩,
 ⟨5, (some 18), .bin .neq 3 false (.tmp 14) (.tmp 17), none, []⟩])
 (.cond (.tmp 18)
 (.seq (.reg [⟨0, (some 6), .mv (.con (.int .i64 2)), none, []⟩])
 (.ret))
 (.skip)))
 (.seq (.reg [⟨0, (some 19), .load (some 6) (.tmp 3), none, []⟩,
 ⟨1, (some 20), .mv (.tmp 2), none, []⟩,
 ⟨2, (some 21), .call 39 [(.tmp 19), (.tmp 20)], none, []⟩,
 ⟨3, (some 6), .mv (.tmp 21), none, []⟩])
 (.ret)))),
 [.tmp 6]⟩
theorem p_trace_with : prepFun Go.Proofs.Tryd.prog [0] Go.Proofs.Tryd.f49 = some v_trace_with := by kernel_rfl

def v_trace_follow : VFun :=
⟨.seq (.reg [⟨0, (some 6), .box (.tmp 1), none, []⟩,
 ⟨1, (some 10), .mv (.con (.int .i64 0)), none, []⟩])
 (.seq (.reg [⟨0, (some 18), .load (some 6) (.tmp 6), none, []⟩,
 ⟨1, (some 19), .mv (.tmp 2), none, []⟩,
 ⟨2, (some 20), .mv (.tmp 3), none, []⟩,
 ⟨3, (some 21), .call 57 [(.tmp 18), (.tmp 19), (.tmp 20)], none, []⟩,
 ⟨4, (some 11), .mv (.tmp 21), none, []⟩])
 (.seq (.seq (.reg [⟨0, (some 22), .mv (.tmp 11), none, []⟩,
 ⟨1, (some 23), .mv (.tmp 11), none, []⟩,
 ⟨2, (some 24), .len (.tmp 23), none, []⟩,
 ⟨3, (some 25), .bin .sub 3 true (.tmp 24) (.con (.int .i64 1)), none, []⟩,
 ⟨4, (some 26), .slice none 1 (.tmp 22) none (some (.tmp 25)) none, none, []⟩,
 ⟨5, (some 27), .len (.tmp 26), none, []⟩,
 ⟨6, (some 28), .mv (.con (.int .i64 0)), none, []⟩])
 (.block 0
 (.loop
 (.seq (.reg [⟨0, (some 29), .bin .lss 3 false (.tmp 28) (.tmp 27), none, []⟩])
 (.seq (.cond (.tmp 29)
 (.skip)
 (.exit 0))
 (.seq (.block 1
 (.seq (.reg [⟨0, (some 30), .mv (.tmp 28), none, []⟩,
 ⟨1, (some 31), .idxA none 1 (.tmp 26) (.tmp 28), none, []⟩,
 ⟨2, (some 32), .load none (.tmp 31), none, []⟩,
 ⟨3, (some 12), .mv (.tmp 30), none, []⟩,
 ⟨4, (some 13), .mv (.tmp 32), none, []⟩])
 (.seq (.reg [⟨0, (some 14), .mv (.con (.int .i64 0)), none, []⟩])
 (.seq (.block 2
 (.loop
 (.seq (.seq (.reg [⟨0, (some 33), .mv (.tmp 14), none, []⟩,
 ⟨1, (some 34), .bin .lss 3 true (.tmp 33) (.con (.int .i64 3)), none, []⟩])
 (.cond (.tmp 34)
 (.skip)
 (.exit 2)))
 (.seq (.block 3
 (.seq (.reg [⟨0, (some 38), .load (some 6) (.tmp 6), none, []⟩,
 ⟨1, (some 39), .mv (.tmp 13), none, []⟩,
 ⟨2, (some 40), .mv (.tmp 14), none, []⟩,
 ⟨3, (some 41), .call 40 [(.tmp 38), (.tmp 39), (.tmp 40)], none, []⟩,
 ⟨4, (some 37), .mv (.tmp 41), none, []⟩,
 ⟨5, (some 42), .ext (.tmp 37) 0, none, []⟩,
 ⟨6, (some 43), .ext (.tmp 37) 1, none, []⟩,
 ⟨7, (some 15), .mv (.tmp 42), none, []⟩,
 ⟨8, (some 16), .mv (.tmp 43), none, []⟩])
 (.seq (.reg [⟨0, (some 44), .mv (.tmp 16), none, []⟩,
 ⟨1, (some 45), .mv (.tmp 44), none, []⟩,
 ⟨2, (some 46), .mv (.tmp 15), (some (45, true)), []⟩,
 ⟨3, (some 47), .mv (.tmp 11), (some (45, true)), []⟩,
 ⟨4, (some 48), .mv (.tmp 12), (some (45, true)), []⟩,
 ⟨5, (some 49), .bin .add 3 true (.tmp 48) (.con (.int .i64 1)), (some (45, true)), []⟩,
 ⟨6, (some 50), .idxA none 1 (.tmp 47) (.tmp 49), (some (45, true)), []⟩,
 ⟨7, (some 51), .load none (.tmp 50), (some (45, true)), []⟩,
 ⟨8, (some 52), .bin .eql 3 false (.tmp 46) (.tmp 51), (some (45, true)), []⟩,
 ⟨9, (some 53), .pick (.tmp 45) (.tmp 52) (.con (.bool false)), none, []⟩])
 (.cond (.tmp 53)
 (.exit 2)
 (.skip)))))
 (.reg [⟨0, (some 35), .mv (.tmp 14), none, []⟩,
 ⟨1, (some 36), .bin .add 3 true (.tmp 35) (.con (.int .i64 1)), none, []⟩,
 ⟨2, (some 14), .mv (.tmp 36), none, []⟩])))))
 (.seq (.reg [⟨0, (some 54), .fieldA 5 (.tmp 6), none, []⟩,
 ⟨1, (some 55), .load none (.tmp 54), none, []⟩,
 ⟨2, (some 56), .mv (.tmp 11), none, []⟩,
 ⟨3, (some 57), .mv (.tmp 12), none, []⟩,
 ⟨4, (some 58), .bin .add 3 true (.tmp 57) (.con (.int .i64 1)), none, []⟩,
 ⟨5, (some 59), .idxA none 1 (.tmp 56) (.tmp 58), none, []⟩,
 ⟨6, (some 60), .load none (.tmp 59), none, []⟩,
 ⟨7, (some 61), .idxA none 6 (.tmp 55) (.tmp 60), none, []⟩,
 ⟨8, (some 62), .load (some 6) (.tmp 61), none, []⟩,
 ⟨9, (some 17), .alloc [(.slice none 0 0), (.int .i64 0), (.int .i64 0), (.int .i64 0), (.int .i64 0), (.int .i64 0)], none, []⟩,
 ⟨10, none, .store 6 (.tmp 17) (.tmp 62), none, []⟩])
 (.seq (.seq (.reg [⟨0, (some 63), .mv (.tmp 0), none, []⟩,
 ⟨1, (some 64), .nilck (.tmp 63), none, []⟩,
 ⟨2, (some 65), .fieldA 5 (.tmp 64), none, []⟩,
 ⟨3, (some 66), .load none (.tmp 65), none, []⟩,
 ⟨4, (some 67), .mv (.tmp 3), none, []⟩,
 ⟨5, (some 68), .idxA none 6 (.tmp 66) (.tmp 67), none, []⟩,
 ⟨6, (some 69), .fieldA 0 (.tmp 68), none, []⟩,
 ⟨7, (some 70), .load none (.tmp 69), none, []⟩,
 ⟨8, (some 71), .len (.tmp 70), none, []⟩,
 ⟨9, (some 72), .mv (.tmp 14), none, []⟩,
 ⟨10, (some 73), .load (some 6) (.tmp 17), none, []⟩,
 ⟨13, (some 76), .mv (.tmp 4), none, []⟩,
 ⟨11, (some 74), .call 70 [(.tmp 72), (.tmp 73)], none, [(.tmp 65), (.tmp 69)]⟩,
 ⟨12, (some 75), .bin .add 3 false (.tmp 71) (.tmp 74), none, []⟩,
 ⟨14, (some 77), .bin .gtr 3 false (.tmp 75) (.tmp 76), none, []⟩])
 (.cond (.tmp 77)
 (.seq (.reg [⟨0, (some 78), .mv (.tmp 12), none, []⟩,
 ⟨1, (some 10), .mv (.tmp 78), none, []⟩])
 (.ret))
 (.skip)))
 (.reg [⟨0, (some 79), .mv (.tmp 0), none, []⟩,
 ⟨1, (some 80), .mv (.tmp 3), none, []⟩,
 ⟨2, (some 81), .mv (.tmp 14), none, []⟩,
 ⟨3, (some 82), .load (some 6) (.tmp 17), none, []⟩,
 ⟨4, (some 83), .call 42 [(.tmp 79), (.tmp 80), (.tmp 81), (.tmp 82)], none, []⟩])))))))
 (.reg [⟨0, (some 84), .bin .add 3 true (.tmp 28) (.con (.int .i64 1)), none, []⟩,
 ⟨1, (some 28), .mv (.tmp 84), none, []⟩])))))))
 (.seq (.reg [⟨0, (some 85), .mv (.tmp 11), none, []⟩,
 ⟨1, (some 86), .len (.tmp 85), none, []⟩,
 ⟨2, (some 87), .bin .sub 3 true (.tmp 86) (.con (.int .i64 1)), none, []⟩,
 ⟨3, (some 10), .mv (.tmp 87), none, []⟩])
 (.ret)))),
 [.tmp 10]⟩
theorem p_trace_follow : prepFun Go.Proofs.Tryd.prog [0] Go.Proofs.Tryd.f50 = some v_trace_follow := by kernel_rfl

def v_r17_follow : VFun :=
⟨.seq (.reg [⟨0, (some 4), .box (.tmp 0), none, []⟩,
 ⟨1, (some 5), .box (.tmp 1), none, []⟩,
 ⟨2, (some 8), .alloc [(.slice none 0 0), (.int .i64 0), (.int .i64 0), (.int .i64 0), (.int .i64 0), (.slice none 0 0)], none, []⟩,
 ⟨3, (some 9), .mv (.con (.int .i64 0)), none, []⟩])
 (.seq (.reg [⟨0, (some 16), .mv (.tmp 2), none, []⟩,
 ⟨1, (some 17), .idxA none 1 (.tmp 16) (.con (.int .i64 0)), none, []⟩,
 ⟨2, (some 18), .load none (.tmp 17), none, []⟩,
 ⟨3, (some 10), .mv (.tmp 18), none, []⟩])
 (.seq (.seq (.reg [⟨0, (some 11), .mv (.con (.int .i64 1)), none, []⟩])
 (.block 0
 (.loop
 (.seq (.seq (.reg [⟨0, (some 19), .mv (.tmp 11), none, []⟩,
 ⟨1, (some 20), .mv (.tmp 2), none, []⟩,
 ⟨2, (some 21), .len (.tmp 20), none, []⟩,
 ⟨3, (some 22), .bin .lss 3 false (.tmp 19) (.tmp 21), none, []⟩])
 (.cond (.tmp 22)
 (.skip)
 (.exit 0)))
 (.seq (.block 1
 (.seq (.reg [⟨0, (some 12), .mv (.con (.int .i64 0)), none, []⟩])
 (.seq (.seq (.reg [⟨0, (some 26), .fieldA 5 (.tmp 4), none, []⟩,
 ⟨1, (some 27), .load none (.tmp 26), none, []⟩,
 ⟨2, (some 28), .mv (.tmp 10), none, []⟩,
 ⟨3, (some 29), .idxA none 6 (.tmp 27) (.tmp 28), none, []⟩,
 ⟨4, (some 30), .fieldA 1 (.tmp 29), none, []⟩,
 ⟨5, (some 31), .load (some 4) (.tmp 30), none, []⟩,
 ⟨6, (some 32), .mv (.tmp 12), none, []⟩,
 ⟨7, (some 33), .call 45 [(.tmp 31), (.tmp 32)], none, []⟩,
 ⟨8, (some 25), .mv (.tmp 33), none, []⟩,
 ⟨9, (some 34), .ext (.tmp 25) 0, none, []⟩,
 ⟨10, (some 35), .ext (.tmp 25) 1, none, []⟩,
 ⟨11, (some 13), .mv (.tmp 34), none, []⟩,
 ⟨12, (some 14), .mv (.tmp 35), none, []⟩])
 (.block 2
 (.loop
 (.seq (.seq (.reg [⟨0, (some 36), .mv (.tmp 14), none, []⟩,
 ⟨1, (some 37), .un .not (.tmp 36), none, []⟩,
 ⟨2, (some 38), .mv (.tmp 37), none, []⟩,
 ⟨3, (some 39), .mv (.tmp 13), (some (38, false)), []⟩,
 ⟨4, (some 40), .mv (.tmp 2), (some (38, false)), []⟩,
 ⟨5, (some 41), .mv (.tmp 11), (some (38, false)), []⟩,
 ⟨6, (some 42), .idxA none 1 (.tmp 40) (.tmp 41), (some (38, false)), []⟩,
 ⟨7, (some 43), .load none (.tmp 42), (some (38, false)), []⟩,
 ⟨8, (some 44), .bin .neq 3 false (.tmp 39) (.tmp 43), (some (38, false)), []⟩,
 ⟨9, (some 45), .pick (.tmp 38) (.con (.bool true)) (.tmp 44), none, []⟩])
 (.cond (.tmp 45)
 (.skip)
 (.exit 2)))
 (.seq (.block 3
 (.reg [⟨0, (some 57), .mv (.tmp 12), none, []⟩,
 ⟨1, (some 58), .bin .add 3 true (.tmp 57) (.con (.int .i64 1)), none, []⟩,
 ⟨2, (some 12), .mv (.tmp 58), none, []⟩]))
 (.reg [⟨0, (some 47), .fieldA 5 (.tmp 4), none, []⟩,
 ⟨1, (some 48), .load none (.tmp 47), none, []⟩,
 ⟨2, (some 49), .mv (.tmp 10), none, []⟩,
 ⟨3, (some 50), .idxA none 6 (.tmp 48) (.tmp 49), none, []⟩,
 ⟨4, (some 51), .fieldA 1 (.tmp 50), none, []⟩,
 ⟨5, (some 52), .load (some 4) (.tmp 51), none, []⟩,
 ⟨6, (some 53), .mv (.tmp 12), none, []⟩,
 ⟨7, (some 54), .call 45 [(.tmp 52), (.tmp 53)], none, []⟩,
 ⟨8, (some 46), .mv (.tmp 54), none, []⟩,
 ⟨9, (some 55), .ext (.tmp 46) 0, none, []⟩,
 ⟨10, (some 56), .ext (.tmp 46) 1, none, []⟩,
 ⟨11, (some 13), .mv (.tmp 55), none, []⟩,
 ⟨12, (some 14), .mv (.tmp 56), none, []⟩]))))))
 (.seq (.reg [⟨0, (some 59), .load (some 6) (.tmp 4), none, []⟩,
 ⟨1, (some 60), .mv (.tmp 10), none, []⟩,
 ⟨2, (some 61), .mv (.tmp 12), none, []⟩,
 ⟨3, (some 62), .fieldA 5 (.tmp 5), none, []⟩,
 ⟨4, (some 63), .load none (.tmp 62), none, []⟩,
 ⟨5, (some 64), .mv (.tmp 2), none, []⟩,
 ⟨6, (some 65), .mv (.tmp 11), none, []⟩,
 ⟨7, (some 66), .idxA none 1 (.tmp 64) (.tmp 65), none, []⟩,
 ⟨8, (some 67), .load none (.tmp 66), none, []⟩,
 ⟨9, (some 68), .idxA none 6 (.tmp 63) (.tmp 67), none, []⟩,
 ⟨10, (some 69), .load (some 6) (.tmp 68), none, []⟩,
 ⟨12, (some 15), .alloc [(.slice none 0 0), (.int .i64 0), (.int .i64 0), (.int .i64 0), (.int .i64 0), (.slice none 0 0)], none, []⟩,
 ⟨11, (some 70), .call 46 [(.tmp 59), (.tmp 60), (.tmp 61), (.tmp 69)], none, []⟩,
 ⟨13, none, .store 6 (.tmp 15) (.tmp 70), none, []⟩])
 (.seq (.seq (.reg [⟨0, (some 71), .fieldA 5 (.tmp 15), none, []⟩,
 ⟨1, (some 72), .load none (.tmp 71), none, []⟩,
 ⟨2, (some 73), .mv (.tmp 10), none, []⟩,
 ⟨3, (some 74), .idxA none 6 (.tmp 72) (.tmp 73), none, []⟩,
 ⟨4, (some 75), .fieldA 0 (.tmp 74), none, []⟩,
 ⟨5, (some 76), .load none (.tmp 75), none, []⟩,
 ⟨6, (some 77), .len (.tmp 76), none, []⟩,
 ⟨7, (some 78), .mv (.tmp 3), none, []⟩,
 ⟨8, (some 79), .bin .gtr 3 false (.tmp 77) (.tmp 78), none, []⟩])
 (.cond (.tmp 79)
 (.seq (.reg [⟨0, (some 80), .load (some 6) (.tmp 4), none, []⟩,
 ⟨1, (some 81), .mv (.tmp 11), none, []⟩,
 ⟨2, (some 82), .bin .sub 3 true (.tmp 81) (.con (.int .i64 1)), none, []⟩,
 ⟨3, none, .store 6 (.tmp 8) (.tmp 80), none, []⟩,
 ⟨4, (some 9), .mv (.tmp 82), none, []⟩])
 (.ret))
 (.skip)))
 (.reg [⟨0, (some 83), .load (some 6) (.tmp 15), none, []⟩,
 ⟨1, none, .store 6 (.tmp 4) (.tmp 83), none, []⟩]))))))
 (.reg [⟨0, (some 23), .mv (.tmp 11), none, []⟩,
 ⟨1, (some 24), .bin .add 3 true (.tmp 23) (.con (.int .i64 1)), none, []⟩,
 ⟨2, (some 11), .mv (.tmp 24), none, []⟩]))))))
 (.seq (.reg [⟨0, (some 84), .load (some 6) (.tmp 4), none, []⟩,
 ⟨1, (some 85), .mv (.tmp 2), none, []⟩,
 ⟨2, (some 86), .len (.tmp 85), none, []⟩,
 ⟨3, (some 87), .bin .sub 3 true (.tmp 86) (.con (.int .i64 1)), none, []⟩,
 ⟨4, none, .store 6 (.tmp 8) (.tmp 84), none, []⟩,
 ⟨5, (some 9), .mv (.tmp 87), none, []⟩])
 (.ret)))),
 [.cell 8 (some 6), .tmp 9]⟩
theorem p_r17_follow : prepFun Go.Proofs.Tryd.prog [0] Go.Proofs.Tryd.f51 = some v_r17_follow := by kernel_rfl

def v_trace_around : VFun :=
⟨.seq (.reg [⟨0, (some 2), .box (.tmp 0), none, []⟩,
 ⟨1, (some 4), .mv (.con (.int .i64 0)), none, []⟩,
 ⟨2, (some 5), .mv (.con (.bool false)), none, []⟩])
 (.seq (.seq (.reg [⟨0, (some 9), .mv (.con (.int .i64 0)), none, []⟩])
 (.block 0
 (.loop
 (.seq (.reg [⟨0, (some 10), .bin .lss 3 true (.tmp 9) (.con (.int .i64 3)), none, []⟩])
 (.seq (.cond (.tmp 10)
 (.skip)
 (.exit 0))
 (.seq (.block 1
 (.seq (.reg [⟨0, (some 11), .mv (.tmp 9), none, []⟩,
 ⟨1, (some 6), .mv (.tmp 11), none, []⟩])
 (.seq (.reg [⟨0, (some 13), .load (some 6) (.tmp 2), none, []⟩,
 ⟨1, (some 14), .mv (.tmp 1), none, []⟩,
 ⟨2, (some 15), .mv (.tmp 6), none, []⟩,
 ⟨3, (some 16), .call 40 [(.tmp 13), (.tmp 14), (.tmp 15)], none, []⟩,
 ⟨4, (some 12), .mv (.tmp 16), none, []⟩,
 ⟨5, (some 17), .ext (.tmp 12) 0, none, []⟩,
 ⟨6, (some 18), .ext (.tmp 12) 1, none, []⟩,
 ⟨7, (some 7), .mv (.tmp 17), none, []⟩,
 ⟨8, (some 8), .mv (.tmp 18), none, []⟩])
 (.seq (.reg [⟨0, (some 19), .mv (.tmp 8), none, []⟩,
 ⟨1, (some 20), .mv (.tmp 19), none, []⟩,
 ⟨2, (some 21), .mv (.tmp 7), (some (20, true)), []⟩,
 ⟨3, (some 22), .mv (.tmp 1), (some (20, true)), []⟩,
 ⟨4, (some 23), .bin .eql 3 false (.tmp 21) (.tmp 22), (some (20, true)), []⟩,
 ⟨5, (some 24), .pick (.tmp 20) (.tmp 23) (.con (.bool false)), none, []⟩])
 (.cond (.tmp 24)
 (.seq (.reg [⟨0, (some 25), .mv (.tmp 6), none, []⟩,
 ⟨1, (some 4), .mv (.tmp 25), none, []⟩,
 ⟨2, (some 5), .mv (.con (.bool true)), none, []⟩])
 (.ret))
 (.skip))))))
 (.reg [⟨0, (some 26), .bin .add 3 true (.tmp 9) (.con (.int .i64 1)), none, []⟩,
 ⟨1, (some 9), .mv (.tmp 26), none, []⟩])))))))
 (.seq (.reg [⟨0, (some 4), .mv (.con (.int .i64 0)), none, []⟩,
 ⟨1, (some 5), .mv (.con (.bool false)), none, []⟩])
 (.ret))),
 [.tmp 4, .tmp 5]⟩
theorem p_trace_around : prepFun Go.Proofs.Tryd.prog [0] Go.Proofs.Tryd.f52 = some v_trace_around := by kernel_rfl

def v_r17_self : VFun :=
⟨.seq (.reg [⟨0, (some 2), .box (.tmp 0), none, []⟩,
 ⟨1, (some 4), .mv (.con (.int .i64 0)), none, []⟩])
 (.seq (.seq (.reg [⟨0, (some 5), .mv (.con (.int .i64 0)), none, []⟩])
 (.block 0
 (.loop
 (.seq (.seq (.reg [⟨0, (some 8), .mv (.tmp 5), none, []⟩,
 ⟨1, (some 9), .bin .lss 3 true (.tmp 8) (.con (.int .i64 3)), none, []⟩])
 (.cond (.tmp 9)
 (.skip)
 (.exit 0)))
 (.seq (.block 1
 (.seq (.reg [⟨0, (some 13), .fieldA 5 (.tmp 2), none, []⟩,
 ⟨1, (some 14), .load none (.tmp 13), none, []⟩,
 ⟨2, (some 15), .mv (.tmp 1), none, []⟩,
 ⟨3, (some 16), .idxA none 6 (.tmp 14) (.tmp 15), none, []⟩,
 ⟨4, (some 17), .fieldA 1 (.tmp 16), none, []⟩,
 ⟨5, (some 18), .load (some 4) (.tmp 17), none, []⟩,
 ⟨6, (some 19), .mv (.tmp 5), none, []⟩,
 ⟨7, (some 20), .call 45 [(.tmp 18), (.tmp 19)], none, []⟩,
 ⟨8, (some 12), .mv (.tmp 20), none, []⟩,
 ⟨9, (some 21), .ext (.tmp 12) 0, none, []⟩,
 ⟨10, (some 22), .ext (.tmp 12) 1, none, []⟩,
 ⟨11, (some 6), .mv (.tmp 21), none, []⟩,
 ⟨12, (some 7), .mv (.tmp 22), none, []⟩])
 (.seq (.reg [⟨0, (some 23), .mv (.tmp 7), none, []⟩,
 ⟨1, (some 24), .mv (.tmp 23), none, []⟩,
 ⟨2, (some 25), .mv (.tmp 6), (some (24, true)), []⟩,
 ⟨3, (some 26), .mv (.tmp 1), (some (24, true)), []⟩,
 ⟨4, (some 27), .bin .eql 3 false (.tmp 25) (.tmp 26), (some (24, true)), []⟩,
 ⟨5, (some 28), .pick (.tmp 24) (.tmp 27) (.con (.bool false)), none, []⟩])
 (.cond (.tmp 28)
 (.seq (.reg [⟨0, (some 29), .mv (.tmp 5), none, []⟩,
 ⟨1, (some 4), .mv (.tmp 29), none, []⟩])
 (.ret))
 (.skip)))))
 (.reg [⟨0, (some 10), .mv (.tmp 5), none, []⟩,
 ⟨1, (some 11), .bin .add 3 true (.tmp 10) (.con (.int .i64 1)), none, []⟩,
 ⟨2, (some 5), .mv (.tmp 11), none, []⟩]))))))
 (.seq (.reg [⟨0, (some 4), .mv (.con (.int .i64 (-1))), none, []⟩])
 (.ret))),
 [.tmp 4]⟩
theorem p_r17_self : prepFun Go.Proofs.Tryd.prog [0] Go.Proofs.Tryd.f53 = some v_r17_self := by kernel_rfl

end Go.VX.Seat
end
section
set_option maxRecDepth 20000
/-! MADE BY PROGRAM (lits.py): functions as they are prepared. -/
namespace Go.VX.Seat
def v_r07_Copy : VFun :=
⟨.seq (.reg [⟨0, (some 1), .box (.tmp 0), none, []⟩,
 ⟨1, (some 2), .alloc [(.slice none 0 0), (.int .i64 0), (.int .i64 0), (.int .i64 0), (.int .i64 0), (.slice none 0 0)], none, []⟩])
 (.seq (.reg [⟨0, (some 3), .load (some 6) (.tmp 1), none, []⟩,
 ⟨1, (some 4), .fieldA 5 (.tmp 1), none, []⟩,
 ⟨2, (some 5), .load none (.tmp 4), none, []⟩,
 ⟨3, (some 6), .len (.tmp 5), none, []⟩,
 ⟨4, (some 7), .call 38 [(.tmp 3), (.tmp 6), (.con (.int .i64 1099511627776))], none, []⟩,
 ⟨5, none, .store 6 (.tmp 2) (.tmp 7), none, []⟩])
 (.ret)),
 [.cell 2 (some 6)]⟩
theorem p_r07_Copy : prepFun Go.Proofs.Tryd.prog [0] Go.Proofs.Tryd.f54 = some v_r07_Copy := by kernel_rfl

def v_r07_Find : VFun :=
⟨.seq (.reg [⟨0, (some 1), .box (.tmp 0), none, []⟩,
 ⟨1, (some 2), .mv (.con (.int .i64 0)), none, []⟩,
 ⟨2, (some 3), .mv (.con (.int .i64 0)), none, []⟩,
 ⟨3, (some 4), .mv (.con (.int .i64 0)), none, []⟩])
 (.seq (.seq (.reg [⟨0, (some 12), .fieldA 0 (.tmp 1), none, []⟩,
 ⟨1, (some 13), .load none (.tmp 12), none, []⟩,
 ⟨2, (some 14), .len (.tmp 13), none, []⟩,
 ⟨3, (some 15), .bin .gtr 3 true (.tmp 14) (.con (.int .i64 16)), none, []⟩,
 ⟨4, (some 16), .mv (.tmp 15), none, []⟩,
 ⟨5, (some 17), .fieldA 5 (.tmp 1), (some (16, false)), []⟩,
 ⟨6, (some 18), .load none (.tmp 17), (some (16, false)), []⟩,
 ⟨7, (some 19), .len (.tmp 18), (some (16, false)), []⟩,
 ⟨8, (some 20), .bin .gtr 3 true (.tmp 19) (.con (.int .i64 2000)), (some (16, false)), []⟩,
 ⟨9, (some 21), .pick (.tmp 16) (.con (.bool true)) (.tmp 20), none, []⟩,
 ⟨10, (some 22), .mv (.tmp 21), none, []⟩,
 ⟨11, (some 23), .fieldA 5 (.tmp 1), (some (22, false)), []⟩,
 ⟨12, (some 24), .load none (.tmp 23), (some (22, false)), []⟩,
 ⟨13, (some 25), .len (.tmp 24), (some (22, false)), []⟩,
 ⟨14, (some 26), .bin .eql 3 true (.tmp 25) (.con (.int .i64 0)), (some (22, false)), []⟩,
 ⟨15, (some 27), .pick (.tmp 22) (.con (.bool true)) (.tmp 26), none, []⟩,
 ⟨16, (some 28), .mv (.tmp 27), none, []⟩,
 ⟨17, (some 29), .fieldA 2 (.tmp 1), (some (28, false)), []⟩,
 ⟨18, (some 30), .load none (.tmp 29), (some (28, false)), []⟩,
 ⟨19, (some 31), .bin .gtr 3 true (.tmp 30) (.con (.int .i64 4096)), (some (28, false)), []⟩,
 ⟨20, (some 32), .pick (.tmp 28) (.con (.bool true)) (.tmp 31), none, []⟩,
 ⟨21, (some 33), .mv (.tmp 32), none, []⟩,
 ⟨22, (some 34), .fieldA 4 (.tmp 1), (some (33, false)), []⟩,
 ⟨23, (some 35), .load none (.tmp 34), (some (33, false)), []⟩,
 ⟨24, (some 36), .bin .gtr 3 true (.tmp 35) (.con (.int .i64 4096)), (some (33, false)), []⟩,
 ⟨25, (some 37), .pick (.tmp 33) (.con (.bool true)) (.tmp 36), none, []⟩])
 (.cond (.tmp 37)
 (.seq (.reg [⟨0, (some 2), .mv (.con (.int .i64 3)), none, []⟩,
 ⟨1, (some 3), .mv (.con (.int .i64 0)), none, []⟩,
 ⟨2, (some 4), .mv (.con (.int .i64 0)), none, []⟩])
 (.ret))
 (.skip)))
 (.seq (.seq (.reg [⟨0, (some 5), .mv (.con (.int .i64 0)), none, []⟩])
 (.block 0
 (.loop
 (.seq (.seq (.reg [⟨0, (some 38), .mv (.tmp 5), none, []⟩,
 ⟨1, (some 39), .fieldA 0 (.tmp 1), none, []⟩,
 ⟨2, (some 40), .load none (.tmp 39), none, []⟩,
 ⟨3, (some 41), .len (.tmp 40), none, []⟩,
 ⟨4, (some 42), .bin .lss 3 false (.tmp 38) (.tmp 41), none, []⟩])
 (.cond (.tmp 42)
 (.skip)
 (.exit 0)))
 (.seq (.block 1
 (.seq (.reg [⟨0, (some 45), .fieldA 0 (.tmp 1), none, []⟩,
 ⟨1, (some 46), .load none (.tmp 45), none, []⟩,
 ⟨2, (some 47), .mv (.tmp 5), none, []⟩,
 ⟨3, (some 48), .idxA none 1 (.tmp 46) (.tmp 47), none, []⟩,
 ⟨4, (some 49), .load none (.tmp 48), none, []⟩,
 ⟨5, (some 50), .bin .lss 3 true (.tmp 49) (.con (.int .i64 1)), none, []⟩,
 ⟨6, (some 51), .mv (.tmp 50), none, []⟩,
 ⟨7, (some 52), .fieldA 0 (.tmp 1), (some (51, false)), []⟩,
 ⟨8, (some 53), .load none (.tmp 52), (some (51, false)), []⟩,
 ⟨9, (some 54), .mv (.tmp 5), (some (51, false)), []⟩,
 ⟨10, (some 55), .idxA none 1 (.tmp 53) (.tmp 54), (some (51, false)), []⟩,
 ⟨11, (some 56), .load none (.tmp 55), (some (51, false)), []⟩,
 ⟨12, (some 57), .bin .gtr 3 true (.tmp 56) (.con (.int .i64 65536)), (some (51, false)), []⟩,
 ⟨13, (some 58), .pick (.tmp 51) (.con (.bool true)) (.tmp 57), none, []⟩])
 (.cond (.tmp 58)
 (.seq (.reg [⟨0, (some 2), .mv (.con (.int .i64 2)), none, []⟩,
 ⟨1, (some 3), .mv (.con (.int .i64 0)), none, []⟩,
 ⟨2, (some 4), .mv (.con (.int .i64 0)), none, []⟩])
 (.ret))
 (.skip))))
 (.reg [⟨0, (some 43), .mv (.tmp 5), none, []⟩,
 ⟨1, (some 44), .bin .add 3 true (.tmp 43) (.con (.int .i64 1)), none, []⟩,
 ⟨2, (some 5), .mv (.tmp 44), none, []⟩]))))))
 (.seq (.seq (.reg [⟨0, (some 59), .fieldA 2 (.tmp 1), none, []⟩,
 ⟨1, (some 60), .load none (.tmp 59), none, []⟩,
 ⟨2, (some 61), .bin .lss 3 true (.tmp 60) (.con (.int .i64 1)), none, []⟩,
 ⟨3, (some 62), .mv (.tmp 61), none, []⟩,
 ⟨4, (some 63), .fieldA 4 (.tmp 1), (some (62, false)), []⟩,
 ⟨5, (some 64), .load none (.tmp 63), (some (62, false)), []⟩,
 ⟨6, (some 65), .bin .lss 3 true (.tmp 64) (.con (.int .i64 0)), (some (62, false)), []⟩,
 ⟨7, (some 66), .pick (.tmp 62) (.con (.bool true)) (.tmp 65), none, []⟩,
 ⟨8, (some 67), .mv (.tmp 66), none, []⟩,
 ⟨9, (some 68), .fieldA 1 (.tmp 1), (some (67, false)), []⟩,
 ⟨10, (some 69), .load none (.tmp 68), (some (67, false)), []⟩,
 ⟨11, (some 70), .bin .lss 3 true (.tmp 69) (.con (.int .i64 0)), (some (67, false)), []⟩,
 ⟨12, (some 71), .pick (.tmp 67) (.con (.bool true)) (.tmp 70), none, []⟩,
 ⟨13, (some 72), .mv (.tmp 71), none, []⟩,
 ⟨14, (some 73), .fieldA 1 (.tmp 1), (some (72, false)), []⟩,
 ⟨15, (some 74), .load none (.tmp 73), (some (72, false)), []⟩,
 ⟨16, (some 75), .bin .gtr 3 true (.tmp 74) (.con (.int .i64 8)), (some (72, false)), []⟩,
 ⟨17, (some 76), .pick (.tmp 72) (.con (.bool true)) (.tmp 75), none, []⟩,
 ⟨18, (some 77), .mv (.tmp 76), none, []⟩,
 ⟨19, (some 78), .fieldA 1 (.tmp 1), (some (77, false)), []⟩,
 ⟨20, (some 79), .load none (.tmp 78), (some (77, false)), []⟩,
 ⟨21, (some 80), .fieldA 2 (.tmp 1), (some (77, false)), []⟩,
 ⟨22, (some 81), .load none (.tmp 80), (some (77, false)), []⟩,
 ⟨23, (some 82), .bin .gtr 3 false (.tmp 79) (.tmp 81), (some (77, false)), []⟩,
 ⟨24, (some 83), .pick (.tmp 77) (.con (.bool true)) (.tmp 82), none, []⟩,
 ⟨25, (some 84), .mv (.tmp 83), none, []⟩,
 ⟨26, (some 85), .load (some 6) (.tmp 1), (some (84, false)), []⟩,
 ⟨27, (some 86), .fieldA 3 (.tmp 1), (some (84, false)), []⟩,
 ⟨28, (some 87), .load none (.tmp 86), (some (84, false)), []⟩,
 ⟨29, (some 88), .call 71 [(.tmp 85), (.tmp 87)], (some (84, false)), []⟩,
 ⟨30, (some 89), .un .not (.tmp 88), (some (84, false)), []⟩,
 ⟨31, (some 90), .pick (.tmp 84) (.con (.bool true)) (.tmp 89), none, []⟩])
 (.cond (.tmp 90)
 (.seq (.reg [⟨0, (some 2), .mv (.con (.int .i64 2)), none, []⟩,
 ⟨1, (some 3), .mv (.con (.int .i64 0)), none, []⟩,
 ⟨2, (some 4), .mv (.con (.int .i64 0)), none, []⟩])
 (.ret))
 (.skip)))
 (.seq (.reg [⟨0, (some 6), .mv (.con (.int .i64 0)), none, []⟩])
 (.seq (.seq (.reg [⟨0, (some 7), .mv (.con (.int .i64 0)), none, []⟩])
 (.block 2
 (.loop
 (.seq (.seq (.reg [⟨0, (some 91), .mv (.tmp 7), none, []⟩,
 ⟨1, (some 92), .fieldA 5 (.tmp 1), none, []⟩,
 ⟨2, (some 93), .load none (.tmp 92), none, []⟩,
 ⟨3, (some 94), .len (.tmp 93), none, []⟩,
 ⟨4, (some 95), .bin .lss 3 false (.tmp 91) (.tmp 94), none, []⟩])
 (.cond (.tmp 95)
 (.skip)
 (.exit 2)))
 (.seq (.block 3
 (.seq (.reg [⟨0, (some 98), .fieldA 5 (.tmp 1), none, []⟩,
 ⟨1, (some 99), .load none (.tmp 98), none, []⟩,
 ⟨2, (some 100), .mv (.tmp 7), none, []⟩,
 ⟨3, (some 101), .idxA none 6 (.tmp 99) (.tmp 100), none, []⟩,
 ⟨4, (some 102), .load (some 6) (.tmp 101), none, []⟩,
 ⟨5, (some 8), .alloc [(.slice none 0 0), (.int .i64 0), (.int .i64 0), (.int .i64 0), (.int .i64 0), (.int .i64 0)], none, []⟩,
 ⟨6, none, .store 6 (.tmp 8) (.tmp 102), none, []⟩])
 (.seq (.seq (.reg [⟨0, (some 103), .fieldA 5 (.tmp 8), none, []⟩,
 ⟨1, (some 104), .load none (.tmp 103), none, []⟩,
 ⟨2, (some 105), .bin .lss 3 true (.tmp 104) (.con (.int .i64 (-1))), none, []⟩,
 ⟨3, (some 106), .mv (.tmp 105), none, []⟩,
 ⟨4, (some 107), .fieldA 5 (.tmp 8), (some (106, false)), []⟩,
 ⟨5, (some 108), .load none (.tmp 107), (some (106, false)), []⟩,
 ⟨6, (some 109), .fieldA 5 (.tmp 1), (some (106, false)), []⟩,
 ⟨7, (some 110), .load none (.tmp 109), (some (106, false)), []⟩,
 ⟨8, (some 111), .len (.tmp 110), (some (106, false)), []⟩,
 ⟨9, (some 112), .bin .geq 3 false (.tmp 108) (.tmp 111), (some (106, false)), []⟩,
 ⟨10, (some 113), .pick (.tmp 106) (.con (.bool true)) (.tmp 112), none, []⟩])
 (.cond (.tmp 113)
 (.seq (.reg [⟨0, (some 114), .mv (.tmp 7), none, []⟩,
 ⟨1, (some 115), .fieldA 0 (.tmp 8), none, []⟩,
 ⟨2, (some 116), .load none (.tmp 115), none, []⟩,
 ⟨3, (some 117), .len (.tmp 116), none, []⟩,
 ⟨4, (some 2), .mv (.con (.int .i64 2)), none, [(.tmp 115)]⟩,
 ⟨5, (some 3), .mv (.tmp 114), none, [(.tmp 115)]⟩,
 ⟨6, (some 4), .mv (.tmp 117), none, []⟩])
 (.ret))
 (.skip)))
 (.seq (.seq (.reg [⟨0, (some 118), .fieldA 0 (.tmp 8), none, []⟩,
 ⟨1, (some 119), .load none (.tmp 118), none, []⟩,
 ⟨2, (some 120), .len (.tmp 119), none, []⟩,
 ⟨3, (some 121), .bin .gtr 3 true (.tmp 120) (.con (.int .i64 400)), none, []⟩])
 (.cond (.tmp 121)
 (.seq (.reg [⟨0, (some 122), .mv (.tmp 7), none, []⟩,
 ⟨1, (some 123), .fieldA 0 (.tmp 8), none, []⟩,
 ⟨2, (some 124), .load none (.tmp 123), none, []⟩,
 ⟨3, (some 125), .len (.tmp 124), none, []⟩,
 ⟨4, (some 2), .mv (.con (.int .i64 3)), none, [(.tmp 123)]⟩,
 ⟨5, (some 3), .mv (.tmp 122), none, [(.tmp 123)]⟩,
 ⟨6, (some 4), .mv (.tmp 125), none, []⟩])
 (.ret))
 (.skip)))
 (.seq (.reg [⟨0, (some 126), .mv (.tmp 6), none, []⟩,
 ⟨1, (some 127), .fieldA 0 (.tmp 8), none, []⟩,
 ⟨2, (some 128), .load none (.tmp 127), none, []⟩,
 ⟨3, (some 129), .len (.tmp 128), none, []⟩,
 ⟨4, (some 130), .bin .add 3 false (.tmp 126) (.tmp 129), none, []⟩,
 ⟨5, (some 6), .mv (.tmp 130), none, []⟩])
 (.seq (.seq (.reg [⟨0, (some 9), .mv (.con (.int .i64 0)), none, []⟩])
 (.block 4
 (.loop
 (.seq (.seq (.reg [⟨0, (some 131), .mv (.tmp 9), none, []⟩,
 ⟨1, (some 132), .fieldA 0 (.tmp 8), none, []⟩,
 ⟨2, (some 133), .load none (.tmp 132), none, []⟩,
 ⟨3, (some 134), .len (.tmp 133), none, []⟩,
 ⟨4, (some 135), .bin .lss 3 false (.tmp 131) (.tmp 134), none, []⟩])
 (.cond (.tmp 135)
 (.skip)
 (.exit 4)))
 (.seq (.block 5
 (.seq (.reg [⟨0, (some 138), .load (some 6) (.tmp 1), none, []⟩,
 ⟨1, (some 139), .fieldA 0 (.tmp 8), none, []⟩,
 ⟨2, (some 140), .load none (.tmp 139), none, []⟩,
 ⟨3, (some 141), .mv (.tmp 9), none, []⟩,
 ⟨4, (some 142), .idxA none 7 (.tmp 140) (.tmp 141), none, []⟩,
 ⟨5, (some 143), .load (some 7) (.tmp 142), none, []⟩,
 ⟨6, (some 144), .call 72 [(.tmp 138), (.tmp 143)], none, []⟩,
 ⟨7, (some 10), .mv (.tmp 144), none, []⟩])
 (.seq (.reg [⟨0, (some 145), .mv (.tmp 10), none, []⟩,
 ⟨1, (some 146), .bin .neq 27 true (.tmp 145) (.con (.int .i64 0)), none, []⟩])
 (.cond (.tmp 146)
 (.seq (.reg [⟨0, (some 147), .mv (.tmp 10), none, []⟩,
 ⟨1, (some 148), .mv (.tmp 7), none, []⟩,
 ⟨2, (some 149), .mv (.tmp 9), none, []⟩,
 ⟨3, (some 2), .mv (.tmp 147), none, []⟩,
 ⟨4, (some 3), .mv (.tmp 148), none, []⟩,
 ⟨5, (some 4), .mv (.tmp 149), none, []⟩])
 (.ret))
 (.skip)))))
 (.reg [⟨0, (some 136), .mv (.tmp 9), none, []⟩,
 ⟨1, (some 137), .bin .add 3 true (.tmp 136) (.con (.int .i64 1)), none, []⟩,
 ⟨2, (some 9), .mv (.tmp 137), none, []⟩]))))))
 (.seq (.reg [⟨0, (some 150), .load (some 6) (.tmp 1), none, []⟩,
 ⟨1, (some 151), .fieldA 1 (.tmp 8), none, []⟩,
 ⟨2, (some 152), .load (some 4) (.tmp 151), none, []⟩,
 ⟨3, (some 153), .call 73 [(.tmp 150), (.tmp 152)], none, []⟩,
 ⟨4, (some 11), .mv (.tmp 153), none, []⟩])
 (.seq (.reg [⟨0, (some 154), .mv (.tmp 11), none, []⟩,
 ⟨1, (some 155), .bin .neq 27 true (.tmp 154) (.con (.int .i64 0)), none, []⟩])
 (.cond (.tmp 155)
 (.seq (.reg [⟨0, (some 156), .mv (.tmp 11), none, []⟩,
 ⟨1, (some 157), .mv (.tmp 7), none, []⟩,
 ⟨2, (some 158), .fieldA 0 (.tmp 8), none, []⟩,
 ⟨3, (some 159), .load none (.tmp 158), none, []⟩,
 ⟨4, (some 160), .len (.tmp 159), none, []⟩,
 ⟨5, (some 2), .mv (.tmp 156), none, [(.tmp 158)]⟩,
 ⟨6, (some 3), .mv (.tmp 157), none, [(.tmp 158)]⟩,
 ⟨7, (some 4), .mv (.tmp 160), none, []⟩])
 (.ret))
 (.skip))))))))))
 (.reg [⟨0, (some 96), .mv (.tmp 7), none, []⟩,
 ⟨1, (some 97), .bin .add 3 true (.tmp 96) (.con (.int .i64 1)), none, []⟩,
 ⟨2, (some 7), .mv (.tmp 97), none, []⟩]))))))
 (.seq (.seq (.reg [⟨0, (some 161), .mv (.tmp 6), none, []⟩,
 ⟨1, (some 162), .bin .gtr 3 true (.tmp 161) (.con (.int .i64 20000)), none, []⟩])
 (.cond (.tmp 162)
 (.seq (.reg [⟨0, (some 2), .mv (.con (.int .i64 3)), none, []⟩,
 ⟨1, (some 3), .mv (.con (.int .i64 0)), none, []⟩,
 ⟨2, (some 4), .mv (.con (.int .i64 0)), none, []⟩])
 (.ret))
 (.skip)))
 (.seq (.reg [⟨0, (some 2), .mv (.con (.int .i64 0)), none, []⟩,
 ⟨1, (some 3), .mv (.con (.int .i64 0)), none, []⟩,
 ⟨2, (some 4), .mv (.con (.int .i64 0)), none, []⟩])
 (.ret)))))))),
 [.tmp 2, .tmp 3, .tmp 4]⟩
theorem p_r07_Find : prepFun Go.Proofs.Tryd.prog [0] Go.Proofs.Tryd.f55 = some v_r07_Find := by kernel_rfl

def v_trace_likely : VFun :=
⟨.seq (.reg [⟨0, (some 3), .box (.tmp 0), none, []⟩,
 ⟨1, (some 6), .mv (.con (.int .i64 0)), none, []⟩,
 ⟨2, (some 7), .mv (.con (.bool false)), none, []⟩])
 (.seq (.reg [⟨0, (some 10), .fieldA 5 (.tmp 3), none, []⟩,
 ⟨1, (some 11), .load none (.tmp 10), none, []⟩,
 ⟨2, (some 12), .mv (.tmp 2), none, []⟩,
 ⟨3, (some 13), .idxA none 6 (.tmp 11) (.tmp 12), none, []⟩,
 ⟨4, (some 14), .fieldA 1 (.tmp 13), none, []⟩,
 ⟨5, (some 15), .load (some 4) (.tmp 14), none, []⟩,
 ⟨6, (some 16), .mv (.tmp 1), none, []⟩,
 ⟨7, (some 17), .mv (.tmp 2), none, []⟩,
 ⟨8, (some 18), .idxA none 3 (.tmp 16) (.tmp 17), none, []⟩,
 ⟨9, (some 19), .load (some 3) (.tmp 18), none, []⟩,
 ⟨10, (some 8), .alloc [(.int .i64 0), (.int .i64 0), (.int .i64 0), (.int .i64 0)], none, []⟩,
 ⟨11, (some 9), .alloc [(.int .i64 0), (.int .i64 0), (.int .i64 0)], none, []⟩,
 ⟨12, none, .store 4 (.tmp 8) (.tmp 15), none, [(.tmp 18)]⟩,
 ⟨13, none, .store 3 (.tmp 9) (.tmp 19), none, []⟩])
 (.seq (.block 0
 (.seq (.reg [⟨0, (some 21), .fieldA 0 (.tmp 8), none, []⟩,
 ⟨1, (some 22), .load none (.tmp 21), none, []⟩,
 ⟨2, (some 23), .bin .eql 3 true (.tmp 22) (.con (.int .i64 1)), none, []⟩,
 ⟨3, (some 20), .mv (.tmp 23), none, []⟩])
 (.cond (.tmp 20)
 (.seq (.reg [⟨0, (some 24), .fieldA 1 (.tmp 9), none, []⟩,
 ⟨1, (some 25), .load none (.tmp 24), none, []⟩,
 ⟨2, (some 26), .bin .gtr 3 true (.tmp 25) (.con (.int .i64 0)), none, []⟩,
 ⟨3, (some 6), .mv (.con (.int .i64 0)), none, [(.tmp 24)]⟩,
 ⟨4, (some 7), .mv (.tmp 26), none, []⟩])
 (.ret))
 (.seq (.reg [⟨0, (some 28), .fieldA 0 (.tmp 8), none, []⟩,
 ⟨1, (some 29), .load none (.tmp 28), none, []⟩,
 ⟨2, (some 30), .bin .neq 3 true (.tmp 29) (.con (.int .i64 2)), none, []⟩,
 ⟨3, (some 27), .mv (.tmp 30), none, []⟩])
 (.cond (.tmp 27)
 (.seq (.reg [⟨0, (some 6), .mv (.con (.int .i64 0)), none, []⟩,
 ⟨1, (some 7), .mv (.con (.bool false)), none, []⟩])
 (.ret))
 (.seq (.reg [⟨0, (some 32), .fieldA 1 (.tmp 9), none, []⟩,
 ⟨1, (some 33), .load none (.tmp 32), none, []⟩,
 ⟨2, (some 34), .fieldA 2 (.tmp 9), none, []⟩,
 ⟨3, (some 35), .load none (.tmp 34), none, []⟩,
 ⟨4, (some 36), .bin .geq 3 false (.tmp 33) (.tmp 35), none, []⟩,
 ⟨5, (some 31), .mv (.tmp 36), none, []⟩])
 (.cond (.tmp 31)
 (.seq (.reg [⟨0, (some 37), .fieldA 1 (.tmp 9), none, []⟩,
 ⟨1, (some 38), .load none (.tmp 37), none, []⟩,
 ⟨2, (some 39), .bin .gtr 3 true (.tmp 38) (.con (.int .i64 0)), none, []⟩,
 ⟨3, (some 6), .mv (.con (.int .i64 1)), none, [(.tmp 37)]⟩,
 ⟨4, (some 7), .mv (.tmp 39), none, []⟩])
 (.ret))
 (.skip))))))))
 (.seq (.reg [⟨0, (some 40), .fieldA 2 (.tmp 9), none, []⟩,
 ⟨1, (some 41), .load none (.tmp 40), none, []⟩,
 ⟨2, (some 42), .bin .gtr 3 true (.tmp 41) (.con (.int .i64 0)), none, []⟩,
 ⟨3, (some 6), .mv (.con (.int .i64 2)), none, [(.tmp 40)]⟩,
 ⟨4, (some 7), .mv (.tmp 42), none, []⟩])
 (.ret)))),
 [.tmp 6, .tmp 7]⟩
theorem p_trace_likely : prepFun Go.Proofs.Tryd.prog [0] Go.Proofs.Tryd.f56 = some v_trace_likely := by kernel_rfl

def v_trace_trace : VFun :=
⟨.seq (.reg [⟨0, (some 3), .box (.tmp 0), none, []⟩,
 ⟨1, (some 6), .mv (.con (.slice none 0 0)), none, []⟩])
 (.seq (.reg [⟨0, (some 11), .mv (.tmp 2), none, []⟩,
 ⟨1, (some 12), .bslice 1 1 [(.int .i64 0)] [(0, 1, (.tmp 11))], none, []⟩,
 ⟨2, (some 7), .mv (.tmp 12), none, []⟩])
 (.block 0
 (.loop
 (.block 1
 (.seq (.reg [⟨0, (some 14), .load (some 6) (.tmp 3), none, []⟩,
 ⟨1, (some 15), .mv (.tmp 1), none, []⟩,
 ⟨2, (some 16), .mv (.tmp 2), none, []⟩,
 ⟨3, (some 17), .call 56 [(.tmp 14), (.tmp 15), (.tmp 16)], none, []⟩,
 ⟨4, (some 13), .mv (.tmp 17), none, []⟩,
 ⟨5, (some 18), .ext (.tmp 13) 0, none, []⟩,
 ⟨6, (some 19), .ext (.tmp 13) 1, none, []⟩,
 ⟨7, (some 8), .mv (.tmp 18), none, []⟩,
 ⟨8, (some 9), .mv (.tmp 19), none, []⟩])
 (.seq (.seq (.reg [⟨0, (some 20), .mv (.tmp 9), none, []⟩,
 ⟨1, (some 21), .un .not (.tmp 20), none, []⟩])
 (.cond (.tmp 21)
 (.seq (.reg [⟨0, (some 22), .mv (.tmp 7), none, []⟩,
 ⟨1, (some 6), .mv (.tmp 22), none, []⟩])
 (.ret))
 (.skip)))
 (.seq (.reg [⟨0, (some 24), .load (some 6) (.tmp 3), none, []⟩,
 ⟨1, (some 25), .mv (.tmp 2), none, []⟩,
 ⟨2, (some 26), .mv (.tmp 8), none, []⟩,
 ⟨3, (some 27), .call 40 [(.tmp 24), (.tmp 25), (.tmp 26)], none, []⟩,
 ⟨4, (some 23), .mv (.tmp 27), none, []⟩,
 ⟨5, (some 28), .ext (.tmp 23) 0, none, []⟩,
 ⟨6, (some 29), .ext (.tmp 23) 1, none, []⟩,
 ⟨7, (some 10), .mv (.tmp 28), none, []⟩,
 ⟨8, (some 9), .mv (.tmp 29), none, []⟩])
 (.seq (.seq (.reg [⟨0, (some 30), .mv (.tmp 9), none, []⟩,
 ⟨1, (some 31), .un .not (.tmp 30), none, []⟩,
 ⟨2, (some 32), .mv (.tmp 31), none, []⟩,
 ⟨3, (some 33), .mv (.tmp 7), (some (32, false)), []⟩,
 ⟨4, (some 34), .mv (.tmp 10), (some (32, false)), []⟩,
 ⟨5, (some 35), .call 74 [(.tmp 33), (.tmp 34)], (some (32, false)), []⟩,
 ⟨6, (some 36), .pick (.tmp 32) (.con (.bool true)) (.tmp 35), none, []⟩])
 (.cond (.tmp 36)
 (.seq (.reg [⟨0, (some 37), .mv (.tmp 7), none, []⟩,
 ⟨1, (some 6), .mv (.tmp 37), none, []⟩])
 (.ret))
 (.skip)))
 (.seq (.reg [⟨0, (some 38), .mv (.tmp 7), none, []⟩,
 ⟨1, (some 39), .mv (.tmp 10), none, []⟩,
 ⟨2, (some 40), .bslice 1 1 [(.int .i64 0)] [(0, 1, (.tmp 39))], none, []⟩,
 ⟨3, (some 41), .append 1 8 (.tmp 38) (.tmp 40), none, []⟩,
 ⟨4, (some 7), .mv (.tmp 41), none, []⟩])
 (.reg [⟨0, (some 42), .mv (.tmp 10), none, []⟩,
 ⟨1, (some 2), .mv (.tmp 42), none, []⟩])))))))))),
 [.tmp 6]⟩
theorem p_trace_trace : prepFun Go.Proofs.Tryd.prog [0] Go.Proofs.Tryd.f57 = some v_trace_trace := by kernel_rfl

def v_r17_in : VFun :=
⟨.seq (.reg [⟨0, (some 4), .mv (.con (.bool false)), none, []⟩])
 (.seq (.seq (.reg [⟨0, (some 5), .mv (.con (.int .i64 0)), none, []⟩])
 (.block 0
 (.loop
 (.seq (.seq (.reg [⟨0, (some 6), .mv (.tmp 5), none, []⟩,
 ⟨1, (some 7), .mv (.tmp 0), none, []⟩,
 ⟨2, (some 8), .len (.tmp 7), none, []⟩,
 ⟨3, (some 9), .bin .lss 3 false (.tmp 6) (.tmp 8), none, []⟩])
 (.cond (.tmp 9)
 (.skip)
 (.exit 0)))
 (.seq (.block 1
 (.seq (.reg [⟨0, (some 12), .mv (.tmp 0), none, []⟩,
 ⟨1, (some 13), .mv (.tmp 5), none, []⟩,
 ⟨2, (some 14), .idxA none 1 (.tmp 12) (.tmp 13), none, []⟩,
 ⟨3, (some 15), .load none (.tmp 14), none, []⟩,
 ⟨4, (some 16), .mv (.tmp 1), none, []⟩,
 ⟨5, (some 17), .bin .eql 3 false (.tmp 15) (.tmp 16), none, []⟩])
 (.cond (.tmp 17)
 (.seq (.reg [⟨0, (some 4), .mv (.con (.bool true)), none, []⟩])
 (.ret))
 (.skip))))
 (.reg [⟨0, (some 10), .mv (.tmp 5), none, []⟩,
 ⟨1, (some 11), .bin .add 3 true (.tmp 10) (.con (.int .i64 1)), none, []⟩,
 ⟨2, (some 5), .mv (.tmp 11), none, []⟩]))))))
 (.seq (.reg [⟨0, (some 4), .mv (.con (.bool false)), none, []⟩])
 (.ret))),
 [.tmp 4]⟩
theorem p_r17_in : prepFun Go.Proofs.Tryd.prog [0] Go.Proofs.Tryd.f58 = some v_r17_in := by kernel_rfl

def v_slices_Clone_int : VFun :=
⟨.seq (.reg [⟨0, (some 2), .mv (.con (.slice none 0 0)), none, []⟩])
 (.seq (.seq (.reg [⟨0, (some 3), .mv (.tmp 0), none, []⟩,
 ⟨1, (some 4), .isnil 1 false (.tmp 3), none, []⟩])
 (.cond (.tmp 4)
 (.seq (.reg [⟨0, (some 2), .mv (.con (.slice none 0 0)), none, []⟩])
 (.ret))
 (.skip)))
 (.seq (.reg [⟨0, (some 5), .bslice 1 0 [(.int .i64 0)] [], none, []⟩,
 ⟨1, (some 6), .mv (.tmp 0), none, []⟩,
 ⟨2, (some 7), .append 1 8 (.tmp 5) (.tmp 6), none, []⟩,
 ⟨3, (some 2), .mv (.tmp 7), none, []⟩])
 (.ret))),
 [.tmp 2]⟩
theorem p_slices_Clone_int : prepFun Go.Proofs.Tryd.prog [0] Go.Proofs.Tryd.f65 = some v_slices_Clone_int := by kernel_rfl

def v_slices_Clone_Block : VFun :=
⟨.seq (.reg [⟨0, (some 2), .mv (.con (.slice none 0 0)), none, []⟩])
 (.seq (.seq (.reg [⟨0, (some 3), .mv (.tmp 0), none, []⟩,
 ⟨1, (some 4), .isnil 1 false (.tmp 3), none, []⟩])
 (.cond (.tmp 4)
 (.seq (.reg [⟨0, (some 2), .mv (.con (.slice none 0 0)), none, []⟩])
 (.ret))
 (.skip)))
 (.seq (.reg [⟨0, (some 5), .bslice 6 0 [(.slice none 0 0), (.int .i64 0), (.int .i64 0), (.int .i64 0), (.int .i64 0), (.int .i64 0)] [], none, []⟩,
 ⟨1, (some 6), .mv (.tmp 0), none, []⟩,
 ⟨2, (some 7), .append 6 64 (.tmp 5) (.tmp 6), none, []⟩,
 ⟨3, (some 2), .mv (.tmp 7), none, []⟩])
 (.ret))),
 [.tmp 2]⟩
theorem p_slices_Clone_Block : prepFun Go.Proofs.Tryd.prog [0] Go.Proofs.Tryd.f66 = some v_slices_Clone_Block := by kernel_rfl

def v_slices_Clone_Op : VFun :=
⟨.seq (.reg [⟨0, (some 2), .mv (.con (.slice none 0 0)), none, []⟩])
 (.seq (.seq (.reg [⟨0, (some 3), .mv (.tmp 0), none, []⟩,
 ⟨1, (some 4), .isnil 1 false (.tmp 3), none, []⟩])
 (.cond (.tmp 4)
 (.seq (.reg [⟨0, (some 2), .mv (.con (.slice none 0 0)), none, []⟩])
 (.ret))
 (.skip)))
 (.seq (.reg [⟨0, (some 5), .bslice 7 0 [(.int .i64 0), (.int .i64 0), (.int .i64 0), (.int .i64 0), (.int .i64 0), (.int .i64 0), (.int .i64 0)] [], none, []⟩,
 ⟨1, (some 6), .mv (.tmp 0), none, []⟩,
 ⟨2, (some 7), .append 7 56 (.tmp 5) (.tmp 6), none, []⟩,
 ⟨3, (some 2), .mv (.tmp 7), none, []⟩])
 (.ret))),
 [.tmp 2]⟩
theorem p_slices_Clone_Op : prepFun Go.Proofs.Tryd.prog [0] Go.Proofs.Tryd.f67 = some v_slices_Clone_Op := by kernel_rfl

def v_r07_SameOps : VFun :=
⟨.seq (.reg [⟨0, (some 4), .mv (.con (.bool false)), none, []⟩])
 (.seq (.seq (.reg [⟨0, (some 6), .mv (.tmp 0), none, []⟩,
 ⟨1, (some 7), .len (.tmp 6), none, []⟩,
 ⟨2, (some 8), .mv (.tmp 1), none, []⟩,
 ⟨3, (some 9), .len (.tmp 8), none, []⟩,
 ⟨4, (some 10), .bin .neq 3 false (.tmp 7) (.tmp 9), none, []⟩])
 (.cond (.tmp 10)
 (.seq (.reg [⟨0, (some 4), .mv (.con (.bool false)), none, []⟩])
 (.ret))
 (.skip)))
 (.seq (.seq (.reg [⟨0, (some 5), .mv (.con (.int .i64 0)), none, []⟩])
 (.block 0
 (.loop
 (.seq (.seq (.reg [⟨0, (some 11), .mv (.tmp 5), none, []⟩,
 ⟨1, (some 12), .mv (.tmp 0), none, []⟩,
 ⟨2, (some 13), .len (.tmp 12), none, []⟩,
 ⟨3, (some 14), .bin .lss 3 false (.tmp 11) (.tmp 13), none, []⟩])
 (.cond (.tmp 14)
 (.skip)
 (.exit 0)))
 (.seq (.block 1
 (.seq (.reg [⟨0, (some 17), .mv (.tmp 0), none, []⟩,
 ⟨1, (some 18), .mv (.tmp 5), none, []⟩,
 ⟨2, (some 19), .idxA none 7 (.tmp 17) (.tmp 18), none, []⟩,
 ⟨3, (some 20), .load (some 7) (.tmp 19), none, []⟩,
 ⟨4, (some 21), .mv (.tmp 1), none, []⟩,
 ⟨5, (some 22), .mv (.tmp 5), none, []⟩,
 ⟨6, (some 23), .idxA none 7 (.tmp 21) (.tmp 22), none, []⟩,
 ⟨7, (some 24), .load (some 7) (.tmp 23), none, []⟩,
 ⟨8, (some 25), .bin .neq 51 false (.tmp 20) (.tmp 24), none, []⟩])
 (.cond (.tmp 25)
 (.seq (.reg [⟨0, (some 4), .mv (.con (.bool false)), none, []⟩])
 (.ret))
 (.skip))))
 (.reg [⟨0, (some 15), .mv (.tmp 5), none, []⟩,
 ⟨1, (some 16), .bin .add 3 true (.tmp 15) (.con (.int .i64 1)), none, []⟩,
 ⟨2, (some 5), .mv (.tmp 16), none, []⟩]))))))
 (.seq (.reg [⟨0, (some 4), .mv (.con (.bool true)), none, []⟩])
 (.ret)))),
 [.tmp 4]⟩
theorem p_r07_SameOps : prepFun Go.Proofs.Tryd.prog [0] Go.Proofs.Tryd.f69 = some v_r07_SameOps := by kernel_rfl

def v_trace_longer : VFun :=
⟨.seq (.reg [⟨0, (some 3), .box (.tmp 1), none, []⟩,
 ⟨1, (some 4), .mv (.con (.int .i64 0)), none, []⟩])
 (.seq (.reg [⟨0, (some 5), .bslice 1 3 [(.int .i64 0)] [(0, 1, (.con (.int .i64 0))), (1, 1, (.con (.int .i64 3))), (2, 1, (.con (.int .i64 1)))], none, []⟩,
 ⟨1, (some 6), .mv (.tmp 0), none, []⟩,
 ⟨2, (some 7), .idxA none 1 (.tmp 5) (.tmp 6), none, []⟩,
 ⟨3, (some 8), .load none (.tmp 7), none, []⟩,
 ⟨4, (some 9), .fieldA 0 (.tmp 3), none, []⟩,
 ⟨5, (some 10), .load none (.tmp 9), none, []⟩,
 ⟨6, (some 11), .len (.tmp 10), none, []⟩,
 ⟨7, (some 12), .bin .add 3 false (.tmp 8) (.tmp 11), none, []⟩,
 ⟨8, (some 4), .mv (.tmp 12), none, []⟩])
 (.ret)),
 [.tmp 4]⟩
theorem p_trace_longer : prepFun Go.Proofs.Tryd.prog [0] Go.Proofs.Tryd.f70 = some v_trace_longer := by kernel_rfl

def v_r07_register : VFun :=
⟨.seq (.reg [⟨0, (some 2), .box (.tmp 0), none, []⟩,
 ⟨1, (some 4), .mv (.con (.bool false)), none, []⟩])
 (.seq (.reg [⟨0, (some 5), .mv (.tmp 1), none, []⟩,
 ⟨1, (some 6), .bin .geq 3 true (.tmp 5) (.con (.int .i64 0)), none, []⟩,
 ⟨2, (some 7), .mv (.tmp 6), none, []⟩,
 ⟨3, (some 8), .mv (.tmp 1), (some (7, true)), []⟩,
 ⟨4, (some 9), .fieldA 2 (.tmp 2), (some (7, true)), []⟩,
 ⟨5, (some 10), .load none (.tmp 9), (some (7, true)), []⟩,
 ⟨6, (some 11), .bin .lss 3 false (.tmp 8) (.tmp 10), (some (7, true)), []⟩,
 ⟨7, (some 12), .pick (.tmp 7) (.tmp 11) (.con (.bool false)), none, []⟩,
 ⟨8, (some 4), .mv (.tmp 12), none, []⟩])
 (.ret)),
 [.tmp 4]⟩
theorem p_r07_register : prepFun Go.Proofs.Tryd.prog [0] Go.Proofs.Tryd.f71 = some v_r07_register := by kernel_rfl

def v_r07_op : VFun :=
⟨.seq (.reg [⟨0, (some 2), .box (.tmp 0), none, []⟩,
 ⟨1, (some 3), .box (.tmp 1), none, []⟩,
 ⟨2, (some 4), .mv (.con (.int .i64 0)), none, []⟩])
 (.seq (.seq (.reg [⟨0, (some 10), .fieldA 0 (.tmp 3), none, []⟩,
 ⟨1, (some 11), .load none (.tmp 10), none, []⟩,
 ⟨2, (some 12), .call 81 [(.tmp 11)], none, []⟩,
 ⟨3, (some 13), .un .not (.tmp 12), none, []⟩])
 (.cond (.tmp 13)
 (.seq (.reg [⟨0, (some 4), .mv (.con (.int .i64 4)), none, []⟩])
 (.ret))
 (.skip)))
 (.seq (.reg [⟨0, (some 14), .fieldA 0 (.tmp 3), none, []⟩,
 ⟨1, (some 15), .load none (.tmp 14), none, []⟩,
 ⟨3, (some 17), .fieldA 0 (.tmp 3), none, []⟩,
 ⟨4, (some 18), .load none (.tmp 17), none, []⟩,
 ⟨6, (some 20), .fieldA 0 (.tmp 3), none, []⟩,
 ⟨7, (some 21), .load none (.tmp 20), none, []⟩,
 ⟨9, (some 23), .fieldA 0 (.tmp 3), none, []⟩,
 ⟨10, (some 24), .load none (.tmp 23), none, []⟩,
 ⟨2, (some 16), .call 82 [(.tmp 15)], none, [(.tmp 17), (.tmp 20), (.tmp 23)]⟩,
 ⟨5, (some 19), .call 83 [(.tmp 18)], none, [(.tmp 20), (.tmp 23)]⟩,
 ⟨8, (some 22), .call 84 [(.tmp 21)], none, [(.tmp 23)]⟩,
 ⟨11, (some 25), .call 85 [(.tmp 24)], none, []⟩,
 ⟨12, (some 26), .bslice 1 4 [(.bool false)] [(0, 1, (.tmp 16)), (1, 1, (.tmp 19)), (2, 1, (.tmp 22)), (3, 1, (.tmp 25))], none, []⟩,
 ⟨13, (some 5), .mv (.tmp 26), none, []⟩])
 (.seq (.reg [⟨0, (some 27), .fieldA 1 (.tmp 3), none, []⟩,
 ⟨1, (some 28), .load none (.tmp 27), none, []⟩,
 ⟨2, (some 29), .fieldA 2 (.tmp 3), none, []⟩,
 ⟨3, (some 30), .load none (.tmp 29), none, []⟩,
 ⟨4, (some 31), .fieldA 3 (.tmp 3), none, []⟩,
 ⟨5, (some 32), .load none (.tmp 31), none, []⟩,
 ⟨6, (some 33), .fieldA 4 (.tmp 3), none, []⟩,
 ⟨7, (some 34), .load none (.tmp 33), none, []⟩,
 ⟨8, (some 35), .bslice 1 4 [(.int .i64 0)] [(0, 1, (.tmp 28)), (1, 1, (.tmp 30)), (2, 1, (.tmp 32)), (3, 1, (.tmp 34))], none, []⟩,
 ⟨9, (some 6), .mv (.tmp 35), none, []⟩])
 (.seq (.seq (.reg [⟨0, (some 7), .mv (.con (.int .i64 0)), none, []⟩])
 (.block 0
 (.loop
 (.seq (.seq (.reg [⟨0, (some 36), .mv (.tmp 7), none, []⟩,
 ⟨1, (some 37), .bin .lss 3 true (.tmp 36) (.con (.int .i64 4)), none, []⟩])
 (.cond (.tmp 37)
 (.skip)
 (.exit 0)))
 (.seq (.block 1
 (.seq (.reg [⟨0, (some 40), .mv (.tmp 5), none, []⟩,
 ⟨1, (some 41), .mv (.tmp 7), none, []⟩,
 ⟨2, (some 42), .idxA none 1 (.tmp 40) (.tmp 41), none, []⟩,
 ⟨3, (some 43), .load none (.tmp 42), none, []⟩,
 ⟨4, (some 44), .mv (.tmp 43), none, []⟩,
 ⟨5, (some 45), .load (some 6) (.tmp 2), (some (44, true)), []⟩,
 ⟨6, (some 46), .mv (.tmp 6), (some (44, true)), []⟩,
 ⟨7, (some 47), .mv (.tmp 7), (some (44, true)), []⟩,
 ⟨8, (some 48), .idxA none 1 (.tmp 46) (.tmp 47), (some (44, true)), []⟩,
 ⟨9, (some 49), .load none (.tmp 48), (some (44, true)), []⟩,
 ⟨10, (some 50), .call 71 [(.tmp 45), (.tmp 49)], (some (44, true)), []⟩,
 ⟨11, (some 51), .un .not (.tmp 50), (some (44, true)), []⟩,
 ⟨12, (some 52), .pick (.tmp 44) (.tmp 51) (.con (.bool false)), none, []⟩])
 (.cond (.tmp 52)
 (.seq (.reg [⟨0, (some 4), .mv (.con (.int .i64 2)), none, []⟩])
 (.ret))
 (.skip))))
 (.reg [⟨0, (some 38), .mv (.tmp 7), none, []⟩,
 ⟨1, (some 39), .bin .add 3 true (.tmp 38) (.con (.int .i64 1)), none, []⟩,
 ⟨2, (some 7), .mv (.tmp 39), none, []⟩]))))))
 (.seq (.seq (.reg [⟨0, (some 53), .fieldA 6 (.tmp 3), none, []⟩,
 ⟨1, (some 54), .load none (.tmp 53), none, []⟩,
 ⟨2, (some 55), .bin .neq 3 true (.tmp 54) (.con (.int .i64 (-1))), none, []⟩,
 ⟨3, (some 56), .mv (.tmp 55), none, []⟩,
 ⟨4, (some 57), .load (some 6) (.tmp 2), (some (56, true)), []⟩,
 ⟨5, (some 58), .fieldA 6 (.tmp 3), (some (56, true)), []⟩,
 ⟨6, (some 59), .load none (.tmp 58), (some (56, true)), []⟩,
 ⟨7, (some 60), .call 71 [(.tmp 57), (.tmp 59)], (some (56, true)), []⟩,
 ⟨8, (some 61), .un .not (.tmp 60), (some (56, true)), []⟩,
 ⟨9, (some 62), .pick (.tmp 56) (.tmp 61) (.con (.bool false)), none, []⟩])
 (.cond (.tmp 62)
 (.seq (.reg [⟨0, (some 4), .mv (.con (.int .i64 2)), none, []⟩])
 (.ret))
 (.skip)))
 (.seq (.reg [⟨0, (some 8), .mv (.con (.int .i64 (-1))), none, []⟩])
 (.seq (.block 2
 (.seq (.reg [⟨0, (some 64), .fieldA 0 (.tmp 3), none, []⟩,
 ⟨1, (some 65), .load none (.tmp 64), none, []⟩,
 ⟨2, (some 66), .call 86 [(.tmp 65)], none, []⟩,
 ⟨3, (some 63), .mv (.tmp 66), none, []⟩])
 (.cond (.tmp 63)
 (.reg [⟨0, (some 67), .fieldA 0 (.tmp 2), none, []⟩,
 ⟨1, (some 68), .load none (.tmp 67), none, []⟩,
 ⟨2, (some 69), .len (.tmp 68), none, []⟩,
 ⟨3, (some 8), .mv (.tmp 69), none, []⟩])
 (.seq (.reg [⟨0, (some 71), .fieldA 0 (.tmp 3), none, []⟩,
 ⟨1, (some 72), .load none (.tmp 71), none, []⟩,
 ⟨2, (some 73), .call 87 [(.tmp 72)], none, []⟩,
 ⟨3, (some 70), .mv (.tmp 73), none, []⟩])
 (.cond (.tmp 70)
 (.reg [⟨0, (some 74), .fieldA 4 (.tmp 2), none, []⟩,
 ⟨1, (some 75), .load none (.tmp 74), none, []⟩,
 ⟨2, (some 8), .mv (.tmp 75), none, []⟩])
 (.seq (.reg [⟨0, (some 77), .fieldA 0 (.tmp 3), none, []⟩,
 ⟨1, (some 78), .load none (.tmp 77), none, []⟩,
 ⟨2, (some 79), .bin .eql 3 true (.tmp 78) (.con (.int .i64 21)), none, []⟩,
 ⟨3, (some 76), .mv (.tmp 79), none, []⟩])
 (.cond (.tmp 76)
 (.reg [⟨0, (some 80), .fieldA 5 (.tmp 2), none, []⟩,
 ⟨1, (some 81), .load none (.tmp 80), none, []⟩,
 ⟨2, (some 82), .len (.tmp 81), none, []⟩,
 ⟨3, (some 8), .mv (.tmp 82), none, []⟩])
 (.skip))))))))
 (.seq (.seq (.reg [⟨0, (some 83), .mv (.tmp 8), none, []⟩,
 ⟨1, (some 84), .bin .geq 3 true (.tmp 83) (.con (.int .i64 0)), none, []⟩,
 ⟨2, (some 85), .mv (.tmp 84), none, []⟩,
 ⟨3, (some 86), .fieldA 5 (.tmp 3), (some (85, true)), []⟩,
 ⟨4, (some 87), .load none (.tmp 86), (some (85, true)), []⟩,
 ⟨5, (some 88), .bin .lss 2 true (.tmp 87) (.con (.int .i64 0)), (some (85, true)), []⟩,
 ⟨6, (some 89), .mv (.tmp 88), (some (85, true)), []⟩,
 ⟨7, (some 90), .fieldA 5 (.tmp 3), (some (89, false)), []⟩,
 ⟨8, (some 91), .load none (.tmp 90), (some (89, false)), []⟩,
 ⟨9, (some 92), .mv (.tmp 8), (some (89, false)), []⟩,
 ⟨10, (some 93), .bin .geq 2 false (.tmp 91) (.tmp 92), (some (89, false)), []⟩,
 ⟨11, (some 94), .pick (.tmp 89) (.con (.bool true)) (.tmp 93), (some (85, true)), []⟩,
 ⟨12, (some 95), .pick (.tmp 85) (.tmp 94) (.con (.bool false)), none, []⟩])
 (.cond (.tmp 95)
 (.seq (.reg [⟨0, (some 4), .mv (.con (.int .i64 5)), none, []⟩])
 (.ret))
 (.skip)))
 (.seq (.seq (.reg [⟨0, (some 9), .mv (.con (.int .i64 0)), none, []⟩])
 (.block 3
 (.loop
 (.seq (.seq (.reg [⟨0, (some 96), .mv (.tmp 9), none, []⟩,
 ⟨1, (some 97), .bin .lss 3 true (.tmp 96) (.con (.int .i64 4)), none, []⟩])
 (.cond (.tmp 97)
 (.skip)
 (.exit 3)))
 (.seq (.block 4
 (.seq (.reg [⟨0, (some 100), .mv (.tmp 5), none, []⟩,
 ⟨1, (some 101), .mv (.tmp 9), none, []⟩,
 ⟨2, (some 102), .idxA none 1 (.tmp 100) (.tmp 101), none, []⟩,
 ⟨3, (some 103), .load none (.tmp 102), none, []⟩,
 ⟨4, (some 104), .un .not (.tmp 103), none, []⟩,
 ⟨5, (some 105), .mv (.tmp 104), none, []⟩,
 ⟨6, (some 106), .mv (.tmp 6), (some (105, true)), []⟩,
 ⟨7, (some 107), .mv (.tmp 9), (some (105, true)), []⟩,
 ⟨8, (some 108), .idxA none 1 (.tmp 106) (.tmp 107), (some (105, true)), []⟩,
 ⟨9, (some 109), .load none (.tmp 108), (some (105, true)), []⟩,
 ⟨10, (some 110), .bin .neq 3 true (.tmp 109) (.con (.int .i64 0)), (some (105, true)), []⟩,
 ⟨11, (some 111), .pick (.tmp 105) (.tmp 110) (.con (.bool false)), none, []⟩])
 (.cond (.tmp 111)
 (.seq (.reg [⟨0, (some 4), .mv (.con (.int .i64 4)), none, []⟩])
 (.ret))
 (.skip))))
 (.reg [⟨0, (some 98), .mv (.tmp 9), none, []⟩,
 ⟨1, (some 99), .bin .add 3 true (.tmp 98) (.con (.int .i64 1)), none, []⟩,
 ⟨2, (some 9), .mv (.tmp 99), none, []⟩]))))))
 (.seq (.seq (.reg [⟨0, (some 112), .fieldA 0 (.tmp 3), none, []⟩,
 ⟨1, (some 113), .load none (.tmp 112), none, []⟩,
 ⟨2, (some 114), .call 88 [(.tmp 113)], none, []⟩,
 ⟨3, (some 115), .un .not (.tmp 114), none, []⟩,
 ⟨4, (some 116), .mv (.tmp 115), none, []⟩,
 ⟨5, (some 117), .fieldA 5 (.tmp 3), (some (116, true)), []⟩,
 ⟨6, (some 118), .load none (.tmp 117), (some (116, true)), []⟩,
 ⟨7, (some 119), .bin .neq 2 true (.tmp 118) (.con (.int .i64 0)), (some (116, true)), []⟩,
 ⟨8, (some 120), .pick (.tmp 116) (.tmp 119) (.con (.bool false)), none, []⟩])
 (.cond (.tmp 120)
 (.seq (.reg [⟨0, (some 4), .mv (.con (.int .i64 4)), none, []⟩])
 (.ret))
 (.skip)))
 (.seq (.reg [⟨0, (some 4), .mv (.con (.int .i64 0)), none, []⟩])
 (.ret)))))))))))),
 [.tmp 4]⟩
theorem p_r07_op : prepFun Go.Proofs.Tryd.prog [0] Go.Proofs.Tryd.f72 = some v_r07_op := by kernel_rfl

def v_r07_end : VFun :=
⟨.seq (.reg [⟨0, (some 2), .box (.tmp 0), none, []⟩,
 ⟨1, (some 3), .box (.tmp 1), none, []⟩,
 ⟨2, (some 4), .mv (.con (.int .i64 0)), none, []⟩])
 (.seq (.seq (.reg [⟨0, (some 5), .fieldA 0 (.tmp 3), none, []⟩,
 ⟨1, (some 6), .load none (.tmp 5), none, []⟩,
 ⟨2, (some 7), .bin .lss 3 true (.tmp 6) (.con (.int .i64 1)), none, []⟩,
 ⟨3, (some 8), .mv (.tmp 7), none, []⟩,
 ⟨4, (some 9), .fieldA 0 (.tmp 3), (some (8, false)), []⟩,
 ⟨5, (some 10), .load none (.tmp 9), (some (8, false)), []⟩,
 ⟨6, (some 11), .bin .gtr 3 true (.tmp 10) (.con (.int .i64 4)), (some (8, false)), []⟩,
 ⟨7, (some 12), .pick (.tmp 8) (.con (.bool true)) (.tmp 11), none, []⟩])
 (.cond (.tmp 12)
 (.seq (.reg [⟨0, (some 4), .mv (.con (.int .i64 4)), none, []⟩])
 (.ret))
 (.skip)))
 (.seq (.seq (.reg [⟨0, (some 13), .fieldA 0 (.tmp 3), none, []⟩,
 ⟨1, (some 14), .load none (.tmp 13), none, []⟩,
 ⟨2, (some 15), .call 89 [(.tmp 14)], none, []⟩,
 ⟨3, (some 16), .mv (.tmp 15), none, []⟩,
 ⟨4, (some 17), .load (some 6) (.tmp 2), (some (16, true)), []⟩,
 ⟨5, (some 18), .fieldA 1 (.tmp 3), (some (16, true)), []⟩,
 ⟨6, (some 19), .load none (.tmp 18), (some (16, true)), []⟩,
 ⟨7, (some 20), .call 71 [(.tmp 17), (.tmp 19)], (some (16, true)), []⟩,
 ⟨8, (some 21), .un .not (.tmp 20), (some (16, true)), []⟩,
 ⟨9, (some 22), .pick (.tmp 16) (.tmp 21) (.con (.bool false)), none, []⟩])
 (.cond (.tmp 22)
 (.seq (.reg [⟨0, (some 4), .mv (.con (.int .i64 2)), none, []⟩])
 (.ret))
 (.skip)))
 (.seq (.seq (.reg [⟨0, (some 23), .fieldA 0 (.tmp 3), none, []⟩,
 ⟨1, (some 24), .load none (.tmp 23), none, []⟩,
 ⟨2, (some 25), .call 90 [(.tmp 24)], none, []⟩,
 ⟨3, (some 26), .mv (.tmp 25), none, []⟩,
 ⟨4, (some 27), .load (some 6) (.tmp 2), (some (26, true)), []⟩,
 ⟨5, (some 28), .fieldA 2 (.tmp 3), (some (26, true)), []⟩,
 ⟨6, (some 29), .load none (.tmp 28), (some (26, true)), []⟩,
 ⟨7, (some 30), .call 91 [(.tmp 27), (.tmp 29)], (some (26, true)), []⟩,
 ⟨8, (some 31), .un .not (.tmp 30), (some (26, true)), []⟩,
 ⟨9, (some 32), .pick (.tmp 26) (.tmp 31) (.con (.bool false)), none, []⟩,
 ⟨10, (some 33), .mv (.tmp 32), none, []⟩,
 ⟨11, (some 34), .fieldA 0 (.tmp 3), (some (33, false)), []⟩,
 ⟨12, (some 35), .load none (.tmp 34), (some (33, false)), []⟩,
 ⟨13, (some 36), .call 92 [(.tmp 35)], (some (33, false)), []⟩,
 ⟨14, (some 37), .mv (.tmp 36), (some (33, false)), []⟩,
 ⟨15, (some 38), .load (some 6) (.tmp 2), (some (37, true)), []⟩,
 ⟨16, (some 39), .fieldA 3 (.tmp 3), (some (37, true)), []⟩,
 ⟨17, (some 40), .load none (.tmp 39), (some (37, true)), []⟩,
 ⟨18, (some 41), .call 91 [(.tmp 38), (.tmp 40)], (some (37, true)), []⟩,
 ⟨19, (some 42), .un .not (.tmp 41), (some (37, true)), []⟩,
 ⟨20, (some 43), .pick (.tmp 37) (.tmp 42) (.con (.bool false)), (some (33, false)), []⟩,
 ⟨21, (some 44), .pick (.tmp 33) (.con (.bool true)) (.tmp 43), none, []⟩])
 (.cond (.tmp 44)
 (.seq (.reg [⟨0, (some 4), .mv (.con (.int .i64 5)), none, []⟩])
 (.ret))
 (.skip)))
 (.seq (.seq (.reg [⟨0, (some 45), .fieldA 0 (.tmp 3), none, []⟩,
 ⟨1, (some 46), .load none (.tmp 45), none, []⟩,
 ⟨2, (some 47), .call 89 [(.tmp 46)], none, []⟩,
 ⟨3, (some 48), .un .not (.tmp 47), none, []⟩,
 ⟨4, (some 49), .mv (.tmp 48), none, []⟩,
 ⟨5, (some 50), .fieldA 1 (.tmp 3), (some (49, true)), []⟩,
 ⟨6, (some 51), .load none (.tmp 50), (some (49, true)), []⟩,
 ⟨7, (some 52), .bin .neq 3 true (.tmp 51) (.con (.int .i64 0)), (some (49, true)), []⟩,
 ⟨8, (some 53), .pick (.tmp 49) (.tmp 52) (.con (.bool false)), none, []⟩,
 ⟨9, (some 54), .mv (.tmp 53), none, []⟩,
 ⟨10, (some 55), .fieldA 0 (.tmp 3), (some (54, false)), []⟩,
 ⟨11, (some 56), .load none (.tmp 55), (some (54, false)), []⟩,
 ⟨12, (some 57), .call 90 [(.tmp 56)], (some (54, false)), []⟩,
 ⟨13, (some 58), .un .not (.tmp 57), (some (54, false)), []⟩,
 ⟨14, (some 59), .mv (.tmp 58), (some (54, false)), []⟩,
 ⟨15, (some 60), .fieldA 2 (.tmp 3), (some (59, true)), []⟩,
 ⟨16, (some 61), .load none (.tmp 60), (some (59, true)), []⟩,
 ⟨17, (some 62), .bin .neq 3 true (.tmp 61) (.con (.int .i64 0)), (some (59, true)), []⟩,
 ⟨18, (some 63), .pick (.tmp 59) (.tmp 62) (.con (.bool false)), (some (54, false)), []⟩,
 ⟨19, (some 64), .pick (.tmp 54) (.con (.bool true)) (.tmp 63), none, []⟩,
 ⟨20, (some 65), .mv (.tmp 64), none, []⟩,
 ⟨21, (some 66), .fieldA 0 (.tmp 3), (some (65, false)), []⟩,
 ⟨22, (some 67), .load none (.tmp 66), (some (65, false)), []⟩,
 ⟨23, (some 68), .call 92 [(.tmp 67)], (some (65, false)), []⟩,
 ⟨24, (some 69), .un .not (.tmp 68), (some (65, false)), []⟩,
 ⟨25, (some 70), .mv (.tmp 69), (some (65, false)), []⟩,
 ⟨26, (some 71), .fieldA 3 (.tmp 3), (some (70, true)), []⟩,
 ⟨27, (some 72), .load none (.tmp 71), (some (70, true)), []⟩,
 ⟨28, (some 73), .bin .neq 3 true (.tmp 72) (.con (.int .i64 0)), (some (70, true)), []⟩,
 ⟨29, (some 74), .pick (.tmp 70) (.tmp 73) (.con (.bool false)), (some (65, false)), []⟩,
 ⟨30, (some 75), .pick (.tmp 65) (.con (.bool true)) (.tmp 74), none, []⟩])
 (.cond (.tmp 75)
 (.seq (.reg [⟨0, (some 4), .mv (.con (.int .i64 4)), none, []⟩])
 (.ret))
 (.skip)))
 (.seq (.reg [⟨0, (some 4), .mv (.con (.int .i64 0)), none, []⟩])
 (.ret)))))),
 [.tmp 4]⟩
theorem p_r07_end : prepFun Go.Proofs.Tryd.prog [0] Go.Proofs.Tryd.f73 = some v_r07_end := by kernel_rfl

def v_slices_Contains_int : VFun :=
⟨.seq (.reg [⟨0, (some 4), .mv (.con (.bool false)), none, []⟩])
 (.seq (.reg [⟨0, (some 5), .mv (.tmp 0), none, []⟩,
 ⟨1, (some 6), .mv (.tmp 1), none, []⟩,
 ⟨2, (some 7), .call 93 [(.tmp 5), (.tmp 6)], none, []⟩,
 ⟨3, (some 8), .bin .geq 3 true (.tmp 7) (.con (.int .i64 0)), none, []⟩,
 ⟨4, (some 4), .mv (.tmp 8), none, []⟩])
 (.ret)),
 [.tmp 4]⟩
theorem p_slices_Contains_int : prepFun Go.Proofs.Tryd.prog [0] Go.Proofs.Tryd.f74 = some v_slices_Contains_int := by kernel_rfl

end Go.VX.Seat
end
section
set_option maxRecDepth 20000
/-! MADE BY PROGRAM (lits.py): functions as they are prepared. -/
namespace Go.VX.Seat
def v_code_checker_unit : VFun :=
⟨.seq (.reg [⟨0, (some 8), .mv (.tmp 0), none, []⟩,
 ⟨1, (some 9), .nilck (.tmp 8), none, []⟩,
 ⟨2, (some 10), .fieldA 0 (.tmp 9), none, []⟩,
 ⟨3, (some 11), .load (some 6) (.tmp 10), none, []⟩,
 ⟨4, (some 2), .alloc [(.slice none 0 0), (.int .i64 0), (.int .i64 0), (.int .i64 0), (.int .i64 0), (.slice none 0 0)], none, []⟩,
 ⟨5, none, .store 6 (.tmp 2) (.tmp 11), none, []⟩])
 (.seq (.reg [⟨0, (some 12), .mv (.tmp 0), none, []⟩,
 ⟨1, (some 13), .fieldA 0 (.tmp 2), none, []⟩,
 ⟨2, (some 14), .load none (.tmp 13), none, []⟩,
 ⟨3, (some 15), .len (.tmp 14), none, []⟩,
 ⟨4, (some 16), .bin .leq 3 true (.tmp 15) (.con (.int .i64 16)), none, []⟩,
 ⟨5, (some 17), .mv (.tmp 16), none, []⟩,
 ⟨6, (some 18), .fieldA 5 (.tmp 2), (some (17, true)), []⟩,
 ⟨7, (some 19), .load none (.tmp 18), (some (17, true)), []⟩,
 ⟨8, (some 20), .len (.tmp 19), (some (17, true)), []⟩,
 ⟨9, (some 21), .bin .geq 3 true (.tmp 20) (.con (.int .i64 1)), (some (17, true)), []⟩,
 ⟨10, (some 22), .pick (.tmp 17) (.tmp 21) (.con (.bool false)), none, []⟩,
 ⟨11, (some 23), .mv (.tmp 22), none, []⟩,
 ⟨12, (some 24), .fieldA 5 (.tmp 2), (some (23, true)), []⟩,
 ⟨13, (some 25), .load none (.tmp 24), (some (23, true)), []⟩,
 ⟨14, (some 26), .len (.tmp 25), (some (23, true)), []⟩,
 ⟨15, (some 27), .bin .leq 3 true (.tmp 26) (.con (.int .i64 2000)), (some (23, true)), []⟩,
 ⟨16, (some 28), .pick (.tmp 23) (.tmp 27) (.con (.bool false)), none, []⟩,
 ⟨17, (some 29), .mv (.tmp 28), none, []⟩,
 ⟨18, (some 30), .fieldA 2 (.tmp 2), (some (29, true)), []⟩,
 ⟨19, (some 31), .load none (.tmp 30), (some (29, true)), []⟩,
 ⟨20, (some 32), .bin .leq 3 true (.tmp 31) (.con (.int .i64 4096)), (some (29, true)), []⟩,
 ⟨21, (some 33), .pick (.tmp 29) (.tmp 32) (.con (.bool false)), none, []⟩,
 ⟨22, (some 34), .mv (.tmp 33), none, []⟩,
 ⟨23, (some 35), .fieldA 4 (.tmp 2), (some (34, true)), []⟩,
 ⟨24, (some 36), .load none (.tmp 35), (some (34, true)), []⟩,
 ⟨25, (some 37), .bin .leq 3 true (.tmp 36) (.con (.int .i64 4096)), (some (34, true)), []⟩,
 ⟨26, (some 38), .pick (.tmp 34) (.tmp 37) (.con (.bool false)), none, []⟩,
 ⟨27, (some 39), .call 101 [(.tmp 12), (.tmp 38), (.con (.int .i64 3))], none, []⟩])
 (.seq (.reg [⟨0, (some 40), .mv (.tmp 0), none, []⟩,
 ⟨1, (some 41), .fieldA 0 (.tmp 2), none, []⟩,
 ⟨2, (some 42), .load none (.tmp 41), none, []⟩,
 ⟨3, (some 43), .call 102 [(.tmp 42), (.fn 103)], none, []⟩,
 ⟨4, (some 44), .un .not (.tmp 43), none, []⟩,
 ⟨5, (some 45), .call 101 [(.tmp 40), (.tmp 44), (.con (.int .i64 2))], none, []⟩])
 (.seq (.reg [⟨0, (some 46), .mv (.tmp 0), none, []⟩,
 ⟨1, (some 47), .fieldA 2 (.tmp 2), none, []⟩,
 ⟨2, (some 48), .load none (.tmp 47), none, []⟩,
 ⟨3, (some 49), .bin .geq 3 true (.tmp 48) (.con (.int .i64 1)), none, []⟩,
 ⟨4, (some 50), .mv (.tmp 49), none, []⟩,
 ⟨5, (some 51), .fieldA 4 (.tmp 2), (some (50, true)), []⟩,
 ⟨6, (some 52), .load none (.tmp 51), (some (50, true)), []⟩,
 ⟨7, (some 53), .bin .geq 3 true (.tmp 52) (.con (.int .i64 0)), (some (50, true)), []⟩,
 ⟨8, (some 54), .pick (.tmp 50) (.tmp 53) (.con (.bool false)), none, []⟩,
 ⟨9, (some 55), .mv (.tmp 54), none, []⟩,
 ⟨10, (some 56), .fieldA 1 (.tmp 2), (some (55, true)), []⟩,
 ⟨11, (some 57), .load none (.tmp 56), (some (55, true)), []⟩,
 ⟨12, (some 58), .bin .geq 3 true (.tmp 57) (.con (.int .i64 0)), (some (55, true)), []⟩,
 ⟨13, (some 59), .pick (.tmp 55) (.tmp 58) (.con (.bool false)), none, []⟩,
 ⟨14, (some 60), .mv (.tmp 59), none, []⟩,
 ⟨15, (some 61), .fieldA 1 (.tmp 2), (some (60, true)), []⟩,
 ⟨16, (some 62), .load none (.tmp 61), (some (60, true)), []⟩,
 ⟨17, (some 63), .bin .leq 3 true (.tmp 62) (.con (.int .i64 8)), (some (60, true)), []⟩,
 ⟨18, (some 64), .pick (.tmp 60) (.tmp 63) (.con (.bool false)), none, []⟩,
 ⟨19, (some 65), .mv (.tmp 64), none, []⟩,
 ⟨20, (some 66), .fieldA 1 (.tmp 2), (some (65, true)), []⟩,
 ⟨21, (some 67), .load none (.tmp 66), (some (65, true)), []⟩,
 ⟨22, (some 68), .fieldA 2 (.tmp 2), (some (65, true)), []⟩,
 ⟨23, (some 69), .load none (.tmp 68), (some (65, true)), []⟩,
 ⟨24, (some 70), .bin .leq 3 false (.tmp 67) (.tmp 69), (some (65, true)), []⟩,
 ⟨25, (some 71), .pick (.tmp 65) (.tmp 70) (.con (.bool false)), none, []⟩,
 ⟨26, (some 72), .mv (.tmp 71), none, []⟩,
 ⟨27, (some 73), .fieldA 3 (.tmp 2), (some (72, true)), []⟩,
 ⟨28, (some 74), .load none (.tmp 73), (some (72, true)), []⟩,
 ⟨29, (some 75), .fieldA 2 (.tmp 2), (some (72, true)), []⟩,
 ⟨30, (some 76), .load none (.tmp 75), (some (72, true)), []⟩,
 ⟨31, (some 77), .call 104 [(.tmp 74), (.tmp 76)], (some (72, true)), []⟩,
 ⟨32, (some 78), .pick (.tmp 72) (.tmp 77) (.con (.bool false)), none, []⟩,
 ⟨33, (some 79), .call 101 [(.tmp 46), (.tmp 78), (.con (.int .i64 2))], none, []⟩])
 (.seq (.reg [⟨0, (some 3), .mv (.con (.int .i64 0)), none, []⟩])
 (.seq (.seq (.reg [⟨0, (some 80), .fieldA 5 (.tmp 2), none, []⟩,
 ⟨1, (some 81), .load none (.tmp 80), none, []⟩,
 ⟨2, (some 82), .len (.tmp 81), none, []⟩,
 ⟨3, (some 83), .mv (.con (.int .i64 0)), none, []⟩])
 (.block 0
 (.loop
 (.seq (.reg [⟨0, (some 84), .bin .lss 3 false (.tmp 83) (.tmp 82), none, []⟩])
 (.seq (.cond (.tmp 84)
 (.skip)
 (.exit 0))
 (.seq (.block 1
 (.seq (.reg [⟨0, (some 85), .mv (.tmp 83), none, []⟩,
 ⟨1, (some 86), .idxA none 6 (.tmp 81) (.tmp 83), none, []⟩,
 ⟨2, (some 87), .load (some 6) (.tmp 86), none, []⟩,
 ⟨3, (some 5), .alloc [(.slice none 0 0), (.int .i64 0), (.int .i64 0), (.int .i64 0), (.int .i64 0), (.int .i64 0)], none, []⟩,
 ⟨4, (some 4), .mv (.tmp 85), none, []⟩,
 ⟨5, none, .store 6 (.tmp 5) (.tmp 87), none, []⟩])
 (.seq (.reg [⟨0, (some 88), .mv (.tmp 0), none, []⟩,
 ⟨1, (some 89), .mv (.tmp 0), none, []⟩,
 ⟨2, (some 90), .mv (.tmp 4), none, []⟩,
 ⟨3, (some 91), .fieldA 0 (.tmp 5), none, []⟩,
 ⟨4, (some 92), .load none (.tmp 91), none, []⟩,
 ⟨5, (some 93), .len (.tmp 92), none, []⟩,
 ⟨6, (some 94), .nilck (.tmp 88), none, []⟩,
 ⟨7, (some 95), .fieldA 6 (.tmp 94), none, []⟩,
 ⟨8, none, .store 1 (.tmp 95) (.tmp 90), none, [(.tmp 91)]⟩,
 ⟨9, (some 96), .nilck (.tmp 89), none, []⟩,
 ⟨10, (some 97), .fieldA 7 (.tmp 96), none, []⟩,
 ⟨11, none, .store 1 (.tmp 97) (.tmp 93), none, []⟩])
 (.seq (.reg [⟨0, (some 98), .mv (.tmp 0), none, []⟩,
 ⟨1, (some 99), .fieldA 5 (.tmp 5), none, []⟩,
 ⟨2, (some 100), .load none (.tmp 99), none, []⟩,
 ⟨3, (some 101), .bin .eql 3 true (.tmp 100) (.con (.int .i64 (-1))), none, []⟩,
 ⟨4, (some 102), .mv (.tmp 101), none, []⟩,
 ⟨5, (some 103), .fieldA 5 (.tmp 5), (some (102, false)), []⟩,
 ⟨6, (some 104), .load none (.tmp 103), (some (102, false)), []⟩,
 ⟨7, (some 105), .fieldA 5 (.tmp 2), (some (102, false)), []⟩,
 ⟨8, (some 106), .load none (.tmp 105), (some (102, false)), []⟩,
 ⟨9, (some 107), .len (.tmp 106), (some (102, false)), []⟩,
 ⟨10, (some 108), .call 104 [(.tmp 104), (.tmp 107)], (some (102, false)), []⟩,
 ⟨11, (some 109), .pick (.tmp 102) (.con (.bool true)) (.tmp 108), none, []⟩,
 ⟨12, (some 110), .call 101 [(.tmp 98), (.tmp 109), (.con (.int .i64 2))], none, []⟩])
 (.seq (.reg [⟨0, (some 111), .mv (.tmp 0), none, []⟩,
 ⟨1, (some 112), .fieldA 0 (.tmp 5), none, []⟩,
 ⟨2, (some 113), .load none (.tmp 112), none, []⟩,
 ⟨3, (some 114), .len (.tmp 113), none, []⟩,
 ⟨4, (some 115), .bin .leq 3 true (.tmp 114) (.con (.int .i64 400)), none, []⟩,
 ⟨5, (some 116), .call 101 [(.tmp 111), (.tmp 115), (.con (.int .i64 3))], none, []⟩])
 (.seq (.seq (.reg [⟨0, (some 117), .fieldA 0 (.tmp 5), none, []⟩,
 ⟨1, (some 118), .load none (.tmp 117), none, []⟩,
 ⟨2, (some 119), .len (.tmp 118), none, []⟩,
 ⟨3, (some 120), .mv (.con (.int .i64 0)), none, []⟩])
 (.block 2
 (.loop
 (.seq (.reg [⟨0, (some 121), .bin .lss 3 false (.tmp 120) (.tmp 119), none, []⟩])
 (.seq (.cond (.tmp 121)
 (.skip)
 (.exit 2))
 (.seq (.block 3
 (.seq (.reg [⟨0, (some 122), .mv (.tmp 120), none, []⟩,
 ⟨1, (some 123), .idxA none 7 (.tmp 118) (.tmp 120), none, []⟩,
 ⟨2, (some 124), .load (some 7) (.tmp 123), none, []⟩,
 ⟨3, (some 7), .alloc [(.int .i64 0), (.int .i64 0), (.int .i64 0), (.int .i64 0), (.int .i64 0), (.int .i64 0), (.int .i64 0)], none, []⟩,
 ⟨4, (some 6), .mv (.tmp 122), none, []⟩,
 ⟨5, none, .store 7 (.tmp 7) (.tmp 124), none, []⟩])
 (.seq (.reg [⟨0, (some 125), .mv (.tmp 0), none, []⟩,
 ⟨1, (some 126), .mv (.tmp 6), none, []⟩,
 ⟨2, (some 127), .nilck (.tmp 125), none, []⟩,
 ⟨3, (some 128), .fieldA 7 (.tmp 127), none, []⟩,
 ⟨4, none, .store 1 (.tmp 128) (.tmp 126), none, []⟩])
 (.reg [⟨0, (some 129), .mv (.tmp 0), none, []⟩,
 ⟨1, (some 130), .load (some 7) (.tmp 7), none, []⟩,
 ⟨2, (some 131), .call 105 [(.tmp 129), (.tmp 130)], none, []⟩]))))
 (.reg [⟨0, (some 132), .bin .add 3 true (.tmp 120) (.con (.int .i64 1)), none, []⟩,
 ⟨1, (some 120), .mv (.tmp 132), none, []⟩])))))))
 (.seq (.reg [⟨0, (some 133), .mv (.tmp 0), none, []⟩,
 ⟨1, (some 134), .fieldA 0 (.tmp 5), none, []⟩,
 ⟨2, (some 135), .load none (.tmp 134), none, []⟩,
 ⟨3, (some 136), .len (.tmp 135), none, []⟩,
 ⟨4, (some 137), .nilck (.tmp 133), none, []⟩,
 ⟨5, (some 138), .fieldA 7 (.tmp 137), none, []⟩,
 ⟨6, none, .store 1 (.tmp 138) (.tmp 136), none, []⟩])
 (.seq (.reg [⟨0, (some 139), .mv (.tmp 0), none, []⟩,
 ⟨1, (some 140), .fieldA 1 (.tmp 5), none, []⟩,
 ⟨2, (some 141), .load (some 4) (.tmp 140), none, []⟩,
 ⟨3, (some 142), .call 106 [(.tmp 139), (.tmp 141)], none, []⟩])
 (.reg [⟨0, (some 143), .mv (.tmp 3), none, []⟩,
 ⟨1, (some 144), .fieldA 0 (.tmp 5), none, []⟩,
 ⟨2, (some 145), .load none (.tmp 144), none, []⟩,
 ⟨3, (some 146), .len (.tmp 145), none, []⟩,
 ⟨4, (some 147), .bin .add 3 false (.tmp 143) (.tmp 146), none, []⟩,
 ⟨5, (some 3), .mv (.tmp 147), none, []⟩])))))))))
 (.reg [⟨0, (some 148), .bin .add 3 true (.tmp 83) (.con (.int .i64 1)), none, []⟩,
 ⟨1, (some 83), .mv (.tmp 148), none, []⟩])))))))
 (.seq (.reg [⟨0, (some 149), .mv (.tmp 0), none, []⟩,
 ⟨1, (some 150), .mv (.tmp 0), none, []⟩,
 ⟨2, (some 151), .nilck (.tmp 149), none, []⟩,
 ⟨3, (some 152), .fieldA 6 (.tmp 151), none, []⟩,
 ⟨4, none, .store 1 (.tmp 152) (.con (.int .i64 0)), none, []⟩,
 ⟨5, (some 153), .nilck (.tmp 150), none, []⟩,
 ⟨6, (some 154), .fieldA 7 (.tmp 153), none, []⟩,
 ⟨7, none, .store 1 (.tmp 154) (.con (.int .i64 0)), none, []⟩])
 (.reg [⟨0, (some 155), .mv (.tmp 0), none, []⟩,
 ⟨1, (some 156), .mv (.tmp 3), none, []⟩,
 ⟨2, (some 157), .bin .leq 3 true (.tmp 156) (.con (.int .i64 20000)), none, []⟩,
 ⟨3, (some 158), .call 101 [(.tmp 155), (.tmp 157), (.con (.int .i64 3))], none, []⟩]))))))),
 []⟩
theorem p_code_checker_unit : prepFun Go.Proofs.Tryd.prog [0] Go.Proofs.Tryd.f80 = some v_code_checker_unit := by kernel_rfl

def v_r07_One : VFun :=
⟨.seq (.reg [⟨0, (some 2), .mv (.con (.bool false)), none, []⟩])
 (.seq (.reg [⟨0, (some 3), .mv (.tmp 0), none, []⟩,
 ⟨1, (some 4), .bin .geq 3 true (.tmp 3) (.con (.int .i64 1)), none, []⟩,
 ⟨2, (some 5), .mv (.tmp 4), none, []⟩,
 ⟨3, (some 6), .mv (.tmp 0), (some (5, true)), []⟩,
 ⟨4, (some 7), .bin .leq 3 true (.tmp 6) (.con (.int .i64 25)), (some (5, true)), []⟩,
 ⟨5, (some 8), .pick (.tmp 5) (.tmp 7) (.con (.bool false)), none, []⟩,
 ⟨6, (some 2), .mv (.tmp 8), none, []⟩])
 (.ret)),
 [.tmp 2]⟩
theorem p_r07_One : prepFun Go.Proofs.Tryd.prog [0] Go.Proofs.Tryd.f81 = some v_r07_One := by kernel_rfl

def v_r07_HasDst : VFun :=
⟨.seq (.reg [⟨0, (some 2), .mv (.con (.bool false)), none, []⟩])
 (.seq (.reg [⟨0, (some 3), .mv (.tmp 0), none, []⟩,
 ⟨1, (some 4), .bin .neq 3 true (.tmp 3) (.con (.int .i64 17)), none, []⟩,
 ⟨2, (some 5), .mv (.tmp 4), none, []⟩,
 ⟨3, (some 6), .mv (.tmp 0), (some (5, true)), []⟩,
 ⟨4, (some 7), .bin .neq 3 true (.tmp 6) (.con (.int .i64 19)), (some (5, true)), []⟩,
 ⟨5, (some 8), .pick (.tmp 5) (.tmp 7) (.con (.bool false)), none, []⟩,
 ⟨6, (some 9), .mv (.tmp 8), none, []⟩,
 ⟨7, (some 10), .mv (.tmp 0), (some (9, true)), []⟩,
 ⟨8, (some 11), .bin .neq 3 true (.tmp 10) (.con (.int .i64 20)), (some (9, true)), []⟩,
 ⟨9, (some 12), .pick (.tmp 9) (.tmp 11) (.con (.bool false)), none, []⟩,
 ⟨10, (some 13), .mv (.tmp 12), none, []⟩,
 ⟨11, (some 14), .mv (.tmp 0), (some (13, true)), []⟩,
 ⟨12, (some 15), .bin .neq 3 true (.tmp 14) (.con (.int .i64 21)), (some (13, true)), []⟩,
 ⟨13, (some 16), .pick (.tmp 13) (.tmp 15) (.con (.bool false)), none, []⟩,
 ⟨14, (some 17), .mv (.tmp 16), none, []⟩,
 ⟨15, (some 18), .mv (.tmp 0), (some (17, true)), []⟩,
 ⟨16, (some 19), .bin .neq 3 true (.tmp 18) (.con (.int .i64 22)), (some (17, true)), []⟩,
 ⟨17, (some 20), .pick (.tmp 17) (.tmp 19) (.con (.bool false)), none, []⟩,
 ⟨18, (some 2), .mv (.tmp 20), none, []⟩])
 (.ret)),
 [.tmp 2]⟩
theorem p_r07_HasDst : prepFun Go.Proofs.Tryd.prog [0] Go.Proofs.Tryd.f82 = some v_r07_HasDst := by kernel_rfl

def v_r07_HasA : VFun :=
⟨.seq (.reg [⟨0, (some 2), .mv (.con (.bool false)), none, []⟩])
 (.seq (.reg [⟨0, (some 3), .mv (.tmp 0), none, []⟩,
 ⟨1, (some 4), .bin .neq 3 true (.tmp 3) (.con (.int .i64 1)), none, []⟩,
 ⟨2, (some 5), .mv (.tmp 4), none, []⟩,
 ⟨3, (some 6), .mv (.tmp 0), (some (5, true)), []⟩,
 ⟨4, (some 7), .bin .neq 3 true (.tmp 6) (.con (.int .i64 18)), (some (5, true)), []⟩,
 ⟨5, (some 8), .pick (.tmp 5) (.tmp 7) (.con (.bool false)), none, []⟩,
 ⟨6, (some 2), .mv (.tmp 8), none, []⟩])
 (.ret)),
 [.tmp 2]⟩
theorem p_r07_HasA : prepFun Go.Proofs.Tryd.prog [0] Go.Proofs.Tryd.f83 = some v_r07_HasA := by kernel_rfl

def v_r07_HasB : VFun :=
⟨.seq (.reg [⟨0, (some 2), .mv (.con (.bool false)), none, []⟩])
 (.seq (.reg [⟨0, (some 3), .mv (.tmp 0), none, []⟩,
 ⟨1, (some 4), .bin .geq 3 true (.tmp 3) (.con (.int .i64 3)), none, []⟩,
 ⟨2, (some 5), .mv (.tmp 4), none, []⟩,
 ⟨3, (some 6), .mv (.tmp 0), (some (5, true)), []⟩,
 ⟨4, (some 7), .bin .leq 3 true (.tmp 6) (.con (.int .i64 15)), (some (5, true)), []⟩,
 ⟨5, (some 8), .pick (.tmp 5) (.tmp 7) (.con (.bool false)), none, []⟩,
 ⟨6, (some 9), .mv (.tmp 8), none, []⟩,
 ⟨7, (some 10), .mv (.tmp 0), (some (9, false)), []⟩,
 ⟨8, (some 11), .bin .eql 3 true (.tmp 10) (.con (.int .i64 17)), (some (9, false)), []⟩,
 ⟨9, (some 12), .pick (.tmp 9) (.con (.bool true)) (.tmp 11), none, []⟩,
 ⟨10, (some 13), .mv (.tmp 12), none, []⟩,
 ⟨11, (some 14), .mv (.tmp 0), (some (13, false)), []⟩,
 ⟨12, (some 15), .bin .eql 3 true (.tmp 14) (.con (.int .i64 23)), (some (13, false)), []⟩,
 ⟨13, (some 16), .pick (.tmp 13) (.con (.bool true)) (.tmp 15), none, []⟩,
 ⟨14, (some 17), .mv (.tmp 16), none, []⟩,
 ⟨15, (some 18), .mv (.tmp 0), (some (17, false)), []⟩,
 ⟨16, (some 19), .bin .eql 3 true (.tmp 18) (.con (.int .i64 24)), (some (17, false)), []⟩,
 ⟨17, (some 20), .pick (.tmp 17) (.con (.bool true)) (.tmp 19), none, []⟩,
 ⟨18, (some 2), .mv (.tmp 20), none, []⟩])
 (.ret)),
 [.tmp 2]⟩
theorem p_r07_HasB : prepFun Go.Proofs.Tryd.prog [0] Go.Proofs.Tryd.f84 = some v_r07_HasB := by kernel_rfl

def v_r07_HasC : VFun :=
⟨.seq (.reg [⟨0, (some 2), .mv (.con (.bool false)), none, []⟩])
 (.seq (.reg [⟨0, (some 3), .mv (.tmp 0), none, []⟩,
 ⟨1, (some 4), .bin .eql 3 true (.tmp 3) (.con (.int .i64 12)), none, []⟩,
 ⟨2, (some 2), .mv (.tmp 4), none, []⟩])
 (.ret)),
 [.tmp 2]⟩
theorem p_r07_HasC : prepFun Go.Proofs.Tryd.prog [0] Go.Proofs.Tryd.f85 = some v_r07_HasC := by kernel_rfl

def v_r07_Array : VFun :=
⟨.seq (.reg [⟨0, (some 2), .mv (.con (.bool false)), none, []⟩])
 (.seq (.reg [⟨0, (some 3), .mv (.tmp 0), none, []⟩,
 ⟨1, (some 4), .bin .eql 3 true (.tmp 3) (.con (.int .i64 16)), none, []⟩,
 ⟨2, (some 5), .mv (.tmp 4), none, []⟩,
 ⟨3, (some 6), .mv (.tmp 0), (some (5, false)), []⟩,
 ⟨4, (some 7), .bin .eql 3 true (.tmp 6) (.con (.int .i64 17)), (some (5, false)), []⟩,
 ⟨5, (some 8), .pick (.tmp 5) (.con (.bool true)) (.tmp 7), none, []⟩,
 ⟨6, (some 9), .mv (.tmp 8), none, []⟩,
 ⟨7, (some 10), .mv (.tmp 0), (some (9, false)), []⟩,
 ⟨8, (some 11), .bin .eql 3 true (.tmp 10) (.con (.int .i64 25)), (some (9, false)), []⟩,
 ⟨9, (some 12), .pick (.tmp 9) (.con (.bool true)) (.tmp 11), none, []⟩,
 ⟨10, (some 2), .mv (.tmp 12), none, []⟩])
 (.ret)),
 [.tmp 2]⟩
theorem p_r07_Array : prepFun Go.Proofs.Tryd.prog [0] Go.Proofs.Tryd.f86 = some v_r07_Array := by kernel_rfl

def v_r07_Cell : VFun :=
⟨.seq (.reg [⟨0, (some 2), .mv (.con (.bool false)), none, []⟩])
 (.seq (.reg [⟨0, (some 3), .mv (.tmp 0), none, []⟩,
 ⟨1, (some 4), .bin .eql 3 true (.tmp 3) (.con (.int .i64 18)), none, []⟩,
 ⟨2, (some 5), .mv (.tmp 4), none, []⟩,
 ⟨3, (some 6), .mv (.tmp 0), (some (5, false)), []⟩,
 ⟨4, (some 7), .bin .eql 3 true (.tmp 6) (.con (.int .i64 19)), (some (5, false)), []⟩,
 ⟨5, (some 8), .pick (.tmp 5) (.con (.bool true)) (.tmp 7), none, []⟩,
 ⟨6, (some 2), .mv (.tmp 8), none, []⟩])
 (.ret)),
 [.tmp 2]⟩
theorem p_r07_Cell : prepFun Go.Proofs.Tryd.prog [0] Go.Proofs.Tryd.f87 = some v_r07_Cell := by kernel_rfl

def v_r07_HasN : VFun :=
⟨.seq (.reg [⟨0, (some 2), .mv (.con (.bool false)), none, []⟩])
 (.seq (.reg [⟨0, (some 3), .mv (.tmp 0), none, []⟩,
 ⟨1, (some 4), .bin .eql 3 true (.tmp 3) (.con (.int .i64 1)), none, []⟩,
 ⟨2, (some 5), .mv (.tmp 4), none, []⟩,
 ⟨3, (some 6), .mv (.tmp 0), (some (5, false)), []⟩,
 ⟨4, (some 7), .call 86 [(.tmp 6)], (some (5, false)), []⟩,
 ⟨5, (some 8), .pick (.tmp 5) (.con (.bool true)) (.tmp 7), none, []⟩,
 ⟨6, (some 9), .mv (.tmp 8), none, []⟩,
 ⟨7, (some 10), .mv (.tmp 0), (some (9, false)), []⟩,
 ⟨8, (some 11), .call 87 [(.tmp 10)], (some (9, false)), []⟩,
 ⟨9, (some 12), .pick (.tmp 9) (.con (.bool true)) (.tmp 11), none, []⟩,
 ⟨10, (some 13), .mv (.tmp 12), none, []⟩,
 ⟨11, (some 14), .mv (.tmp 0), (some (13, false)), []⟩,
 ⟨12, (some 15), .bin .eql 3 true (.tmp 14) (.con (.int .i64 21)), (some (13, false)), []⟩,
 ⟨13, (some 16), .pick (.tmp 13) (.con (.bool true)) (.tmp 15), none, []⟩,
 ⟨14, (some 2), .mv (.tmp 16), none, []⟩])
 (.ret)),
 [.tmp 2]⟩
theorem p_r07_HasN : prepFun Go.Proofs.Tryd.prog [0] Go.Proofs.Tryd.f88 = some v_r07_HasN := by kernel_rfl

def v_r07_EndA : VFun :=
⟨.seq (.reg [⟨0, (some 2), .mv (.con (.bool false)), none, []⟩])
 (.seq (.reg [⟨0, (some 3), .mv (.tmp 0), none, []⟩,
 ⟨1, (some 4), .bin .neq 3 true (.tmp 3) (.con (.int .i64 1)), none, []⟩,
 ⟨2, (some 2), .mv (.tmp 4), none, []⟩])
 (.ret)),
 [.tmp 2]⟩
theorem p_r07_EndA : prepFun Go.Proofs.Tryd.prog [0] Go.Proofs.Tryd.f89 = some v_r07_EndA := by kernel_rfl

def v_r07_EndTo : VFun :=
⟨.seq (.reg [⟨0, (some 2), .mv (.con (.bool false)), none, []⟩])
 (.seq (.reg [⟨0, (some 3), .mv (.tmp 0), none, []⟩,
 ⟨1, (some 4), .bin .eql 3 true (.tmp 3) (.con (.int .i64 1)), none, []⟩,
 ⟨2, (some 5), .mv (.tmp 4), none, []⟩,
 ⟨3, (some 6), .mv (.tmp 0), (some (5, false)), []⟩,
 ⟨4, (some 7), .bin .eql 3 true (.tmp 6) (.con (.int .i64 2)), (some (5, false)), []⟩,
 ⟨5, (some 8), .pick (.tmp 5) (.con (.bool true)) (.tmp 7), none, []⟩,
 ⟨6, (some 2), .mv (.tmp 8), none, []⟩])
 (.ret)),
 [.tmp 2]⟩
theorem p_r07_EndTo : prepFun Go.Proofs.Tryd.prog [0] Go.Proofs.Tryd.f90 = some v_r07_EndTo := by kernel_rfl

def v_r07_there : VFun :=
⟨.seq (.reg [⟨0, (some 2), .box (.tmp 0), none, []⟩,
 ⟨1, (some 4), .mv (.con (.bool false)), none, []⟩])
 (.seq (.reg [⟨0, (some 5), .mv (.tmp 1), none, []⟩,
 ⟨1, (some 6), .bin .geq 3 true (.tmp 5) (.con (.int .i64 0)), none, []⟩,
 ⟨2, (some 7), .mv (.tmp 6), none, []⟩,
 ⟨3, (some 8), .mv (.tmp 1), (some (7, true)), []⟩,
 ⟨4, (some 9), .fieldA 5 (.tmp 2), (some (7, true)), []⟩,
 ⟨5, (some 10), .load none (.tmp 9), (some (7, true)), []⟩,
 ⟨6, (some 11), .len (.tmp 10), (some (7, true)), []⟩,
 ⟨7, (some 12), .bin .lss 3 false (.tmp 8) (.tmp 11), (some (7, true)), []⟩,
 ⟨8, (some 13), .pick (.tmp 7) (.tmp 12) (.con (.bool false)), none, []⟩,
 ⟨9, (some 4), .mv (.tmp 13), none, []⟩])
 (.ret)),
 [.tmp 4]⟩
theorem p_r07_there : prepFun Go.Proofs.Tryd.prog [0] Go.Proofs.Tryd.f91 = some v_r07_there := by kernel_rfl

def v_r07_EndElse : VFun :=
⟨.seq (.reg [⟨0, (some 2), .mv (.con (.bool false)), none, []⟩])
 (.seq (.reg [⟨0, (some 3), .mv (.tmp 0), none, []⟩,
 ⟨1, (some 4), .bin .eql 3 true (.tmp 3) (.con (.int .i64 2)), none, []⟩,
 ⟨2, (some 2), .mv (.tmp 4), none, []⟩])
 (.ret)),
 [.tmp 2]⟩
theorem p_r07_EndElse : prepFun Go.Proofs.Tryd.prog [0] Go.Proofs.Tryd.f92 = some v_r07_EndElse := by kernel_rfl

def v_slices_Index_int : VFun :=
⟨.seq (.reg [⟨0, (some 4), .mv (.con (.int .i64 0)), none, []⟩])
 (.seq (.seq (.reg [⟨0, (some 6), .mv (.tmp 0), none, []⟩,
 ⟨1, (some 7), .len (.tmp 6), none, []⟩,
 ⟨2, (some 8), .mv (.con (.int .i64 0)), none, []⟩])
 (.block 0
 (.loop
 (.seq (.reg [⟨0, (some 9), .bin .lss 3 false (.tmp 8) (.tmp 7), none, []⟩])
 (.seq (.cond (.tmp 9)
 (.skip)
 (.exit 0))
 (.seq (.block 1
 (.seq (.reg [⟨0, (some 10), .mv (.tmp 8), none, []⟩,
 ⟨1, (some 5), .mv (.tmp 10), none, []⟩])
 (.seq (.reg [⟨0, (some 11), .mv (.tmp 1), none, []⟩,
 ⟨1, (some 12), .mv (.tmp 0), none, []⟩,
 ⟨2, (some 13), .mv (.tmp 5), none, []⟩,
 ⟨3, (some 14), .idxA none 1 (.tmp 12) (.tmp 13), none, []⟩,
 ⟨4, (some 15), .load none (.tmp 14), none, []⟩,
 ⟨5, (some 16), .bin .eql 3 false (.tmp 11) (.tmp 15), none, []⟩])
 (.cond (.tmp 16)
 (.seq (.reg [⟨0, (some 17), .mv (.tmp 5), none, []⟩,
 ⟨1, (some 4), .mv (.tmp 17), none, []⟩])
 (.ret))
 (.skip)))))
 (.reg [⟨0, (some 18), .bin .add 3 true (.tmp 8) (.con (.int .i64 1)), none, []⟩,
 ⟨1, (some 8), .mv (.tmp 18), none, []⟩])))))))
 (.seq (.reg [⟨0, (some 4), .mv (.con (.int .i64 (-1))), none, []⟩])
 (.ret))),
 [.tmp 4]⟩
theorem p_slices_Index_int : prepFun Go.Proofs.Tryd.prog [0] Go.Proofs.Tryd.f93 = some v_slices_Index_int := by kernel_rfl

end Go.VX.Seat
end
section
set_option maxRecDepth 20000
/-! MADE BY PROGRAM (lits.py): functions as they are prepared. -/
namespace Go.VX.Seat
def v_code_checker_must : VFun :=
⟨.seq (.reg [⟨0, (some 6), .mv (.tmp 1), none, []⟩,
 ⟨1, (some 7), .un .not (.tmp 6), none, []⟩])
 (.cond (.tmp 7)
 (.reg [⟨0, (some 8), .mv (.tmp 0), none, []⟩,
 ⟨1, (some 9), .nilck (.tmp 8), none, []⟩,
 ⟨2, (some 10), .fieldA 6 (.tmp 9), none, []⟩,
 ⟨3, (some 11), .load none (.tmp 10), none, []⟩,
 ⟨4, (some 12), .mv (.tmp 0), none, []⟩,
 ⟨5, (some 13), .nilck (.tmp 12), none, []⟩,
 ⟨6, (some 14), .fieldA 7 (.tmp 13), none, []⟩,
 ⟨7, (some 15), .load none (.tmp 14), none, []⟩,
 ⟨8, (some 16), .mv (.tmp 2), none, []⟩,
 ⟨9, (some 17), .build [(.int .i64 0), (.int .i64 0), (.int .i64 0)] [(0, 1, (.tmp 11)), (1, 1, (.tmp 15)), (2, 1, (.tmp 16))], none, []⟩,
 ⟨10, (some 18), .mkif 113 (.tmp 17), none, []⟩,
 ⟨11, none, .panic (.tmp 18), none, []⟩])
 (.skip)),
 []⟩
theorem p_code_checker_must : prepFun Go.Proofs.Tryd.prog [0] Go.Proofs.Tryd.f101 = some v_code_checker_must := by kernel_rfl

def v_slices_ContainsFunc_int : VFun :=
⟨.seq (.reg [⟨0, (some 4), .mv (.con (.bool false)), none, []⟩])
 (.seq (.reg [⟨0, (some 5), .mv (.tmp 0), none, []⟩,
 ⟨1, (some 6), .mv (.tmp 1), none, []⟩,
 ⟨2, (some 7), .call 109 [(.tmp 5), (.tmp 6)], none, []⟩,
 ⟨3, (some 8), .bin .geq 3 true (.tmp 7) (.con (.int .i64 0)), none, []⟩,
 ⟨4, (some 4), .mv (.tmp 8), none, []⟩])
 (.ret)),
 [.tmp 4]⟩
theorem p_slices_ContainsFunc_int : prepFun Go.Proofs.Tryd.prog [0] Go.Proofs.Tryd.f102 = some v_slices_ContainsFunc_int := by kernel_rfl

def v_code_checker_unit_c1 : VFun :=
⟨.seq (.reg [⟨0, (some 2), .mv (.con (.bool false)), none, []⟩])
 (.seq (.reg [⟨0, (some 3), .mv (.tmp 0), none, []⟩,
 ⟨1, (some 4), .bin .lss 3 true (.tmp 3) (.con (.int .i64 1)), none, []⟩,
 ⟨2, (some 5), .mv (.tmp 4), none, []⟩,
 ⟨3, (some 6), .mv (.tmp 0), (some (5, false)), []⟩,
 ⟨4, (some 7), .bin .gtr 3 true (.tmp 6) (.con (.int .i64 65536)), (some (5, false)), []⟩,
 ⟨5, (some 8), .pick (.tmp 5) (.con (.bool true)) (.tmp 7), none, []⟩,
 ⟨6, (some 2), .mv (.tmp 8), none, []⟩])
 (.ret)),
 [.tmp 2]⟩
theorem p_code_checker_unit_c1 : prepFun Go.Proofs.Tryd.prog [0] Go.Proofs.Tryd.f103 = some v_code_checker_unit_c1 := by kernel_rfl

def v_code_within : VFun :=
⟨.seq (.reg [⟨0, (some 4), .mv (.con (.bool false)), none, []⟩])
 (.seq (.reg [⟨0, (some 5), .mv (.tmp 0), none, []⟩,
 ⟨1, (some 6), .bin .geq 3 true (.tmp 5) (.con (.int .i64 0)), none, []⟩,
 ⟨2, (some 7), .mv (.tmp 6), none, []⟩,
 ⟨3, (some 8), .mv (.tmp 0), (some (7, true)), []⟩,
 ⟨4, (some 9), .mv (.tmp 1), (some (7, true)), []⟩,
 ⟨5, (some 10), .bin .lss 3 false (.tmp 8) (.tmp 9), (some (7, true)), []⟩,
 ⟨6, (some 11), .pick (.tmp 7) (.tmp 10) (.con (.bool false)), none, []⟩,
 ⟨7, (some 4), .mv (.tmp 11), none, []⟩])
 (.ret)),
 [.tmp 4]⟩
theorem p_code_within : prepFun Go.Proofs.Tryd.prog [0] Go.Proofs.Tryd.f104 = some v_code_within := by kernel_rfl

def v_code_checker_op : VFun :=
⟨.seq (.reg [⟨0, (some 3), .box (.tmp 1), none, []⟩])
 (.seq (.reg [⟨0, (some 9), .fieldA 0 (.tmp 3), none, []⟩,
 ⟨1, (some 10), .load none (.tmp 9), none, []⟩,
 ⟨2, (some 11), .call 110 [(.tmp 10)], none, []⟩,
 ⟨3, (some 8), .mv (.tmp 11), none, []⟩,
 ⟨4, (some 12), .ext (.tmp 8) 0, none, []⟩,
 ⟨5, (some 13), .ext (.tmp 8) 1, none, []⟩,
 ⟨6, (some 4), .alloc [(.int .i64 0), (.int .i64 0), (.string ⟨#[]⟩)], none, []⟩,
 ⟨7, none, .store 3 (.tmp 4) (.tmp 12), none, []⟩,
 ⟨8, (some 5), .mv (.tmp 13), none, []⟩])
 (.seq (.reg [⟨0, (some 14), .mv (.tmp 0), none, []⟩,
 ⟨1, (some 15), .mv (.tmp 5), none, []⟩,
 ⟨2, (some 16), .call 101 [(.tmp 14), (.tmp 15), (.con (.int .i64 4))], none, []⟩])
 (.seq (.reg [⟨0, (some 17), .mv (.tmp 0), none, []⟩,
 ⟨1, (some 18), .fieldA 1 (.tmp 3), none, []⟩,
 ⟨2, (some 19), .load none (.tmp 18), none, []⟩,
 ⟨3, (some 20), .fieldA 0 (.tmp 4), none, []⟩,
 ⟨4, (some 21), .load none (.tmp 20), none, []⟩,
 ⟨5, (some 22), .bin .and 3 true (.tmp 21) (.con (.int .i64 1)), none, []⟩,
 ⟨6, (some 23), .bin .neq 3 true (.tmp 22) (.con (.int .i64 0)), none, []⟩,
 ⟨7, (some 24), .call 111 [(.tmp 17), (.tmp 19), (.tmp 23)], none, []⟩])
 (.seq (.reg [⟨0, (some 25), .mv (.tmp 0), none, []⟩,
 ⟨1, (some 26), .fieldA 2 (.tmp 3), none, []⟩,
 ⟨2, (some 27), .load none (.tmp 26), none, []⟩,
 ⟨3, (some 28), .fieldA 0 (.tmp 4), none, []⟩,
 ⟨4, (some 29), .load none (.tmp 28), none, []⟩,
 ⟨5, (some 30), .bin .and 3 true (.tmp 29) (.con (.int .i64 2)), none, []⟩,
 ⟨6, (some 31), .bin .neq 3 true (.tmp 30) (.con (.int .i64 0)), none, []⟩,
 ⟨7, (some 32), .call 111 [(.tmp 25), (.tmp 27), (.tmp 31)], none, []⟩])
 (.seq (.reg [⟨0, (some 33), .mv (.tmp 0), none, []⟩,
 ⟨1, (some 34), .fieldA 3 (.tmp 3), none, []⟩,
 ⟨2, (some 35), .load none (.tmp 34), none, []⟩,
 ⟨3, (some 36), .fieldA 0 (.tmp 4), none, []⟩,
 ⟨4, (some 37), .load none (.tmp 36), none, []⟩,
 ⟨5, (some 38), .bin .and 3 true (.tmp 37) (.con (.int .i64 4)), none, []⟩,
 ⟨6, (some 39), .bin .neq 3 true (.tmp 38) (.con (.int .i64 0)), none, []⟩,
 ⟨7, (some 40), .call 111 [(.tmp 33), (.tmp 35), (.tmp 39)], none, []⟩])
 (.seq (.reg [⟨0, (some 41), .mv (.tmp 0), none, []⟩,
 ⟨1, (some 42), .fieldA 4 (.tmp 3), none, []⟩,
 ⟨2, (some 43), .load none (.tmp 42), none, []⟩,
 ⟨3, (some 44), .fieldA 0 (.tmp 4), none, []⟩,
 ⟨4, (some 45), .load none (.tmp 44), none, []⟩,
 ⟨5, (some 46), .bin .and 3 true (.tmp 45) (.con (.int .i64 8)), none, []⟩,
 ⟨6, (some 47), .bin .neq 3 true (.tmp 46) (.con (.int .i64 0)), none, []⟩,
 ⟨7, (some 48), .call 111 [(.tmp 41), (.tmp 43), (.tmp 47)], none, []⟩])
 (.seq (.reg [⟨0, (some 49), .mv (.tmp 0), none, []⟩,
 ⟨1, (some 50), .fieldA 6 (.tmp 3), none, []⟩,
 ⟨2, (some 51), .load none (.tmp 50), none, []⟩,
 ⟨3, (some 52), .fieldA 6 (.tmp 3), none, []⟩,
 ⟨4, (some 53), .load none (.tmp 52), none, []⟩,
 ⟨5, (some 54), .bin .neq 3 true (.tmp 53) (.con (.int .i64 (-1))), none, []⟩,
 ⟨6, (some 55), .call 111 [(.tmp 49), (.tmp 51), (.tmp 54)], none, []⟩])
 (.seq (.reg [⟨0, (some 6), .mv (.con (.int .i64 0)), none, []⟩])
 (.seq (.block 0
 (.seq (.reg [⟨0, (some 57), .fieldA 0 (.tmp 4), none, []⟩,
 ⟨1, (some 58), .load none (.tmp 57), none, []⟩,
 ⟨2, (some 59), .bin .and 3 true (.tmp 58) (.con (.int .i64 32)), none, []⟩,
 ⟨3, (some 60), .bin .neq 3 true (.tmp 59) (.con (.int .i64 0)), none, []⟩,
 ⟨4, (some 56), .mv (.tmp 60), none, []⟩])
 (.cond (.tmp 56)
 (.reg [⟨0, (some 61), .mv (.tmp 0), none, []⟩,
 ⟨1, (some 62), .nilck (.tmp 61), none, []⟩,
 ⟨2, (some 63), .fieldA 0 (.tmp 62), none, []⟩,
 ⟨3, (some 64), .fieldA 0 (.tmp 63), none, []⟩,
 ⟨4, (some 65), .load none (.tmp 64), none, []⟩,
 ⟨5, (some 66), .len (.tmp 65), none, []⟩,
 ⟨6, (some 6), .mv (.tmp 66), none, []⟩])
 (.seq (.reg [⟨0, (some 68), .fieldA 0 (.tmp 4), none, []⟩,
 ⟨1, (some 69), .load none (.tmp 68), none, []⟩,
 ⟨2, (some 70), .bin .and 3 true (.tmp 69) (.con (.int .i64 64)), none, []⟩,
 ⟨3, (some 71), .bin .neq 3 true (.tmp 70) (.con (.int .i64 0)), none, []⟩,
 ⟨4, (some 67), .mv (.tmp 71), none, []⟩])
 (.cond (.tmp 67)
 (.reg [⟨0, (some 72), .mv (.tmp 0), none, []⟩,
 ⟨1, (some 73), .nilck (.tmp 72), none, []⟩,
 ⟨2, (some 74), .fieldA 0 (.tmp 73), none, []⟩,
 ⟨3, (some 75), .fieldA 4 (.tmp 74), none, []⟩,
 ⟨4, (some 76), .load none (.tmp 75), none, []⟩,
 ⟨5, (some 6), .mv (.tmp 76), none, []⟩])
 (.seq (.reg [⟨0, (some 78), .fieldA 0 (.tmp 4), none, []⟩,
 ⟨1, (some 79), .load none (.tmp 78), none, []⟩,
 ⟨2, (some 80), .bin .and 3 true (.tmp 79) (.con (.int .i64 128)), none, []⟩,
 ⟨3, (some 81), .bin .neq 3 true (.tmp 80) (.con (.int .i64 0)), none, []⟩,
 ⟨4, (some 77), .mv (.tmp 81), none, []⟩])
 (.cond (.tmp 77)
 (.reg [⟨0, (some 82), .mv (.tmp 0), none, []⟩,
 ⟨1, (some 83), .nilck (.tmp 82), none, []⟩,
 ⟨2, (some 84), .fieldA 0 (.tmp 83), none, []⟩,
 ⟨3, (some 85), .fieldA 5 (.tmp 84), none, []⟩,
 ⟨4, (some 86), .load none (.tmp 85), none, []⟩,
 ⟨5, (some 87), .len (.tmp 86), none, []⟩,
 ⟨6, (some 6), .mv (.tmp 87), none, []⟩])
 (.reg [⟨0, (some 6), .mv (.con (.int .i64 (-1))), none, []⟩]))))))))
 (.seq (.reg [⟨0, (some 88), .mv (.tmp 0), none, []⟩,
 ⟨1, (some 89), .mv (.tmp 6), none, []⟩,
 ⟨2, (some 90), .bin .lss 2 true (.tmp 89) (.con (.int .i64 0)), none, []⟩,
 ⟨3, (some 91), .mv (.tmp 90), none, []⟩,
 ⟨4, (some 92), .fieldA 5 (.tmp 3), (some (91, false)), []⟩,
 ⟨5, (some 93), .load none (.tmp 92), (some (91, false)), []⟩,
 ⟨6, (some 94), .bin .geq 2 true (.tmp 93) (.con (.int .i64 0)), (some (91, false)), []⟩,
 ⟨7, (some 95), .mv (.tmp 94), (some (91, false)), []⟩,
 ⟨8, (some 96), .fieldA 5 (.tmp 3), (some (95, true)), []⟩,
 ⟨9, (some 97), .load none (.tmp 96), (some (95, true)), []⟩,
 ⟨10, (some 98), .mv (.tmp 6), (some (95, true)), []⟩,
 ⟨11, (some 99), .bin .lss 2 false (.tmp 97) (.tmp 98), (some (95, true)), []⟩,
 ⟨12, (some 100), .pick (.tmp 95) (.tmp 99) (.con (.bool false)), (some (91, false)), []⟩,
 ⟨13, (some 101), .pick (.tmp 91) (.con (.bool true)) (.tmp 100), none, []⟩,
 ⟨14, (some 102), .call 101 [(.tmp 88), (.tmp 101), (.con (.int .i64 5))], none, []⟩])
 (.seq (.reg [⟨0, (some 103), .fieldA 0 (.tmp 4), none, []⟩,
 ⟨1, (some 104), .load none (.tmp 103), none, []⟩,
 ⟨2, (some 105), .bin .and 3 true (.tmp 104) (.con (.int .i64 1)), none, []⟩,
 ⟨3, (some 106), .bin .eql 3 true (.tmp 105) (.con (.int .i64 0)), none, []⟩,
 ⟨4, (some 107), .mv (.tmp 106), none, []⟩,
 ⟨5, (some 108), .fieldA 1 (.tmp 3), (some (107, true)), []⟩,
 ⟨6, (some 109), .load none (.tmp 108), (some (107, true)), []⟩,
 ⟨7, (some 110), .bin .neq 3 true (.tmp 109) (.con (.int .i64 0)), (some (107, true)), []⟩,
 ⟨8, (some 111), .pick (.tmp 107) (.tmp 110) (.con (.bool false)), none, []⟩,
 ⟨9, (some 112), .mv (.tmp 111), none, []⟩,
 ⟨10, (some 113), .fieldA 0 (.tmp 4), (some (112, false)), []⟩,
 ⟨11, (some 114), .load none (.tmp 113), (some (112, false)), []⟩,
 ⟨12, (some 115), .bin .and 3 true (.tmp 114) (.con (.int .i64 2)), (some (112, false)), []⟩,
 ⟨13, (some 116), .bin .eql 3 true (.tmp 115) (.con (.int .i64 0)), (some (112, false)), []⟩,
 ⟨14, (some 117), .mv (.tmp 116), (some (112, false)), []⟩,
 ⟨15, (some 118), .fieldA 2 (.tmp 3), (some (117, true)), []⟩,
 ⟨16, (some 119), .load none (.tmp 118), (some (117, true)), []⟩,
 ⟨17, (some 120), .bin .neq 3 true (.tmp 119) (.con (.int .i64 0)), (some (117, true)), []⟩,
 ⟨18, (some 121), .pick (.tmp 117) (.tmp 120) (.con (.bool false)), (some (112, false)), []⟩,
 ⟨19, (some 122), .pick (.tmp 112) (.con (.bool true)) (.tmp 121), none, []⟩,
 ⟨20, (some 123), .mv (.tmp 122), none, []⟩,
 ⟨21, (some 124), .fieldA 0 (.tmp 4), (some (123, false)), []⟩,
 ⟨22, (some 125), .load none (.tmp 124), (some (123, false)), []⟩,
 ⟨23, (some 126), .bin .and 3 true (.tmp 125) (.con (.int .i64 4)), (some (123, false)), []⟩,
 ⟨24, (some 127), .bin .eql 3 true (.tmp 126) (.con (.int .i64 0)), (some (123, false)), []⟩,
 ⟨25, (some 128), .mv (.tmp 127), (some (123, false)), []⟩,
 ⟨26, (some 129), .fieldA 3 (.tmp 3), (some (128, true)), []⟩,
 ⟨27, (some 130), .load none (.tmp 129), (some (128, true)), []⟩,
 ⟨28, (some 131), .bin .neq 3 true (.tmp 130) (.con (.int .i64 0)), (some (128, true)), []⟩,
 ⟨29, (some 132), .pick (.tmp 128) (.tmp 131) (.con (.bool false)), (some (123, false)), []⟩,
 ⟨30, (some 133), .pick (.tmp 123) (.con (.bool true)) (.tmp 132), none, []⟩,
 ⟨31, (some 134), .mv (.tmp 133), none, []⟩,
 ⟨32, (some 135), .fieldA 0 (.tmp 4), (some (134, false)), []⟩,
 ⟨33, (some 136), .load none (.tmp 135), (some (134, false)), []⟩,
 ⟨34, (some 137), .bin .and 3 true (.tmp 136) (.con (.int .i64 8)), (some (134, false)), []⟩,
 ⟨35, (some 138), .bin .eql 3 true (.tmp 137) (.con (.int .i64 0)), (some (134, false)), []⟩,
 ⟨36, (some 139), .mv (.tmp 138), (some (134, false)), []⟩,
 ⟨37, (some 140), .fieldA 4 (.tmp 3), (some (139, true)), []⟩,
 ⟨38, (some 141), .load none (.tmp 140), (some (139, true)), []⟩,
 ⟨39, (some 142), .bin .neq 3 true (.tmp 141) (.con (.int .i64 0)), (some (139, true)), []⟩,
 ⟨40, (some 143), .pick (.tmp 139) (.tmp 142) (.con (.bool false)), (some (134, false)), []⟩,
 ⟨41, (some 144), .pick (.tmp 134) (.con (.bool true)) (.tmp 143), none, []⟩,
 ⟨42, (some 145), .mv (.tmp 144), none, []⟩,
 ⟨43, (some 146), .mv (.tmp 6), (some (145, false)), []⟩,
 ⟨44, (some 147), .bin .lss 2 true (.tmp 146) (.con (.int .i64 0)), (some (145, false)), []⟩,
 ⟨45, (some 148), .mv (.tmp 147), (some (145, false)), []⟩,
 ⟨46, (some 149), .fieldA 0 (.tmp 4), (some (148, true)), []⟩,
 ⟨47, (some 150), .load none (.tmp 149), (some (148, true)), []⟩,
 ⟨48, (some 151), .bin .and 3 true (.tmp 150) (.con (.int .i64 16)), (some (148, true)), []⟩,
 ⟨49, (some 152), .bin .eql 3 true (.tmp 151) (.con (.int .i64 0)), (some (148, true)), []⟩,
 ⟨50, (some 153), .pick (.tmp 148) (.tmp 152) (.con (.bool false)), (some (145, false)), []⟩,
 ⟨51, (some 154), .mv (.tmp 153), (some (145, false)), []⟩,
 ⟨52, (some 155), .fieldA 5 (.tmp 3), (some (154, true)), []⟩,
 ⟨53, (some 156), .load none (.tmp 155), (some (154, true)), []⟩,
 ⟨54, (some 157), .bin .neq 2 true (.tmp 156) (.con (.int .i64 0)), (some (154, true)), []⟩,
 ⟨55, (some 158), .pick (.tmp 154) (.tmp 157) (.con (.bool false)), (some (145, false)), []⟩,
 ⟨56, (some 159), .pick (.tmp 145) (.con (.bool true)) (.tmp 158), none, []⟩,
 ⟨57, (some 7), .mv (.tmp 159), none, []⟩])
 (.reg [⟨0, (some 160), .mv (.tmp 0), none, []⟩,
 ⟨1, (some 161), .mv (.tmp 7), none, []⟩,
 ⟨2, (some 162), .un .not (.tmp 161), none, []⟩,
 ⟨3, (some 163), .call 101 [(.tmp 160), (.tmp 162), (.con (.int .i64 4))], none, []⟩])))))))))))),
 []⟩
theorem p_code_checker_op : prepFun Go.Proofs.Tryd.prog [0] Go.Proofs.Tryd.f105 = some v_code_checker_op := by kernel_rfl

def v_code_checker_end : VFun :=
⟨.seq (.reg [⟨0, (some 3), .box (.tmp 1), none, []⟩])
 (.seq (.reg [⟨0, (some 6), .mv (.tmp 0), none, []⟩,
 ⟨1, (some 7), .fieldA 0 (.tmp 3), none, []⟩,
 ⟨2, (some 8), .load none (.tmp 7), none, []⟩,
 ⟨3, (some 9), .bin .geq 3 true (.tmp 8) (.con (.int .i64 1)), none, []⟩,
 ⟨4, (some 10), .mv (.tmp 9), none, []⟩,
 ⟨5, (some 11), .fieldA 0 (.tmp 3), (some (10, true)), []⟩,
 ⟨6, (some 12), .load none (.tmp 11), (some (10, true)), []⟩,
 ⟨7, (some 13), .bin .leq 3 true (.tmp 12) (.con (.int .i64 4)), (some (10, true)), []⟩,
 ⟨8, (some 14), .pick (.tmp 10) (.tmp 13) (.con (.bool false)), none, []⟩,
 ⟨9, (some 15), .call 101 [(.tmp 6), (.tmp 14), (.con (.int .i64 4))], none, []⟩])
 (.seq (.reg [⟨0, (some 16), .fieldA 0 (.tmp 3), none, []⟩,
 ⟨1, (some 17), .load none (.tmp 16), none, []⟩,
 ⟨2, (some 18), .bin .eql 3 true (.tmp 17) (.con (.int .i64 1)), none, []⟩,
 ⟨3, (some 19), .mv (.tmp 18), none, []⟩,
 ⟨4, (some 20), .fieldA 0 (.tmp 3), (some (19, false)), []⟩,
 ⟨5, (some 21), .load none (.tmp 20), (some (19, false)), []⟩,
 ⟨6, (some 22), .bin .eql 3 true (.tmp 21) (.con (.int .i64 2)), (some (19, false)), []⟩,
 ⟨7, (some 23), .pick (.tmp 19) (.con (.bool true)) (.tmp 22), none, []⟩,
 ⟨8, (some 24), .fieldA 0 (.tmp 3), none, []⟩,
 ⟨9, (some 25), .load none (.tmp 24), none, []⟩,
 ⟨10, (some 26), .bin .eql 3 true (.tmp 25) (.con (.int .i64 2)), none, []⟩,
 ⟨11, (some 4), .mv (.tmp 23), none, [(.tmp 24)]⟩,
 ⟨12, (some 5), .mv (.tmp 26), none, []⟩])
 (.seq (.reg [⟨0, (some 27), .mv (.tmp 0), none, []⟩,
 ⟨1, (some 28), .fieldA 1 (.tmp 3), none, []⟩,
 ⟨2, (some 29), .load none (.tmp 28), none, []⟩,
 ⟨3, (some 30), .fieldA 0 (.tmp 3), none, []⟩,
 ⟨4, (some 31), .load none (.tmp 30), none, []⟩,
 ⟨5, (some 32), .bin .neq 3 true (.tmp 31) (.con (.int .i64 1)), none, []⟩,
 ⟨6, (some 33), .call 111 [(.tmp 27), (.tmp 29), (.tmp 32)], none, []⟩])
 (.seq (.reg [⟨0, (some 34), .mv (.tmp 0), none, []⟩,
 ⟨1, (some 35), .mv (.tmp 4), none, []⟩,
 ⟨2, (some 36), .un .not (.tmp 35), none, []⟩,
 ⟨3, (some 37), .mv (.tmp 36), none, []⟩,
 ⟨4, (some 38), .fieldA 2 (.tmp 3), (some (37, false)), []⟩,
 ⟨5, (some 39), .load none (.tmp 38), (some (37, false)), []⟩,
 ⟨6, (some 40), .mv (.tmp 0), (some (37, false)), []⟩,
 ⟨7, (some 41), .nilck (.tmp 40), (some (37, false)), []⟩,
 ⟨8, (some 42), .fieldA 0 (.tmp 41), (some (37, false)), []⟩,
 ⟨9, (some 43), .fieldA 5 (.tmp 42), (some (37, false)), []⟩,
 ⟨10, (some 44), .load none (.tmp 43), (some (37, false)), []⟩,
 ⟨11, (some 45), .len (.tmp 44), (some (37, false)), []⟩,
 ⟨12, (some 46), .call 104 [(.tmp 39), (.tmp 45)], (some (37, false)), []⟩,
 ⟨13, (some 47), .pick (.tmp 37) (.con (.bool true)) (.tmp 46), none, []⟩,
 ⟨14, (some 48), .call 101 [(.tmp 34), (.tmp 47), (.con (.int .i64 5))], none, []⟩])
 (.seq (.reg [⟨0, (some 49), .mv (.tmp 0), none, []⟩,
 ⟨1, (some 50), .mv (.tmp 5), none, []⟩,
 ⟨2, (some 51), .un .not (.tmp 50), none, []⟩,
 ⟨3, (some 52), .mv (.tmp 51), none, []⟩,
 ⟨4, (some 53), .fieldA 3 (.tmp 3), (some (52, false)), []⟩,
 ⟨5, (some 54), .load none (.tmp 53), (some (52, false)), []⟩,
 ⟨6, (some 55), .mv (.tmp 0), (some (52, false)), []⟩,
 ⟨7, (some 56), .nilck (.tmp 55), (some (52, false)), []⟩,
 ⟨8, (some 57), .fieldA 0 (.tmp 56), (some (52, false)), []⟩,
 ⟨9, (some 58), .fieldA 5 (.tmp 57), (some (52, false)), []⟩,
 ⟨10, (some 59), .load none (.tmp 58), (some (52, false)), []⟩,
 ⟨11, (some 60), .len (.tmp 59), (some (52, false)), []⟩,
 ⟨12, (some 61), .call 104 [(.tmp 54), (.tmp 60)], (some (52, false)), []⟩,
 ⟨13, (some 62), .pick (.tmp 52) (.con (.bool true)) (.tmp 61), none, []⟩,
 ⟨14, (some 63), .call 101 [(.tmp 49), (.tmp 62), (.con (.int .i64 5))], none, []⟩])
 (.reg [⟨0, (some 64), .mv (.tmp 0), none, []⟩,
 ⟨1, (some 65), .fieldA 0 (.tmp 3), none, []⟩,
 ⟨2, (some 66), .load none (.tmp 65), none, []⟩,
 ⟨3, (some 67), .bin .neq 3 true (.tmp 66) (.con (.int .i64 1)), none, []⟩,
 ⟨4, (some 68), .mv (.tmp 67), none, []⟩,
 ⟨5, (some 69), .fieldA 1 (.tmp 3), (some (68, false)), []⟩,
 ⟨6, (some 70), .load none (.tmp 69), (some (68, false)), []⟩,
 ⟨7, (some 71), .bin .eql 3 true (.tmp 70) (.con (.int .i64 0)), (some (68, false)), []⟩,
 ⟨8, (some 72), .pick (.tmp 68) (.con (.bool true)) (.tmp 71), none, []⟩,
 ⟨9, (some 73), .mv (.tmp 72), none, []⟩,
 ⟨10, (some 74), .mv (.tmp 4), (some (73, true)), []⟩,
 ⟨11, (some 75), .mv (.tmp 74), (some (73, true)), []⟩,
 ⟨12, (some 76), .fieldA 2 (.tmp 3), (some (75, false)), []⟩,
 ⟨13, (some 77), .load none (.tmp 76), (some (75, false)), []⟩,
 ⟨14, (some 78), .bin .eql 3 true (.tmp 77) (.con (.int .i64 0)), (some (75, false)), []⟩,
 ⟨15, (some 79), .pick (.tmp 75) (.con (.bool true)) (.tmp 78), (some (73, true)), []⟩,
 ⟨16, (some 80), .pick (.tmp 73) (.tmp 79) (.con (.bool false)), none, []⟩,
 ⟨17, (some 81), .mv (.tmp 80), none, []⟩,
 ⟨18, (some 82), .mv (.tmp 5), (some (81, true)), []⟩,
 ⟨19, (some 83), .mv (.tmp 82), (some (81, true)), []⟩,
 ⟨20, (some 84), .fieldA 3 (.tmp 3), (some (83, false)), []⟩,
 ⟨21, (some 85), .load none (.tmp 84), (some (83, false)), []⟩,
 ⟨22, (some 86), .bin .eql 3 true (.tmp 85) (.con (.int .i64 0)), (some (83, false)), []⟩,
 ⟨23, (some 87), .pick (.tmp 83) (.con (.bool true)) (.tmp 86), (some (81, true)), []⟩,
 ⟨24, (some 88), .pick (.tmp 81) (.tmp 87) (.con (.bool false)), none, []⟩,
 ⟨25, (some 89), .call 101 [(.tmp 64), (.tmp 88), (.con (.int .i64 4))], none, []⟩])))))),
 []⟩
theorem p_code_checker_end : prepFun Go.Proofs.Tryd.prog [0] Go.Proofs.Tryd.f106 = some v_code_checker_end := by kernel_rfl

def v_slices_IndexFunc_int : VFun :=
⟨.seq (.reg [⟨0, (some 4), .mv (.con (.int .i64 0)), none, []⟩])
 (.seq (.seq (.reg [⟨0, (some 6), .mv (.tmp 0), none, []⟩,
 ⟨1, (some 7), .len (.tmp 6), none, []⟩,
 ⟨2, (some 8), .mv (.con (.int .i64 0)), none, []⟩])
 (.block 0
 (.loop
 (.seq (.reg [⟨0, (some 9), .bin .lss 3 false (.tmp 8) (.tmp 7), none, []⟩])
 (.seq (.cond (.tmp 9)
 (.skip)
 (.exit 0))
 (.seq (.block 1
 (.seq (.reg [⟨0, (some 10), .mv (.tmp 8), none, []⟩,
 ⟨1, (some 5), .mv (.tmp 10), none, []⟩])
 (.seq (.reg [⟨0, (some 11), .mv (.tmp 1), none, []⟩,
 ⟨1, (some 12), .mv (.tmp 0), none, []⟩,
 ⟨2, (some 13), .mv (.tmp 5), none, []⟩,
 ⟨3, (some 14), .idxA none 1 (.tmp 12) (.tmp 13), none, []⟩,
 ⟨4, (some 15), .load none (.tmp 14), none, []⟩,
 ⟨5, (some 16), .callv (.tmp 11) [(.tmp 15)], none, []⟩])
 (.cond (.tmp 16)
 (.seq (.reg [⟨0, (some 17), .mv (.tmp 5), none, []⟩,
 ⟨1, (some 4), .mv (.tmp 17), none, []⟩])
 (.ret))
 (.skip)))))
 (.reg [⟨0, (some 18), .bin .add 3 true (.tmp 8) (.con (.int .i64 1)), none, []⟩,
 ⟨1, (some 8), .mv (.tmp 18), none, []⟩])))))))
 (.seq (.reg [⟨0, (some 4), .mv (.con (.int .i64 (-1))), none, []⟩])
 (.ret))),
 [.tmp 4]⟩
theorem p_slices_IndexFunc_int : prepFun Go.Proofs.Tryd.prog [0] Go.Proofs.Tryd.f109 = some v_slices_IndexFunc_int := by kernel_rfl

def v_code_of : VFun :=
⟨.seq (.reg [⟨0, (some 2), .alloc [(.int .i64 0), (.int .i64 0), (.string ⟨#[]⟩)], none, []⟩,
 ⟨1, (some 3), .mv (.con (.bool false)), none, []⟩])
 (.seq (.seq (.reg [⟨0, (some 4), .mv (.tmp 0), none, []⟩,
 ⟨1, (some 5), .bin .lss 3 true (.tmp 4) (.con (.int .i64 1)), none, []⟩,
 ⟨2, (some 6), .mv (.tmp 5), none, []⟩,
 ⟨3, (some 7), .mv (.tmp 0), (some (6, false)), []⟩,
 ⟨4, (some 8), .bin .gtr 3 true (.tmp 7) (.con (.int .i64 25)), (some (6, false)), []⟩,
 ⟨5, (some 9), .pick (.tmp 6) (.con (.bool true)) (.tmp 8), none, []⟩])
 (.cond (.tmp 9)
 (.seq (.reg [⟨0, (some 10), .build [(.int .i64 0), (.int .i64 0), (.string ⟨#[]⟩)] [], none, []⟩,
 ⟨1, none, .store 3 (.tmp 2) (.tmp 10), none, []⟩,
 ⟨2, (some 3), .mv (.con (.bool false)), none, []⟩])
 (.ret))
 (.skip)))
 (.seq (.reg [⟨0, (some 11), .mv (.tmp 0), none, []⟩,
 ⟨1, (some 12), .bin .sub 3 true (.tmp 11) (.con (.int .i64 1)), none, []⟩,
 ⟨2, (some 13), .idxA (some 25) 3 (.glo 0) (.tmp 12), none, []⟩,
 ⟨3, (some 14), .load (some 3) (.tmp 13), none, []⟩,
 ⟨4, none, .store 3 (.tmp 2) (.tmp 14), none, []⟩,
 ⟨5, (some 3), .mv (.con (.bool true)), none, []⟩])
 (.ret))),
 [.cell 2 (some 3), .tmp 3]⟩
theorem p_code_of : prepFun Go.Proofs.Tryd.prog [0] Go.Proofs.Tryd.f110 = some v_code_of := by kernel_rfl

def v_code_checker_reg : VFun :=
⟨.reg [⟨0, (some 6), .mv (.tmp 0), none, []⟩,
 ⟨1, (some 7), .mv (.tmp 2), none, []⟩,
 ⟨2, (some 8), .un .not (.tmp 7), none, []⟩,
 ⟨3, (some 9), .mv (.tmp 8), none, []⟩,
 ⟨4, (some 10), .mv (.tmp 1), (some (9, false)), []⟩,
 ⟨5, (some 11), .mv (.tmp 0), (some (9, false)), []⟩,
 ⟨6, (some 12), .nilck (.tmp 11), (some (9, false)), []⟩,
 ⟨7, (some 13), .fieldA 0 (.tmp 12), (some (9, false)), []⟩,
 ⟨8, (some 14), .fieldA 2 (.tmp 13), (some (9, false)), []⟩,
 ⟨9, (some 15), .load none (.tmp 14), (some (9, false)), []⟩,
 ⟨10, (some 16), .call 104 [(.tmp 10), (.tmp 15)], (some (9, false)), []⟩,
 ⟨11, (some 17), .pick (.tmp 9) (.con (.bool true)) (.tmp 16), none, []⟩,
 ⟨12, (some 18), .call 101 [(.tmp 6), (.tmp 17), (.con (.int .i64 2))], none, []⟩],
 []⟩
theorem p_code_checker_reg : prepFun Go.Proofs.Tryd.prog [0] Go.Proofs.Tryd.f111 = some v_code_checker_reg := by kernel_rfl

end Go.VX.Seat
end
section
/-! MADE BY PROGRAM (lits.py): the functions of the seat. -/
set_option maxRecDepth 20000
namespace Go.VX.Seat
def fns : List (Nat × VFun) := [(3, v_l17_TraceExtends), (4, v_l17_TraceFollows), (5, v_l17_TraceUnrolls), (6, v_l17_TraceAgain), (7, v_l17_TraceLikely), (11, v_l17_cut), (12, v_trace_Extend), (13, v_l17_there), (14, v_r17_Extend), (15, v_l17_same), (16, v_r07_Same), (17, v_l17_alive), (18, v_l17_profile), (19, v_trace_Follow), (20, v_r17_Follow), (21, v_trace_Unroll), (22, v_trace_Loops), (23, v_r17_Unroll), (24, v_r07_Check), (25, v_r17_Loops), (26, v_l17_ints), (27, v_trace_Likely), (28, v_trace_Trace), (29, v_r17_Likely), (30, v_r17_Trace), (38, v_r07_Cut), (39, v_trace_look), (40, v_trace_next), (41, v_code_Copy), (42, v_trace_extend), (43, v_code_Check), (44, v_r17_Can), (45, v_r17_Next), (46, v_r17_with), (47, v_r07_SameBlocks), (48, v_l17_loop), (49, v_trace_with), (50, v_trace_follow), (51, v_r17_follow), (52, v_trace_around), (53, v_r17_self), (54, v_r07_Copy), (55, v_r07_Find), (56, v_trace_likely), (57, v_trace_trace), (58, v_r17_in), (65, v_slices_Clone_int), (66, v_slices_Clone_Block), (67, v_slices_Clone_Op), (69, v_r07_SameOps), (70, v_trace_longer), (71, v_r07_register), (72, v_r07_op), (73, v_r07_end), (74, v_slices_Contains_int), (80, v_code_checker_unit), (81, v_r07_One), (82, v_r07_HasDst), (83, v_r07_HasA), (84, v_r07_HasB), (85, v_r07_HasC), (86, v_r07_Array), (87, v_r07_Cell), (88, v_r07_HasN), (89, v_r07_EndA), (90, v_r07_EndTo), (91, v_r07_there), (92, v_r07_EndElse), (93, v_slices_Index_int), (101, v_code_checker_must), (102, v_slices_ContainsFunc_int), (103, v_code_checker_unit_c1), (104, v_code_within), (105, v_code_checker_op), (106, v_code_checker_end), (109, v_slices_IndexFunc_int), (110, v_code_of), (111, v_code_checker_reg)]
def fnOf (f : FuncId) : Option VFun := match f with
  | 3 => some v_l17_TraceExtends
  | 4 => some v_l17_TraceFollows
  | 5 => some v_l17_TraceUnrolls
  | 6 => some v_l17_TraceAgain
  | 7 => some v_l17_TraceLikely
  | 11 => some v_l17_cut
  | 12 => some v_trace_Extend
  | 13 => some v_l17_there
  | 14 => some v_r17_Extend
  | 15 => some v_l17_same
  | 16 => some v_r07_Same
  | 17 => some v_l17_alive
  | 18 => some v_l17_profile
  | 19 => some v_trace_Follow
  | 20 => some v_r17_Follow
  | 21 => some v_trace_Unroll
  | 22 => some v_trace_Loops
  | 23 => some v_r17_Unroll
  | 24 => some v_r07_Check
  | 25 => some v_r17_Loops
  | 26 => some v_l17_ints
  | 27 => some v_trace_Likely
  | 28 => some v_trace_Trace
  | 29 => some v_r17_Likely
  | 30 => some v_r17_Trace
  | 38 => some v_r07_Cut
  | 39 => some v_trace_look
  | 40 => some v_trace_next
  | 41 => some v_code_Copy
  | 42 => some v_trace_extend
  | 43 => some v_code_Check
  | 44 => some v_r17_Can
  | 45 => some v_r17_Next
  | 46 => some v_r17_with
  | 47 => some v_r07_SameBlocks
  | 48 => some v_l17_loop
  | 49 => some v_trace_with
  | 50 => some v_trace_follow
  | 51 => some v_r17_follow
  | 52 => some v_trace_around
  | 53 => some v_r17_self
  | 54 => some v_r07_Copy
  | 55 => some v_r07_Find
  | 56 => some v_trace_likely
  | 57 => some v_trace_trace
  | 58 => some v_r17_in
  | 65 => some v_slices_Clone_int
  | 66 => some v_slices_Clone_Block
  | 67 => some v_slices_Clone_Op
  | 69 => some v_r07_SameOps
  | 70 => some v_trace_longer
  | 71 => some v_r07_register
  | 72 => some v_r07_op
  | 73 => some v_r07_end
  | 74 => some v_slices_Contains_int
  | 80 => some v_code_checker_unit
  | 81 => some v_r07_One
  | 82 => some v_r07_HasDst
  | 83 => some v_r07_HasA
  | 84 => some v_r07_HasB
  | 85 => some v_r07_HasC
  | 86 => some v_r07_Array
  | 87 => some v_r07_Cell
  | 88 => some v_r07_HasN
  | 89 => some v_r07_EndA
  | 90 => some v_r07_EndTo
  | 91 => some v_r07_there
  | 92 => some v_r07_EndElse
  | 93 => some v_slices_Index_int
  | 101 => some v_code_checker_must
  | 102 => some v_slices_ContainsFunc_int
  | 103 => some v_code_checker_unit_c1
  | 104 => some v_code_within
  | 105 => some v_code_checker_op
  | 106 => some v_code_checker_end
  | 109 => some v_slices_IndexFunc_int
  | 110 => some v_code_of
  | 111 => some v_code_checker_reg
  | _ => none
theorem o_l17_TraceExtends : FunOk Go.Proofs.Tryd.prog [0] 3 v_l17_TraceExtends := ⟨⟨Go.Proofs.Tryd.f3, _, by kernel_rfl, rfl, by kernel_rfl, p_l17_TraceExtends⟩⟩
theorem o_l17_TraceFollows : FunOk Go.Proofs.Tryd.prog [0] 4 v_l17_TraceFollows := ⟨⟨Go.Proofs.Tryd.f4, _, by kernel_rfl, rfl, by kernel_rfl, p_l17_TraceFollows⟩⟩
theorem o_l17_TraceUnrolls : FunOk Go.Proofs.Tryd.prog [0] 5 v_l17_TraceUnrolls := ⟨⟨Go.Proofs.Tryd.f5, _, by kernel_rfl, rfl, by kernel_rfl, p_l17_TraceUnrolls⟩⟩
theorem o_l17_TraceAgain : FunOk Go.Proofs.Tryd.prog [0] 6 v_l17_TraceAgain := ⟨⟨Go.Proofs.Tryd.f6, _, by kernel_rfl, rfl, by kernel_rfl, p_l17_TraceAgain⟩⟩
theorem o_l17_TraceLikely : FunOk Go.Proofs.Tryd.prog [0] 7 v_l17_TraceLikely := ⟨⟨Go.Proofs.Tryd.f7, _, by kernel_rfl, rfl, by kernel_rfl, p_l17_TraceLikely⟩⟩
theorem o_l17_cut : FunOk Go.Proofs.Tryd.prog [0] 11 v_l17_cut := ⟨⟨Go.Proofs.Tryd.f11, _, by kernel_rfl, rfl, by kernel_rfl, p_l17_cut⟩⟩
theorem o_trace_Extend : FunOk Go.Proofs.Tryd.prog [0] 12 v_trace_Extend := ⟨⟨Go.Proofs.Tryd.f12, _, by kernel_rfl, rfl, by kernel_rfl, p_trace_Extend⟩⟩
theorem o_l17_there : FunOk Go.Proofs.Tryd.prog [0] 13 v_l17_there := ⟨⟨Go.Proofs.Tryd.f13, _, by kernel_rfl, rfl, by kernel_rfl, p_l17_there⟩⟩
theorem o_r17_Extend : FunOk Go.Proofs.Tryd.prog [0] 14 v_r17_Extend := ⟨⟨Go.Proofs.Tryd.f14, _, by kernel_rfl, rfl, by kernel_rfl, p_r17_Extend⟩⟩
theorem o_l17_same : FunOk Go.Proofs.Tryd.prog [0] 15 v_l17_same := ⟨⟨Go.Proofs.Tryd.f15, _, by kernel_rfl, rfl, by kernel_rfl, p_l17_same⟩⟩
theorem o_r07_Same : FunOk Go.Proofs.Tryd.prog [0] 16 v_r07_Same := ⟨⟨Go.Proofs.Tryd.f16, _, by kernel_rfl, rfl, by kernel_rfl, p_r07_Same⟩⟩
theorem o_l17_alive : FunOk Go.Proofs.Tryd.prog [0] 17 v_l17_alive := ⟨⟨Go.Proofs.Tryd.f17, _, by kernel_rfl, rfl, by kernel_rfl, p_l17_alive⟩⟩
theorem o_l17_profile : FunOk Go.Proofs.Tryd.prog [0] 18 v_l17_profile := ⟨⟨Go.Proofs.Tryd.f18, _, by kernel_rfl, rfl, by kernel_rfl, p_l17_profile⟩⟩
theorem o_trace_Follow : FunOk Go.Proofs.Tryd.prog [0] 19 v_trace_Follow := ⟨⟨Go.Proofs.Tryd.f19, _, by kernel_rfl, rfl, by kernel_rfl, p_trace_Follow⟩⟩
theorem o_r17_Follow : FunOk Go.Proofs.Tryd.prog [0] 20 v_r17_Follow := ⟨⟨Go.Proofs.Tryd.f20, _, by kernel_rfl, rfl, by kernel_rfl, p_r17_Follow⟩⟩
theorem o_trace_Unroll : FunOk Go.Proofs.Tryd.prog [0] 21 v_trace_Unroll := ⟨⟨Go.Proofs.Tryd.f21, _, by kernel_rfl, rfl, by kernel_rfl, p_trace_Unroll⟩⟩
theorem o_trace_Loops : FunOk Go.Proofs.Tryd.prog [0] 22 v_trace_Loops := ⟨⟨Go.Proofs.Tryd.f22, _, by kernel_rfl, rfl, by kernel_rfl, p_trace_Loops⟩⟩
theorem o_r17_Unroll : FunOk Go.Proofs.Tryd.prog [0] 23 v_r17_Unroll := ⟨⟨Go.Proofs.Tryd.f23, _, by kernel_rfl, rfl, by kernel_rfl, p_r17_Unroll⟩⟩
theorem o_r07_Check : FunOk Go.Proofs.Tryd.prog [0] 24 v_r07_Check := ⟨⟨Go.Proofs.Tryd.f24, _, by kernel_rfl, rfl, by kernel_rfl, p_r07_Check⟩⟩
theorem o_r17_Loops : FunOk Go.Proofs.Tryd.prog [0] 25 v_r17_Loops := ⟨⟨Go.Proofs.Tryd.f25, _, by kernel_rfl, rfl, by kernel_rfl, p_r17_Loops⟩⟩
theorem o_l17_ints : FunOk Go.Proofs.Tryd.prog [0] 26 v_l17_ints := ⟨⟨Go.Proofs.Tryd.f26, _, by kernel_rfl, rfl, by kernel_rfl, p_l17_ints⟩⟩
theorem o_trace_Likely : FunOk Go.Proofs.Tryd.prog [0] 27 v_trace_Likely := ⟨⟨Go.Proofs.Tryd.f27, _, by kernel_rfl, rfl, by kernel_rfl, p_trace_Likely⟩⟩
theorem o_trace_Trace : FunOk Go.Proofs.Tryd.prog [0] 28 v_trace_Trace := ⟨⟨Go.Proofs.Tryd.f28, _, by kernel_rfl, rfl, by kernel_rfl, p_trace_Trace⟩⟩
theorem o_r17_Likely : FunOk Go.Proofs.Tryd.prog [0] 29 v_r17_Likely := ⟨⟨Go.Proofs.Tryd.f29, _, by kernel_rfl, rfl, by kernel_rfl, p_r17_Likely⟩⟩
theorem o_r17_Trace : FunOk Go.Proofs.Tryd.prog [0] 30 v_r17_Trace := ⟨⟨Go.Proofs.Tryd.f30, _, by kernel_rfl, rfl, by kernel_rfl, p_r17_Trace⟩⟩
theorem o_r07_Cut : FunOk Go.Proofs.Tryd.prog [0] 38 v_r07_Cut := ⟨⟨Go.Proofs.Tryd.f38, _, by kernel_rfl, rfl, by kernel_rfl, p_r07_Cut⟩⟩
theorem o_trace_look : FunOk Go.Proofs.Tryd.prog [0] 39 v_trace_look := ⟨⟨Go.Proofs.Tryd.f39, _, by kernel_rfl, rfl, by kernel_rfl, p_trace_look⟩⟩
theorem o_trace_next : FunOk Go.Proofs.Tryd.prog [0] 40 v_trace_next := ⟨⟨Go.Proofs.Tryd.f40, _, by kernel_rfl, rfl, by kernel_rfl, p_trace_next⟩⟩
theorem o_code_Copy : FunOk Go.Proofs.Tryd.prog [0] 41 v_code_Copy := ⟨⟨Go.Proofs.Tryd.f41, _, by kernel_rfl, rfl, by kernel_rfl, p_code_Copy⟩⟩
theorem o_trace_extend : FunOk Go.Proofs.Tryd.prog [0] 42 v_trace_extend := ⟨⟨Go.Proofs.Tryd.f42, _, by kernel_rfl, rfl, by kernel_rfl, p_trace_extend⟩⟩
theorem o_code_Check : FunOk Go.Proofs.Tryd.prog [0] 43 v_code_Check := ⟨⟨Go.Proofs.Tryd.f43, _, by kernel_rfl, rfl, by kernel_rfl, p_code_Check⟩⟩
theorem o_r17_Can : FunOk Go.Proofs.Tryd.prog [0] 44 v_r17_Can := ⟨⟨Go.Proofs.Tryd.f44, _, by kernel_rfl, rfl, by kernel_rfl, p_r17_Can⟩⟩
theorem o_r17_Next : FunOk Go.Proofs.Tryd.prog [0] 45 v_r17_Next := ⟨⟨Go.Proofs.Tryd.f45, _, by kernel_rfl, rfl, by kernel_rfl, p_r17_Next⟩⟩
theorem o_r17_with : FunOk Go.Proofs.Tryd.prog [0] 46 v_r17_with := ⟨⟨Go.Proofs.Tryd.f46, _, by kernel_rfl, rfl, by kernel_rfl, p_r17_with⟩⟩
theorem o_r07_SameBlocks : FunOk Go.Proofs.Tryd.prog [0] 47 v_r07_SameBlocks := ⟨⟨Go.Proofs.Tryd.f47, _, by kernel_rfl, rfl, by kernel_rfl, p_r07_SameBlocks⟩⟩
theorem o_l17_loop : FunOk Go.Proofs.Tryd.prog [0] 48 v_l17_loop := ⟨⟨Go.Proofs.Tryd.f48, _, by kernel_rfl, rfl, by kernel_rfl, p_l17_loop⟩⟩
theorem o_trace_with : FunOk Go.Proofs.Tryd.prog [0] 49 v_trace_with := ⟨⟨Go.Proofs.Tryd.f49, _, by kernel_rfl, rfl, by kernel_rfl, p_trace_with⟩⟩
theorem o_trace_follow : FunOk Go.Proofs.Tryd.prog [0] 50 v_trace_follow := ⟨⟨Go.Proofs.Tryd.f50, _, by kernel_rfl, rfl, by kernel_rfl, p_trace_follow⟩⟩
theorem o_r17_follow : FunOk Go.Proofs.Tryd.prog [0] 51 v_r17_follow := ⟨⟨Go.Proofs.Tryd.f51, _, by kernel_rfl, rfl, by kernel_rfl, p_r17_follow⟩⟩
theorem o_trace_around : FunOk Go.Proofs.Tryd.prog [0] 52 v_trace_around := ⟨⟨Go.Proofs.Tryd.f52, _, by kernel_rfl, rfl, by kernel_rfl, p_trace_around⟩⟩
theorem o_r17_self : FunOk Go.Proofs.Tryd.prog [0] 53 v_r17_self := ⟨⟨Go.Proofs.Tryd.f53, _, by kernel_rfl, rfl, by kernel_rfl, p_r17_self⟩⟩
theorem o_r07_Copy : FunOk Go.Proofs.Tryd.prog [0] 54 v_r07_Copy := ⟨⟨Go.Proofs.Tryd.f54, _, by kernel_rfl, rfl, by kernel_rfl, p_r07_Copy⟩⟩
theorem o_r07_Find : FunOk Go.Proofs.Tryd.prog [0] 55 v_r07_Find := ⟨⟨Go.Proofs.Tryd.f55, _, by kernel_rfl, rfl, by kernel_rfl, p_r07_Find⟩⟩
theorem o_trace_likely : FunOk Go.Proofs.Tryd.prog [0] 56 v_trace_likely := ⟨⟨Go.Proofs.Tryd.f56, _, by kernel_rfl, rfl, by kernel_rfl, p_trace_likely⟩⟩
theorem o_trace_trace : FunOk Go.Proofs.Tryd.prog [0] 57 v_trace_trace := ⟨⟨Go.Proofs.Tryd.f57, _, by kernel_rfl, rfl, by kernel_rfl, p_trace_trace⟩⟩
theorem o_r17_in : FunOk Go.Proofs.Tryd.prog [0] 58 v_r17_in := ⟨⟨Go.Proofs.Tryd.f58, _, by kernel_rfl, rfl, by kernel_rfl, p_r17_in⟩⟩
theorem o_slices_Clone_int : FunOk Go.Proofs.Tryd.prog [0] 65 v_slices_Clone_int := ⟨⟨Go.Proofs.Tryd.f65, _, by kernel_rfl, rfl, by kernel_rfl, p_slices_Clone_int⟩⟩
theorem o_slices_Clone_Block : FunOk Go.Proofs.Tryd.prog [0] 66 v_slices_Clone_Block := ⟨⟨Go.Proofs.Tryd.f66, _, by kernel_rfl, rfl, by kernel_rfl, p_slices_Clone_Block⟩⟩
theorem o_slices_Clone_Op : FunOk Go.Proofs.Tryd.prog [0] 67 v_slices_Clone_Op := ⟨⟨Go.Proofs.Tryd.f67, _, by kernel_rfl, rfl, by kernel_rfl, p_slices_Clone_Op⟩⟩
theorem o_r07_SameOps : FunOk Go.Proofs.Tryd.prog [0] 69 v_r07_SameOps := ⟨⟨Go.Proofs.Tryd.f69, _, by kernel_rfl, rfl, by kernel_rfl, p_r07_SameOps⟩⟩
theorem o_trace_longer : FunOk Go.Proofs.Tryd.prog [0] 70 v_trace_longer := ⟨⟨Go.Proofs.Tryd.f70, _, by kernel_rfl, rfl, by kernel_rfl, p_trace_longer⟩⟩
theorem o_r07_register : FunOk Go.Proofs.Tryd.prog [0] 71 v_r07_register := ⟨⟨Go.Proofs.Tryd.f71, _, by kernel_rfl, rfl, by kernel_rfl, p_r07_register⟩⟩
theorem o_r07_op : FunOk Go.Proofs.Tryd.prog [0] 72 v_r07_op := ⟨⟨Go.Proofs.Tryd.f72, _, by kernel_rfl, rfl, by kernel_rfl, p_r07_op⟩⟩
theorem o_r07_end : FunOk Go.Proofs.Tryd.prog [0] 73 v_r07_end := ⟨⟨Go.Proofs.Tryd.f73, _, by kernel_rfl, rfl, by kernel_rfl, p_r07_end⟩⟩
theorem o_slices_Contains_int : FunOk Go.Proofs.Tryd.prog [0] 74 v_slices_Contains_int := ⟨⟨Go.Proofs.Tryd.f74, _, by kernel_rfl, rfl, by kernel_rfl, p_slices_Contains_int⟩⟩
theorem o_code_checker_unit : FunOk Go.Proofs.Tryd.prog [0] 80 v_code_checker_unit := ⟨⟨Go.Proofs.Tryd.f80, _, by kernel_rfl, rfl, by kernel_rfl, p_code_checker_unit⟩⟩
theorem o_r07_One : FunOk Go.Proofs.Tryd.prog [0] 81 v_r07_One := ⟨⟨Go.Proofs.Tryd.f81, _, by kernel_rfl, rfl, by kernel_rfl, p_r07_One⟩⟩
theorem o_r07_HasDst : FunOk Go.Proofs.Tryd.prog [0] 82 v_r07_HasDst := ⟨⟨Go.Proofs.Tryd.f82, _, by kernel_rfl, rfl, by kernel_rfl, p_r07_HasDst⟩⟩
theorem o_r07_HasA : FunOk Go.Proofs.Tryd.prog [0] 83 v_r07_HasA := ⟨⟨Go.Proofs.Tryd.f83, _, by kernel_rfl, rfl, by kernel_rfl, p_r07_HasA⟩⟩
theorem o_r07_HasB : FunOk Go.Proofs.Tryd.prog [0] 84 v_r07_HasB := ⟨⟨Go.Proofs.Tryd.f84, _, by kernel_rfl, rfl, by kernel_rfl, p_r07_HasB⟩⟩
theorem o_r07_HasC : FunOk Go.Proofs.Tryd.prog [0] 85 v_r07_HasC := ⟨⟨Go.Proofs.Tryd.f85, _, by kernel_rfl, rfl, by kernel_rfl, p_r07_HasC⟩⟩
theorem o_r07_Array : FunOk Go.Proofs.Tryd.prog [0] 86 v_r07_Array := ⟨⟨Go.Proofs.Tryd.f86, _, by kernel_rfl, rfl, by kernel_rfl, p_r07_Array⟩⟩
theorem o_r07_Cell : FunOk Go.Proofs.Tryd.prog [0] 87 v_r07_Cell := ⟨⟨Go.Proofs.Tryd.f87, _, by kernel_rfl, rfl, by kernel_rfl, p_r07_Cell⟩⟩
theorem o_r07_HasN : FunOk Go.Proofs.Tryd.prog [0] 88 v_r07_HasN := ⟨⟨Go.Proofs.Tryd.f88, _, by kernel_rfl, rfl, by kernel_rfl, p_r07_HasN⟩⟩
theorem o_r07_EndA : FunOk Go.Proofs.Tryd.prog [0] 89 v_r07_EndA := ⟨⟨Go.Proofs.Tryd.f89, _, by kernel_rfl, rfl, by kernel_rfl, p_r07_EndA⟩⟩
theorem o_r07_EndTo : FunOk Go.Proofs.Tryd.prog [0] 90 v_r07_EndTo := ⟨⟨Go.Proofs.Tryd.f90, _, by kernel_rfl, rfl, by kernel_rfl, p_r07_EndTo⟩⟩
theorem o_r07_there : FunOk Go.Proofs.Tryd.prog [0] 91 v_r07_there := ⟨⟨Go.Proofs.Tryd.f91, _, by kernel_rfl, rfl, by kernel_rfl, p_r07_there⟩⟩
theorem o_r07_EndElse : FunOk Go.Proofs.Tryd.prog [0] 92 v_r07_EndElse := ⟨⟨Go.Proofs.Tryd.f92, _, by kernel_rfl, rfl, by kernel_rfl, p_r07_EndElse⟩⟩
theorem o_slices_Index_int : FunOk Go.Proofs.Tryd.prog [0] 93 v_slices_Index_int := ⟨⟨Go.Proofs.Tryd.f93, _, by kernel_rfl, rfl, by kernel_rfl, p_slices_Index_int⟩⟩
theorem o_code_checker_must : FunOk Go.Proofs.Tryd.prog [0] 101 v_code_checker_must := ⟨⟨Go.Proofs.Tryd.f101, _, by kernel_rfl, rfl, by kernel_rfl, p_code_checker_must⟩⟩
theorem o_slices_ContainsFunc_int : FunOk Go.Proofs.Tryd.prog [0] 102 v_slices_ContainsFunc_int := ⟨⟨Go.Proofs.Tryd.f102, _, by kernel_rfl, rfl, by kernel_rfl, p_slices_ContainsFunc_int⟩⟩
theorem o_code_checker_unit_c1 : FunOk Go.Proofs.Tryd.prog [0] 103 v_code_checker_unit_c1 := ⟨⟨Go.Proofs.Tryd.f103, _, by kernel_rfl, rfl, by kernel_rfl, p_code_checker_unit_c1⟩⟩
theorem o_code_within : FunOk Go.Proofs.Tryd.prog [0] 104 v_code_within := ⟨⟨Go.Proofs.Tryd.f104, _, by kernel_rfl, rfl, by kernel_rfl, p_code_within⟩⟩
theorem o_code_checker_op : FunOk Go.Proofs.Tryd.prog [0] 105 v_code_checker_op := ⟨⟨Go.Proofs.Tryd.f105, _, by kernel_rfl, rfl, by kernel_rfl, p_code_checker_op⟩⟩
theorem o_code_checker_end : FunOk Go.Proofs.Tryd.prog [0] 106 v_code_checker_end := ⟨⟨Go.Proofs.Tryd.f106, _, by kernel_rfl, rfl, by kernel_rfl, p_code_checker_end⟩⟩
theorem o_slices_IndexFunc_int : FunOk Go.Proofs.Tryd.prog [0] 109 v_slices_IndexFunc_int := ⟨⟨Go.Proofs.Tryd.f109, _, by kernel_rfl, rfl, by kernel_rfl, p_slices_IndexFunc_int⟩⟩
theorem o_code_of : FunOk Go.Proofs.Tryd.prog [0] 110 v_code_of := ⟨⟨Go.Proofs.Tryd.f110, _, by kernel_rfl, rfl, by kernel_rfl, p_code_of⟩⟩
theorem o_code_checker_reg : FunOk Go.Proofs.Tryd.prog [0] 111 v_code_checker_reg := ⟨⟨Go.Proofs.Tryd.f111, _, by kernel_rfl, rfl, by kernel_rfl, p_code_checker_reg⟩⟩
theorem fn_ok (f : FuncId) (fn : VFun) (h : fnOf f = some fn) : FunOk Go.Proofs.Tryd.prog [0] f fn := by
  unfold fnOf at h
  split at h
  · cases h; exact o_l17_TraceExtends
  · cases h; exact o_l17_TraceFollows
  · cases h; exact o_l17_TraceUnrolls
  · cases h; exact o_l17_TraceAgain
  · cases h; exact o_l17_TraceLikely
  · cases h; exact o_l17_cut
  · cases h; exact o_trace_Extend
  · cases h; exact o_l17_there
  · cases h; exact o_r17_Extend
  · cases h; exact o_l17_same
  · cases h; exact o_r07_Same
  · cases h; exact o_l17_alive
  · cases h; exact o_l17_profile
  · cases h; exact o_trace_Follow
  · cases h; exact o_r17_Follow
  · cases h; exact o_trace_Unroll
  · cases h; exact o_trace_Loops
  · cases h; exact o_r17_Unroll
  · cases h; exact o_r07_Check
  · cases h; exact o_r17_Loops
  · cases h; exact o_l17_ints
  · cases h; exact o_trace_Likely
  · cases h; exact o_trace_Trace
  · cases h; exact o_r17_Likely
  · cases h; exact o_r17_Trace
  · cases h; exact o_r07_Cut
  · cases h; exact o_trace_look
  · cases h; exact o_trace_next
  · cases h; exact o_code_Copy
  · cases h; exact o_trace_extend
  · cases h; exact o_code_Check
  · cases h; exact o_r17_Can
  · cases h; exact o_r17_Next
  · cases h; exact o_r17_with
  · cases h; exact o_r07_SameBlocks
  · cases h; exact o_l17_loop
  · cases h; exact o_trace_with
  · cases h; exact o_trace_follow
  · cases h; exact o_r17_follow
  · cases h; exact o_trace_around
  · cases h; exact o_r17_self
  · cases h; exact o_r07_Copy
  · cases h; exact o_r07_Find
  · cases h; exact o_trace_likely
  · cases h; exact o_trace_trace
  · cases h; exact o_r17_in
  · cases h; exact o_slices_Clone_int
  · cases h; exact o_slices_Clone_Block
  · cases h; exact o_slices_Clone_Op
  · cases h; exact o_r07_SameOps
  · cases h; exact o_trace_longer
  · cases h; exact o_r07_register
  · cases h; exact o_r07_op
  · cases h; exact o_r07_end
  · cases h; exact o_slices_Contains_int
  · cases h; exact o_code_checker_unit
  · cases h; exact o_r07_One
  · cases h; exact o_r07_HasDst
  · cases h; exact o_r07_HasA
  · cases h; exact o_r07_HasB
  · cases h; exact o_r07_HasC
  · cases h; exact o_r07_Array
  · cases h; exact o_r07_Cell
  · cases h; exact o_r07_HasN
  · cases h; exact o_r07_EndA
  · cases h; exact o_r07_EndTo
  · cases h; exact o_r07_there
  · cases h; exact o_r07_EndElse
  · cases h; exact o_slices_Index_int
  · cases h; exact o_code_checker_must
  · cases h; exact o_slices_ContainsFunc_int
  · cases h; exact o_code_checker_unit_c1
  · cases h; exact o_code_within
  · cases h; exact o_code_checker_op
  · cases h; exact o_code_checker_end
  · cases h; exact o_slices_IndexFunc_int
  · cases h; exact o_code_of
  · cases h; exact o_code_checker_reg
  · cases h
/-- The functions of the seat, and whatever more is told. -/
structure On (X : Cx) : Prop where
  F : X.F = fnOf
  P : X.P = Go.Proofs.Tryd.prog
end Go.VX.Seat
end
section
set_option linter.unusedVariables false
set_option linter.unusedSimpArgs false
namespace Go.VX.Seat
def oneK (k : Int) : Bool := decide (1 ≤ k) && decide (k ≤ 25)
def hasDst (k : Int) : Bool := decide (k ≠ 17) && decide (k ≠ 19) && decide (k ≠ 20) && decide (k ≠ 21) && decide (k ≠ 22)
def hasA (k : Int) : Bool := decide (k ≠ 1) && decide (k ≠ 18)
def hasB (k : Int) : Bool := decide (3 ≤ k) && decide (k ≤ 15) || decide (k = 17) || decide (k = 23) || decide (k = 24)
def hasC (k : Int) : Bool := decide (k = 12)
def arrK (k : Int) : Bool := decide (k = 16) || decide (k = 17) || decide (k = 25)
def cellK (k : Int) : Bool := decide (k = 18) || decide (k = 19)
def endA (k : Int) : Bool := decide (k ≠ 1)
def endTo (k : Int) : Bool := decide (k = 1) || decide (k = 2)
def endElse (k : Int) : Bool := decide (k = 2)
section
variable {X : Cx} {st : St}
theorem j_r07_One (h : On X) (k : Int) : J X.P X.F X.H (.call 81 [.sc (.int .i64 k)] st (.ret (.sc (.bool (oneK k)))) st) := by
  refine pure_intro (by rw [h.F]; rfl) rfl ?_
  unfold oneK
  simp only [v_r07_One, kB, kC, cellsOf, fillA, partsEv, zeroes, Nat.reduceSub, Int.reduceToNat, Nat.reduceMul, asInt?, asNat?, Int.reduceAdd, Int.reduceLE, Int.reduceLT, Int.reduceNeg, Nat.reduceLeDiff, VOpd.ev, Nat.reduceEqDiff, Nat.reduceAdd, reduceIte, reduceCtorEq, splice, resOf, tupOf, cellsV, AV.toV, AV.cell?, cellVal]
  repeat' first | (refine gO_t ?_ ?_ <;> (intro hc; simp only [*, kB, kC, cellsOf, fillA, partsEv, zeroes, Nat.reduceSub, Int.reduceToNat, Nat.reduceMul, asInt?, asNat?, Int.reduceAdd, Int.reduceLE, Int.reduceLT, Int.reduceNeg, Nat.reduceLeDiff, VOpd.ev, Nat.reduceEqDiff, Nat.reduceAdd, reduceIte, reduceCtorEq, splice, resOf, tupOf, cellsV, AV.toV, AV.cell?, cellVal])) | (refine gO_f ?_ ?_ <;> (intro hc; simp only [*, kB, kC, cellsOf, fillA, partsEv, zeroes, Nat.reduceSub, Int.reduceToNat, Nat.reduceMul, asInt?, asNat?, Int.reduceAdd, Int.reduceLE, Int.reduceLT, Int.reduceNeg, Nat.reduceLeDiff, VOpd.ev, Nat.reduceEqDiff, Nat.reduceAdd, reduceIte, reduceCtorEq, splice, resOf, tupOf, cellsV, AV.toV, AV.cell?, cellVal])) | (refine condO_intro ?_ ?_ <;> (intro hc; simp only [*, kB, kC, cellsOf, fillA, partsEv, zeroes, Nat.reduceSub, Int.reduceToNat, Nat.reduceMul, asInt?, asNat?, Int.reduceAdd, Int.reduceLE, Int.reduceLT, Int.reduceNeg, Nat.reduceLeDiff, VOpd.ev, Nat.reduceEqDiff, Nat.reduceAdd, reduceIte, reduceCtorEq, splice, resOf, tupOf, cellsV, AV.toV, AV.cell?, cellVal]))
  all_goals first | exact ⟨_, rfl⟩ | exact ⟨rfl, _, rfl⟩ | exact ⟨trivial, _, rfl⟩ | exact ⟨[], (List.append_nil _).symm⟩
theorem j_r07_HasDst (h : On X) (k : Int) : J X.P X.F X.H (.call 82 [.sc (.int .i64 k)] st (.ret (.sc (.bool (hasDst k)))) st) := by
  refine pure_intro (by rw [h.F]; rfl) rfl ?_
  unfold hasDst
  simp only [v_r07_HasDst, kB, kC, cellsOf, fillA, partsEv, zeroes, Nat.reduceSub, Int.reduceToNat, Nat.reduceMul, asInt?, asNat?, Int.reduceAdd, Int.reduceLE, Int.reduceLT, Int.reduceNeg, Nat.reduceLeDiff, VOpd.ev, Nat.reduceEqDiff, Nat.reduceAdd, reduceIte, reduceCtorEq, splice, resOf, tupOf, cellsV, AV.toV, AV.cell?, cellVal]
  repeat' first | (refine gO_t ?_ ?_ <;> (intro hc; simp only [*, kB, kC, cellsOf, fillA, partsEv, zeroes, Nat.reduceSub, Int.reduceToNat, Nat.reduceMul, asInt?, asNat?, Int.reduceAdd, Int.reduceLE, Int.reduceLT, Int.reduceNeg, Nat.reduceLeDiff, VOpd.ev, Nat.reduceEqDiff, Nat.reduceAdd, reduceIte, reduceCtorEq, splice, resOf, tupOf, cellsV, AV.toV, AV.cell?, cellVal])) | (refine gO_f ?_ ?_ <;> (intro hc; simp only [*, kB, kC, cellsOf, fillA, partsEv, zeroes, Nat.reduceSub, Int.reduceToNat, Nat.reduceMul, asInt?, asNat?, Int.reduceAdd, Int.reduceLE, Int.reduceLT, Int.reduceNeg, Nat.reduceLeDiff, VOpd.ev, Nat.reduceEqDiff, Nat.reduceAdd, reduceIte, reduceCtorEq, splice, resOf, tupOf, cellsV, AV.toV, AV.cell?, cellVal])) | (refine condO_intro ?_ ?_ <;> (intro hc; simp only [*, kB, kC, cellsOf, fillA, partsEv, zeroes, Nat.reduceSub, Int.reduceToNat, Nat.reduceMul, asInt?, asNat?, Int.reduceAdd, Int.reduceLE, Int.reduceLT, Int.reduceNeg, Nat.reduceLeDiff, VOpd.ev, Nat.reduceEqDiff, Nat.reduceAdd, reduceIte, reduceCtorEq, splice, resOf, tupOf, cellsV, AV.toV, AV.cell?, cellVal]))
  all_goals first | exact ⟨_, rfl⟩ | exact ⟨rfl, _, rfl⟩ | exact ⟨trivial, _, rfl⟩ | exact ⟨[], (List.append_nil _).symm⟩
theorem j_r07_HasA (h : On X) (k : Int) : J X.P X.F X.H (.call 83 [.sc (.int .i64 k)] st (.ret (.sc (.bool (hasA k)))) st) := by
  refine pure_intro (by rw [h.F]; rfl) rfl ?_
  unfold hasA
  simp only [v_r07_HasA, kB, kC, cellsOf, fillA, partsEv, zeroes, Nat.reduceSub, Int.reduceToNat, Nat.reduceMul, asInt?, asNat?, Int.reduceAdd, Int.reduceLE, Int.reduceLT, Int.reduceNeg, Nat.reduceLeDiff, VOpd.ev, Nat.reduceEqDiff, Nat.reduceAdd, reduceIte, reduceCtorEq, splice, resOf, tupOf, cellsV, AV.toV, AV.cell?, cellVal]
  repeat' first | (refine gO_t ?_ ?_ <;> (intro hc; simp only [*, kB, kC, cellsOf, fillA, partsEv, zeroes, Nat.reduceSub, Int.reduceToNat, Nat.reduceMul, asInt?, asNat?, Int.reduceAdd, Int.reduceLE, Int.reduceLT, Int.reduceNeg, Nat.reduceLeDiff, VOpd.ev, Nat.reduceEqDiff, Nat.reduceAdd, reduceIte, reduceCtorEq, splice, resOf, tupOf, cellsV, AV.toV, AV.cell?, cellVal])) | (refine gO_f ?_ ?_ <;> (intro hc; simp only [*, kB, kC, cellsOf, fillA, partsEv, zeroes, Nat.reduceSub, Int.reduceToNat, Nat.reduceMul, asInt?, asNat?, Int.reduceAdd, Int.reduceLE, Int.reduceLT, Int.reduceNeg, Nat.reduceLeDiff, VOpd.ev, Nat.reduceEqDiff, Nat.reduceAdd, reduceIte, reduceCtorEq, splice, resOf, tupOf, cellsV, AV.toV, AV.cell?, cellVal])) | (refine condO_intro ?_ ?_ <;> (intro hc; simp only [*, kB, kC, cellsOf, fillA, partsEv, zeroes, Nat.reduceSub, Int.reduceToNat, Nat.reduceMul, asInt?, asNat?, Int.reduceAdd, Int.reduceLE, Int.reduceLT, Int.reduceNeg, Nat.reduceLeDiff, VOpd.ev, Nat.reduceEqDiff, Nat.reduceAdd, reduceIte, reduceCtorEq, splice, resOf, tupOf, cellsV, AV.toV, AV.cell?, cellVal]))
  all_goals first | exact ⟨_, rfl⟩ | exact ⟨rfl, _, rfl⟩ | exact ⟨trivial, _, rfl⟩ | exact ⟨[], (List.append_nil _).symm⟩
theorem j_r07_HasB (h : On X) (k : Int) : J X.P X.F X.H (.call 84 [.sc (.int .i64 k)] st (.ret (.sc (.bool (hasB k)))) st) := by
  refine pure_intro (by rw [h.F]; rfl) rfl ?_
  unfold hasB
  simp only [v_r07_HasB, kB, kC, cellsOf, fillA, partsEv, zeroes, Nat.reduceSub, Int.reduceToNat, Nat.reduceMul, asInt?, asNat?, Int.reduceAdd, Int.reduceLE, Int.reduceLT, Int.reduceNeg, Nat.reduceLeDiff, VOpd.ev, Nat.reduceEqDiff, Nat.reduceAdd, reduceIte, reduceCtorEq, splice, resOf, tupOf, cellsV, AV.toV, AV.cell?, cellVal]
  repeat' first | (refine gO_t ?_ ?_ <;> (intro hc; simp only [*, kB, kC, cellsOf, fillA, partsEv, zeroes, Nat.reduceSub, Int.reduceToNat, Nat.reduceMul, asInt?, asNat?, Int.reduceAdd, Int.reduceLE, Int.reduceLT, Int.reduceNeg, Nat.reduceLeDiff, VOpd.ev, Nat.reduceEqDiff, Nat.reduceAdd, reduceIte, reduceCtorEq, splice, resOf, tupOf, cellsV, AV.toV, AV.cell?, cellVal])) | (refine gO_f ?_ ?_ <;> (intro hc; simp only [*, kB, kC, cellsOf, fillA, partsEv, zeroes, Nat.reduceSub, Int.reduceToNat, Nat.reduceMul, asInt?, asNat?, Int.reduceAdd, Int.reduceLE, Int.reduceLT, Int.reduceNeg, Nat.reduceLeDiff, VOpd.ev, Nat.reduceEqDiff, Nat.reduceAdd, reduceIte, reduceCtorEq, splice, resOf, tupOf, cellsV, AV.toV, AV.cell?, cellVal])) | (refine condO_intro ?_ ?_ <;> (intro hc; simp only [*, kB, kC, cellsOf, fillA, partsEv, zeroes, Nat.reduceSub, Int.reduceToNat, Nat.reduceMul, asInt?, asNat?, Int.reduceAdd, Int.reduceLE, Int.reduceLT, Int.reduceNeg, Nat.reduceLeDiff, VOpd.ev, Nat.reduceEqDiff, Nat.reduceAdd, reduceIte, reduceCtorEq, splice, resOf, tupOf, cellsV, AV.toV, AV.cell?, cellVal]))
  all_goals first | exact ⟨_, rfl⟩ | exact ⟨rfl, _, rfl⟩ | exact ⟨trivial, _, rfl⟩ | exact ⟨[], (List.append_nil _).symm⟩
theorem j_r07_HasC (h : On X) (k : Int) : J X.P X.F X.H (.call 85 [.sc (.int .i64 k)] st (.ret (.sc (.bool (hasC k)))) st) := by
  refine pure_intro (by rw [h.F]; rfl) rfl ?_
  unfold hasC
  simp only [v_r07_HasC, kB, kC, cellsOf, fillA, partsEv, zeroes, Nat.reduceSub, Int.reduceToNat, Nat.reduceMul, asInt?, asNat?, Int.reduceAdd, Int.reduceLE, Int.reduceLT, Int.reduceNeg, Nat.reduceLeDiff, VOpd.ev, Nat.reduceEqDiff, Nat.reduceAdd, reduceIte, reduceCtorEq, splice, resOf, tupOf, cellsV, AV.toV, AV.cell?, cellVal]
  repeat' first | (refine gO_t ?_ ?_ <;> (intro hc; simp only [*, kB, kC, cellsOf, fillA, partsEv, zeroes, Nat.reduceSub, Int.reduceToNat, Nat.reduceMul, asInt?, asNat?, Int.reduceAdd, Int.reduceLE, Int.reduceLT, Int.reduceNeg, Nat.reduceLeDiff, VOpd.ev, Nat.reduceEqDiff, Nat.reduceAdd, reduceIte, reduceCtorEq, splice, resOf, tupOf, cellsV, AV.toV, AV.cell?, cellVal])) | (refine gO_f ?_ ?_ <;> (intro hc; simp only [*, kB, kC, cellsOf, fillA, partsEv, zeroes, Nat.reduceSub, Int.reduceToNat, Nat.reduceMul, asInt?, asNat?, Int.reduceAdd, Int.reduceLE, Int.reduceLT, Int.reduceNeg, Nat.reduceLeDiff, VOpd.ev, Nat.reduceEqDiff, Nat.reduceAdd, reduceIte, reduceCtorEq, splice, resOf, tupOf, cellsV, AV.toV, AV.cell?, cellVal])) | (refine condO_intro ?_ ?_ <;> (intro hc; simp only [*, kB, kC, cellsOf, fillA, partsEv, zeroes, Nat.reduceSub, Int.reduceToNat, Nat.reduceMul, asInt?, asNat?, Int.reduceAdd, Int.reduceLE, Int.reduceLT, Int.reduceNeg, Nat.reduceLeDiff, VOpd.ev, Nat.reduceEqDiff, Nat.reduceAdd, reduceIte, reduceCtorEq, splice, resOf, tupOf, cellsV, AV.toV, AV.cell?, cellVal]))
  all_goals first | exact ⟨_, rfl⟩ | exact ⟨rfl, _, rfl⟩ | exact ⟨trivial, _, rfl⟩ | exact ⟨[], (List.append_nil _).symm⟩
theorem j_r07_Array (h : On X) (k : Int) : J X.P X.F X.H (.call 86 [.sc (.int .i64 k)] st (.ret (.sc (.bool (arrK k)))) st) := by
  refine pure_intro (by rw [h.F]; rfl) rfl ?_
  unfold arrK
  simp only [v_r07_Array, kB, kC, cellsOf, fillA, partsEv, zeroes, Nat.reduceSub, Int.reduceToNat, Nat.reduceMul, asInt?, asNat?, Int.reduceAdd, Int.reduceLE, Int.reduceLT, Int.reduceNeg, Nat.reduceLeDiff, VOpd.ev, Nat.reduceEqDiff, Nat.reduceAdd, reduceIte, reduceCtorEq, splice, resOf, tupOf, cellsV, AV.toV, AV.cell?, cellVal]
  repeat' first | (refine gO_t ?_ ?_ <;> (intro hc; simp only [*, kB, kC, cellsOf, fillA, partsEv, zeroes, Nat.reduceSub, Int.reduceToNat, Nat.reduceMul, asInt?, asNat?, Int.reduceAdd, Int.reduceLE, Int.reduceLT, Int.reduceNeg, Nat.reduceLeDiff, VOpd.ev, Nat.reduceEqDiff, Nat.reduceAdd, reduceIte, reduceCtorEq, splice, resOf, tupOf, cellsV, AV.toV, AV.cell?, cellVal])) | (refine gO_f ?_ ?_ <;> (intro hc; simp only [*, kB, kC, cellsOf, fillA, partsEv, zeroes, Nat.reduceSub, Int.reduceToNat, Nat.reduceMul, asInt?, asNat?, Int.reduceAdd, Int.reduceLE, Int.reduceLT, Int.reduceNeg, Nat.reduceLeDiff, VOpd.ev, Nat.reduceEqDiff, Nat.reduceAdd, reduceIte, reduceCtorEq, splice, resOf, tupOf, cellsV, AV.toV, AV.cell?, cellVal])) | (refine condO_intro ?_ ?_ <;> (intro hc; simp only [*, kB, kC, cellsOf, fillA, partsEv, zeroes, Nat.reduceSub, Int.reduceToNat, Nat.reduceMul, asInt?, asNat?, Int.reduceAdd, Int.reduceLE, Int.reduceLT, Int.reduceNeg, Nat.reduceLeDiff, VOpd.ev, Nat.reduceEqDiff, Nat.reduceAdd, reduceIte, reduceCtorEq, splice, resOf, tupOf, cellsV, AV.toV, AV.cell?, cellVal]))
  all_goals first | exact ⟨_, rfl⟩ | exact ⟨rfl, _, rfl⟩ | exact ⟨trivial, _, rfl⟩ | exact ⟨[], (List.append_nil _).symm⟩
theorem j_r07_Cell (h : On X) (k : Int) : J X.P X.F X.H (.call 87 [.sc (.int .i64 k)] st (.ret (.sc (.bool (cellK k)))) st) := by
  refine pure_intro (by rw [h.F]; rfl) rfl ?_
  unfold cellK
  simp only [v_r07_Cell, kB, kC, cellsOf, fillA, partsEv, zeroes, Nat.reduceSub, Int.reduceToNat, Nat.reduceMul, asInt?, asNat?, Int.reduceAdd, Int.reduceLE, Int.reduceLT, Int.reduceNeg, Nat.reduceLeDiff, VOpd.ev, Nat.reduceEqDiff, Nat.reduceAdd, reduceIte, reduceCtorEq, splice, resOf, tupOf, cellsV, AV.toV, AV.cell?, cellVal]
  repeat' first | (refine gO_t ?_ ?_ <;> (intro hc; simp only [*, kB, kC, cellsOf, fillA, partsEv, zeroes, Nat.reduceSub, Int.reduceToNat, Nat.reduceMul, asInt?, asNat?, Int.reduceAdd, Int.reduceLE, Int.reduceLT, Int.reduceNeg, Nat.reduceLeDiff, VOpd.ev, Nat.reduceEqDiff, Nat.reduceAdd, reduceIte, reduceCtorEq, splice, resOf, tupOf, cellsV, AV.toV, AV.cell?, cellVal])) | (refine gO_f ?_ ?_ <;> (intro hc; simp only [*, kB, kC, cellsOf, fillA, partsEv, zeroes, Nat.reduceSub, Int.reduceToNat, Nat.reduceMul, asInt?, asNat?, Int.reduceAdd, Int.reduceLE, Int.reduceLT, Int.reduceNeg, Nat.reduceLeDiff, VOpd.ev, Nat.reduceEqDiff, Nat.reduceAdd, reduceIte, reduceCtorEq, splice, resOf, tupOf, cellsV, AV.toV, AV.cell?, cellVal])) | (refine condO_intro ?_ ?_ <;> (intro hc; simp only [*, kB, kC, cellsOf, fillA, partsEv, zeroes, Nat.reduceSub, Int.reduceToNat, Nat.reduceMul, asInt?, asNat?, Int.reduceAdd, Int.reduceLE, Int.reduceLT, Int.reduceNeg, Nat.reduceLeDiff, VOpd.ev, Nat.reduceEqDiff, Nat.reduceAdd, reduceIte, reduceCtorEq, splice, resOf, tupOf, cellsV, AV.toV, AV.cell?, cellVal]))
  all_goals first | exact ⟨_, rfl⟩ | exact ⟨rfl, _, rfl⟩ | exact ⟨trivial, _, rfl⟩ | exact ⟨[], (List.append_nil _).symm⟩
theorem j_r07_EndA (h : On X) (k : Int) : J X.P X.F X.H (.call 89 [.sc (.int .i64 k)] st (.ret (.sc (.bool (endA k)))) st) := by
  refine pure_intro (by rw [h.F]; rfl) rfl ?_
  unfold endA
  simp only [v_r07_EndA, kB, kC, cellsOf, fillA, partsEv, zeroes, Nat.reduceSub, Int.reduceToNat, Nat.reduceMul, asInt?, asNat?, Int.reduceAdd, Int.reduceLE, Int.reduceLT, Int.reduceNeg, Nat.reduceLeDiff, VOpd.ev, Nat.reduceEqDiff, Nat.reduceAdd, reduceIte, reduceCtorEq, splice, resOf, tupOf, cellsV, AV.toV, AV.cell?, cellVal]
  repeat' first | (refine gO_t ?_ ?_ <;> (intro hc; simp only [*, kB, kC, cellsOf, fillA, partsEv, zeroes, Nat.reduceSub, Int.reduceToNat, Nat.reduceMul, asInt?, asNat?, Int.reduceAdd, Int.reduceLE, Int.reduceLT, Int.reduceNeg, Nat.reduceLeDiff, VOpd.ev, Nat.reduceEqDiff, Nat.reduceAdd, reduceIte, reduceCtorEq, splice, resOf, tupOf, cellsV, AV.toV, AV.cell?, cellVal])) | (refine gO_f ?_ ?_ <;> (intro hc; simp only [*, kB, kC, cellsOf, fillA, partsEv, zeroes, Nat.reduceSub, Int.reduceToNat, Nat.reduceMul, asInt?, asNat?, Int.reduceAdd, Int.reduceLE, Int.reduceLT, Int.reduceNeg, Nat.reduceLeDiff, VOpd.ev, Nat.reduceEqDiff, Nat.reduceAdd, reduceIte, reduceCtorEq, splice, resOf, tupOf, cellsV, AV.toV, AV.cell?, cellVal])) | (refine condO_intro ?_ ?_ <;> (intro hc; simp only [*, kB, kC, cellsOf, fillA, partsEv, zeroes, Nat.reduceSub, Int.reduceToNat, Nat.reduceMul, asInt?, asNat?, Int.reduceAdd, Int.reduceLE, Int.reduceLT, Int.reduceNeg, Nat.reduceLeDiff, VOpd.ev, Nat.reduceEqDiff, Nat.reduceAdd, reduceIte, reduceCtorEq, splice, resOf, tupOf, cellsV, AV.toV, AV.cell?, cellVal]))
  all_goals first | exact ⟨_, rfl⟩ | exact ⟨rfl, _, rfl⟩ | exact ⟨trivial, _, rfl⟩ | exact ⟨[], (List.append_nil _).symm⟩
theorem j_r07_EndTo (h : On X) (k : Int) : J X.P X.F X.H (.call 90 [.sc (.int .i64 k)] st (.ret (.sc (.bool (endTo k)))) st) := by
  refine pure_intro (by rw [h.F]; rfl) rfl ?_
  unfold endTo
  simp only [v_r07_EndTo, kB, kC, cellsOf, fillA, partsEv, zeroes, Nat.reduceSub, Int.reduceToNat, Nat.reduceMul, asInt?, asNat?, Int.reduceAdd, Int.reduceLE, Int.reduceLT, Int.reduceNeg, Nat.reduceLeDiff, VOpd.ev, Nat.reduceEqDiff, Nat.reduceAdd, reduceIte, reduceCtorEq, splice, resOf, tupOf, cellsV, AV.toV, AV.cell?, cellVal]
  repeat' first | (refine gO_t ?_ ?_ <;> (intro hc; simp only [*, kB, kC, cellsOf, fillA, partsEv, zeroes, Nat.reduceSub, Int.reduceToNat, Nat.reduceMul, asInt?, asNat?, Int.reduceAdd, Int.reduceLE, Int.reduceLT, Int.reduceNeg, Nat.reduceLeDiff, VOpd.ev, Nat.reduceEqDiff, Nat.reduceAdd, reduceIte, reduceCtorEq, splice, resOf, tupOf, cellsV, AV.toV, AV.cell?, cellVal])) | (refine gO_f ?_ ?_ <;> (intro hc; simp only [*, kB, kC, cellsOf, fillA, partsEv, zeroes, Nat.reduceSub, Int.reduceToNat, Nat.reduceMul, asInt?, asNat?, Int.reduceAdd, Int.reduceLE, Int.reduceLT, Int.reduceNeg, Nat.reduceLeDiff, VOpd.ev, Nat.reduceEqDiff, Nat.reduceAdd, reduceIte, reduceCtorEq, splice, resOf, tupOf, cellsV, AV.toV, AV.cell?, cellVal])) | (refine condO_intro ?_ ?_ <;> (intro hc; simp only [*, kB, kC, cellsOf, fillA, partsEv, zeroes, Nat.reduceSub, Int.reduceToNat, Nat.reduceMul, asInt?, asNat?, Int.reduceAdd, Int.reduceLE, Int.reduceLT, Int.reduceNeg, Nat.reduceLeDiff, VOpd.ev, Nat.reduceEqDiff, Nat.reduceAdd, reduceIte, reduceCtorEq, splice, resOf, tupOf, cellsV, AV.toV, AV.cell?, cellVal]))
  all_goals first | exact ⟨_, rfl⟩ | exact ⟨rfl, _, rfl⟩ | exact ⟨trivial, _, rfl⟩ | exact ⟨[], (List.append_nil _).symm⟩
theorem j_r07_EndElse (h : On X) (k : Int) : J X.P X.F X.H (.call 92 [.sc (.int .i64 k)] st (.ret (.sc (.bool (endElse k)))) st) := by
  refine pure_intro (by rw [h.F]; rfl) rfl ?_
  unfold endElse
  simp only [v_r07_EndElse, kB, kC, cellsOf, fillA, partsEv, zeroes, Nat.reduceSub, Int.reduceToNat, Nat.reduceMul, asInt?, asNat?, Int.reduceAdd, Int.reduceLE, Int.reduceLT, Int.reduceNeg, Nat.reduceLeDiff, VOpd.ev, Nat.reduceEqDiff, Nat.reduceAdd, reduceIte, reduceCtorEq, splice, resOf, tupOf, cellsV, AV.toV, AV.cell?, cellVal]
  repeat' first | (refine gO_t ?_ ?_ <;> (intro hc; simp only [*, kB, kC, cellsOf, fillA, partsEv, zeroes, Nat.reduceSub, Int.reduceToNat, Nat.reduceMul, asInt?, asNat?, Int.reduceAdd, Int.reduceLE, Int.reduceLT, Int.reduceNeg, Nat.reduceLeDiff, VOpd.ev, Nat.reduceEqDiff, Nat.reduceAdd, reduceIte, reduceCtorEq, splice, resOf, tupOf, cellsV, AV.toV, AV.cell?, cellVal])) | (refine gO_f ?_ ?_ <;> (intro hc; simp only [*, kB, kC, cellsOf, fillA, partsEv, zeroes, Nat.reduceSub, Int.reduceToNat, Nat.reduceMul, asInt?, asNat?, Int.reduceAdd, Int.reduceLE, Int.reduceLT, Int.reduceNeg, Nat.reduceLeDiff, VOpd.ev, Nat.reduceEqDiff, Nat.reduceAdd, reduceIte, reduceCtorEq, splice, resOf, tupOf, cellsV, AV.toV, AV.cell?, cellVal])) | (refine condO_intro ?_ ?_ <;> (intro hc; simp only [*, kB, kC, cellsOf, fillA, partsEv, zeroes, Nat.reduceSub, Int.reduceToNat, Nat.reduceMul, asInt?, asNat?, Int.reduceAdd, Int.reduceLE, Int.reduceLT, Int.reduceNeg, Nat.reduceLeDiff, VOpd.ev, Nat.reduceEqDiff, Nat.reduceAdd, reduceIte, reduceCtorEq, splice, resOf, tupOf, cellsV, AV.toV, AV.cell?, cellVal]))
  all_goals first | exact ⟨_, rfl⟩ | exact ⟨rfl, _, rfl⟩ | exact ⟨trivial, _, rfl⟩ | exact ⟨[], (List.append_nil _).symm⟩
end
end Go.VX.Seat
end
section
set_option linter.unusedVariables false
set_option linter.unusedSimpArgs false
namespace Go.VX.Seat
def regOkA (regs r : Int) : Bool := decide (0 ≤ r) && decide (r < regs)
section
variable {X : Cx} {st : St}
theorem j_r07_HasN (h : On X) (k : Int) : J X.P X.F X.H (.call 88 [.sc (.int .i64 k)] st (.ret (.sc (.bool (decide (k = 1) || arrK k || cellK k || decide (k = 21))))) st) := by
  refine pure_intro (by rw [h.F]; rfl) rfl ?_
  simp only [v_r07_HasN, kB, kC, cellsOf, fillA, partsEv, zeroes, Nat.reduceSub, Int.reduceToNat, Nat.reduceMul, asInt?, asNat?, Int.reduceAdd, Int.reduceLE, Int.reduceLT, Int.reduceNeg, Nat.reduceLeDiff, VOpd.ev, Nat.reduceEqDiff, Nat.reduceAdd, reduceIte, reduceCtorEq, splice, resOf, tupOf, cellsV, AV.toV, AV.cell?, cellVal]
  repeat' first
    | refine callO_same (j_r07_Array h _) ?_; simp only [kB, kC, cellsOf, fillA, partsEv, zeroes, Nat.reduceSub, Int.reduceToNat, Nat.reduceMul, asInt?, asNat?, Int.reduceAdd, Int.reduceLE, Int.reduceLT, Int.reduceNeg, Nat.reduceLeDiff, VOpd.ev, Nat.reduceEqDiff, Nat.reduceAdd, reduceIte, reduceCtorEq, splice, resOf, tupOf, cellsV, AV.toV, AV.cell?, cellVal]
    | refine callO_same (j_r07_Cell h _) ?_; simp only [kB, kC, cellsOf, fillA, partsEv, zeroes, Nat.reduceSub, Int.reduceToNat, Nat.reduceMul, asInt?, asNat?, Int.reduceAdd, Int.reduceLE, Int.reduceLT, Int.reduceNeg, Nat.reduceLeDiff, VOpd.ev, Nat.reduceEqDiff, Nat.reduceAdd, reduceIte, reduceCtorEq, splice, resOf, tupOf, cellsV, AV.toV, AV.cell?, cellVal]
    | first | (refine gO_t ?_ ?_ <;> (intro hc; simp only [*, kB, kC, cellsOf, fillA, partsEv, zeroes, Nat.reduceSub, Int.reduceToNat, Nat.reduceMul, asInt?, asNat?, Int.reduceAdd, Int.reduceLE, Int.reduceLT, Int.reduceNeg, Nat.reduceLeDiff, VOpd.ev, Nat.reduceEqDiff, Nat.reduceAdd, reduceIte, reduceCtorEq, splice, resOf, tupOf, cellsV, AV.toV, AV.cell?, cellVal])) | (refine gO_f ?_ ?_ <;> (intro hc; simp only [*, kB, kC, cellsOf, fillA, partsEv, zeroes, Nat.reduceSub, Int.reduceToNat, Nat.reduceMul, asInt?, asNat?, Int.reduceAdd, Int.reduceLE, Int.reduceLT, Int.reduceNeg, Nat.reduceLeDiff, VOpd.ev, Nat.reduceEqDiff, Nat.reduceAdd, reduceIte, reduceCtorEq, splice, resOf, tupOf, cellsV, AV.toV, AV.cell?, cellVal])) | (refine condO_intro ?_ ?_ <;> (intro hc; simp only [*, kB, kC, cellsOf, fillA, partsEv, zeroes, Nat.reduceSub, Int.reduceToNat, Nat.reduceMul, asInt?, asNat?, Int.reduceAdd, Int.reduceLE, Int.reduceLT, Int.reduceNeg, Nat.reduceLeDiff, VOpd.ev, Nat.reduceEqDiff, Nat.reduceAdd, reduceIte, reduceCtorEq, splice, resOf, tupOf, cellsV, AV.toV, AV.cell?, cellVal]))
  all_goals first | exact ⟨_, rfl⟩ | exact ⟨rfl, _, rfl⟩ | exact ⟨trivial, _, rfl⟩ | exact ⟨[], (List.append_nil _).symm⟩
theorem j_r07_register (h : On X) (s p c sp bl : AV) (regs r : Int) : J X.P X.F X.H (.call 71 [.agg [s, p, .sc (.int .i64 regs), c, sp, bl], .sc (.int .i64 r)] st (.ret (.sc (.bool (regOkA regs r)))) st) := by
  refine pure_intro (by rw [h.F]; rfl) rfl ?_
  unfold regOkA
  simp only [v_r07_register, kB, kC, cellsOf, fillA, partsEv, zeroes, Nat.reduceSub, Int.reduceToNat, Nat.reduceMul, asInt?, asNat?, Int.reduceAdd, Int.reduceLE, Int.reduceLT, Int.reduceNeg, Nat.reduceLeDiff, VOpd.ev, Nat.reduceEqDiff, Nat.reduceAdd, reduceIte, reduceCtorEq, splice, resOf, tupOf, cellsV, AV.toV, AV.cell?, cellVal]
  repeat' first
    | first | (refine gO_t ?_ ?_ <;> (intro hc; simp only [*, kB, kC, cellsOf, fillA, partsEv, zeroes, Nat.reduceSub, Int.reduceToNat, Nat.reduceMul, asInt?, asNat?, Int.reduceAdd, Int.reduceLE, Int.reduceLT, Int.reduceNeg, Nat.reduceLeDiff, VOpd.ev, Nat.reduceEqDiff, Nat.reduceAdd, reduceIte, reduceCtorEq, splice, resOf, tupOf, cellsV, AV.toV, AV.cell?, cellVal])) | (refine gO_f ?_ ?_ <;> (intro hc; simp only [*, kB, kC, cellsOf, fillA, partsEv, zeroes, Nat.reduceSub, Int.reduceToNat, Nat.reduceMul, asInt?, asNat?, Int.reduceAdd, Int.reduceLE, Int.reduceLT, Int.reduceNeg, Nat.reduceLeDiff, VOpd.ev, Nat.reduceEqDiff, Nat.reduceAdd, reduceIte, reduceCtorEq, splice, resOf, tupOf, cellsV, AV.toV, AV.cell?, cellVal])) | (refine condO_intro ?_ ?_ <;> (intro hc; simp only [*, kB, kC, cellsOf, fillA, partsEv, zeroes, Nat.reduceSub, Int.reduceToNat, Nat.reduceMul, asInt?, asNat?, Int.reduceAdd, Int.reduceLE, Int.reduceLT, Int.reduceNeg, Nat.reduceLeDiff, VOpd.ev, Nat.reduceEqDiff, Nat.reduceAdd, reduceIte, reduceCtorEq, splice, resOf, tupOf, cellsV, AV.toV, AV.cell?, cellVal]))
  all_goals first | exact ⟨_, rfl⟩ | exact ⟨rfl, _, rfl⟩ | exact ⟨trivial, _, rfl⟩ | exact ⟨[], (List.append_nil _).symm⟩
theorem j_r07_there (h : On X) (s p g c sp bl : AV) (nb : Nat) (r : Int) (hb : lenA bl = some nb) : J X.P X.F X.H (.call 91 [.agg [s, p, g, c, sp, bl], .sc (.int .i64 r)] st (.ret (.sc (.bool (regOkA nb r)))) st) := by
  refine pure_intro (by rw [h.F]; rfl) rfl ?_
  unfold regOkA
  simp only [v_r07_there, hb, kB, kC, cellsOf, fillA, partsEv, zeroes, Nat.reduceSub, Int.reduceToNat, Nat.reduceMul, asInt?, asNat?, Int.reduceAdd, Int.reduceLE, Int.reduceLT, Int.reduceNeg, Nat.reduceLeDiff, VOpd.ev, Nat.reduceEqDiff, Nat.reduceAdd, reduceIte, reduceCtorEq, splice, resOf, tupOf, cellsV, AV.toV, AV.cell?, cellVal]
  repeat' first
    | first | (refine gO_t ?_ ?_ <;> (intro hc; simp only [*, kB, kC, cellsOf, fillA, partsEv, zeroes, Nat.reduceSub, Int.reduceToNat, Nat.reduceMul, asInt?, asNat?, Int.reduceAdd, Int.reduceLE, Int.reduceLT, Int.reduceNeg, Nat.reduceLeDiff, VOpd.ev, Nat.reduceEqDiff, Nat.reduceAdd, reduceIte, reduceCtorEq, splice, resOf, tupOf, cellsV, AV.toV, AV.cell?, cellVal])) | (refine gO_f ?_ ?_ <;> (intro hc; simp only [*, kB, kC, cellsOf, fillA, partsEv, zeroes, Nat.reduceSub, Int.reduceToNat, Nat.reduceMul, asInt?, asNat?, Int.reduceAdd, Int.reduceLE, Int.reduceLT, Int.reduceNeg, Nat.reduceLeDiff, VOpd.ev, Nat.reduceEqDiff, Nat.reduceAdd, reduceIte, reduceCtorEq, splice, resOf, tupOf, cellsV, AV.toV, AV.cell?, cellVal])) | (refine condO_intro ?_ ?_ <;> (intro hc; simp only [*, kB, kC, cellsOf, fillA, partsEv, zeroes, Nat.reduceSub, Int.reduceToNat, Nat.reduceMul, asInt?, asNat?, Int.reduceAdd, Int.reduceLE, Int.reduceLT, Int.reduceNeg, Nat.reduceLeDiff, VOpd.ev, Nat.reduceEqDiff, Nat.reduceAdd, reduceIte, reduceCtorEq, splice, resOf, tupOf, cellsV, AV.toV, AV.cell?, cellVal]))
    | simp only [hb, Option.map_some, kB, kC, cellsOf, fillA, partsEv, zeroes, Nat.reduceSub, Int.reduceToNat, Nat.reduceMul, asInt?, asNat?, Int.reduceAdd, Int.reduceLE, Int.reduceLT, Int.reduceNeg, Nat.reduceLeDiff, VOpd.ev, Nat.reduceEqDiff, Nat.reduceAdd, reduceIte, reduceCtorEq, splice, resOf, tupOf, cellsV, AV.toV, AV.cell?, cellVal]
  all_goals first | exact ⟨_, rfl⟩ | exact ⟨rfl, _, rfl⟩ | exact ⟨trivial, _, rfl⟩ | exact ⟨[], (List.append_nil _).symm⟩

def hasN (k : Int) : Bool := decide (k = 1) || arrK k || cellK k || decide (k = 21)
def manyOf (ns nb : Nat) (spill k : Int) : Int := if arrK k then ns else if cellK k then spill else if decide (k = 21) then nb else -1
/-- The error of an operation. -/
def opErr (ns nb : Nat) (regs spill k d a b c n g : Int) : Int :=
  if oneK k = false then 4 else
  if (hasDst k && !regOkA regs d) || (hasA k && !regOkA regs a) || (hasB k && !regOkA regs b) || (hasC k && !regOkA regs c) then 2 else
  if decide (g ≠ -1) && !regOkA regs g then 2 else
  if decide (0 ≤ manyOf ns nb spill k) && (decide (n < 0) || decide (manyOf ns nb spill k ≤ n)) then 5 else
  if (!hasDst k && decide (d ≠ 0)) || (!hasA k && decide (a ≠ 0)) || (!hasB k && decide (b ≠ 0)) || (!hasC k && decide (c ≠ 0)) then 4 else
  if !hasN k && decide (n ≠ 0) then 4 else 0
end
end Go.VX.Seat
end
