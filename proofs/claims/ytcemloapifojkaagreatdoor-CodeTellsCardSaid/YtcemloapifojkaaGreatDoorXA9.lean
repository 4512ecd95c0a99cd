/- A part of the proofs of the statements of one layer: L7, L8, L0, S1, S2, S3, S4, S5, S6, S7, S8, S9, S10, S11. No condition is added here. -/
import Derived.Test.YtcemloapifojkaaGreatDoorXA8
section
set_option maxRecDepth 20000
/-! MADE BY PROGRAM (lits.py): functions as they are prepared. -/
namespace Go.VX.Seat
def v_internal_strconv_formatBits : VFun :=
⟨.seq (.reg [⟨0, (some 10), .mv (.con (.slice none 0 0)), none, []⟩,
 ⟨1, (some 11), .mv (.con (.string ⟨#[]⟩)), none, []⟩])
 (.seq (.seq (.reg [⟨0, (some 19), .mv (.tmp 2), none, []⟩,
 ⟨1, (some 20), .bin .lss 3 true (.tmp 19) (.con (.int .i64 2)), none, []⟩,
 ⟨2, (some 21), .mv (.tmp 20), none, []⟩,
 ⟨3, (some 22), .mv (.tmp 2), (some (21, false)), []⟩,
 ⟨4, (some 23), .bin .eql 3 true (.tmp 22) (.con (.int .i64 10)), (some (21, false)), []⟩,
 ⟨5, (some 24), .pick (.tmp 21) (.con (.bool true)) (.tmp 23), none, []⟩,
 ⟨6, (some 25), .mv (.tmp 24), none, []⟩,
 ⟨7, (some 26), .mv (.tmp 2), (some (25, false)), []⟩,
 ⟨8, (some 27), .bin .gtr 3 true (.tmp 26) (.con (.int .i64 36)), (some (25, false)), []⟩,
 ⟨9, (some 28), .pick (.tmp 25) (.con (.bool true)) (.tmp 27), none, []⟩])
 (.cond (.tmp 28)
 (.reg [⟨0, (some 29), .mkif 9 (.con (.string ⟨#[115, 116, 114, 99, 111, 110, 118, 58, 32, 105, 108, 108, 101, 103, 97, 108, 32, 65, 112, 112, 101, 110, 100, 73, 110, 116, 47, 70, 111, 114, 109, 97, 116, 73, 110, 116, 32, 98, 97, 115, 101]⟩)), none, []⟩,
 ⟨1, none, .panic (.tmp 29), none, []⟩])
 (.skip)))
 (.seq (.reg [⟨0, (some 12), .alloc [(.int .u8 0), (.int .u8 0), (.int .u8 0), (.int .u8 0), (.int .u8 0), (.int .u8 0), (.int .u8 0), (.int .u8 0), (.int .u8 0), (.int .u8 0), (.int .u8 0), (.int .u8 0), (.int .u8 0), (.int .u8 0), (.int .u8 0), (.int .u8 0), (.int .u8 0), (.int .u8 0), (.int .u8 0), (.int .u8 0), (.int .u8 0), (.int .u8 0), (.int .u8 0), (.int .u8 0), (.int .u8 0), (.int .u8 0), (.int .u8 0), (.int .u8 0), (.int .u8 0), (.int .u8 0), (.int .u8 0), (.int .u8 0), (.int .u8 0), (.int .u8 0), (.int .u8 0), (.int .u8 0), (.int .u8 0), (.int .u8 0), (.int .u8 0), (.int .u8 0), (.int .u8 0), (.int .u8 0), (.int .u8 0), (.int .u8 0), (.int .u8 0), (.int .u8 0), (.int .u8 0), (.int .u8 0), (.int .u8 0), (.int .u8 0), (.int .u8 0), (.int .u8 0), (.int .u8 0), (.int .u8 0), (.int .u8 0), (.int .u8 0), (.int .u8 0), (.int .u8 0), (.int .u8 0), (.int .u8 0), (.int .u8 0), (.int .u8 0), (.int .u8 0), (.int .u8 0), (.int .u8 0)], none, []⟩])
 (.seq (.reg [⟨0, (some 13), .mv (.con (.int .i64 65)), none, []⟩])
 (.seq (.seq (.reg [⟨0, (some 30), .mv (.tmp 3), none, []⟩])
 (.cond (.tmp 30)
 (.reg [⟨0, (some 31), .mv (.tmp 1), none, []⟩,
 ⟨1, (some 32), .un .neg (.tmp 31), none, []⟩,
 ⟨2, (some 1), .mv (.tmp 32), none, []⟩])
 (.skip)))
 (.seq (.seq (.reg [⟨0, (some 33), .mv (.tmp 2), none, []⟩,
 ⟨1, (some 34), .call 132 [(.tmp 33)], none, []⟩])
 (.cond (.tmp 34)
 (.seq (.reg [⟨0, (some 35), .mv (.tmp 2), none, []⟩,
 ⟨1, (some 36), .conv 3 182 (.tmp 35), none, []⟩,
 ⟨2, (some 37), .call 133 [(.tmp 36)], none, []⟩,
 ⟨3, (some 38), .conv 3 182 (.tmp 37), none, []⟩,
 ⟨4, (some 14), .mv (.tmp 38), none, []⟩])
 (.seq (.reg [⟨0, (some 39), .mv (.tmp 2), none, []⟩,
 ⟨1, (some 40), .conv 3 160 (.tmp 39), none, []⟩,
 ⟨2, (some 15), .mv (.tmp 40), none, []⟩])
 (.seq (.reg [⟨0, (some 41), .mv (.tmp 2), none, []⟩,
 ⟨1, (some 42), .conv 3 182 (.tmp 41), none, []⟩,
 ⟨2, (some 43), .bin .sub 182 true (.tmp 42) (.con (.int .u64 1)), none, []⟩,
 ⟨3, (some 16), .mv (.tmp 43), none, []⟩])
 (.seq (.block 0
 (.loop
 (.seq (.seq (.reg [⟨0, (some 44), .mv (.tmp 1), none, []⟩,
 ⟨1, (some 45), .mv (.tmp 15), none, []⟩,
 ⟨2, (some 46), .bin .geq 160 false (.tmp 44) (.tmp 45), none, []⟩])
 (.cond (.tmp 46)
 (.skip)
 (.exit 0)))
 (.block 1
 (.seq (.reg [⟨0, (some 47), .mv (.tmp 13), none, []⟩,
 ⟨1, (some 48), .bin .sub 3 true (.tmp 47) (.con (.int .i64 1)), none, []⟩,
 ⟨2, (some 13), .mv (.tmp 48), none, []⟩])
 (.seq (.reg [⟨0, (some 49), .mv (.tmp 13), none, []⟩,
 ⟨1, (some 50), .mv (.tmp 1), none, []⟩,
 ⟨2, (some 51), .mv (.tmp 16), none, []⟩,
 ⟨3, (some 52), .bin .and 182 false (.tmp 50) (.tmp 51), none, []⟩,
 ⟨4, (some 53), .idxS 9 (.con (.string ⟨#[48, 49, 50, 51, 52, 53, 54, 55, 56, 57, 97, 98, 99, 100, 101, 102, 103, 104, 105, 106, 107, 108, 109, 110, 111, 112, 113, 114, 115, 116, 117, 118, 119, 120, 121, 122]⟩)) (.tmp 52), none, []⟩,
 ⟨5, (some 54), .idxA (some 65) 1 (.tmp 12) (.tmp 49), none, []⟩,
 ⟨6, none, .store 1 (.tmp 54) (.tmp 53), none, []⟩])
 (.reg [⟨0, (some 55), .mv (.tmp 1), none, []⟩,
 ⟨1, (some 56), .mv (.tmp 14), none, []⟩,
 ⟨2, (some 57), .bin .shr 160 false (.tmp 55) (.tmp 56), none, []⟩,
 ⟨3, (some 1), .mv (.tmp 57), none, []⟩])))))))
 (.seq (.reg [⟨0, (some 58), .mv (.tmp 13), none, []⟩,
 ⟨1, (some 59), .bin .sub 3 true (.tmp 58) (.con (.int .i64 1)), none, []⟩,
 ⟨2, (some 13), .mv (.tmp 59), none, []⟩])
 (.reg [⟨0, (some 60), .mv (.tmp 13), none, []⟩,
 ⟨1, (some 61), .mv (.tmp 1), none, []⟩,
 ⟨2, (some 62), .idxS 9 (.con (.string ⟨#[48, 49, 50, 51, 52, 53, 54, 55, 56, 57, 97, 98, 99, 100, 101, 102, 103, 104, 105, 106, 107, 108, 109, 110, 111, 112, 113, 114, 115, 116, 117, 118, 119, 120, 121, 122]⟩)) (.tmp 61), none, []⟩,
 ⟨3, (some 63), .idxA (some 65) 1 (.tmp 12) (.tmp 60), none, []⟩,
 ⟨4, none, .store 1 (.tmp 63) (.tmp 62), none, []⟩]))))))
 (.seq (.reg [⟨0, (some 64), .mv (.tmp 2), none, []⟩,
 ⟨1, (some 65), .conv 3 160 (.tmp 64), none, []⟩,
 ⟨2, (some 17), .mv (.tmp 65), none, []⟩])
 (.seq (.block 2
 (.loop
 (.seq (.seq (.reg [⟨0, (some 66), .mv (.tmp 1), none, []⟩,
 ⟨1, (some 67), .mv (.tmp 17), none, []⟩,
 ⟨2, (some 68), .bin .geq 160 false (.tmp 66) (.tmp 67), none, []⟩])
 (.cond (.tmp 68)
 (.skip)
 (.exit 2)))
 (.block 3
 (.seq (.reg [⟨0, (some 69), .mv (.tmp 13), none, []⟩,
 ⟨1, (some 70), .bin .sub 3 true (.tmp 69) (.con (.int .i64 1)), none, []⟩,
 ⟨2, (some 13), .mv (.tmp 70), none, []⟩])
 (.seq (.reg [⟨0, (some 71), .mv (.tmp 1), none, []⟩,
 ⟨1, (some 72), .mv (.tmp 17), none, []⟩,
 ⟨2, (some 73), .bin .quo 160 false (.tmp 71) (.tmp 72), none, []⟩,
 ⟨3, (some 18), .mv (.tmp 73), none, []⟩])
 (.seq (.reg [⟨0, (some 74), .mv (.tmp 13), none, []⟩,
 ⟨1, (some 75), .mv (.tmp 1), none, []⟩,
 ⟨2, (some 76), .mv (.tmp 18), none, []⟩,
 ⟨3, (some 77), .mv (.tmp 17), none, []⟩,
 ⟨4, (some 78), .bin .mul 160 false (.tmp 76) (.tmp 77), none, []⟩,
 ⟨5, (some 79), .bin .sub 160 false (.tmp 75) (.tmp 78), none, []⟩,
 ⟨6, (some 80), .idxS 9 (.con (.string ⟨#[48, 49, 50, 51, 52, 53, 54, 55, 56, 57, 97, 98, 99, 100, 101, 102, 103, 104, 105, 106, 107, 108, 109, 110, 111, 112, 113, 114, 115, 116, 117, 118, 119, 120, 121, 122]⟩)) (.tmp 79), none, []⟩,
 ⟨7, (some 81), .idxA (some 65) 1 (.tmp 12) (.tmp 74), none, []⟩,
 ⟨8, none, .store 1 (.tmp 81) (.tmp 80), none, []⟩])
 (.reg [⟨0, (some 82), .mv (.tmp 18), none, []⟩,
 ⟨1, (some 1), .mv (.tmp 82), none, []⟩]))))))))
 (.seq (.reg [⟨0, (some 83), .mv (.tmp 13), none, []⟩,
 ⟨1, (some 84), .bin .sub 3 true (.tmp 83) (.con (.int .i64 1)), none, []⟩,
 ⟨2, (some 13), .mv (.tmp 84), none, []⟩])
 (.reg [⟨0, (some 85), .mv (.tmp 13), none, []⟩,
 ⟨1, (some 86), .mv (.tmp 1), none, []⟩,
 ⟨2, (some 87), .idxS 9 (.con (.string ⟨#[48, 49, 50, 51, 52, 53, 54, 55, 56, 57, 97, 98, 99, 100, 101, 102, 103, 104, 105, 106, 107, 108, 109, 110, 111, 112, 113, 114, 115, 116, 117, 118, 119, 120, 121, 122]⟩)) (.tmp 86), none, []⟩,
 ⟨3, (some 88), .idxA (some 65) 1 (.tmp 12) (.tmp 85), none, []⟩,
 ⟨4, none, .store 1 (.tmp 88) (.tmp 87), none, []⟩]))))))
 (.seq (.seq (.reg [⟨0, (some 89), .mv (.tmp 3), none, []⟩])
 (.cond (.tmp 89)
 (.seq (.reg [⟨0, (some 90), .mv (.tmp 13), none, []⟩,
 ⟨1, (some 91), .bin .sub 3 true (.tmp 90) (.con (.int .i64 1)), none, []⟩,
 ⟨2, (some 13), .mv (.tmp 91), none, []⟩])
 (.reg [⟨0, (some 92), .mv (.tmp 13), none, []⟩,
 ⟨1, (some 93), .idxA (some 65) 1 (.tmp 12) (.tmp 92), none, []⟩,
 ⟨2, none, .store 1 (.tmp 93) (.con (.int .u8 45)), none, []⟩]))
 (.skip)))
 (.seq (.seq (.reg [⟨0, (some 94), .mv (.tmp 4), none, []⟩])
 (.cond (.tmp 94)
 (.seq (.reg [⟨0, (some 95), .mv (.tmp 0), none, []⟩,
 ⟨1, (some 96), .mv (.tmp 13), none, []⟩,
 ⟨2, (some 97), .slice (some 65) 1 (.tmp 12) (some (.tmp 96)) none none, none, []⟩,
 ⟨3, (some 98), .append 1 1 (.tmp 95) (.tmp 97), none, []⟩,
 ⟨4, (some 10), .mv (.tmp 98), none, []⟩])
 (.ret))
 (.skip)))
 (.seq (.reg [⟨0, (some 99), .mv (.tmp 13), none, []⟩,
 ⟨1, (some 100), .slice (some 65) 1 (.tmp 12) (some (.tmp 99)) none none, none, []⟩,
 ⟨2, (some 101), .b2s (.tmp 100), none, []⟩,
 ⟨3, (some 11), .mv (.tmp 101), none, []⟩])
 (.ret))))))))),
 [.tmp 10, .tmp 11]⟩
theorem p_internal_strconv_formatBits : prepFun Go.Proofs.Tryz.prog [1, 0, 2, 3] Go.Proofs.Tryz.f117 = some v_internal_strconv_formatBits := by kernel_rfl

def v_internal_stringslite_Cut : VFun :=
⟨.seq (.reg [⟨0, (some 4), .mv (.con (.string ⟨#[]⟩)), none, []⟩,
 ⟨1, (some 5), .mv (.con (.string ⟨#[]⟩)), none, []⟩,
 ⟨2, (some 6), .mv (.con (.bool false)), none, []⟩])
 (.seq (.seq (.reg [⟨0, (some 8), .mv (.tmp 0), none, []⟩,
 ⟨1, (some 9), .mv (.tmp 1), none, []⟩,
 ⟨2, (some 10), .call 126 [(.tmp 8), (.tmp 9)], none, []⟩,
 ⟨3, (some 7), .mv (.tmp 10), none, []⟩])
 (.seq (.reg [⟨0, (some 11), .mv (.tmp 7), none, []⟩,
 ⟨1, (some 12), .bin .geq 3 true (.tmp 11) (.con (.int .i64 0)), none, []⟩])
 (.cond (.tmp 12)
 (.seq (.reg [⟨0, (some 13), .mv (.tmp 0), none, []⟩,
 ⟨1, (some 14), .mv (.tmp 7), none, []⟩,
 ⟨2, (some 15), .slS 9 (.tmp 13) none (some (.tmp 14)), none, []⟩,
 ⟨3, (some 16), .mv (.tmp 0), none, []⟩,
 ⟨4, (some 17), .mv (.tmp 7), none, []⟩,
 ⟨5, (some 18), .mv (.tmp 1), none, []⟩,
 ⟨6, (some 19), .bi .len [9] 3 [(.tmp 18)], none, []⟩,
 ⟨7, (some 20), .bin .add 3 false (.tmp 17) (.tmp 19), none, []⟩,
 ⟨8, (some 21), .slS 9 (.tmp 16) (some (.tmp 20)) none, none, []⟩,
 ⟨9, (some 4), .mv (.tmp 15), none, []⟩,
 ⟨10, (some 5), .mv (.tmp 21), none, []⟩,
 ⟨11, (some 6), .mv (.con (.bool true)), none, []⟩])
 (.ret))
 (.skip))))
 (.seq (.reg [⟨0, (some 22), .mv (.tmp 0), none, []⟩,
 ⟨1, (some 4), .mv (.tmp 22), none, []⟩,
 ⟨2, (some 5), .mv (.con (.string ⟨#[]⟩)), none, []⟩,
 ⟨3, (some 6), .mv (.con (.bool false)), none, []⟩])
 (.ret))),
 [.tmp 4, .tmp 5, .tmp 6]⟩
theorem p_internal_stringslite_Cut : prepFun Go.Proofs.Tryz.prog [1, 0, 2, 3] Go.Proofs.Tryz.f118 = some v_internal_stringslite_Cut := by kernel_rfl

def v_word_Read : VFun :=
⟨.seq (.reg [⟨0, (some 2), .mv (.con (.int .i64 0)), none, []⟩,
 ⟨1, (some 3), .mv (.con (.int .i64 0)), none, []⟩])
 (.seq (.reg [⟨0, (some 7), .mv (.tmp 0), none, []⟩,
 ⟨1, (some 8), .call 134 [(.tmp 7), (.con (.int .i64 10)), (.con (.int .i64 64))], none, []⟩,
 ⟨2, (some 6), .mv (.tmp 8), none, []⟩,
 ⟨3, (some 9), .ext (.tmp 6) 0, none, []⟩,
 ⟨4, (some 10), .ext (.tmp 6) 1, none, []⟩,
 ⟨5, (some 4), .mv (.tmp 9), none, []⟩,
 ⟨6, (some 5), .mv (.tmp 10), none, []⟩])
 (.seq (.seq (.reg [⟨0, (some 11), .mv (.tmp 5), none, []⟩,
 ⟨1, (some 12), .bin .neq 83 true (.tmp 11) (.con .nilIface), none, []⟩,
 ⟨2, (some 13), .mv (.tmp 12), none, []⟩,
 ⟨3, (some 14), .mv (.tmp 4), (some (13, false)), []⟩,
 ⟨4, (some 15), .call 74 [(.tmp 14)], (some (13, false)), []⟩,
 ⟨5, (some 16), .mv (.tmp 0), (some (13, false)), []⟩,
 ⟨6, (some 17), .bin .neq 9 false (.tmp 15) (.tmp 16), (some (13, false)), []⟩,
 ⟨7, (some 18), .pick (.tmp 13) (.con (.bool true)) (.tmp 17), none, []⟩])
 (.cond (.tmp 18)
 (.seq (.reg [⟨0, (some 2), .mv (.con (.int .i64 0)), none, []⟩,
 ⟨1, (some 3), .mv (.con (.int .i64 4)), none, []⟩])
 (.ret))
 (.skip)))
 (.seq (.reg [⟨0, (some 19), .mv (.tmp 4), none, []⟩,
 ⟨1, (some 2), .mv (.tmp 19), none, []⟩,
 ⟨2, (some 3), .mv (.con (.int .i64 0)), none, []⟩])
 (.ret)))),
 [.tmp 2, .tmp 3]⟩
theorem p_word_Read : prepFun Go.Proofs.Tryz.prog [1, 0, 2, 3] Go.Proofs.Tryz.f119 = some v_word_Read := by kernel_rfl

def v_internal_stringslite_CutPrefix : VFun :=
⟨.seq (.reg [⟨0, (some 4), .mv (.con (.string ⟨#[]⟩)), none, []⟩,
 ⟨1, (some 5), .mv (.con (.bool false)), none, []⟩])
 (.seq (.seq (.reg [⟨0, (some 6), .mv (.tmp 0), none, []⟩,
 ⟨1, (some 7), .mv (.tmp 1), none, []⟩,
 ⟨2, (some 8), .call 106 [(.tmp 6), (.tmp 7)], none, []⟩,
 ⟨3, (some 9), .un .not (.tmp 8), none, []⟩])
 (.cond (.tmp 9)
 (.seq (.reg [⟨0, (some 10), .mv (.tmp 0), none, []⟩,
 ⟨1, (some 4), .mv (.tmp 10), none, []⟩,
 ⟨2, (some 5), .mv (.con (.bool false)), none, []⟩])
 (.ret))
 (.skip)))
 (.seq (.reg [⟨0, (some 11), .mv (.tmp 0), none, []⟩,
 ⟨1, (some 12), .mv (.tmp 1), none, []⟩,
 ⟨2, (some 13), .bi .len [9] 3 [(.tmp 12)], none, []⟩,
 ⟨3, (some 14), .slS 9 (.tmp 11) (some (.tmp 13)) none, none, []⟩,
 ⟨4, (some 4), .mv (.tmp 14), none, []⟩,
 ⟨5, (some 5), .mv (.con (.bool true)), none, []⟩])
 (.ret))),
 [.tmp 4, .tmp 5]⟩
theorem p_internal_stringslite_CutPrefix : prepFun Go.Proofs.Tryz.prog [1, 0, 2, 3] Go.Proofs.Tryz.f120 = some v_internal_stringslite_CutPrefix := by kernel_rfl

def v_slices_IndexFunc_form : VFun :=
⟨.seq (.reg [⟨0, (some 4), .mv (.con (.int .i64 0)), none, []⟩])
 (.seq (.seq (.reg [⟨0, (some 6), .mv (.tmp 0), none, []⟩,
 ⟨1, (some 7), .len (.tmp 6), none, []⟩,
 ⟨2, (some 8), .mv (.con (.int .i64 0)), none, []⟩])
 (.block 0
 (.loop
 (.seq (.reg [⟨0, (some 9), .bin .lss 3 false (.tmp 8) (.tmp 7), none, []⟩])
 (.seq (.cond (.tmp 9)
 (.skip)
 (.exit 0))
 (.seq (.block 1
 (.seq (.reg [⟨0, (some 10), .mv (.tmp 8), none, []⟩,
 ⟨1, (some 5), .mv (.tmp 10), none, []⟩])
 (.seq (.reg [⟨0, (some 11), .mv (.tmp 1), none, []⟩,
 ⟨1, (some 12), .mv (.tmp 0), none, []⟩,
 ⟨2, (some 13), .mv (.tmp 5), none, []⟩,
 ⟨3, (some 14), .idxA none 3 (.tmp 12) (.tmp 13), none, []⟩,
 ⟨4, (some 15), .load (some 3) (.tmp 14), none, []⟩,
 ⟨5, (some 16), .callv (.tmp 11) [(.tmp 15)], none, []⟩])
 (.cond (.tmp 16)
 (.seq (.reg [⟨0, (some 17), .mv (.tmp 5), none, []⟩,
 ⟨1, (some 4), .mv (.tmp 17), none, []⟩])
 (.ret))
 (.skip)))))
 (.reg [⟨0, (some 18), .bin .add 3 true (.tmp 8) (.con (.int .i64 1)), none, []⟩,
 ⟨1, (some 8), .mv (.tmp 18), none, []⟩])))))))
 (.seq (.reg [⟨0, (some 4), .mv (.con (.int .i64 (-1))), none, []⟩])
 (.ret))),
 [.tmp 4]⟩
theorem p_slices_IndexFunc_form : prepFun Go.Proofs.Tryz.prog [1, 0, 2, 3] Go.Proofs.Tryz.f121 = some v_slices_IndexFunc_form := by kernel_rfl

def v_code_readOp_c1 : VFun :=
⟨.seq (.reg [⟨0, (some 2), .box (.tmp 0), none, []⟩,
 ⟨1, (some 3), .mv (.con (.bool false)), none, []⟩])
 (.seq (.reg [⟨0, (some 4), .fieldA 2 (.tmp 2), none, []⟩,
 ⟨1, (some 5), .load none (.tmp 4), none, []⟩,
 ⟨2, (some 6), .load none (.tmp 1), none, []⟩,
 ⟨3, (some 7), .idxA none 1 (.tmp 6) (.con (.int .i64 0)), none, []⟩,
 ⟨4, (some 8), .load none (.tmp 7), none, []⟩,
 ⟨5, (some 9), .bin .eql 9 false (.tmp 5) (.tmp 8), none, []⟩,
 ⟨6, (some 3), .mv (.tmp 9), none, []⟩])
 (.ret)),
 [.tmp 3]⟩
theorem p_code_readOp_c1 : prepFun Go.Proofs.Tryz.prog [1, 0, 2, 3] Go.Proofs.Tryz.f122 = some v_code_readOp_c1 := by kernel_rfl

def v_unicode_utf8_DecodeRuneInString : VFun :=
⟨.seq (.reg [⟨0, (some 2), .mv (.con (.int .i32 0)), none, []⟩,
 ⟨1, (some 3), .mv (.con (.int .i64 0)), none, []⟩])
 (.seq (.seq (.reg [⟨0, (some 4), .mv (.tmp 0), none, []⟩,
 ⟨1, (some 5), .bin .neq 9 true (.tmp 4) (.con (.string ⟨#[]⟩)), none, []⟩,
 ⟨2, (some 6), .mv (.tmp 5), none, []⟩,
 ⟨3, (some 7), .mv (.tmp 0), (some (6, true)), []⟩,
 ⟨4, (some 8), .idxS 9 (.tmp 7) (.con (.int .i64 0)), (some (6, true)), []⟩,
 ⟨5, (some 9), .bin .lss 5 true (.tmp 8) (.con (.int .u8 128)), (some (6, true)), []⟩,
 ⟨6, (some 10), .pick (.tmp 6) (.tmp 9) (.con (.bool false)), none, []⟩])
 (.cond (.tmp 10)
 (.seq (.reg [⟨0, (some 11), .mv (.tmp 0), none, []⟩,
 ⟨1, (some 12), .idxS 9 (.tmp 11) (.con (.int .i64 0)), none, []⟩,
 ⟨2, (some 13), .conv 5 21 (.tmp 12), none, []⟩,
 ⟨3, (some 2), .mv (.tmp 13), none, []⟩,
 ⟨4, (some 3), .mv (.con (.int .i64 1)), none, []⟩])
 (.ret))
 (.reg [⟨0, (some 15), .mv (.tmp 0), none, []⟩,
 ⟨1, (some 16), .call 135 [(.tmp 15)], none, []⟩,
 ⟨2, (some 14), .mv (.tmp 16), none, []⟩,
 ⟨3, (some 17), .ext (.tmp 14) 0, none, []⟩,
 ⟨4, (some 18), .ext (.tmp 14) 1, none, []⟩,
 ⟨5, (some 2), .mv (.tmp 17), none, []⟩,
 ⟨6, (some 3), .mv (.tmp 18), none, []⟩])))
 (.ret)),
 [.tmp 2, .tmp 3]⟩
theorem p_unicode_utf8_DecodeRuneInString : prepFun Go.Proofs.Tryz.prog [1, 0, 2, 3] Go.Proofs.Tryz.f124 = some v_unicode_utf8_DecodeRuneInString := by kernel_rfl

def v_internal_stringslite_Index : VFun :=
⟨.seq (.reg [⟨0, (some 4), .mv (.con (.int .i64 0)), none, []⟩])
 (.seq (.reg [⟨0, (some 14), .mv (.tmp 1), none, []⟩,
 ⟨1, (some 15), .bi .len [9] 3 [(.tmp 14)], none, []⟩,
 ⟨2, (some 5), .mv (.tmp 15), none, []⟩])
 (.seq (.block 0
 (.seq (.reg [⟨0, (some 17), .mv (.tmp 5), none, []⟩,
 ⟨1, (some 18), .bin .eql 3 true (.tmp 17) (.con (.int .i64 0)), none, []⟩,
 ⟨2, (some 19), .mv (.tmp 18), none, []⟩,
 ⟨3, (some 20), .mv (.tmp 1), (some (19, false)), []⟩,
 ⟨4, (some 21), .mv (.tmp 0), (some (19, false)), []⟩,
 ⟨5, (some 22), .bin .eql 9 false (.tmp 20) (.tmp 21), (some (19, false)), []⟩,
 ⟨6, (some 23), .pick (.tmp 19) (.con (.bool true)) (.tmp 22), none, []⟩,
 ⟨7, (some 16), .mv (.tmp 23), none, []⟩])
 (.cond (.tmp 16)
 (.seq (.reg [⟨0, (some 4), .mv (.con (.int .i64 0)), none, []⟩])
 (.ret))
 (.seq (.reg [⟨0, (some 25), .mv (.tmp 5), none, []⟩,
 ⟨1, (some 26), .bin .eql 3 true (.tmp 25) (.con (.int .i64 1)), none, []⟩,
 ⟨2, (some 24), .mv (.tmp 26), none, []⟩])
 (.cond (.tmp 24)
 (.seq (.reg [⟨0, (some 27), .mv (.tmp 0), none, []⟩,
 ⟨1, (some 28), .mv (.tmp 1), none, []⟩,
 ⟨2, (some 29), .idxS 9 (.tmp 28) (.con (.int .i64 0)), none, []⟩,
 ⟨3, (some 30), .call 136 [(.tmp 27), (.tmp 29)], none, []⟩,
 ⟨4, (some 4), .mv (.tmp 30), none, []⟩])
 (.ret))
 (.seq (.reg [⟨0, (some 32), .mv (.tmp 5), none, []⟩,
 ⟨1, (some 33), .mv (.tmp 0), none, []⟩,
 ⟨2, (some 34), .bi .len [9] 3 [(.tmp 33)], none, []⟩,
 ⟨3, (some 35), .bin .geq 3 false (.tmp 32) (.tmp 34), none, []⟩,
 ⟨4, (some 31), .mv (.tmp 35), none, []⟩])
 (.cond (.tmp 31)
 (.seq (.reg [⟨0, (some 4), .mv (.con (.int .i64 (-1))), none, []⟩])
 (.ret))
 (.seq (.reg [⟨0, (some 37), .mv (.tmp 5), none, []⟩,
 ⟨1, (some 38), .load none (.glo 3), none, []⟩,
 ⟨2, (some 39), .bin .leq 3 false (.tmp 37) (.tmp 38), none, []⟩,
 ⟨3, (some 40), .mv (.tmp 39), none, []⟩,
 ⟨4, (some 41), .mv (.tmp 0), (some (40, true)), []⟩,
 ⟨5, (some 42), .bi .len [9] 3 [(.tmp 41)], (some (40, true)), []⟩,
 ⟨6, (some 43), .bin .leq 3 true (.tmp 42) (.con (.int .i64 64)), (some (40, true)), []⟩,
 ⟨7, (some 44), .pick (.tmp 40) (.tmp 43) (.con (.bool false)), none, []⟩,
 ⟨8, (some 36), .mv (.tmp 44), none, []⟩])
 (.cond (.tmp 36)
 (.seq (.reg [⟨0, (some 45), .mv (.tmp 0), none, []⟩,
 ⟨1, (some 46), .mv (.tmp 1), none, []⟩,
 ⟨2, (some 47), .call 137 [(.tmp 45), (.tmp 46)], none, []⟩,
 ⟨3, (some 4), .mv (.tmp 47), none, []⟩])
 (.ret))
 (.skip))))))))))
 (.seq (.reg [⟨0, (some 48), .mv (.tmp 1), none, []⟩,
 ⟨1, (some 49), .idxS 9 (.tmp 48) (.con (.int .i64 0)), none, []⟩,
 ⟨2, (some 6), .mv (.tmp 49), none, []⟩])
 (.seq (.reg [⟨0, (some 50), .mv (.tmp 1), none, []⟩,
 ⟨1, (some 51), .idxS 9 (.tmp 50) (.con (.int .i64 1)), none, []⟩,
 ⟨2, (some 7), .mv (.tmp 51), none, []⟩])
 (.seq (.reg [⟨0, (some 8), .mv (.con (.int .i64 0)), none, []⟩])
 (.seq (.reg [⟨0, (some 52), .mv (.tmp 0), none, []⟩,
 ⟨1, (some 53), .bi .len [9] 3 [(.tmp 52)], none, []⟩,
 ⟨2, (some 54), .mv (.tmp 5), none, []⟩,
 ⟨3, (some 55), .bin .sub 3 false (.tmp 53) (.tmp 54), none, []⟩,
 ⟨4, (some 56), .bin .add 3 true (.tmp 55) (.con (.int .i64 1)), none, []⟩,
 ⟨5, (some 9), .mv (.tmp 56), none, []⟩])
 (.seq (.reg [⟨0, (some 10), .mv (.con (.int .i64 0)), none, []⟩])
 (.seq (.block 1
 (.loop
 (.seq (.seq (.reg [⟨0, (some 57), .mv (.tmp 8), none, []⟩,
 ⟨1, (some 58), .mv (.tmp 9), none, []⟩,
 ⟨2, (some 59), .bin .lss 3 false (.tmp 57) (.tmp 58), none, []⟩])
 (.cond (.tmp 59)
 (.skip)
 (.exit 1)))
 (.block 2
 (.seq (.seq (.reg [⟨0, (some 60), .mv (.tmp 0), none, []⟩,
 ⟨1, (some 61), .mv (.tmp 8), none, []⟩,
 ⟨2, (some 62), .idxS 9 (.tmp 60) (.tmp 61), none, []⟩,
 ⟨3, (some 63), .mv (.tmp 6), none, []⟩,
 ⟨4, (some 64), .bin .neq 5 false (.tmp 62) (.tmp 63), none, []⟩])
 (.cond (.tmp 64)
 (.seq (.reg [⟨0, (some 65), .mv (.tmp 0), none, []⟩,
 ⟨1, (some 66), .mv (.tmp 8), none, []⟩,
 ⟨2, (some 67), .bin .add 3 true (.tmp 66) (.con (.int .i64 1)), none, []⟩,
 ⟨3, (some 68), .mv (.tmp 9), none, []⟩,
 ⟨4, (some 69), .slS 9 (.tmp 65) (some (.tmp 67)) (some (.tmp 68)), none, []⟩,
 ⟨5, (some 70), .mv (.tmp 6), none, []⟩,
 ⟨6, (some 71), .call 136 [(.tmp 69), (.tmp 70)], none, []⟩,
 ⟨7, (some 11), .mv (.tmp 71), none, []⟩])
 (.seq (.seq (.reg [⟨0, (some 72), .mv (.tmp 11), none, []⟩,
 ⟨1, (some 73), .bin .lss 3 true (.tmp 72) (.con (.int .i64 0)), none, []⟩])
 (.cond (.tmp 73)
 (.seq (.reg [⟨0, (some 4), .mv (.con (.int .i64 (-1))), none, []⟩])
 (.ret))
 (.skip)))
 (.reg [⟨0, (some 74), .mv (.tmp 8), none, []⟩,
 ⟨1, (some 75), .mv (.tmp 11), none, []⟩,
 ⟨2, (some 76), .bin .add 3 true (.tmp 75) (.con (.int .i64 1)), none, []⟩,
 ⟨3, (some 77), .bin .add 3 false (.tmp 74) (.tmp 76), none, []⟩,
 ⟨4, (some 8), .mv (.tmp 77), none, []⟩])))
 (.skip)))
 (.seq (.seq (.reg [⟨0, (some 78), .mv (.tmp 0), none, []⟩,
 ⟨1, (some 79), .mv (.tmp 8), none, []⟩,
 ⟨2, (some 80), .bin .add 3 true (.tmp 79) (.con (.int .i64 1)), none, []⟩,
 ⟨3, (some 81), .idxS 9 (.tmp 78) (.tmp 80), none, []⟩,
 ⟨4, (some 82), .mv (.tmp 7), none, []⟩,
 ⟨5, (some 83), .bin .eql 5 false (.tmp 81) (.tmp 82), none, []⟩,
 ⟨6, (some 84), .mv (.tmp 83), none, []⟩,
 ⟨7, (some 85), .mv (.tmp 0), (some (84, true)), []⟩,
 ⟨8, (some 86), .mv (.tmp 8), (some (84, true)), []⟩,
 ⟨9, (some 87), .mv (.tmp 8), (some (84, true)), []⟩,
 ⟨10, (some 88), .mv (.tmp 5), (some (84, true)), []⟩,
 ⟨11, (some 89), .bin .add 3 false (.tmp 87) (.tmp 88), (some (84, true)), []⟩,
 ⟨12, (some 90), .slS 9 (.tmp 85) (some (.tmp 86)) (some (.tmp 89)), (some (84, true)), []⟩,
 ⟨13, (some 91), .mv (.tmp 1), (some (84, true)), []⟩,
 ⟨14, (some 92), .bin .eql 9 false (.tmp 90) (.tmp 91), (some (84, true)), []⟩,
 ⟨15, (some 93), .pick (.tmp 84) (.tmp 92) (.con (.bool false)), none, []⟩])
 (.cond (.tmp 93)
 (.seq (.reg [⟨0, (some 94), .mv (.tmp 8), none, []⟩,
 ⟨1, (some 4), .mv (.tmp 94), none, []⟩])
 (.ret))
 (.skip)))
 (.seq (.reg [⟨0, (some 95), .mv (.tmp 8), none, []⟩,
 ⟨1, (some 96), .bin .add 3 true (.tmp 95) (.con (.int .i64 1)), none, []⟩,
 ⟨2, (some 8), .mv (.tmp 96), none, []⟩])
 (.seq (.reg [⟨0, (some 97), .mv (.tmp 10), none, []⟩,
 ⟨1, (some 98), .bin .add 3 true (.tmp 97) (.con (.int .i64 1)), none, []⟩,
 ⟨2, (some 10), .mv (.tmp 98), none, []⟩])
 (.seq (.reg [⟨0, (some 99), .mv (.tmp 5), none, []⟩,
 ⟨1, (some 100), .load none (.glo 3), none, []⟩,
 ⟨2, (some 101), .bin .leq 3 false (.tmp 99) (.tmp 100), none, []⟩,
 ⟨3, (some 102), .mv (.tmp 101), none, []⟩,
 ⟨4, (some 103), .mv (.tmp 10), (some (102, true)), []⟩,
 ⟨5, (some 104), .mv (.tmp 8), (some (102, true)), []⟩,
 ⟨6, (some 105), .call 138 [(.tmp 104)], (some (102, true)), []⟩,
 ⟨7, (some 106), .bin .gtr 3 false (.tmp 103) (.tmp 105), (some (102, true)), []⟩,
 ⟨8, (some 107), .pick (.tmp 102) (.tmp 106) (.con (.bool false)), none, []⟩])
 (.cond (.tmp 107)
 (.seq (.reg [⟨0, (some 108), .mv (.tmp 0), none, []⟩,
 ⟨1, (some 109), .mv (.tmp 8), none, []⟩,
 ⟨2, (some 110), .slS 9 (.tmp 108) (some (.tmp 109)) none, none, []⟩,
 ⟨3, (some 111), .mv (.tmp 1), none, []⟩,
 ⟨4, (some 112), .call 137 [(.tmp 110), (.tmp 111)], none, []⟩,
 ⟨5, (some 12), .mv (.tmp 112), none, []⟩])
 (.seq (.seq (.reg [⟨0, (some 113), .mv (.tmp 12), none, []⟩,
 ⟨1, (some 114), .bin .geq 3 true (.tmp 113) (.con (.int .i64 0)), none, []⟩])
 (.cond (.tmp 114)
 (.seq (.reg [⟨0, (some 115), .mv (.tmp 12), none, []⟩,
 ⟨1, (some 116), .mv (.tmp 8), none, []⟩,
 ⟨2, (some 117), .bin .add 3 false (.tmp 115) (.tmp 116), none, []⟩,
 ⟨3, (some 4), .mv (.tmp 117), none, []⟩])
 (.ret))
 (.skip)))
 (.seq (.reg [⟨0, (some 4), .mv (.con (.int .i64 (-1))), none, []⟩])
 (.ret))))
 (.seq (.reg [⟨0, (some 118), .mv (.tmp 5), none, []⟩,
 ⟨1, (some 119), .load none (.glo 3), none, []⟩,
 ⟨2, (some 120), .bin .gtr 3 false (.tmp 118) (.tmp 119), none, []⟩,
 ⟨3, (some 121), .mv (.tmp 120), none, []⟩,
 ⟨4, (some 122), .mv (.tmp 10), (some (121, true)), []⟩,
 ⟨5, (some 123), .mv (.tmp 8), (some (121, true)), []⟩,
 ⟨6, (some 124), .bin .shr 3 true (.tmp 123) (.con (.int .u64 4)), (some (121, true)), []⟩,
 ⟨7, (some 125), .bin .add 3 true (.con (.int .i64 4)) (.tmp 124), (some (121, true)), []⟩,
 ⟨8, (some 126), .bin .geq 3 false (.tmp 122) (.tmp 125), (some (121, true)), []⟩,
 ⟨9, (some 127), .pick (.tmp 121) (.tmp 126) (.con (.bool false)), none, []⟩,
 ⟨10, (some 128), .mv (.tmp 127), none, []⟩,
 ⟨11, (some 129), .mv (.tmp 8), (some (128, true)), []⟩,
 ⟨12, (some 130), .mv (.tmp 9), (some (128, true)), []⟩,
 ⟨13, (some 131), .bin .lss 3 false (.tmp 129) (.tmp 130), (some (128, true)), []⟩,
 ⟨14, (some 132), .pick (.tmp 128) (.tmp 131) (.con (.bool false)), none, []⟩])
 (.cond (.tmp 132)
 (.seq (.reg [⟨0, (some 133), .mv (.tmp 0), none, []⟩,
 ⟨1, (some 134), .mv (.tmp 8), none, []⟩,
 ⟨2, (some 135), .slS 9 (.tmp 133) (some (.tmp 134)) none, none, []⟩,
 ⟨3, (some 136), .mv (.tmp 1), none, []⟩,
 ⟨4, (some 137), .call 139 [(.tmp 135), (.tmp 136)], none, []⟩,
 ⟨5, (some 13), .mv (.tmp 137), none, []⟩])
 (.seq (.seq (.reg [⟨0, (some 138), .mv (.tmp 13), none, []⟩,
 ⟨1, (some 139), .bin .lss 3 true (.tmp 138) (.con (.int .i64 0)), none, []⟩])
 (.cond (.tmp 139)
 (.seq (.reg [⟨0, (some 4), .mv (.con (.int .i64 (-1))), none, []⟩])
 (.ret))
 (.skip)))
 (.seq (.reg [⟨0, (some 140), .mv (.tmp 8), none, []⟩,
 ⟨1, (some 141), .mv (.tmp 13), none, []⟩,
 ⟨2, (some 142), .bin .add 3 false (.tmp 140) (.tmp 141), none, []⟩,
 ⟨3, (some 4), .mv (.tmp 142), none, []⟩])
 (.ret))))
 (.skip)))))))))))))
 (.seq (.reg [⟨0, (some 4), .mv (.con (.int .i64 (-1))), none, []⟩])
 (.ret)))))))))),
 [.tmp 4]⟩
theorem p_internal_stringslite_Index : prepFun Go.Proofs.Tryz.prog [1, 0, 2, 3] Go.Proofs.Tryz.f126 = some v_internal_stringslite_Index := by kernel_rfl

def v_slices_IndexFunc_int : VFun :=
⟨.seq (.reg [⟨0, (some 4), .mv (.con (.int .i64 0)), none, []⟩])
 (.seq (.seq (.reg [⟨0, (some 6), .mv (.tmp 0), none, []⟩,
 ⟨1, (some 7), .len (.tmp 6), none, []⟩,
 ⟨2, (some 8), .mv (.con (.int .i64 0)), none, []⟩])
 (.block 0
 (.loop
 (.seq (.reg [⟨0, (some 9), .bin .lss 3 false (.tmp 8) (.tmp 7), none, []⟩])
 (.seq (.cond (.tmp 9)
 (.skip)
 (.exit 0))
 (.seq (.block 1
 (.seq (.reg [⟨0, (some 10), .mv (.tmp 8), none, []⟩,
 ⟨1, (some 5), .mv (.tmp 10), none, []⟩])
 (.seq (.reg [⟨0, (some 11), .mv (.tmp 1), none, []⟩,
 ⟨1, (some 12), .mv (.tmp 0), none, []⟩,
 ⟨2, (some 13), .mv (.tmp 5), none, []⟩,
 ⟨3, (some 14), .idxA none 1 (.tmp 12) (.tmp 13), none, []⟩,
 ⟨4, (some 15), .load none (.tmp 14), none, []⟩,
 ⟨5, (some 16), .callv (.tmp 11) [(.tmp 15)], none, []⟩])
 (.cond (.tmp 16)
 (.seq (.reg [⟨0, (some 17), .mv (.tmp 5), none, []⟩,
 ⟨1, (some 4), .mv (.tmp 17), none, []⟩])
 (.ret))
 (.skip)))))
 (.reg [⟨0, (some 18), .bin .add 3 true (.tmp 8) (.con (.int .i64 1)), none, []⟩,
 ⟨1, (some 8), .mv (.tmp 18), none, []⟩])))))))
 (.seq (.reg [⟨0, (some 4), .mv (.con (.int .i64 (-1))), none, []⟩])
 (.ret))),
 [.tmp 4]⟩
theorem p_slices_IndexFunc_int : prepFun Go.Proofs.Tryz.prog [1, 0, 2, 3] Go.Proofs.Tryz.f127 = some v_slices_IndexFunc_int := by kernel_rfl

def v_code_checker_reg : VFun :=
⟨.reg [⟨0, (some 6), .mv (.tmp 0), none, []⟩,
 ⟨1, (some 7), .mv (.tmp 2), none, []⟩,
 ⟨2, (some 8), .un .not (.tmp 7), none, []⟩,
 ⟨3, (some 9), .mv (.tmp 8), none, []⟩,
 ⟨4, (some 10), .mv (.tmp 1), (some (9, false)), []⟩,
 ⟨5, (some 11), .mv (.tmp 0), (some (9, false)), []⟩,
 ⟨6, (some 12), .nilck (.tmp 11), (some (9, false)), []⟩,
 ⟨7, (some 13), .fieldA 0 (.tmp 12), (some (9, false)), []⟩,
 ⟨8, (some 14), .fieldA 2 (.tmp 13), (some (9, false)), []⟩,
 ⟨9, (some 15), .load none (.tmp 14), (some (9, false)), []⟩,
 ⟨10, (some 16), .call 67 [(.tmp 10), (.tmp 15)], (some (9, false)), []⟩,
 ⟨11, (some 17), .pick (.tmp 9) (.con (.bool true)) (.tmp 16), none, []⟩,
 ⟨12, (some 18), .call 108 [(.tmp 6), (.tmp 17), (.con (.int .i64 2))], none, []⟩],
 []⟩
theorem p_code_checker_reg : prepFun Go.Proofs.Tryz.prog [1, 0, 2, 3] Go.Proofs.Tryz.f128 = some v_code_checker_reg := by kernel_rfl

def v_internal_strconv_log10Pow2 : VFun :=
⟨.seq (.reg [⟨0, (some 2), .mv (.con (.int .i64 0)), none, []⟩])
 (.seq (.reg [⟨0, (some 3), .mv (.tmp 0), none, []⟩,
 ⟨1, (some 4), .bin .mul 3 true (.tmp 3) (.con (.int .i64 78913)), none, []⟩,
 ⟨2, (some 5), .bin .shr 3 true (.tmp 4) (.con (.int .u64 18)), none, []⟩,
 ⟨3, (some 2), .mv (.tmp 5), none, []⟩])
 (.ret)),
 [.tmp 2]⟩
theorem p_internal_strconv_log10Pow2 : prepFun Go.Proofs.Tryz.prog [1, 0, 2, 3] Go.Proofs.Tryz.f129 = some v_internal_strconv_log10Pow2 := by kernel_rfl

def v_math_bits_Len64 : VFun :=
⟨.seq (.reg [⟨0, (some 2), .mv (.con (.int .i64 0)), none, []⟩])
 (.seq (.seq (.reg [⟨0, (some 3), .mv (.tmp 0), none, []⟩,
 ⟨1, (some 4), .bin .geq 160 true (.tmp 3) (.con (.int .u64 4294967296)), none, []⟩])
 (.cond (.tmp 4)
 (.seq (.reg [⟨0, (some 5), .mv (.tmp 0), none, []⟩,
 ⟨1, (some 6), .bin .shr 160 true (.tmp 5) (.con (.int .u64 32)), none, []⟩,
 ⟨2, (some 0), .mv (.tmp 6), none, []⟩])
 (.reg [⟨0, (some 2), .mv (.con (.int .i64 32)), none, []⟩]))
 (.skip)))
 (.seq (.seq (.reg [⟨0, (some 7), .mv (.tmp 0), none, []⟩,
 ⟨1, (some 8), .bin .geq 160 true (.tmp 7) (.con (.int .u64 65536)), none, []⟩])
 (.cond (.tmp 8)
 (.seq (.reg [⟨0, (some 9), .mv (.tmp 0), none, []⟩,
 ⟨1, (some 10), .bin .shr 160 true (.tmp 9) (.con (.int .u64 16)), none, []⟩,
 ⟨2, (some 0), .mv (.tmp 10), none, []⟩])
 (.reg [⟨0, (some 11), .mv (.tmp 2), none, []⟩,
 ⟨1, (some 12), .bin .add 3 true (.tmp 11) (.con (.int .i64 16)), none, []⟩,
 ⟨2, (some 2), .mv (.tmp 12), none, []⟩]))
 (.skip)))
 (.seq (.seq (.reg [⟨0, (some 13), .mv (.tmp 0), none, []⟩,
 ⟨1, (some 14), .bin .geq 160 true (.tmp 13) (.con (.int .u64 256)), none, []⟩])
 (.cond (.tmp 14)
 (.seq (.reg [⟨0, (some 15), .mv (.tmp 0), none, []⟩,
 ⟨1, (some 16), .bin .shr 160 true (.tmp 15) (.con (.int .u64 8)), none, []⟩,
 ⟨2, (some 0), .mv (.tmp 16), none, []⟩])
 (.reg [⟨0, (some 17), .mv (.tmp 2), none, []⟩,
 ⟨1, (some 18), .bin .add 3 true (.tmp 17) (.con (.int .i64 8)), none, []⟩,
 ⟨2, (some 2), .mv (.tmp 18), none, []⟩]))
 (.skip)))
 (.seq (.reg [⟨0, (some 19), .mv (.tmp 2), none, []⟩,
 ⟨1, (some 20), .mv (.tmp 0), none, []⟩,
 ⟨2, (some 21), .conv 160 5 (.tmp 20), none, []⟩,
 ⟨3, (some 22), .idxS 9 (.con (.string ⟨#[0, 1, 2, 2, 3, 3, 3, 3, 4, 4, 4, 4, 4, 4, 4, 4, 5, 5, 5, 5, 5, 5, 5, 5, 5, 5, 5, 5, 5, 5, 5, 5, 6, 6, 6, 6, 6, 6, 6, 6, 6, 6, 6, 6, 6, 6, 6, 6, 6, 6, 6, 6, 6, 6, 6, 6, 6, 6, 6, 6, 6, 6, 6, 6, 7, 7, 7, 7, 7, 7, 7, 7, 7, 7, 7, 7, 7, 7, 7, 7, 7, 7, 7, 7, 7, 7, 7, 7, 7, 7, 7, 7, 7, 7, 7, 7, 7, 7, 7, 7, 7, 7, 7, 7, 7, 7, 7, 7, 7, 7, 7, 7, 7, 7, 7, 7, 7, 7, 7, 7, 7, 7, 7, 7, 7, 7, 7, 7, 8, 8, 8, 8, 8, 8, 8, 8, 8, 8, 8, 8, 8, 8, 8, 8, 8, 8, 8, 8, 8, 8, 8, 8, 8, 8, 8, 8, 8, 8, 8, 8, 8, 8, 8, 8, 8, 8, 8, 8, 8, 8, 8, 8, 8, 8, 8, 8, 8, 8, 8, 8, 8, 8, 8, 8, 8, 8, 8, 8, 8, 8, 8, 8, 8, 8, 8, 8, 8, 8, 8, 8, 8, 8, 8, 8, 8, 8, 8, 8, 8, 8, 8, 8, 8, 8, 8, 8, 8, 8, 8, 8, 8, 8, 8, 8, 8, 8, 8, 8, 8, 8, 8, 8, 8, 8, 8, 8, 8, 8, 8, 8, 8, 8, 8, 8, 8, 8, 8, 8, 8, 8, 8, 8, 8, 8, 8, 8]⟩)) (.tmp 21), none, []⟩,
 ⟨4, (some 23), .conv 5 3 (.tmp 22), none, []⟩,
 ⟨5, (some 24), .bin .add 3 false (.tmp 19) (.tmp 23), none, []⟩,
 ⟨6, (some 2), .mv (.tmp 24), none, []⟩])
 (.ret))))),
 [.tmp 2]⟩
theorem p_math_bits_Len64 : prepFun Go.Proofs.Tryz.prog [1, 0, 2, 3] Go.Proofs.Tryz.f130 = some v_math_bits_Len64 := by kernel_rfl

def v_internal_strconv_bool2_int : VFun :=
⟨.seq (.reg [⟨0, (some 2), .mv (.con (.int .i64 0)), none, []⟩])
 (.seq (.seq (.reg [⟨0, (some 3), .mv (.tmp 0), none, []⟩])
 (.cond (.tmp 3)
 (.seq (.reg [⟨0, (some 2), .mv (.con (.int .i64 1)), none, []⟩])
 (.ret))
 (.skip)))
 (.seq (.reg [⟨0, (some 2), .mv (.con (.int .i64 0)), none, []⟩])
 (.ret))),
 [.tmp 2]⟩
theorem p_internal_strconv_bool2_int : prepFun Go.Proofs.Tryz.prog [1, 0, 2, 3] Go.Proofs.Tryz.f131 = some v_internal_strconv_bool2_int := by kernel_rfl

def v_internal_strconv_isPowerOfTwo : VFun :=
⟨.seq (.reg [⟨0, (some 2), .mv (.con (.bool false)), none, []⟩])
 (.seq (.reg [⟨0, (some 3), .mv (.tmp 0), none, []⟩,
 ⟨1, (some 4), .mv (.tmp 0), none, []⟩,
 ⟨2, (some 5), .bin .sub 3 true (.tmp 4) (.con (.int .i64 1)), none, []⟩,
 ⟨3, (some 6), .bin .and 3 false (.tmp 3) (.tmp 5), none, []⟩,
 ⟨4, (some 7), .bin .eql 3 true (.tmp 6) (.con (.int .i64 0)), none, []⟩,
 ⟨5, (some 2), .mv (.tmp 7), none, []⟩])
 (.ret)),
 [.tmp 2]⟩
theorem p_internal_strconv_isPowerOfTwo : prepFun Go.Proofs.Tryz.prog [1, 0, 2, 3] Go.Proofs.Tryz.f132 = some v_internal_strconv_isPowerOfTwo := by kernel_rfl

def v_math_bits_TrailingZeros : VFun :=
⟨.seq (.reg [⟨0, (some 2), .mv (.con (.int .i64 0)), none, []⟩])
 (.seq (.cond (.con (.bool false))
 (.seq (.reg [⟨0, (some 3), .mv (.tmp 0), none, []⟩,
 ⟨1, (some 4), .conv 182 180 (.tmp 3), none, []⟩,
 ⟨2, (some 5), .call 140 [(.tmp 4)], none, []⟩,
 ⟨3, (some 2), .mv (.tmp 5), none, []⟩])
 (.ret))
 (.skip))
 (.seq (.reg [⟨0, (some 6), .mv (.tmp 0), none, []⟩,
 ⟨1, (some 7), .call 141 [(.tmp 6)], none, []⟩,
 ⟨2, (some 2), .mv (.tmp 7), none, []⟩])
 (.ret))),
 [.tmp 2]⟩
theorem p_math_bits_TrailingZeros : prepFun Go.Proofs.Tryz.prog [1, 0, 2, 3] Go.Proofs.Tryz.f133 = some v_math_bits_TrailingZeros := by kernel_rfl

def v_strconv_ParseInt : VFun :=
⟨.seq (.reg [⟨0, (some 6), .mv (.con (.int .i64 0)), none, []⟩,
 ⟨1, (some 7), .mv (.con .nilIface), none, []⟩])
 (.seq (.reg [⟨0, (some 10), .mv (.tmp 0), none, []⟩,
 ⟨1, (some 11), .mv (.tmp 1), none, []⟩,
 ⟨2, (some 12), .mv (.tmp 2), none, []⟩,
 ⟨3, (some 13), .call 142 [(.tmp 10), (.tmp 11), (.tmp 12)], none, []⟩,
 ⟨4, (some 9), .mv (.tmp 13), none, []⟩,
 ⟨5, (some 14), .ext (.tmp 9) 0, none, []⟩,
 ⟨6, (some 15), .ext (.tmp 9) 1, none, []⟩,
 ⟨7, (some 8), .mv (.tmp 14), none, []⟩,
 ⟨8, (some 7), .mv (.tmp 15), none, []⟩])
 (.seq (.seq (.reg [⟨0, (some 16), .mv (.tmp 7), none, []⟩,
 ⟨1, (some 17), .bin .neq 83 true (.tmp 16) (.con .nilIface), none, []⟩])
 (.cond (.tmp 17)
 (.seq (.reg [⟨0, (some 18), .mv (.tmp 8), none, []⟩,
 ⟨1, (some 19), .mv (.tmp 0), none, []⟩,
 ⟨2, (some 20), .mv (.tmp 1), none, []⟩,
 ⟨3, (some 21), .mv (.tmp 2), none, []⟩,
 ⟨4, (some 22), .mv (.tmp 7), none, []⟩,
 ⟨5, (some 23), .call 143 [(.con (.string ⟨#[80, 97, 114, 115, 101, 73, 110, 116]⟩)), (.tmp 19), (.tmp 20), (.tmp 21), (.tmp 22)], none, []⟩,
 ⟨6, (some 6), .mv (.tmp 18), none, []⟩,
 ⟨7, (some 7), .mv (.tmp 23), none, []⟩])
 (.ret))
 (.skip)))
 (.seq (.reg [⟨0, (some 24), .mv (.tmp 8), none, []⟩,
 ⟨1, (some 6), .mv (.tmp 24), none, []⟩,
 ⟨2, (some 7), .mv (.con .nilIface), none, []⟩])
 (.ret)))),
 [.tmp 6, .tmp 7]⟩
theorem p_strconv_ParseInt : prepFun Go.Proofs.Tryz.prog [1, 0, 2, 3] Go.Proofs.Tryz.f134 = some v_strconv_ParseInt := by kernel_rfl

def v_internal_stringslite_IndexByte : VFun :=
⟨.seq (.reg [⟨0, (some 4), .mv (.con (.int .i64 0)), none, []⟩])
 (.seq (.reg [⟨0, (some 5), .mv (.tmp 0), none, []⟩,
 ⟨1, (some 6), .mv (.tmp 1), none, []⟩,
 ⟨2, (some 7), .call 144 [(.tmp 5), (.tmp 6)], none, []⟩,
 ⟨3, (some 4), .mv (.tmp 7), none, []⟩])
 (.ret)),
 [.tmp 4]⟩
theorem p_internal_stringslite_IndexByte : prepFun Go.Proofs.Tryz.prog [1, 0, 2, 3] Go.Proofs.Tryz.f136 = some v_internal_stringslite_IndexByte := by kernel_rfl

def v_internal_bytealg_Cutover : VFun :=
⟨.seq (.reg [⟨0, (some 2), .mv (.con (.int .i64 0)), none, []⟩])
 (.seq (.reg [⟨0, (some 3), .mv (.tmp 0), none, []⟩,
 ⟨1, (some 4), .bin .add 3 true (.tmp 3) (.con (.int .i64 16)), none, []⟩,
 ⟨2, (some 5), .bin .quo 3 true (.tmp 4) (.con (.int .i64 8)), none, []⟩,
 ⟨3, (some 2), .mv (.tmp 5), none, []⟩])
 (.ret)),
 [.tmp 2]⟩
theorem p_internal_bytealg_Cutover : prepFun Go.Proofs.Tryz.prog [1, 0, 2, 3] Go.Proofs.Tryz.f138 = some v_internal_bytealg_Cutover := by kernel_rfl

def v_internal_bytealg_IndexRabinKarp_string : VFun :=
⟨.seq (.reg [⟨0, (some 4), .mv (.con (.int .i64 0)), none, []⟩])
 (.seq (.reg [⟨0, (some 12), .mv (.tmp 1), none, []⟩,
 ⟨1, (some 13), .call 145 [(.tmp 12)], none, []⟩,
 ⟨2, (some 11), .mv (.tmp 13), none, []⟩,
 ⟨3, (some 14), .ext (.tmp 11) 0, none, []⟩,
 ⟨4, (some 15), .ext (.tmp 11) 1, none, []⟩,
 ⟨5, (some 5), .mv (.tmp 14), none, []⟩,
 ⟨6, (some 6), .mv (.tmp 15), none, []⟩])
 (.seq (.reg [⟨0, (some 16), .mv (.tmp 1), none, []⟩,
 ⟨1, (some 17), .bi .len [9] 3 [(.tmp 16)], none, []⟩,
 ⟨2, (some 7), .mv (.tmp 17), none, []⟩])
 (.seq (.reg [⟨0, (some 8), .mv (.con (.int .u32 0)), none, []⟩])
 (.seq (.seq (.reg [⟨0, (some 9), .mv (.con (.int .i64 0)), none, []⟩])
 (.block 0
 (.loop
 (.seq (.seq (.reg [⟨0, (some 18), .mv (.tmp 9), none, []⟩,
 ⟨1, (some 19), .mv (.tmp 7), none, []⟩,
 ⟨2, (some 20), .bin .lss 3 false (.tmp 18) (.tmp 19), none, []⟩])
 (.cond (.tmp 20)
 (.skip)
 (.exit 0)))
 (.seq (.block 1
 (.reg [⟨0, (some 23), .mv (.tmp 8), none, []⟩,
 ⟨1, (some 24), .bin .mul 180 true (.tmp 23) (.con (.int .u32 16777619)), none, []⟩,
 ⟨2, (some 25), .mv (.tmp 0), none, []⟩,
 ⟨3, (some 26), .mv (.tmp 9), none, []⟩,
 ⟨4, (some 27), .idxS 9 (.tmp 25) (.tmp 26), none, []⟩,
 ⟨5, (some 28), .conv 5 180 (.tmp 27), none, []⟩,
 ⟨6, (some 29), .bin .add 180 false (.tmp 24) (.tmp 28), none, []⟩,
 ⟨7, (some 8), .mv (.tmp 29), none, []⟩]))
 (.reg [⟨0, (some 21), .mv (.tmp 9), none, []⟩,
 ⟨1, (some 22), .bin .add 3 true (.tmp 21) (.con (.int .i64 1)), none, []⟩,
 ⟨2, (some 9), .mv (.tmp 22), none, []⟩]))))))
 (.seq (.seq (.reg [⟨0, (some 30), .mv (.tmp 8), none, []⟩,
 ⟨1, (some 31), .mv (.tmp 5), none, []⟩,
 ⟨2, (some 32), .bin .eql 180 false (.tmp 30) (.tmp 31), none, []⟩,
 ⟨3, (some 33), .mv (.tmp 32), none, []⟩,
 ⟨4, (some 34), .mv (.tmp 0), (some (33, true)), []⟩,
 ⟨5, (some 35), .mv (.tmp 7), (some (33, true)), []⟩,
 ⟨6, (some 36), .slS 9 (.tmp 34) none (some (.tmp 35)), (some (33, true)), []⟩,
 ⟨7, (some 37), .mv (.tmp 1), (some (33, true)), []⟩,
 ⟨8, (some 38), .bin .eql 9 false (.tmp 36) (.tmp 37), (some (33, true)), []⟩,
 ⟨9, (some 39), .pick (.tmp 33) (.tmp 38) (.con (.bool false)), none, []⟩])
 (.cond (.tmp 39)
 (.seq (.reg [⟨0, (some 4), .mv (.con (.int .i64 0)), none, []⟩])
 (.ret))
 (.skip)))
 (.seq (.seq (.reg [⟨0, (some 40), .mv (.tmp 7), none, []⟩,
 ⟨1, (some 10), .mv (.tmp 40), none, []⟩])
 (.block 2
 (.loop
 (.seq (.seq (.reg [⟨0, (some 41), .mv (.tmp 10), none, []⟩,
 ⟨1, (some 42), .mv (.tmp 0), none, []⟩,
 ⟨2, (some 43), .bi .len [9] 3 [(.tmp 42)], none, []⟩,
 ⟨3, (some 44), .bin .lss 3 false (.tmp 41) (.tmp 43), none, []⟩])
 (.cond (.tmp 44)
 (.skip)
 (.exit 2)))
 (.block 3
 (.seq (.reg [⟨0, (some 45), .mv (.tmp 8), none, []⟩,
 ⟨1, (some 46), .bin .mul 180 true (.tmp 45) (.con (.int .u32 16777619)), none, []⟩,
 ⟨2, (some 8), .mv (.tmp 46), none, []⟩])
 (.seq (.reg [⟨0, (some 47), .mv (.tmp 8), none, []⟩,
 ⟨1, (some 48), .mv (.tmp 0), none, []⟩,
 ⟨2, (some 49), .mv (.tmp 10), none, []⟩,
 ⟨3, (some 50), .idxS 9 (.tmp 48) (.tmp 49), none, []⟩,
 ⟨4, (some 51), .conv 5 180 (.tmp 50), none, []⟩,
 ⟨5, (some 52), .bin .add 180 false (.tmp 47) (.tmp 51), none, []⟩,
 ⟨6, (some 8), .mv (.tmp 52), none, []⟩])
 (.seq (.reg [⟨0, (some 53), .mv (.tmp 8), none, []⟩,
 ⟨1, (some 54), .mv (.tmp 6), none, []⟩,
 ⟨2, (some 55), .mv (.tmp 0), none, []⟩,
 ⟨3, (some 56), .mv (.tmp 10), none, []⟩,
 ⟨4, (some 57), .mv (.tmp 7), none, []⟩,
 ⟨5, (some 58), .bin .sub 3 false (.tmp 56) (.tmp 57), none, []⟩,
 ⟨6, (some 59), .idxS 9 (.tmp 55) (.tmp 58), none, []⟩,
 ⟨7, (some 60), .conv 5 180 (.tmp 59), none, []⟩,
 ⟨8, (some 61), .bin .mul 180 false (.tmp 54) (.tmp 60), none, []⟩,
 ⟨9, (some 62), .bin .sub 180 false (.tmp 53) (.tmp 61), none, []⟩,
 ⟨10, (some 8), .mv (.tmp 62), none, []⟩])
 (.seq (.reg [⟨0, (some 63), .mv (.tmp 10), none, []⟩,
 ⟨1, (some 64), .bin .add 3 true (.tmp 63) (.con (.int .i64 1)), none, []⟩,
 ⟨2, (some 10), .mv (.tmp 64), none, []⟩])
 (.seq (.reg [⟨0, (some 65), .mv (.tmp 8), none, []⟩,
 ⟨1, (some 66), .mv (.tmp 5), none, []⟩,
 ⟨2, (some 67), .bin .eql 180 false (.tmp 65) (.tmp 66), none, []⟩,
 ⟨3, (some 68), .mv (.tmp 67), none, []⟩,
 ⟨4, (some 69), .mv (.tmp 0), (some (68, true)), []⟩,
 ⟨5, (some 70), .mv (.tmp 10), (some (68, true)), []⟩,
 ⟨6, (some 71), .mv (.tmp 7), (some (68, true)), []⟩,
 ⟨7, (some 72), .bin .sub 3 false (.tmp 70) (.tmp 71), (some (68, true)), []⟩,
 ⟨8, (some 73), .mv (.tmp 10), (some (68, true)), []⟩,
 ⟨9, (some 74), .slS 9 (.tmp 69) (some (.tmp 72)) (some (.tmp 73)), (some (68, true)), []⟩,
 ⟨10, (some 75), .mv (.tmp 1), (some (68, true)), []⟩,
 ⟨11, (some 76), .bin .eql 9 false (.tmp 74) (.tmp 75), (some (68, true)), []⟩,
 ⟨12, (some 77), .pick (.tmp 68) (.tmp 76) (.con (.bool false)), none, []⟩])
 (.cond (.tmp 77)
 (.seq (.reg [⟨0, (some 78), .mv (.tmp 10), none, []⟩,
 ⟨1, (some 79), .mv (.tmp 7), none, []⟩,
 ⟨2, (some 80), .bin .sub 3 false (.tmp 78) (.tmp 79), none, []⟩,
 ⟨3, (some 4), .mv (.tmp 80), none, []⟩])
 (.ret))
 (.skip))))))))))))
 (.seq (.reg [⟨0, (some 4), .mv (.con (.int .i64 (-1))), none, []⟩])
 (.ret)))))))),
 [.tmp 4]⟩
theorem p_internal_bytealg_IndexRabinKarp_string : prepFun Go.Proofs.Tryz.prog [1, 0, 2, 3] Go.Proofs.Tryz.f139 = some v_internal_bytealg_IndexRabinKarp_string := by kernel_rfl

def v_internal_strconv_ParseInt : VFun :=
⟨.seq (.reg [⟨0, (some 6), .mv (.con (.int .i64 0)), none, []⟩,
 ⟨1, (some 7), .mv (.con .nilIface), none, []⟩])
 (.seq (.seq (.reg [⟨0, (some 12), .mv (.tmp 0), none, []⟩,
 ⟨1, (some 13), .bin .eql 9 true (.tmp 12) (.con (.string ⟨#[]⟩)), none, []⟩])
 (.cond (.tmp 13)
 (.seq (.reg [⟨0, (some 14), .mkif 196 (.con (.int .i64 2)), none, []⟩,
 ⟨1, (some 6), .mv (.con (.int .i64 0)), none, []⟩,
 ⟨2, (some 7), .mv (.tmp 14), none, []⟩])
 (.ret))
 (.skip)))
 (.seq (.reg [⟨0, (some 8), .mv (.con (.bool false)), none, []⟩])
 (.seq (.seq (.reg [⟨0, (some 15), .mv (.tmp 0), none, []⟩,
 ⟨1, (some 16), .idxS 9 (.tmp 15) (.con (.int .i64 0)), none, []⟩])
 (.block 0
 (.seq (.reg [⟨0, (some 18), .bin .eql 5 true (.tmp 16) (.con (.int .u8 43)), none, []⟩,
 ⟨1, (some 17), .mv (.tmp 18), none, []⟩])
 (.cond (.tmp 17)
 (.reg [⟨0, (some 19), .mv (.tmp 0), none, []⟩,
 ⟨1, (some 20), .slS 9 (.tmp 19) (some (.con (.int .i64 1))) none, none, []⟩,
 ⟨2, (some 0), .mv (.tmp 20), none, []⟩])
 (.seq (.reg [⟨0, (some 22), .bin .eql 5 true (.tmp 16) (.con (.int .u8 45)), none, []⟩,
 ⟨1, (some 21), .mv (.tmp 22), none, []⟩])
 (.cond (.tmp 21)
 (.seq (.reg [⟨0, (some 23), .mv (.tmp 0), none, []⟩,
 ⟨1, (some 24), .slS 9 (.tmp 23) (some (.con (.int .i64 1))) none, none, []⟩,
 ⟨2, (some 0), .mv (.tmp 24), none, []⟩])
 (.reg [⟨0, (some 8), .mv (.con (.bool true)), none, []⟩]))
 (.skip)))))))
 (.seq (.reg [⟨0, (some 9), .mv (.con (.int .u64 0)), none, []⟩])
 (.seq (.reg [⟨0, (some 26), .mv (.tmp 0), none, []⟩,
 ⟨1, (some 27), .mv (.tmp 1), none, []⟩,
 ⟨2, (some 28), .mv (.tmp 2), none, []⟩,
 ⟨3, (some 29), .call 146 [(.tmp 26), (.tmp 27), (.tmp 28)], none, []⟩,
 ⟨4, (some 25), .mv (.tmp 29), none, []⟩,
 ⟨5, (some 30), .ext (.tmp 25) 0, none, []⟩,
 ⟨6, (some 31), .ext (.tmp 25) 1, none, []⟩,
 ⟨7, (some 9), .mv (.tmp 30), none, []⟩,
 ⟨8, (some 7), .mv (.tmp 31), none, []⟩])
 (.seq (.seq (.reg [⟨0, (some 32), .mv (.tmp 7), none, []⟩,
 ⟨1, (some 33), .bin .neq 83 true (.tmp 32) (.con .nilIface), none, []⟩,
 ⟨2, (some 34), .mv (.tmp 33), none, []⟩,
 ⟨3, (some 35), .mv (.tmp 7), (some (34, true)), []⟩,
 ⟨4, (some 36), .mkif 196 (.con (.int .i64 1)), (some (34, true)), []⟩,
 ⟨5, (some 37), .bin .neq 83 false (.tmp 35) (.tmp 36), (some (34, true)), []⟩,
 ⟨6, (some 38), .pick (.tmp 34) (.tmp 37) (.con (.bool false)), none, []⟩])
 (.cond (.tmp 38)
 (.seq (.reg [⟨0, (some 39), .mv (.tmp 7), none, []⟩,
 ⟨1, (some 6), .mv (.con (.int .i64 0)), none, []⟩,
 ⟨2, (some 7), .mv (.tmp 39), none, []⟩])
 (.ret))
 (.skip)))
 (.seq (.seq (.reg [⟨0, (some 40), .mv (.tmp 2), none, []⟩,
 ⟨1, (some 41), .bin .eql 3 true (.tmp 40) (.con (.int .i64 0)), none, []⟩])
 (.cond (.tmp 41)
 (.reg [⟨0, (some 2), .mv (.con (.int .i64 64)), none, []⟩])
 (.skip)))
 (.seq (.reg [⟨0, (some 42), .mv (.tmp 2), none, []⟩,
 ⟨1, (some 43), .bin .sub 3 true (.tmp 42) (.con (.int .i64 1)), none, []⟩,
 ⟨2, (some 44), .conv 3 182 (.tmp 43), none, []⟩,
 ⟨3, (some 45), .bin .shl 160 true (.con (.int .u64 1)) (.tmp 44), none, []⟩,
 ⟨4, (some 10), .mv (.tmp 45), none, []⟩])
 (.seq (.seq (.reg [⟨0, (some 46), .mv (.tmp 8), none, []⟩,
 ⟨1, (some 47), .un .not (.tmp 46), none, []⟩,
 ⟨2, (some 48), .mv (.tmp 47), none, []⟩,
 ⟨3, (some 49), .mv (.tmp 9), (some (48, true)), []⟩,
 ⟨4, (some 50), .mv (.tmp 10), (some (48, true)), []⟩,
 ⟨5, (some 51), .bin .geq 160 false (.tmp 49) (.tmp 50), (some (48, true)), []⟩,
 ⟨6, (some 52), .pick (.tmp 48) (.tmp 51) (.con (.bool false)), none, []⟩])
 (.cond (.tmp 52)
 (.seq (.reg [⟨0, (some 53), .mv (.tmp 10), none, []⟩,
 ⟨1, (some 54), .bin .sub 160 true (.tmp 53) (.con (.int .u64 1)), none, []⟩,
 ⟨2, (some 55), .conv 160 2 (.tmp 54), none, []⟩,
 ⟨3, (some 56), .mkif 196 (.con (.int .i64 1)), none, []⟩,
 ⟨4, (some 6), .mv (.tmp 55), none, []⟩,
 ⟨5, (some 7), .mv (.tmp 56), none, []⟩])
 (.ret))
 (.skip)))
 (.seq (.seq (.reg [⟨0, (some 57), .mv (.tmp 8), none, []⟩,
 ⟨1, (some 58), .mv (.tmp 57), none, []⟩,
 ⟨2, (some 59), .mv (.tmp 9), (some (58, true)), []⟩,
 ⟨3, (some 60), .mv (.tmp 10), (some (58, true)), []⟩,
 ⟨4, (some 61), .bin .gtr 160 false (.tmp 59) (.tmp 60), (some (58, true)), []⟩,
 ⟨5, (some 62), .pick (.tmp 58) (.tmp 61) (.con (.bool false)), none, []⟩])
 (.cond (.tmp 62)
 (.seq (.reg [⟨0, (some 63), .mv (.tmp 10), none, []⟩,
 ⟨1, (some 64), .conv 160 2 (.tmp 63), none, []⟩,
 ⟨2, (some 65), .un .neg (.tmp 64), none, []⟩,
 ⟨3, (some 66), .mkif 196 (.con (.int .i64 1)), none, []⟩,
 ⟨4, (some 6), .mv (.tmp 65), none, []⟩,
 ⟨5, (some 7), .mv (.tmp 66), none, []⟩])
 (.ret))
 (.skip)))
 (.seq (.reg [⟨0, (some 67), .mv (.tmp 9), none, []⟩,
 ⟨1, (some 68), .conv 160 2 (.tmp 67), none, []⟩,
 ⟨2, (some 11), .mv (.tmp 68), none, []⟩])
 (.seq (.seq (.reg [⟨0, (some 69), .mv (.tmp 8), none, []⟩])
 (.cond (.tmp 69)
 (.reg [⟨0, (some 70), .mv (.tmp 11), none, []⟩,
 ⟨1, (some 71), .un .neg (.tmp 70), none, []⟩,
 ⟨2, (some 11), .mv (.tmp 71), none, []⟩])
 (.skip)))
 (.seq (.reg [⟨0, (some 72), .mv (.tmp 11), none, []⟩,
 ⟨1, (some 6), .mv (.tmp 72), none, []⟩,
 ⟨2, (some 7), .mv (.con .nilIface), none, []⟩])
 (.ret)))))))))))))),
 [.tmp 6, .tmp 7]⟩
theorem p_internal_strconv_ParseInt : prepFun Go.Proofs.Tryz.prog [1, 0, 2, 3] Go.Proofs.Tryz.f142 = some v_internal_strconv_ParseInt := by kernel_rfl

def v_strconv_toError : VFun :=
⟨.seq (.reg [⟨0, (some 10), .mv (.con .nilIface), none, []⟩])
 (.seq (.seq (.reg [⟨0, (some 11), .mv (.tmp 4), none, []⟩])
 (.block 0
 (.seq (.reg [⟨0, (some 13), .mkif 196 (.con (.int .i64 2)), none, []⟩,
 ⟨1, (some 14), .bin .eql 83 false (.tmp 11) (.tmp 13), none, []⟩,
 ⟨2, (some 12), .mv (.tmp 14), none, []⟩])
 (.cond (.tmp 12)
 (.seq (.reg [⟨0, (some 15), .mv (.tmp 0), none, []⟩,
 ⟨1, (some 16), .mv (.tmp 1), none, []⟩,
 ⟨2, (some 17), .call 147 [(.tmp 15), (.tmp 16)], none, []⟩,
 ⟨3, (some 18), .mkif 199 (.tmp 17), none, []⟩,
 ⟨4, (some 10), .mv (.tmp 18), none, []⟩])
 (.ret))
 (.seq (.reg [⟨0, (some 20), .mkif 196 (.con (.int .i64 1)), none, []⟩,
 ⟨1, (some 21), .bin .eql 83 false (.tmp 11) (.tmp 20), none, []⟩,
 ⟨2, (some 19), .mv (.tmp 21), none, []⟩])
 (.cond (.tmp 19)
 (.seq (.reg [⟨0, (some 22), .mv (.tmp 0), none, []⟩,
 ⟨1, (some 23), .mv (.tmp 1), none, []⟩,
 ⟨2, (some 24), .call 148 [(.tmp 22), (.tmp 23)], none, []⟩,
 ⟨3, (some 25), .mkif 199 (.tmp 24), none, []⟩,
 ⟨4, (some 10), .mv (.tmp 25), none, []⟩])
 (.ret))
 (.seq (.reg [⟨0, (some 27), .mkif 196 (.con (.int .i64 3)), none, []⟩,
 ⟨1, (some 28), .bin .eql 83 false (.tmp 11) (.tmp 27), none, []⟩,
 ⟨2, (some 26), .mv (.tmp 28), none, []⟩])
 (.cond (.tmp 26)
 (.seq (.reg [⟨0, (some 29), .mv (.tmp 0), none, []⟩,
 ⟨1, (some 30), .mv (.tmp 1), none, []⟩,
 ⟨2, (some 31), .mv (.tmp 2), none, []⟩,
 ⟨3, (some 32), .call 149 [(.tmp 29), (.tmp 30), (.tmp 31)], none, []⟩,
 ⟨4, (some 33), .mkif 199 (.tmp 32), none, []⟩,
 ⟨5, (some 10), .mv (.tmp 33), none, []⟩])
 (.ret))
 (.seq (.reg [⟨0, (some 35), .mkif 196 (.con (.int .i64 4)), none, []⟩,
 ⟨1, (some 36), .bin .eql 83 false (.tmp 11) (.tmp 35), none, []⟩,
 ⟨2, (some 34), .mv (.tmp 36), none, []⟩])
 (.cond (.tmp 34)
 (.seq (.reg [⟨0, (some 37), .mv (.tmp 0), none, []⟩,
 ⟨1, (some 38), .mv (.tmp 1), none, []⟩,
 ⟨2, (some 39), .mv (.tmp 3), none, []⟩,
 ⟨3, (some 40), .call 150 [(.tmp 37), (.tmp 38), (.tmp 39)], none, []⟩,
 ⟨4, (some 41), .mkif 199 (.tmp 40), none, []⟩,
 ⟨5, (some 10), .mv (.tmp 41), none, []⟩])
 (.ret))
 (.skip)))))))))))
 (.seq (.reg [⟨0, (some 42), .mv (.tmp 4), none, []⟩,
 ⟨1, (some 10), .mv (.tmp 42), none, []⟩])
 (.ret))),
 [.tmp 10]⟩
theorem p_strconv_toError : prepFun Go.Proofs.Tryz.prog [1, 0, 2, 3] Go.Proofs.Tryz.f143 = some v_strconv_toError := by kernel_rfl

def v_internal_bytealg_hashStr_string : VFun :=
⟨.seq (.reg [⟨0, (some 2), .mv (.con (.int .u32 0)), none, []⟩,
 ⟨1, (some 3), .mv (.con (.int .u32 0)), none, []⟩])
 (.seq (.reg [⟨0, (some 4), .mv (.con (.int .u32 0)), none, []⟩])
 (.seq (.seq (.reg [⟨0, (some 5), .mv (.con (.int .i64 0)), none, []⟩])
 (.block 0
 (.loop
 (.seq (.seq (.reg [⟨0, (some 9), .mv (.tmp 5), none, []⟩,
 ⟨1, (some 10), .mv (.tmp 0), none, []⟩,
 ⟨2, (some 11), .bi .len [9] 3 [(.tmp 10)], none, []⟩,
 ⟨3, (some 12), .bin .lss 3 false (.tmp 9) (.tmp 11), none, []⟩])
 (.cond (.tmp 12)
 (.skip)
 (.exit 0)))
 (.seq (.block 1
 (.reg [⟨0, (some 15), .mv (.tmp 4), none, []⟩,
 ⟨1, (some 16), .bin .mul 180 true (.tmp 15) (.con (.int .u32 16777619)), none, []⟩,
 ⟨2, (some 17), .mv (.tmp 0), none, []⟩,
 ⟨3, (some 18), .mv (.tmp 5), none, []⟩,
 ⟨4, (some 19), .idxS 9 (.tmp 17) (.tmp 18), none, []⟩,
 ⟨5, (some 20), .conv 5 180 (.tmp 19), none, []⟩,
 ⟨6, (some 21), .bin .add 180 false (.tmp 16) (.tmp 20), none, []⟩,
 ⟨7, (some 4), .mv (.tmp 21), none, []⟩]))
 (.reg [⟨0, (some 13), .mv (.tmp 5), none, []⟩,
 ⟨1, (some 14), .bin .add 3 true (.tmp 13) (.con (.int .i64 1)), none, []⟩,
 ⟨2, (some 5), .mv (.tmp 14), none, []⟩]))))))
 (.seq (.reg [⟨0, (some 6), .mv (.con (.int .u32 1)), none, []⟩,
 ⟨1, (some 7), .mv (.con (.int .u32 16777619)), none, []⟩])
 (.seq (.seq (.reg [⟨0, (some 22), .mv (.tmp 0), none, []⟩,
 ⟨1, (some 23), .bi .len [9] 3 [(.tmp 22)], none, []⟩,
 ⟨2, (some 8), .mv (.tmp 23), none, []⟩])
 (.block 2
 (.loop
 (.seq (.seq (.reg [⟨0, (some 24), .mv (.tmp 8), none, []⟩,
 ⟨1, (some 25), .bin .gtr 3 true (.tmp 24) (.con (.int .i64 0)), none, []⟩])
 (.cond (.tmp 25)
 (.skip)
 (.exit 2)))
 (.seq (.block 3
 (.seq (.seq (.reg [⟨0, (some 28), .mv (.tmp 8), none, []⟩,
 ⟨1, (some 29), .bin .and 3 true (.tmp 28) (.con (.int .i64 1)), none, []⟩,
 ⟨2, (some 30), .bin .neq 3 true (.tmp 29) (.con (.int .i64 0)), none, []⟩])
 (.cond (.tmp 30)
 (.reg [⟨0, (some 31), .mv (.tmp 6), none, []⟩,
 ⟨1, (some 32), .mv (.tmp 7), none, []⟩,
 ⟨2, (some 33), .bin .mul 180 false (.tmp 31) (.tmp 32), none, []⟩,
 ⟨3, (some 6), .mv (.tmp 33), none, []⟩])
 (.skip)))
 (.reg [⟨0, (some 34), .mv (.tmp 7), none, []⟩,
 ⟨1, (some 35), .mv (.tmp 7), none, []⟩,
 ⟨2, (some 36), .bin .mul 180 false (.tmp 34) (.tmp 35), none, []⟩,
 ⟨3, (some 7), .mv (.tmp 36), none, []⟩])))
 (.reg [⟨0, (some 26), .mv (.tmp 8), none, []⟩,
 ⟨1, (some 27), .bin .shr 3 true (.tmp 26) (.con (.int .u64 1)), none, []⟩,
 ⟨2, (some 8), .mv (.tmp 27), none, []⟩]))))))
 (.seq (.reg [⟨0, (some 37), .mv (.tmp 4), none, []⟩,
 ⟨1, (some 38), .mv (.tmp 6), none, []⟩,
 ⟨2, (some 2), .mv (.tmp 37), none, []⟩,
 ⟨3, (some 3), .mv (.tmp 38), none, []⟩])
 (.ret)))))),
 [.tmp 2, .tmp 3]⟩
theorem p_internal_bytealg_hashStr_string : prepFun Go.Proofs.Tryz.prog [1, 0, 2, 3] Go.Proofs.Tryz.f145 = some v_internal_bytealg_hashStr_string := by kernel_rfl

def v_internal_strconv_ParseUint : VFun :=
⟨.seq (.reg [⟨0, (some 6), .mv (.con (.int .u64 0)), none, []⟩,
 ⟨1, (some 7), .mv (.con .nilIface), none, []⟩])
 (.seq (.seq (.reg [⟨0, (some 18), .mv (.tmp 0), none, []⟩,
 ⟨1, (some 19), .bin .eql 9 true (.tmp 18) (.con (.string ⟨#[]⟩)), none, []⟩])
 (.cond (.tmp 19)
 (.seq (.reg [⟨0, (some 20), .mkif 196 (.con (.int .i64 2)), none, []⟩,
 ⟨1, (some 6), .mv (.con (.int .u64 0)), none, []⟩,
 ⟨2, (some 7), .mv (.tmp 20), none, []⟩])
 (.ret))
 (.skip)))
 (.seq (.reg [⟨0, (some 21), .mv (.tmp 1), none, []⟩,
 ⟨1, (some 22), .bin .eql 3 true (.tmp 21) (.con (.int .i64 0)), none, []⟩,
 ⟨2, (some 8), .mv (.tmp 22), none, []⟩])
 (.seq (.reg [⟨0, (some 23), .mv (.tmp 0), none, []⟩,
 ⟨1, (some 9), .mv (.tmp 23), none, []⟩])
 (.seq (.block 0
 (.seq (.reg [⟨0, (some 26), .mv (.tmp 1), none, []⟩,
 ⟨1, (some 27), .bin .leq 3 true (.con (.int .i64 2)) (.tmp 26), none, []⟩,
 ⟨2, (some 28), .mv (.tmp 27), none, []⟩,
 ⟨3, (some 29), .mv (.tmp 1), (some (28, true)), []⟩,
 ⟨4, (some 30), .bin .leq 3 true (.tmp 29) (.con (.int .i64 36)), (some (28, true)), []⟩,
 ⟨5, (some 31), .pick (.tmp 28) (.tmp 30) (.con (.bool false)), none, []⟩,
 ⟨6, (some 25), .mv (.tmp 31), none, []⟩])
 (.cond (.tmp 25)
 (.skip)
 (.seq (.reg [⟨0, (some 33), .mv (.tmp 1), none, []⟩,
 ⟨1, (some 34), .bin .eql 3 true (.tmp 33) (.con (.int .i64 0)), none, []⟩,
 ⟨2, (some 32), .mv (.tmp 34), none, []⟩])
 (.cond (.tmp 32)
 (.seq (.reg [⟨0, (some 1), .mv (.con (.int .i64 10)), none, []⟩])
 (.seq (.reg [⟨0, (some 35), .mv (.tmp 0), none, []⟩,
 ⟨1, (some 36), .idxS 9 (.tmp 35) (.con (.int .i64 0)), none, []⟩,
 ⟨2, (some 37), .bin .eql 5 true (.tmp 36) (.con (.int .u8 48)), none, []⟩])
 (.cond (.tmp 37)
 (.block 1
 (.seq (.reg [⟨0, (some 41), .mv (.tmp 0), none, []⟩,
 ⟨1, (some 42), .bi .len [9] 3 [(.tmp 41)], none, []⟩,
 ⟨2, (some 43), .bin .geq 3 true (.tmp 42) (.con (.int .i64 3)), none, []⟩,
 ⟨3, (some 44), .mv (.tmp 43), none, []⟩,
 ⟨4, (some 45), .mv (.tmp 0), (some (44, true)), []⟩,
 ⟨5, (some 46), .idxS 9 (.tmp 45) (.con (.int .i64 1)), (some (44, true)), []⟩,
 ⟨6, (some 47), .call 151 [(.tmp 46)], (some (44, true)), []⟩,
 ⟨7, (some 48), .bin .eql 5 true (.tmp 47) (.con (.int .u8 98)), (some (44, true)), []⟩,
 ⟨8, (some 49), .pick (.tmp 44) (.tmp 48) (.con (.bool false)), none, []⟩,
 ⟨9, (some 40), .mv (.tmp 49), none, []⟩])
 (.cond (.tmp 40)
 (.seq (.reg [⟨0, (some 1), .mv (.con (.int .i64 2)), none, []⟩])
 (.reg [⟨0, (some 50), .mv (.tmp 0), none, []⟩,
 ⟨1, (some 51), .slS 9 (.tmp 50) (some (.con (.int .i64 2))) none, none, []⟩,
 ⟨2, (some 0), .mv (.tmp 51), none, []⟩]))
 (.seq (.reg [⟨0, (some 53), .mv (.tmp 0), none, []⟩,
 ⟨1, (some 54), .bi .len [9] 3 [(.tmp 53)], none, []⟩,
 ⟨2, (some 55), .bin .geq 3 true (.tmp 54) (.con (.int .i64 3)), none, []⟩,
 ⟨3, (some 56), .mv (.tmp 55), none, []⟩,
 ⟨4, (some 57), .mv (.tmp 0), (some (56, true)), []⟩,
 ⟨5, (some 58), .idxS 9 (.tmp 57) (.con (.int .i64 1)), (some (56, true)), []⟩,
 ⟨6, (some 59), .call 151 [(.tmp 58)], (some (56, true)), []⟩,
 ⟨7, (some 60), .bin .eql 5 true (.tmp 59) (.con (.int .u8 111)), (some (56, true)), []⟩,
 ⟨8, (some 61), .pick (.tmp 56) (.tmp 60) (.con (.bool false)), none, []⟩,
 ⟨9, (some 52), .mv (.tmp 61), none, []⟩])
 (.cond (.tmp 52)
 (.seq (.reg [⟨0, (some 1), .mv (.con (.int .i64 8)), none, []⟩])
 (.reg [⟨0, (some 62), .mv (.tmp 0), none, []⟩,
 ⟨1, (some 63), .slS 9 (.tmp 62) (some (.con (.int .i64 2))) none, none, []⟩,
 ⟨2, (some 0), .mv (.tmp 63), none, []⟩]))
 (.seq (.reg [⟨0, (some 65), .mv (.tmp 0), none, []⟩,
 ⟨1, (some 66), .bi .len [9] 3 [(.tmp 65)], none, []⟩,
 ⟨2, (some 67), .bin .geq 3 true (.tmp 66) (.con (.int .i64 3)), none, []⟩,
 ⟨3, (some 68), .mv (.tmp 67), none, []⟩,
 ⟨4, (some 69), .mv (.tmp 0), (some (68, true)), []⟩,
 ⟨5, (some 70), .idxS 9 (.tmp 69) (.con (.int .i64 1)), (some (68, true)), []⟩,
 ⟨6, (some 71), .call 151 [(.tmp 70)], (some (68, true)), []⟩,
 ⟨7, (some 72), .bin .eql 5 true (.tmp 71) (.con (.int .u8 120)), (some (68, true)), []⟩,
 ⟨8, (some 73), .pick (.tmp 68) (.tmp 72) (.con (.bool false)), none, []⟩,
 ⟨9, (some 64), .mv (.tmp 73), none, []⟩])
 (.cond (.tmp 64)
 (.seq (.reg [⟨0, (some 1), .mv (.con (.int .i64 16)), none, []⟩])
 (.reg [⟨0, (some 74), .mv (.tmp 0), none, []⟩,
 ⟨1, (some 75), .slS 9 (.tmp 74) (some (.con (.int .i64 2))) none, none, []⟩,
 ⟨2, (some 0), .mv (.tmp 75), none, []⟩]))
 (.seq (.reg [⟨0, (some 1), .mv (.con (.int .i64 8)), none, []⟩])
 (.reg [⟨0, (some 38), .mv (.tmp 0), none, []⟩,
 ⟨1, (some 39), .slS 9 (.tmp 38) (some (.con (.int .i64 1))) none, none, []⟩,
 ⟨2, (some 0), .mv (.tmp 39), none, []⟩])))))))))
 (.skip))))
 (.seq (.reg [⟨0, (some 24), .mkif 196 (.con (.int .i64 3)), none, []⟩,
 ⟨1, (some 6), .mv (.con (.int .u64 0)), none, []⟩,
 ⟨2, (some 7), .mv (.tmp 24), none, []⟩])
 (.ret)))))))
 (.seq (.seq (.reg [⟨0, (some 76), .mv (.tmp 2), none, []⟩,
 ⟨1, (some 77), .bin .eql 3 true (.tmp 76) (.con (.int .i64 0)), none, []⟩])
 (.cond (.tmp 77)
 (.reg [⟨0, (some 2), .mv (.con (.int .i64 64)), none, []⟩])
 (.seq (.reg [⟨0, (some 78), .mv (.tmp 2), none, []⟩,
 ⟨1, (some 79), .bin .lss 3 true (.tmp 78) (.con (.int .i64 0)), none, []⟩,
 ⟨2, (some 80), .mv (.tmp 79), none, []⟩,
 ⟨3, (some 81), .mv (.tmp 2), (some (80, false)), []⟩,
 ⟨4, (some 82), .bin .gtr 3 true (.tmp 81) (.con (.int .i64 64)), (some (80, false)), []⟩,
 ⟨5, (some 83), .pick (.tmp 80) (.con (.bool true)) (.tmp 82), none, []⟩])
 (.cond (.tmp 83)
 (.seq (.reg [⟨0, (some 84), .mkif 196 (.con (.int .i64 4)), none, []⟩,
 ⟨1, (some 6), .mv (.con (.int .u64 0)), none, []⟩,
 ⟨2, (some 7), .mv (.tmp 84), none, []⟩])
 (.ret))
 (.skip)))))
 (.seq (.reg [⟨0, (some 10), .mv (.con (.int .u64 0)), none, []⟩])
 (.seq (.seq (.reg [⟨0, (some 85), .mv (.tmp 1), none, []⟩])
 (.block 2
 (.seq (.reg [⟨0, (some 91), .bin .eql 3 true (.tmp 85) (.con (.int .i64 10)), none, []⟩,
 ⟨1, (some 90), .mv (.tmp 91), none, []⟩])
 (.cond (.tmp 90)
 (.reg [⟨0, (some 10), .mv (.con (.int .u64 1844674407370955162)), none, []⟩])
 (.seq (.reg [⟨0, (some 93), .bin .eql 3 true (.tmp 85) (.con (.int .i64 16)), none, []⟩,
 ⟨1, (some 92), .mv (.tmp 93), none, []⟩])
 (.cond (.tmp 92)
 (.reg [⟨0, (some 10), .mv (.con (.int .u64 1152921504606846976)), none, []⟩])
 (.reg [⟨0, (some 86), .mv (.tmp 1), none, []⟩,
 ⟨1, (some 87), .conv 3 160 (.tmp 86), none, []⟩,
 ⟨2, (some 88), .bin .quo 160 true (.con (.int .u64 18446744073709551615)) (.tmp 87), none, []⟩,
 ⟨3, (some 89), .bin .add 160 true (.tmp 88) (.con (.int .u64 1)), none, []⟩,
 ⟨4, (some 10), .mv (.tmp 89), none, []⟩])))))))
 (.seq (.reg [⟨0, (some 94), .mv (.tmp 2), none, []⟩,
 ⟨1, (some 95), .conv 3 182 (.tmp 94), none, []⟩,
 ⟨2, (some 96), .bin .shl 160 true (.con (.int .u64 1)) (.tmp 95), none, []⟩,
 ⟨3, (some 97), .bin .sub 160 true (.tmp 96) (.con (.int .u64 1)), none, []⟩,
 ⟨4, (some 11), .mv (.tmp 97), none, []⟩])
 (.seq (.reg [⟨0, (some 12), .mv (.con (.bool false)), none, []⟩])
 (.seq (.reg [⟨0, (some 13), .mv (.con (.int .u64 0)), none, []⟩])
 (.seq (.seq (.reg [⟨0, (some 98), .mv (.tmp 0), none, []⟩,
 ⟨1, (some 99), .s2b (.tmp 98), none, []⟩,
 ⟨2, (some 100), .len (.tmp 99), none, []⟩,
 ⟨3, (some 101), .mv (.con (.int .i64 0)), none, []⟩])
 (.block 3
 (.loop
 (.seq (.reg [⟨0, (some 102), .bin .lss 3 false (.tmp 101) (.tmp 100), none, []⟩])
 (.seq (.cond (.tmp 102)
 (.skip)
 (.exit 3))
 (.seq (.block 4
 (.seq (.reg [⟨0, (some 103), .idxA none 1 (.tmp 99) (.tmp 101), none, []⟩,
 ⟨1, (some 104), .load none (.tmp 103), none, []⟩,
 ⟨2, (some 15), .mv (.tmp 104), none, []⟩])
 (.seq (.reg [⟨0, (some 16), .mv (.con (.int .u8 0)), none, []⟩])
 (.seq (.block 5
 (.seq (.reg [⟨0, (some 107), .mv (.tmp 15), none, []⟩,
 ⟨1, (some 108), .bin .eql 5 true (.tmp 107) (.con (.int .u8 95)), none, []⟩,
 ⟨2, (some 109), .mv (.tmp 108), none, []⟩,
 ⟨3, (some 110), .mv (.tmp 8), (some (109, true)), []⟩,
 ⟨4, (some 111), .pick (.tmp 109) (.tmp 110) (.con (.bool false)), none, []⟩,
 ⟨5, (some 106), .mv (.tmp 111), none, []⟩])
 (.cond (.tmp 106)
 (.seq (.reg [⟨0, (some 12), .mv (.con (.bool true)), none, []⟩])
 (.exit 4))
 (.seq (.reg [⟨0, (some 113), .mv (.tmp 15), none, []⟩,
 ⟨1, (some 114), .bin .leq 5 true (.con (.int .u8 48)) (.tmp 113), none, []⟩,
 ⟨2, (some 115), .mv (.tmp 114), none, []⟩,
 ⟨3, (some 116), .mv (.tmp 15), (some (115, true)), []⟩,
 ⟨4, (some 117), .bin .leq 5 true (.tmp 116) (.con (.int .u8 57)), (some (115, true)), []⟩,
 ⟨5, (some 118), .pick (.tmp 115) (.tmp 117) (.con (.bool false)), none, []⟩,
 ⟨6, (some 112), .mv (.tmp 118), none, []⟩])
 (.cond (.tmp 112)
 (.reg [⟨0, (some 119), .mv (.tmp 15), none, []⟩,
 ⟨1, (some 120), .bin .sub 5 true (.tmp 119) (.con (.int .u8 48)), none, []⟩,
 ⟨2, (some 16), .mv (.tmp 120), none, []⟩])
 (.seq (.reg [⟨0, (some 122), .mv (.tmp 15), none, []⟩,
 ⟨1, (some 123), .call 151 [(.tmp 122)], none, []⟩,
 ⟨2, (some 124), .bin .leq 5 true (.con (.int .u8 97)) (.tmp 123), none, []⟩,
 ⟨3, (some 125), .mv (.tmp 124), none, []⟩,
 ⟨4, (some 126), .mv (.tmp 15), (some (125, true)), []⟩,
 ⟨5, (some 127), .call 151 [(.tmp 126)], (some (125, true)), []⟩,
 ⟨6, (some 128), .bin .leq 5 true (.tmp 127) (.con (.int .u8 122)), (some (125, true)), []⟩,
 ⟨7, (some 129), .pick (.tmp 125) (.tmp 128) (.con (.bool false)), none, []⟩,
 ⟨8, (some 121), .mv (.tmp 129), none, []⟩])
 (.cond (.tmp 121)
 (.reg [⟨0, (some 130), .mv (.tmp 15), none, []⟩,
 ⟨1, (some 131), .call 151 [(.tmp 130)], none, []⟩,
 ⟨2, (some 132), .bin .sub 5 true (.tmp 131) (.con (.int .u8 97)), none, []⟩,
 ⟨3, (some 133), .bin .add 5 true (.tmp 132) (.con (.int .u8 10)), none, []⟩,
 ⟨4, (some 16), .mv (.tmp 133), none, []⟩])
 (.seq (.reg [⟨0, (some 105), .mkif 196 (.con (.int .i64 2)), none, []⟩,
 ⟨1, (some 6), .mv (.con (.int .u64 0)), none, []⟩,
 ⟨2, (some 7), .mv (.tmp 105), none, []⟩])
 (.ret)))))))))
 (.seq (.seq (.reg [⟨0, (some 134), .mv (.tmp 16), none, []⟩,
 ⟨1, (some 135), .mv (.tmp 1), none, []⟩,
 ⟨2, (some 136), .conv 3 5 (.tmp 135), none, []⟩,
 ⟨3, (some 137), .bin .geq 5 false (.tmp 134) (.tmp 136), none, []⟩])
 (.cond (.tmp 137)
 (.seq (.reg [⟨0, (some 138), .mkif 196 (.con (.int .i64 2)), none, []⟩,
 ⟨1, (some 6), .mv (.con (.int .u64 0)), none, []⟩,
 ⟨2, (some 7), .mv (.tmp 138), none, []⟩])
 (.ret))
 (.skip)))
 (.seq (.seq (.reg [⟨0, (some 139), .mv (.tmp 13), none, []⟩,
 ⟨1, (some 140), .mv (.tmp 10), none, []⟩,
 ⟨2, (some 141), .bin .geq 160 false (.tmp 139) (.tmp 140), none, []⟩])
 (.cond (.tmp 141)
 (.seq (.reg [⟨0, (some 142), .mv (.tmp 11), none, []⟩,
 ⟨1, (some 143), .mkif 196 (.con (.int .i64 1)), none, []⟩,
 ⟨2, (some 6), .mv (.tmp 142), none, []⟩,
 ⟨3, (some 7), .mv (.tmp 143), none, []⟩])
 (.ret))
 (.skip)))
 (.seq (.reg [⟨0, (some 144), .mv (.tmp 13), none, []⟩,
 ⟨1, (some 145), .mv (.tmp 1), none, []⟩,
 ⟨2, (some 146), .conv 3 160 (.tmp 145), none, []⟩,
 ⟨3, (some 147), .bin .mul 160 false (.tmp 144) (.tmp 146), none, []⟩,
 ⟨4, (some 13), .mv (.tmp 147), none, []⟩])
 (.seq (.reg [⟨0, (some 148), .mv (.tmp 13), none, []⟩,
 ⟨1, (some 149), .mv (.tmp 16), none, []⟩,
 ⟨2, (some 150), .conv 5 160 (.tmp 149), none, []⟩,
 ⟨3, (some 151), .bin .add 160 false (.tmp 148) (.tmp 150), none, []⟩,
 ⟨4, (some 17), .mv (.tmp 151), none, []⟩])
 (.seq (.seq (.reg [⟨0, (some 152), .mv (.tmp 17), none, []⟩,
 ⟨1, (some 153), .mv (.tmp 13), none, []⟩,
 ⟨2, (some 154), .bin .lss 160 false (.tmp 152) (.tmp 153), none, []⟩,
 ⟨3, (some 155), .mv (.tmp 154), none, []⟩,
 ⟨4, (some 156), .mv (.tmp 17), (some (155, false)), []⟩,
 ⟨5, (some 157), .mv (.tmp 11), (some (155, false)), []⟩,
 ⟨6, (some 158), .bin .gtr 160 false (.tmp 156) (.tmp 157), (some (155, false)), []⟩,
 ⟨7, (some 159), .pick (.tmp 155) (.con (.bool true)) (.tmp 158), none, []⟩])
 (.cond (.tmp 159)
 (.seq (.reg [⟨0, (some 160), .mv (.tmp 11), none, []⟩,
 ⟨1, (some 161), .mkif 196 (.con (.int .i64 1)), none, []⟩,
 ⟨2, (some 6), .mv (.tmp 160), none, []⟩,
 ⟨3, (some 7), .mv (.tmp 161), none, []⟩])
 (.ret))
 (.skip)))
 (.reg [⟨0, (some 162), .mv (.tmp 17), none, []⟩,
 ⟨1, (some 13), .mv (.tmp 162), none, []⟩]))))))))))
 (.reg [⟨0, (some 163), .bin .add 3 true (.tmp 101) (.con (.int .i64 1)), none, []⟩,
 ⟨1, (some 101), .mv (.tmp 163), none, []⟩])))))))
 (.seq (.seq (.reg [⟨0, (some 164), .mv (.tmp 12), none, []⟩,
 ⟨1, (some 165), .mv (.tmp 164), none, []⟩,
 ⟨2, (some 166), .mv (.tmp 9), (some (165, true)), []⟩,
 ⟨3, (some 167), .call 152 [(.tmp 166)], (some (165, true)), []⟩,
 ⟨4, (some 168), .un .not (.tmp 167), (some (165, true)), []⟩,
 ⟨5, (some 169), .pick (.tmp 165) (.tmp 168) (.con (.bool false)), none, []⟩])
 (.cond (.tmp 169)
 (.seq (.reg [⟨0, (some 170), .mkif 196 (.con (.int .i64 2)), none, []⟩,
 ⟨1, (some 6), .mv (.con (.int .u64 0)), none, []⟩,
 ⟨2, (some 7), .mv (.tmp 170), none, []⟩])
 (.ret))
 (.skip)))
 (.seq (.reg [⟨0, (some 171), .mv (.tmp 13), none, []⟩,
 ⟨1, (some 6), .mv (.tmp 171), none, []⟩,
 ⟨2, (some 7), .mv (.con .nilIface), none, []⟩])
 (.ret)))))))))))))),
 [.tmp 6, .tmp 7]⟩
theorem p_internal_strconv_ParseUint : prepFun Go.Proofs.Tryz.prog [1, 0, 2, 3] Go.Proofs.Tryz.f146 = some v_internal_strconv_ParseUint := by kernel_rfl

end Go.VX.Seat
end
section
set_option maxRecDepth 20000
/-! MADE BY PROGRAM (lits.py): functions as they are prepared. -/
namespace Go.VX.Seat
def v_strconv_baseError : VFun :=
⟨.seq (.reg [⟨0, (some 6), .mv (.con (.pointer none)), none, []⟩])
 (.seq (.reg [⟨0, (some 7), .mv (.tmp 0), none, []⟩,
 ⟨1, (some 8), .mv (.tmp 1), none, []⟩,
 ⟨2, (some 9), .call 153 [(.tmp 8)], none, []⟩,
 ⟨3, (some 10), .mv (.tmp 2), none, []⟩,
 ⟨4, (some 11), .call 40 [(.tmp 10)], none, []⟩,
 ⟨5, (some 12), .bin .add 9 true (.con (.string ⟨#[105, 110, 118, 97, 108, 105, 100, 32, 98, 97, 115, 101, 32]⟩)) (.tmp 11), none, []⟩,
 ⟨6, (some 13), .call 154 [(.tmp 12)], none, []⟩,
 ⟨7, (some 14), .build [(.string ⟨#[]⟩), (.string ⟨#[]⟩), .nilIface] [(0, 1, (.tmp 7)), (1, 1, (.tmp 9)), (2, 1, (.tmp 13))], none, []⟩,
 ⟨8, (some 15), .box (.tmp 14), none, []⟩,
 ⟨9, (some 6), .mv (.tmp 15), none, []⟩])
 (.ret)),
 [.tmp 6]⟩
theorem p_strconv_baseError : prepFun Go.Proofs.Tryz.prog [1, 0, 2, 3] Go.Proofs.Tryz.f149 = some v_strconv_baseError := by kernel_rfl

def v_strconv_bitSizeError : VFun :=
⟨.seq (.reg [⟨0, (some 6), .mv (.con (.pointer none)), none, []⟩])
 (.seq (.reg [⟨0, (some 7), .mv (.tmp 0), none, []⟩,
 ⟨1, (some 8), .mv (.tmp 1), none, []⟩,
 ⟨2, (some 9), .call 153 [(.tmp 8)], none, []⟩,
 ⟨3, (some 10), .mv (.tmp 2), none, []⟩,
 ⟨4, (some 11), .call 40 [(.tmp 10)], none, []⟩,
 ⟨5, (some 12), .bin .add 9 true (.con (.string ⟨#[105, 110, 118, 97, 108, 105, 100, 32, 98, 105, 116, 32, 115, 105, 122, 101, 32]⟩)) (.tmp 11), none, []⟩,
 ⟨6, (some 13), .call 154 [(.tmp 12)], none, []⟩,
 ⟨7, (some 14), .build [(.string ⟨#[]⟩), (.string ⟨#[]⟩), .nilIface] [(0, 1, (.tmp 7)), (1, 1, (.tmp 9)), (2, 1, (.tmp 13))], none, []⟩,
 ⟨8, (some 15), .box (.tmp 14), none, []⟩,
 ⟨9, (some 6), .mv (.tmp 15), none, []⟩])
 (.ret)),
 [.tmp 6]⟩
theorem p_strconv_bitSizeError : prepFun Go.Proofs.Tryz.prog [1, 0, 2, 3] Go.Proofs.Tryz.f150 = some v_strconv_bitSizeError := by kernel_rfl

def v_internal_strconv_lower : VFun :=
⟨.seq (.reg [⟨0, (some 2), .mv (.con (.int .u8 0)), none, []⟩])
 (.seq (.reg [⟨0, (some 3), .mv (.tmp 0), none, []⟩,
 ⟨1, (some 4), .bin .or 5 true (.tmp 3) (.con (.int .u8 32)), none, []⟩,
 ⟨2, (some 2), .mv (.tmp 4), none, []⟩])
 (.ret)),
 [.tmp 2]⟩
theorem p_internal_strconv_lower : prepFun Go.Proofs.Tryz.prog [1, 0, 2, 3] Go.Proofs.Tryz.f151 = some v_internal_strconv_lower := by kernel_rfl

def v_internal_strconv_underscoreOK : VFun :=
⟨.seq (.reg [⟨0, (some 2), .mv (.con (.bool false)), none, []⟩])
 (.seq (.reg [⟨0, (some 3), .mv (.con (.int .i32 94)), none, []⟩])
 (.seq (.reg [⟨0, (some 4), .mv (.con (.int .i64 0)), none, []⟩])
 (.seq (.seq (.reg [⟨0, (some 6), .mv (.tmp 0), none, []⟩,
 ⟨1, (some 7), .bi .len [9] 3 [(.tmp 6)], none, []⟩,
 ⟨2, (some 8), .bin .geq 3 true (.tmp 7) (.con (.int .i64 1)), none, []⟩,
 ⟨3, (some 9), .mv (.tmp 8), none, []⟩,
 ⟨4, (some 10), .mv (.tmp 0), (some (9, true)), []⟩,
 ⟨5, (some 11), .idxS 9 (.tmp 10) (.con (.int .i64 0)), (some (9, true)), []⟩,
 ⟨6, (some 12), .bin .eql 5 true (.tmp 11) (.con (.int .u8 45)), (some (9, true)), []⟩,
 ⟨7, (some 13), .mv (.tmp 12), (some (9, true)), []⟩,
 ⟨8, (some 14), .mv (.tmp 0), (some (13, false)), []⟩,
 ⟨9, (some 15), .idxS 9 (.tmp 14) (.con (.int .i64 0)), (some (13, false)), []⟩,
 ⟨10, (some 16), .bin .eql 5 true (.tmp 15) (.con (.int .u8 43)), (some (13, false)), []⟩,
 ⟨11, (some 17), .pick (.tmp 13) (.con (.bool true)) (.tmp 16), (some (9, true)), []⟩,
 ⟨12, (some 18), .pick (.tmp 9) (.tmp 17) (.con (.bool false)), none, []⟩])
 (.cond (.tmp 18)
 (.reg [⟨0, (some 19), .mv (.tmp 0), none, []⟩,
 ⟨1, (some 20), .slS 9 (.tmp 19) (some (.con (.int .i64 1))) none, none, []⟩,
 ⟨2, (some 0), .mv (.tmp 20), none, []⟩])
 (.skip)))
 (.seq (.reg [⟨0, (some 5), .mv (.con (.bool false)), none, []⟩])
 (.seq (.seq (.reg [⟨0, (some 21), .mv (.tmp 0), none, []⟩,
 ⟨1, (some 22), .bi .len [9] 3 [(.tmp 21)], none, []⟩,
 ⟨2, (some 23), .bin .geq 3 true (.tmp 22) (.con (.int .i64 2)), none, []⟩,
 ⟨3, (some 24), .mv (.tmp 23), none, []⟩,
 ⟨4, (some 25), .mv (.tmp 0), (some (24, true)), []⟩,
 ⟨5, (some 26), .idxS 9 (.tmp 25) (.con (.int .i64 0)), (some (24, true)), []⟩,
 ⟨6, (some 27), .bin .eql 5 true (.tmp 26) (.con (.int .u8 48)), (some (24, true)), []⟩,
 ⟨7, (some 28), .pick (.tmp 24) (.tmp 27) (.con (.bool false)), none, []⟩,
 ⟨8, (some 29), .mv (.tmp 28), none, []⟩,
 ⟨9, (some 30), .mv (.tmp 0), (some (29, true)), []⟩,
 ⟨10, (some 31), .idxS 9 (.tmp 30) (.con (.int .i64 1)), (some (29, true)), []⟩,
 ⟨11, (some 32), .call 151 [(.tmp 31)], (some (29, true)), []⟩,
 ⟨12, (some 33), .bin .eql 5 true (.tmp 32) (.con (.int .u8 98)), (some (29, true)), []⟩,
 ⟨13, (some 34), .mv (.tmp 33), (some (29, true)), []⟩,
 ⟨14, (some 35), .mv (.tmp 0), (some (34, false)), []⟩,
 ⟨15, (some 36), .idxS 9 (.tmp 35) (.con (.int .i64 1)), (some (34, false)), []⟩,
 ⟨16, (some 37), .call 151 [(.tmp 36)], (some (34, false)), []⟩,
 ⟨17, (some 38), .bin .eql 5 true (.tmp 37) (.con (.int .u8 111)), (some (34, false)), []⟩,
 ⟨18, (some 39), .pick (.tmp 34) (.con (.bool true)) (.tmp 38), (some (29, true)), []⟩,
 ⟨19, (some 40), .mv (.tmp 39), (some (29, true)), []⟩,
 ⟨20, (some 41), .mv (.tmp 0), (some (40, false)), []⟩,
 ⟨21, (some 42), .idxS 9 (.tmp 41) (.con (.int .i64 1)), (some (40, false)), []⟩,
 ⟨22, (some 43), .call 151 [(.tmp 42)], (some (40, false)), []⟩,
 ⟨23, (some 44), .bin .eql 5 true (.tmp 43) (.con (.int .u8 120)), (some (40, false)), []⟩,
 ⟨24, (some 45), .pick (.tmp 40) (.con (.bool true)) (.tmp 44), (some (29, true)), []⟩,
 ⟨25, (some 46), .pick (.tmp 29) (.tmp 45) (.con (.bool false)), none, []⟩])
 (.cond (.tmp 46)
 (.seq (.reg [⟨0, (some 4), .mv (.con (.int .i64 2)), none, []⟩])
 (.seq (.reg [⟨0, (some 3), .mv (.con (.int .i32 48)), none, []⟩])
 (.reg [⟨0, (some 47), .mv (.tmp 0), none, []⟩,
 ⟨1, (some 48), .idxS 9 (.tmp 47) (.con (.int .i64 1)), none, []⟩,
 ⟨2, (some 49), .call 151 [(.tmp 48)], none, []⟩,
 ⟨3, (some 50), .bin .eql 5 true (.tmp 49) (.con (.int .u8 120)), none, []⟩,
 ⟨4, (some 5), .mv (.tmp 50), none, []⟩])))
 (.skip)))
 (.seq (.block 0
 (.loop
 (.seq (.seq (.reg [⟨0, (some 51), .mv (.tmp 4), none, []⟩,
 ⟨1, (some 52), .mv (.tmp 0), none, []⟩,
 ⟨2, (some 53), .bi .len [9] 3 [(.tmp 52)], none, []⟩,
 ⟨3, (some 54), .bin .lss 3 false (.tmp 51) (.tmp 53), none, []⟩])
 (.cond (.tmp 54)
 (.skip)
 (.exit 0)))
 (.seq (.block 1
 (.seq (.seq (.reg [⟨0, (some 57), .mv (.tmp 0), none, []⟩,
 ⟨1, (some 58), .mv (.tmp 4), none, []⟩,
 ⟨2, (some 59), .idxS 9 (.tmp 57) (.tmp 58), none, []⟩,
 ⟨3, (some 60), .bin .leq 5 true (.con (.int .u8 48)) (.tmp 59), none, []⟩,
 ⟨4, (some 61), .mv (.tmp 60), none, []⟩,
 ⟨5, (some 62), .mv (.tmp 0), (some (61, true)), []⟩,
 ⟨6, (some 63), .mv (.tmp 4), (some (61, true)), []⟩,
 ⟨7, (some 64), .idxS 9 (.tmp 62) (.tmp 63), (some (61, true)), []⟩,
 ⟨8, (some 65), .bin .leq 5 true (.tmp 64) (.con (.int .u8 57)), (some (61, true)), []⟩,
 ⟨9, (some 66), .pick (.tmp 61) (.tmp 65) (.con (.bool false)), none, []⟩,
 ⟨10, (some 67), .mv (.tmp 66), none, []⟩,
 ⟨11, (some 68), .mv (.tmp 5), (some (67, false)), []⟩,
 ⟨12, (some 69), .mv (.tmp 68), (some (67, false)), []⟩,
 ⟨13, (some 70), .mv (.tmp 0), (some (69, true)), []⟩,
 ⟨14, (some 71), .mv (.tmp 4), (some (69, true)), []⟩,
 ⟨15, (some 72), .idxS 9 (.tmp 70) (.tmp 71), (some (69, true)), []⟩,
 ⟨16, (some 73), .call 151 [(.tmp 72)], (some (69, true)), []⟩,
 ⟨17, (some 74), .bin .leq 5 true (.con (.int .u8 97)) (.tmp 73), (some (69, true)), []⟩,
 ⟨18, (some 75), .pick (.tmp 69) (.tmp 74) (.con (.bool false)), (some (67, false)), []⟩,
 ⟨19, (some 76), .mv (.tmp 75), (some (67, false)), []⟩,
 ⟨20, (some 77), .mv (.tmp 0), (some (76, true)), []⟩,
 ⟨21, (some 78), .mv (.tmp 4), (some (76, true)), []⟩,
 ⟨22, (some 79), .idxS 9 (.tmp 77) (.tmp 78), (some (76, true)), []⟩,
 ⟨23, (some 80), .call 151 [(.tmp 79)], (some (76, true)), []⟩,
 ⟨24, (some 81), .bin .leq 5 true (.tmp 80) (.con (.int .u8 102)), (some (76, true)), []⟩,
 ⟨25, (some 82), .pick (.tmp 76) (.tmp 81) (.con (.bool false)), (some (67, false)), []⟩,
 ⟨26, (some 83), .pick (.tmp 67) (.con (.bool true)) (.tmp 82), none, []⟩])
 (.cond (.tmp 83)
 (.seq (.reg [⟨0, (some 3), .mv (.con (.int .i32 48)), none, []⟩])
 (.exit 1))
 (.skip)))
 (.seq (.seq (.reg [⟨0, (some 84), .mv (.tmp 0), none, []⟩,
 ⟨1, (some 85), .mv (.tmp 4), none, []⟩,
 ⟨2, (some 86), .idxS 9 (.tmp 84) (.tmp 85), none, []⟩,
 ⟨3, (some 87), .bin .eql 5 true (.tmp 86) (.con (.int .u8 95)), none, []⟩])
 (.cond (.tmp 87)
 (.seq (.seq (.reg [⟨0, (some 88), .mv (.tmp 3), none, []⟩,
 ⟨1, (some 89), .bin .neq 21 true (.tmp 88) (.con (.int .i32 48)), none, []⟩])
 (.cond (.tmp 89)
 (.seq (.reg [⟨0, (some 2), .mv (.con (.bool false)), none, []⟩])
 (.ret))
 (.skip)))
 (.seq (.reg [⟨0, (some 3), .mv (.con (.int .i32 95)), none, []⟩])
 (.exit 1)))
 (.skip)))
 (.seq (.seq (.reg [⟨0, (some 90), .mv (.tmp 3), none, []⟩,
 ⟨1, (some 91), .bin .eql 21 true (.tmp 90) (.con (.int .i32 95)), none, []⟩])
 (.cond (.tmp 91)
 (.seq (.reg [⟨0, (some 2), .mv (.con (.bool false)), none, []⟩])
 (.ret))
 (.skip)))
 (.reg [⟨0, (some 3), .mv (.con (.int .i32 33)), none, []⟩])))))
 (.reg [⟨0, (some 55), .mv (.tmp 4), none, []⟩,
 ⟨1, (some 56), .bin .add 3 true (.tmp 55) (.con (.int .i64 1)), none, []⟩,
 ⟨2, (some 4), .mv (.tmp 56), none, []⟩])))))
 (.seq (.reg [⟨0, (some 92), .mv (.tmp 3), none, []⟩,
 ⟨1, (some 93), .bin .neq 21 true (.tmp 92) (.con (.int .i32 95)), none, []⟩,
 ⟨2, (some 2), .mv (.tmp 93), none, []⟩])
 (.ret)))))))),
 [.tmp 2]⟩
theorem p_internal_strconv_underscoreOK : prepFun Go.Proofs.Tryz.prog [1, 0, 2, 3] Go.Proofs.Tryz.f152 = some v_internal_strconv_underscoreOK := by kernel_rfl

def v_errors_New : VFun :=
⟨.seq (.reg [⟨0, (some 2), .mv (.con .nilIface), none, []⟩])
 (.seq (.reg [⟨0, (some 3), .mv (.tmp 0), none, []⟩,
 ⟨1, (some 4), .build [(.string ⟨#[]⟩)] [(0, 1, (.tmp 3))], none, []⟩,
 ⟨2, (some 5), .box (.tmp 4), none, []⟩,
 ⟨3, (some 6), .mkif 207 (.tmp 5), none, []⟩,
 ⟨4, (some 2), .mv (.tmp 6), none, []⟩])
 (.ret)),
 [.tmp 2]⟩
theorem p_errors_New : prepFun Go.Proofs.Tryz.prog [1, 0, 2, 3] Go.Proofs.Tryz.f154 = some v_errors_New := by kernel_rfl

end Go.VX.Seat
end
section
/-! MADE BY PROGRAM (lits.py): the functions of the seat. -/
set_option maxRecDepth 20000
namespace Go.VX.Seat
def fns : List (Nat × VFun) := [(6, v_l07_CodeTells), (10, v_code_Text), (11, v_r07_Check), (12, v_l07_alive), (14, v_code_Parse), (16, v_r07_Same), (17, v_r07_Find), (20, v_code_Check), (22, v_code_Reads), (23, v_code_Writes), (24, v_code_Class), (25, v_code_Name), (26, v_r07_One), (27, v_r07_Writes), (28, v_l07_same), (29, v_r07_Reads), (30, v_r07_Class), (31, v_r07_Names), (32, v_r07_Cut), (39, v_strings_Builder_WriteString), (40, v_strconv_Itoa), (41, v_code_opText), (42, v_code_endText), (46, v_code_lines_unit), (47, v_strings_Split), (49, v_r07_SameBlocks), (50, v_r07_register), (51, v_r07_op), (52, v_r07_end), (55, v_code_of), (56, v_code_Read), (57, v_r07_HasDst), (58, v_r07_Operands), (60, v_r07_HasA), (61, v_r07_HasB), (62, v_r07_HasC), (63, v_r07_EndA), (64, v_r07_EndTo), (65, v_r07_EndElse), (67, v_code_within), (73, v_internal_strconv_Itoa), (74, v_word_Show), (75, v_r07_HasN), (77, v_code_lines_peek), (78, v_code_headed), (79, v_code_lines_take), (80, v_code_lines_block), (81, v_strings_genSplit), (86, v_r07_SameOps), (87, v_r07_Array), (88, v_r07_Cell), (89, v_r07_there), (91, v_code_checker_unit), (95, v_internal_strconv_FormatInt), (96, v_strconv_FormatInt), (97, v_strings_Cut), (98, v_code_numbers), (99, v_strings_CutPrefix), (100, v_code_readEnd), (101, v_code_readOp), (102, v_strings_explode), (103, v_strings_Count), (104, v_strings_Index), (106, v_internal_stringslite_HasPrefix), (108, v_code_checker_must), (109, v_slices_ContainsFunc_int), (110, v_code_checker_unit_c1), (111, v_code_checker_op), (112, v_code_checker_end), (114, v_internal_strconv_small), (115, v_internal_strconv_numDigits), (116, v_internal_strconv_formatBase10), (117, v_internal_strconv_formatBits), (118, v_internal_stringslite_Cut), (119, v_word_Read), (120, v_internal_stringslite_CutPrefix), (121, v_slices_IndexFunc_form), (122, v_code_readOp_c1), (124, v_unicode_utf8_DecodeRuneInString), (126, v_internal_stringslite_Index), (127, v_slices_IndexFunc_int), (128, v_code_checker_reg), (129, v_internal_strconv_log10Pow2), (130, v_math_bits_Len64), (131, v_internal_strconv_bool2_int), (132, v_internal_strconv_isPowerOfTwo), (133, v_math_bits_TrailingZeros), (134, v_strconv_ParseInt), (136, v_internal_stringslite_IndexByte), (138, v_internal_bytealg_Cutover), (139, v_internal_bytealg_IndexRabinKarp_string), (142, v_internal_strconv_ParseInt), (143, v_strconv_toError), (145, v_internal_bytealg_hashStr_string), (146, v_internal_strconv_ParseUint), (149, v_strconv_baseError), (150, v_strconv_bitSizeError), (151, v_internal_strconv_lower), (152, v_internal_strconv_underscoreOK), (154, v_errors_New)]
def fnOf (f : FuncId) : Option VFun := match f with
  | 6 => some v_l07_CodeTells
  | 10 => some v_code_Text
  | 11 => some v_r07_Check
  | 12 => some v_l07_alive
  | 14 => some v_code_Parse
  | 16 => some v_r07_Same
  | 17 => some v_r07_Find
  | 20 => some v_code_Check
  | 22 => some v_code_Reads
  | 23 => some v_code_Writes
  | 24 => some v_code_Class
  | 25 => some v_code_Name
  | 26 => some v_r07_One
  | 27 => some v_r07_Writes
  | 28 => some v_l07_same
  | 29 => some v_r07_Reads
  | 30 => some v_r07_Class
  | 31 => some v_r07_Names
  | 32 => some v_r07_Cut
  | 39 => some v_strings_Builder_WriteString
  | 40 => some v_strconv_Itoa
  | 41 => some v_code_opText
  | 42 => some v_code_endText
  | 46 => some v_code_lines_unit
  | 47 => some v_strings_Split
  | 49 => some v_r07_SameBlocks
  | 50 => some v_r07_register
  | 51 => some v_r07_op
  | 52 => some v_r07_end
  | 55 => some v_code_of
  | 56 => some v_code_Read
  | 57 => some v_r07_HasDst
  | 58 => some v_r07_Operands
  | 60 => some v_r07_HasA
  | 61 => some v_r07_HasB
  | 62 => some v_r07_HasC
  | 63 => some v_r07_EndA
  | 64 => some v_r07_EndTo
  | 65 => some v_r07_EndElse
  | 67 => some v_code_within
  | 73 => some v_internal_strconv_Itoa
  | 74 => some v_word_Show
  | 75 => some v_r07_HasN
  | 77 => some v_code_lines_peek
  | 78 => some v_code_headed
  | 79 => some v_code_lines_take
  | 80 => some v_code_lines_block
  | 81 => some v_strings_genSplit
  | 86 => some v_r07_SameOps
  | 87 => some v_r07_Array
  | 88 => some v_r07_Cell
  | 89 => some v_r07_there
  | 91 => some v_code_checker_unit
  | 95 => some v_internal_strconv_FormatInt
  | 96 => some v_strconv_FormatInt
  | 97 => some v_strings_Cut
  | 98 => some v_code_numbers
  | 99 => some v_strings_CutPrefix
  | 100 => some v_code_readEnd
  | 101 => some v_code_readOp
  | 102 => some v_strings_explode
  | 103 => some v_strings_Count
  | 104 => some v_strings_Index
  | 106 => some v_internal_stringslite_HasPrefix
  | 108 => some v_code_checker_must
  | 109 => some v_slices_ContainsFunc_int
  | 110 => some v_code_checker_unit_c1
  | 111 => some v_code_checker_op
  | 112 => some v_code_checker_end
  | 114 => some v_internal_strconv_small
  | 115 => some v_internal_strconv_numDigits
  | 116 => some v_internal_strconv_formatBase10
  | 117 => some v_internal_strconv_formatBits
  | 118 => some v_internal_stringslite_Cut
  | 119 => some v_word_Read
  | 120 => some v_internal_stringslite_CutPrefix
  | 121 => some v_slices_IndexFunc_form
  | 122 => some v_code_readOp_c1
  | 124 => some v_unicode_utf8_DecodeRuneInString
  | 126 => some v_internal_stringslite_Index
  | 127 => some v_slices_IndexFunc_int
  | 128 => some v_code_checker_reg
  | 129 => some v_internal_strconv_log10Pow2
  | 130 => some v_math_bits_Len64
  | 131 => some v_internal_strconv_bool2_int
  | 132 => some v_internal_strconv_isPowerOfTwo
  | 133 => some v_math_bits_TrailingZeros
  | 134 => some v_strconv_ParseInt
  | 136 => some v_internal_stringslite_IndexByte
  | 138 => some v_internal_bytealg_Cutover
  | 139 => some v_internal_bytealg_IndexRabinKarp_string
  | 142 => some v_internal_strconv_ParseInt
  | 143 => some v_strconv_toError
  | 145 => some v_internal_bytealg_hashStr_string
  | 146 => some v_internal_strconv_ParseUint
  | 149 => some v_strconv_baseError
  | 150 => some v_strconv_bitSizeError
  | 151 => some v_internal_strconv_lower
  | 152 => some v_internal_strconv_underscoreOK
  | 154 => some v_errors_New
  | _ => none
theorem o_l07_CodeTells : FunOk Go.Proofs.Tryz.prog [1, 0, 2, 3] 6 v_l07_CodeTells := ⟨⟨Go.Proofs.Tryz.f6, _, by kernel_rfl, rfl, by kernel_rfl, p_l07_CodeTells⟩⟩
theorem o_code_Text : FunOk Go.Proofs.Tryz.prog [1, 0, 2, 3] 10 v_code_Text := ⟨⟨Go.Proofs.Tryz.f10, _, by kernel_rfl, rfl, by kernel_rfl, p_code_Text⟩⟩
theorem o_r07_Check : FunOk Go.Proofs.Tryz.prog [1, 0, 2, 3] 11 v_r07_Check := ⟨⟨Go.Proofs.Tryz.f11, _, by kernel_rfl, rfl, by kernel_rfl, p_r07_Check⟩⟩
theorem o_l07_alive : FunOk Go.Proofs.Tryz.prog [1, 0, 2, 3] 12 v_l07_alive := ⟨⟨Go.Proofs.Tryz.f12, _, by kernel_rfl, rfl, by kernel_rfl, p_l07_alive⟩⟩
theorem o_code_Parse : FunOk Go.Proofs.Tryz.prog [1, 0, 2, 3] 14 v_code_Parse := ⟨⟨Go.Proofs.Tryz.f14, _, by kernel_rfl, rfl, by kernel_rfl, p_code_Parse⟩⟩
theorem o_r07_Same : FunOk Go.Proofs.Tryz.prog [1, 0, 2, 3] 16 v_r07_Same := ⟨⟨Go.Proofs.Tryz.f16, _, by kernel_rfl, rfl, by kernel_rfl, p_r07_Same⟩⟩
theorem o_r07_Find : FunOk Go.Proofs.Tryz.prog [1, 0, 2, 3] 17 v_r07_Find := ⟨⟨Go.Proofs.Tryz.f17, _, by kernel_rfl, rfl, by kernel_rfl, p_r07_Find⟩⟩
theorem o_code_Check : FunOk Go.Proofs.Tryz.prog [1, 0, 2, 3] 20 v_code_Check := ⟨⟨Go.Proofs.Tryz.f20, _, by kernel_rfl, rfl, by kernel_rfl, p_code_Check⟩⟩
theorem o_code_Reads : FunOk Go.Proofs.Tryz.prog [1, 0, 2, 3] 22 v_code_Reads := ⟨⟨Go.Proofs.Tryz.f22, _, by kernel_rfl, rfl, by kernel_rfl, p_code_Reads⟩⟩
theorem o_code_Writes : FunOk Go.Proofs.Tryz.prog [1, 0, 2, 3] 23 v_code_Writes := ⟨⟨Go.Proofs.Tryz.f23, _, by kernel_rfl, rfl, by kernel_rfl, p_code_Writes⟩⟩
theorem o_code_Class : FunOk Go.Proofs.Tryz.prog [1, 0, 2, 3] 24 v_code_Class := ⟨⟨Go.Proofs.Tryz.f24, _, by kernel_rfl, rfl, by kernel_rfl, p_code_Class⟩⟩
theorem o_code_Name : FunOk Go.Proofs.Tryz.prog [1, 0, 2, 3] 25 v_code_Name := ⟨⟨Go.Proofs.Tryz.f25, _, by kernel_rfl, rfl, by kernel_rfl, p_code_Name⟩⟩
theorem o_r07_One : FunOk Go.Proofs.Tryz.prog [1, 0, 2, 3] 26 v_r07_One := ⟨⟨Go.Proofs.Tryz.f26, _, by kernel_rfl, rfl, by kernel_rfl, p_r07_One⟩⟩
theorem o_r07_Writes : FunOk Go.Proofs.Tryz.prog [1, 0, 2, 3] 27 v_r07_Writes := ⟨⟨Go.Proofs.Tryz.f27, _, by kernel_rfl, rfl, by kernel_rfl, p_r07_Writes⟩⟩
theorem o_l07_same : FunOk Go.Proofs.Tryz.prog [1, 0, 2, 3] 28 v_l07_same := ⟨⟨Go.Proofs.Tryz.f28, _, by kernel_rfl, rfl, by kernel_rfl, p_l07_same⟩⟩
theorem o_r07_Reads : FunOk Go.Proofs.Tryz.prog [1, 0, 2, 3] 29 v_r07_Reads := ⟨⟨Go.Proofs.Tryz.f29, _, by kernel_rfl, rfl, by kernel_rfl, p_r07_Reads⟩⟩
theorem o_r07_Class : FunOk Go.Proofs.Tryz.prog [1, 0, 2, 3] 30 v_r07_Class := ⟨⟨Go.Proofs.Tryz.f30, _, by kernel_rfl, rfl, by kernel_rfl, p_r07_Class⟩⟩
theorem o_r07_Names : FunOk Go.Proofs.Tryz.prog [1, 0, 2, 3] 31 v_r07_Names := ⟨⟨Go.Proofs.Tryz.f31, _, by kernel_rfl, rfl, by kernel_rfl, p_r07_Names⟩⟩
theorem o_r07_Cut : FunOk Go.Proofs.Tryz.prog [1, 0, 2, 3] 32 v_r07_Cut := ⟨⟨Go.Proofs.Tryz.f32, _, by kernel_rfl, rfl, by kernel_rfl, p_r07_Cut⟩⟩
theorem o_strings_Builder_WriteString : FunOk Go.Proofs.Tryz.prog [1, 0, 2, 3] 39 v_strings_Builder_WriteString := ⟨⟨Go.Proofs.Tryz.f39, _, by kernel_rfl, rfl, by kernel_rfl, p_strings_Builder_WriteString⟩⟩
theorem o_strconv_Itoa : FunOk Go.Proofs.Tryz.prog [1, 0, 2, 3] 40 v_strconv_Itoa := ⟨⟨Go.Proofs.Tryz.f40, _, by kernel_rfl, rfl, by kernel_rfl, p_strconv_Itoa⟩⟩
theorem o_code_opText : FunOk Go.Proofs.Tryz.prog [1, 0, 2, 3] 41 v_code_opText := ⟨⟨Go.Proofs.Tryz.f41, _, by kernel_rfl, rfl, by kernel_rfl, p_code_opText⟩⟩
theorem o_code_endText : FunOk Go.Proofs.Tryz.prog [1, 0, 2, 3] 42 v_code_endText := ⟨⟨Go.Proofs.Tryz.f42, _, by kernel_rfl, rfl, by kernel_rfl, p_code_endText⟩⟩
theorem o_code_lines_unit : FunOk Go.Proofs.Tryz.prog [1, 0, 2, 3] 46 v_code_lines_unit := ⟨⟨Go.Proofs.Tryz.f46, _, by kernel_rfl, rfl, by kernel_rfl, p_code_lines_unit⟩⟩
theorem o_strings_Split : FunOk Go.Proofs.Tryz.prog [1, 0, 2, 3] 47 v_strings_Split := ⟨⟨Go.Proofs.Tryz.f47, _, by kernel_rfl, rfl, by kernel_rfl, p_strings_Split⟩⟩
theorem o_r07_SameBlocks : FunOk Go.Proofs.Tryz.prog [1, 0, 2, 3] 49 v_r07_SameBlocks := ⟨⟨Go.Proofs.Tryz.f49, _, by kernel_rfl, rfl, by kernel_rfl, p_r07_SameBlocks⟩⟩
theorem o_r07_register : FunOk Go.Proofs.Tryz.prog [1, 0, 2, 3] 50 v_r07_register := ⟨⟨Go.Proofs.Tryz.f50, _, by kernel_rfl, rfl, by kernel_rfl, p_r07_register⟩⟩
theorem o_r07_op : FunOk Go.Proofs.Tryz.prog [1, 0, 2, 3] 51 v_r07_op := ⟨⟨Go.Proofs.Tryz.f51, _, by kernel_rfl, rfl, by kernel_rfl, p_r07_op⟩⟩
theorem o_r07_end : FunOk Go.Proofs.Tryz.prog [1, 0, 2, 3] 52 v_r07_end := ⟨⟨Go.Proofs.Tryz.f52, _, by kernel_rfl, rfl, by kernel_rfl, p_r07_end⟩⟩
theorem o_code_of : FunOk Go.Proofs.Tryz.prog [1, 0, 2, 3] 55 v_code_of := ⟨⟨Go.Proofs.Tryz.f55, _, by kernel_rfl, rfl, by kernel_rfl, p_code_of⟩⟩
theorem o_code_Read : FunOk Go.Proofs.Tryz.prog [1, 0, 2, 3] 56 v_code_Read := ⟨⟨Go.Proofs.Tryz.f56, _, by kernel_rfl, rfl, by kernel_rfl, p_code_Read⟩⟩
theorem o_r07_HasDst : FunOk Go.Proofs.Tryz.prog [1, 0, 2, 3] 57 v_r07_HasDst := ⟨⟨Go.Proofs.Tryz.f57, _, by kernel_rfl, rfl, by kernel_rfl, p_r07_HasDst⟩⟩
theorem o_r07_Operands : FunOk Go.Proofs.Tryz.prog [1, 0, 2, 3] 58 v_r07_Operands := ⟨⟨Go.Proofs.Tryz.f58, _, by kernel_rfl, rfl, by kernel_rfl, p_r07_Operands⟩⟩
theorem o_r07_HasA : FunOk Go.Proofs.Tryz.prog [1, 0, 2, 3] 60 v_r07_HasA := ⟨⟨Go.Proofs.Tryz.f60, _, by kernel_rfl, rfl, by kernel_rfl, p_r07_HasA⟩⟩
theorem o_r07_HasB : FunOk Go.Proofs.Tryz.prog [1, 0, 2, 3] 61 v_r07_HasB := ⟨⟨Go.Proofs.Tryz.f61, _, by kernel_rfl, rfl, by kernel_rfl, p_r07_HasB⟩⟩
theorem o_r07_HasC : FunOk Go.Proofs.Tryz.prog [1, 0, 2, 3] 62 v_r07_HasC := ⟨⟨Go.Proofs.Tryz.f62, _, by kernel_rfl, rfl, by kernel_rfl, p_r07_HasC⟩⟩
theorem o_r07_EndA : FunOk Go.Proofs.Tryz.prog [1, 0, 2, 3] 63 v_r07_EndA := ⟨⟨Go.Proofs.Tryz.f63, _, by kernel_rfl, rfl, by kernel_rfl, p_r07_EndA⟩⟩
theorem o_r07_EndTo : FunOk Go.Proofs.Tryz.prog [1, 0, 2, 3] 64 v_r07_EndTo := ⟨⟨Go.Proofs.Tryz.f64, _, by kernel_rfl, rfl, by kernel_rfl, p_r07_EndTo⟩⟩
theorem o_r07_EndElse : FunOk Go.Proofs.Tryz.prog [1, 0, 2, 3] 65 v_r07_EndElse := ⟨⟨Go.Proofs.Tryz.f65, _, by kernel_rfl, rfl, by kernel_rfl, p_r07_EndElse⟩⟩
theorem o_code_within : FunOk Go.Proofs.Tryz.prog [1, 0, 2, 3] 67 v_code_within := ⟨⟨Go.Proofs.Tryz.f67, _, by kernel_rfl, rfl, by kernel_rfl, p_code_within⟩⟩
theorem o_internal_strconv_Itoa : FunOk Go.Proofs.Tryz.prog [1, 0, 2, 3] 73 v_internal_strconv_Itoa := ⟨⟨Go.Proofs.Tryz.f73, _, by kernel_rfl, rfl, by kernel_rfl, p_internal_strconv_Itoa⟩⟩
theorem o_word_Show : FunOk Go.Proofs.Tryz.prog [1, 0, 2, 3] 74 v_word_Show := ⟨⟨Go.Proofs.Tryz.f74, _, by kernel_rfl, rfl, by kernel_rfl, p_word_Show⟩⟩
theorem o_r07_HasN : FunOk Go.Proofs.Tryz.prog [1, 0, 2, 3] 75 v_r07_HasN := ⟨⟨Go.Proofs.Tryz.f75, _, by kernel_rfl, rfl, by kernel_rfl, p_r07_HasN⟩⟩
theorem o_code_lines_peek : FunOk Go.Proofs.Tryz.prog [1, 0, 2, 3] 77 v_code_lines_peek := ⟨⟨Go.Proofs.Tryz.f77, _, by kernel_rfl, rfl, by kernel_rfl, p_code_lines_peek⟩⟩
theorem o_code_headed : FunOk Go.Proofs.Tryz.prog [1, 0, 2, 3] 78 v_code_headed := ⟨⟨Go.Proofs.Tryz.f78, _, by kernel_rfl, rfl, by kernel_rfl, p_code_headed⟩⟩
theorem o_code_lines_take : FunOk Go.Proofs.Tryz.prog [1, 0, 2, 3] 79 v_code_lines_take := ⟨⟨Go.Proofs.Tryz.f79, _, by kernel_rfl, rfl, by kernel_rfl, p_code_lines_take⟩⟩
theorem o_code_lines_block : FunOk Go.Proofs.Tryz.prog [1, 0, 2, 3] 80 v_code_lines_block := ⟨⟨Go.Proofs.Tryz.f80, _, by kernel_rfl, rfl, by kernel_rfl, p_code_lines_block⟩⟩
theorem o_strings_genSplit : FunOk Go.Proofs.Tryz.prog [1, 0, 2, 3] 81 v_strings_genSplit := ⟨⟨Go.Proofs.Tryz.f81, _, by kernel_rfl, rfl, by kernel_rfl, p_strings_genSplit⟩⟩
theorem o_r07_SameOps : FunOk Go.Proofs.Tryz.prog [1, 0, 2, 3] 86 v_r07_SameOps := ⟨⟨Go.Proofs.Tryz.f86, _, by kernel_rfl, rfl, by kernel_rfl, p_r07_SameOps⟩⟩
theorem o_r07_Array : FunOk Go.Proofs.Tryz.prog [1, 0, 2, 3] 87 v_r07_Array := ⟨⟨Go.Proofs.Tryz.f87, _, by kernel_rfl, rfl, by kernel_rfl, p_r07_Array⟩⟩
theorem o_r07_Cell : FunOk Go.Proofs.Tryz.prog [1, 0, 2, 3] 88 v_r07_Cell := ⟨⟨Go.Proofs.Tryz.f88, _, by kernel_rfl, rfl, by kernel_rfl, p_r07_Cell⟩⟩
theorem o_r07_there : FunOk Go.Proofs.Tryz.prog [1, 0, 2, 3] 89 v_r07_there := ⟨⟨Go.Proofs.Tryz.f89, _, by kernel_rfl, rfl, by kernel_rfl, p_r07_there⟩⟩
theorem o_code_checker_unit : FunOk Go.Proofs.Tryz.prog [1, 0, 2, 3] 91 v_code_checker_unit := ⟨⟨Go.Proofs.Tryz.f91, _, by kernel_rfl, rfl, by kernel_rfl, p_code_checker_unit⟩⟩
theorem o_internal_strconv_FormatInt : FunOk Go.Proofs.Tryz.prog [1, 0, 2, 3] 95 v_internal_strconv_FormatInt := ⟨⟨Go.Proofs.Tryz.f95, _, by kernel_rfl, rfl, by kernel_rfl, p_internal_strconv_FormatInt⟩⟩
theorem o_strconv_FormatInt : FunOk Go.Proofs.Tryz.prog [1, 0, 2, 3] 96 v_strconv_FormatInt := ⟨⟨Go.Proofs.Tryz.f96, _, by kernel_rfl, rfl, by kernel_rfl, p_strconv_FormatInt⟩⟩
theorem o_strings_Cut : FunOk Go.Proofs.Tryz.prog [1, 0, 2, 3] 97 v_strings_Cut := ⟨⟨Go.Proofs.Tryz.f97, _, by kernel_rfl, rfl, by kernel_rfl, p_strings_Cut⟩⟩
theorem o_code_numbers : FunOk Go.Proofs.Tryz.prog [1, 0, 2, 3] 98 v_code_numbers := ⟨⟨Go.Proofs.Tryz.f98, _, by kernel_rfl, rfl, by kernel_rfl, p_code_numbers⟩⟩
theorem o_strings_CutPrefix : FunOk Go.Proofs.Tryz.prog [1, 0, 2, 3] 99 v_strings_CutPrefix := ⟨⟨Go.Proofs.Tryz.f99, _, by kernel_rfl, rfl, by kernel_rfl, p_strings_CutPrefix⟩⟩
theorem o_code_readEnd : FunOk Go.Proofs.Tryz.prog [1, 0, 2, 3] 100 v_code_readEnd := ⟨⟨Go.Proofs.Tryz.f100, _, by kernel_rfl, rfl, by kernel_rfl, p_code_readEnd⟩⟩
theorem o_code_readOp : FunOk Go.Proofs.Tryz.prog [1, 0, 2, 3] 101 v_code_readOp := ⟨⟨Go.Proofs.Tryz.f101, _, by kernel_rfl, rfl, by kernel_rfl, p_code_readOp⟩⟩
theorem o_strings_explode : FunOk Go.Proofs.Tryz.prog [1, 0, 2, 3] 102 v_strings_explode := ⟨⟨Go.Proofs.Tryz.f102, _, by kernel_rfl, rfl, by kernel_rfl, p_strings_explode⟩⟩
theorem o_strings_Count : FunOk Go.Proofs.Tryz.prog [1, 0, 2, 3] 103 v_strings_Count := ⟨⟨Go.Proofs.Tryz.f103, _, by kernel_rfl, rfl, by kernel_rfl, p_strings_Count⟩⟩
theorem o_strings_Index : FunOk Go.Proofs.Tryz.prog [1, 0, 2, 3] 104 v_strings_Index := ⟨⟨Go.Proofs.Tryz.f104, _, by kernel_rfl, rfl, by kernel_rfl, p_strings_Index⟩⟩
theorem o_internal_stringslite_HasPrefix : FunOk Go.Proofs.Tryz.prog [1, 0, 2, 3] 106 v_internal_stringslite_HasPrefix := ⟨⟨Go.Proofs.Tryz.f106, _, by kernel_rfl, rfl, by kernel_rfl, p_internal_stringslite_HasPrefix⟩⟩
theorem o_code_checker_must : FunOk Go.Proofs.Tryz.prog [1, 0, 2, 3] 108 v_code_checker_must := ⟨⟨Go.Proofs.Tryz.f108, _, by kernel_rfl, rfl, by kernel_rfl, p_code_checker_must⟩⟩
theorem o_slices_ContainsFunc_int : FunOk Go.Proofs.Tryz.prog [1, 0, 2, 3] 109 v_slices_ContainsFunc_int := ⟨⟨Go.Proofs.Tryz.f109, _, by kernel_rfl, rfl, by kernel_rfl, p_slices_ContainsFunc_int⟩⟩
theorem o_code_checker_unit_c1 : FunOk Go.Proofs.Tryz.prog [1, 0, 2, 3] 110 v_code_checker_unit_c1 := ⟨⟨Go.Proofs.Tryz.f110, _, by kernel_rfl, rfl, by kernel_rfl, p_code_checker_unit_c1⟩⟩
theorem o_code_checker_op : FunOk Go.Proofs.Tryz.prog [1, 0, 2, 3] 111 v_code_checker_op := ⟨⟨Go.Proofs.Tryz.f111, _, by kernel_rfl, rfl, by kernel_rfl, p_code_checker_op⟩⟩
theorem o_code_checker_end : FunOk Go.Proofs.Tryz.prog [1, 0, 2, 3] 112 v_code_checker_end := ⟨⟨Go.Proofs.Tryz.f112, _, by kernel_rfl, rfl, by kernel_rfl, p_code_checker_end⟩⟩
theorem o_internal_strconv_small : FunOk Go.Proofs.Tryz.prog [1, 0, 2, 3] 114 v_internal_strconv_small := ⟨⟨Go.Proofs.Tryz.f114, _, by kernel_rfl, rfl, by kernel_rfl, p_internal_strconv_small⟩⟩
theorem o_internal_strconv_numDigits : FunOk Go.Proofs.Tryz.prog [1, 0, 2, 3] 115 v_internal_strconv_numDigits := ⟨⟨Go.Proofs.Tryz.f115, _, by kernel_rfl, rfl, by kernel_rfl, p_internal_strconv_numDigits⟩⟩
theorem o_internal_strconv_formatBase10 : FunOk Go.Proofs.Tryz.prog [1, 0, 2, 3] 116 v_internal_strconv_formatBase10 := ⟨⟨Go.Proofs.Tryz.f116, _, by kernel_rfl, rfl, by kernel_rfl, p_internal_strconv_formatBase10⟩⟩
theorem o_internal_strconv_formatBits : FunOk Go.Proofs.Tryz.prog [1, 0, 2, 3] 117 v_internal_strconv_formatBits := ⟨⟨Go.Proofs.Tryz.f117, _, by kernel_rfl, rfl, by kernel_rfl, p_internal_strconv_formatBits⟩⟩
theorem o_internal_stringslite_Cut : FunOk Go.Proofs.Tryz.prog [1, 0, 2, 3] 118 v_internal_stringslite_Cut := ⟨⟨Go.Proofs.Tryz.f118, _, by kernel_rfl, rfl, by kernel_rfl, p_internal_stringslite_Cut⟩⟩
theorem o_word_Read : FunOk Go.Proofs.Tryz.prog [1, 0, 2, 3] 119 v_word_Read := ⟨⟨Go.Proofs.Tryz.f119, _, by kernel_rfl, rfl, by kernel_rfl, p_word_Read⟩⟩
theorem o_internal_stringslite_CutPrefix : FunOk Go.Proofs.Tryz.prog [1, 0, 2, 3] 120 v_internal_stringslite_CutPrefix := ⟨⟨Go.Proofs.Tryz.f120, _, by kernel_rfl, rfl, by kernel_rfl, p_internal_stringslite_CutPrefix⟩⟩
theorem o_slices_IndexFunc_form : FunOk Go.Proofs.Tryz.prog [1, 0, 2, 3] 121 v_slices_IndexFunc_form := ⟨⟨Go.Proofs.Tryz.f121, _, by kernel_rfl, rfl, by kernel_rfl, p_slices_IndexFunc_form⟩⟩
theorem o_code_readOp_c1 : FunOk Go.Proofs.Tryz.prog [1, 0, 2, 3] 122 v_code_readOp_c1 := ⟨⟨Go.Proofs.Tryz.f122, _, by kernel_rfl, rfl, by kernel_rfl, p_code_readOp_c1⟩⟩
theorem o_unicode_utf8_DecodeRuneInString : FunOk Go.Proofs.Tryz.prog [1, 0, 2, 3] 124 v_unicode_utf8_DecodeRuneInString := ⟨⟨Go.Proofs.Tryz.f124, _, by kernel_rfl, rfl, by kernel_rfl, p_unicode_utf8_DecodeRuneInString⟩⟩
theorem o_internal_stringslite_Index : FunOk Go.Proofs.Tryz.prog [1, 0, 2, 3] 126 v_internal_stringslite_Index := ⟨⟨Go.Proofs.Tryz.f126, _, by kernel_rfl, rfl, by kernel_rfl, p_internal_stringslite_Index⟩⟩
theorem o_slices_IndexFunc_int : FunOk Go.Proofs.Tryz.prog [1, 0, 2, 3] 127 v_slices_IndexFunc_int := ⟨⟨Go.Proofs.Tryz.f127, _, by kernel_rfl, rfl, by kernel_rfl, p_slices_IndexFunc_int⟩⟩
theorem o_code_checker_reg : FunOk Go.Proofs.Tryz.prog [1, 0, 2, 3] 128 v_code_checker_reg := ⟨⟨Go.Proofs.Tryz.f128, _, by kernel_rfl, rfl, by kernel_rfl, p_code_checker_reg⟩⟩
theorem o_internal_strconv_log10Pow2 : FunOk Go.Proofs.Tryz.prog [1, 0, 2, 3] 129 v_internal_strconv_log10Pow2 := ⟨⟨Go.Proofs.Tryz.f129, _, by kernel_rfl, rfl, by kernel_rfl, p_internal_strconv_log10Pow2⟩⟩
theorem o_math_bits_Len64 : FunOk Go.Proofs.Tryz.prog [1, 0, 2, 3] 130 v_math_bits_Len64 := ⟨⟨Go.Proofs.Tryz.f130, _, by kernel_rfl, rfl, by kernel_rfl, p_math_bits_Len64⟩⟩
theorem o_internal_strconv_bool2_int : FunOk Go.Proofs.Tryz.prog [1, 0, 2, 3] 131 v_internal_strconv_bool2_int := ⟨⟨Go.Proofs.Tryz.f131, _, by kernel_rfl, rfl, by kernel_rfl, p_internal_strconv_bool2_int⟩⟩
theorem o_internal_strconv_isPowerOfTwo : FunOk Go.Proofs.Tryz.prog [1, 0, 2, 3] 132 v_internal_strconv_isPowerOfTwo := ⟨⟨Go.Proofs.Tryz.f132, _, by kernel_rfl, rfl, by kernel_rfl, p_internal_strconv_isPowerOfTwo⟩⟩
theorem o_math_bits_TrailingZeros : FunOk Go.Proofs.Tryz.prog [1, 0, 2, 3] 133 v_math_bits_TrailingZeros := ⟨⟨Go.Proofs.Tryz.f133, _, by kernel_rfl, rfl, by kernel_rfl, p_math_bits_TrailingZeros⟩⟩
theorem o_strconv_ParseInt : FunOk Go.Proofs.Tryz.prog [1, 0, 2, 3] 134 v_strconv_ParseInt := ⟨⟨Go.Proofs.Tryz.f134, _, by kernel_rfl, rfl, by kernel_rfl, p_strconv_ParseInt⟩⟩
theorem o_internal_stringslite_IndexByte : FunOk Go.Proofs.Tryz.prog [1, 0, 2, 3] 136 v_internal_stringslite_IndexByte := ⟨⟨Go.Proofs.Tryz.f136, _, by kernel_rfl, rfl, by kernel_rfl, p_internal_stringslite_IndexByte⟩⟩
theorem o_internal_bytealg_Cutover : FunOk Go.Proofs.Tryz.prog [1, 0, 2, 3] 138 v_internal_bytealg_Cutover := ⟨⟨Go.Proofs.Tryz.f138, _, by kernel_rfl, rfl, by kernel_rfl, p_internal_bytealg_Cutover⟩⟩
theorem o_internal_bytealg_IndexRabinKarp_string : FunOk Go.Proofs.Tryz.prog [1, 0, 2, 3] 139 v_internal_bytealg_IndexRabinKarp_string := ⟨⟨Go.Proofs.Tryz.f139, _, by kernel_rfl, rfl, by kernel_rfl, p_internal_bytealg_IndexRabinKarp_string⟩⟩
theorem o_internal_strconv_ParseInt : FunOk Go.Proofs.Tryz.prog [1, 0, 2, 3] 142 v_internal_strconv_ParseInt := ⟨⟨Go.Proofs.Tryz.f142, _, by kernel_rfl, rfl, by kernel_rfl, p_internal_strconv_ParseInt⟩⟩
theorem o_strconv_toError : FunOk Go.Proofs.Tryz.prog [1, 0, 2, 3] 143 v_strconv_toError := ⟨⟨Go.Proofs.Tryz.f143, _, by kernel_rfl, rfl, by kernel_rfl, p_strconv_toError⟩⟩
theorem o_internal_bytealg_hashStr_string : FunOk Go.Proofs.Tryz.prog [1, 0, 2, 3] 145 v_internal_bytealg_hashStr_string := ⟨⟨Go.Proofs.Tryz.f145, _, by kernel_rfl, rfl, by kernel_rfl, p_internal_bytealg_hashStr_string⟩⟩
theorem o_internal_strconv_ParseUint : FunOk Go.Proofs.Tryz.prog [1, 0, 2, 3] 146 v_internal_strconv_ParseUint := ⟨⟨Go.Proofs.Tryz.f146, _, by kernel_rfl, rfl, by kernel_rfl, p_internal_strconv_ParseUint⟩⟩
theorem o_strconv_baseError : FunOk Go.Proofs.Tryz.prog [1, 0, 2, 3] 149 v_strconv_baseError := ⟨⟨Go.Proofs.Tryz.f149, _, by kernel_rfl, rfl, by kernel_rfl, p_strconv_baseError⟩⟩
theorem o_strconv_bitSizeError : FunOk Go.Proofs.Tryz.prog [1, 0, 2, 3] 150 v_strconv_bitSizeError := ⟨⟨Go.Proofs.Tryz.f150, _, by kernel_rfl, rfl, by kernel_rfl, p_strconv_bitSizeError⟩⟩
theorem o_internal_strconv_lower : FunOk Go.Proofs.Tryz.prog [1, 0, 2, 3] 151 v_internal_strconv_lower := ⟨⟨Go.Proofs.Tryz.f151, _, by kernel_rfl, rfl, by kernel_rfl, p_internal_strconv_lower⟩⟩
theorem o_internal_strconv_underscoreOK : FunOk Go.Proofs.Tryz.prog [1, 0, 2, 3] 152 v_internal_strconv_underscoreOK := ⟨⟨Go.Proofs.Tryz.f152, _, by kernel_rfl, rfl, by kernel_rfl, p_internal_strconv_underscoreOK⟩⟩
theorem o_errors_New : FunOk Go.Proofs.Tryz.prog [1, 0, 2, 3] 154 v_errors_New := ⟨⟨Go.Proofs.Tryz.f154, _, by kernel_rfl, rfl, by kernel_rfl, p_errors_New⟩⟩
theorem fn_ok (f : FuncId) (fn : VFun) (h : fnOf f = some fn) : FunOk Go.Proofs.Tryz.prog [1, 0, 2, 3] f fn := by
  unfold fnOf at h
  split at h
  · cases h; exact o_l07_CodeTells
  · cases h; exact o_code_Text
  · cases h; exact o_r07_Check
  · cases h; exact o_l07_alive
  · cases h; exact o_code_Parse
  · cases h; exact o_r07_Same
  · cases h; exact o_r07_Find
  · cases h; exact o_code_Check
  · cases h; exact o_code_Reads
  · cases h; exact o_code_Writes
  · cases h; exact o_code_Class
  · cases h; exact o_code_Name
  · cases h; exact o_r07_One
  · cases h; exact o_r07_Writes
  · cases h; exact o_l07_same
  · cases h; exact o_r07_Reads
  · cases h; exact o_r07_Class
  · cases h; exact o_r07_Names
  · cases h; exact o_r07_Cut
  · cases h; exact o_strings_Builder_WriteString
  · cases h; exact o_strconv_Itoa
  · cases h; exact o_code_opText
  · cases h; exact o_code_endText
  · cases h; exact o_code_lines_unit
  · cases h; exact o_strings_Split
  · cases h; exact o_r07_SameBlocks
  · cases h; exact o_r07_register
  · cases h; exact o_r07_op
  · cases h; exact o_r07_end
  · cases h; exact o_code_of
  · cases h; exact o_code_Read
  · cases h; exact o_r07_HasDst
  · cases h; exact o_r07_Operands
  · cases h; exact o_r07_HasA
  · cases h; exact o_r07_HasB
  · cases h; exact o_r07_HasC
  · cases h; exact o_r07_EndA
  · cases h; exact o_r07_EndTo
  · cases h; exact o_r07_EndElse
  · cases h; exact o_code_within
  · cases h; exact o_internal_strconv_Itoa
  · cases h; exact o_word_Show
  · cases h; exact o_r07_HasN
  · cases h; exact o_code_lines_peek
  · cases h; exact o_code_headed
  · cases h; exact o_code_lines_take
  · cases h; exact o_code_lines_block
  · cases h; exact o_strings_genSplit
  · cases h; exact o_r07_SameOps
  · cases h; exact o_r07_Array
  · cases h; exact o_r07_Cell
  · cases h; exact o_r07_there
  · cases h; exact o_code_checker_unit
  · cases h; exact o_internal_strconv_FormatInt
  · cases h; exact o_strconv_FormatInt
  · cases h; exact o_strings_Cut
  · cases h; exact o_code_numbers
  · cases h; exact o_strings_CutPrefix
  · cases h; exact o_code_readEnd
  · cases h; exact o_code_readOp
  · cases h; exact o_strings_explode
  · cases h; exact o_strings_Count
  · cases h; exact o_strings_Index
  · cases h; exact o_internal_stringslite_HasPrefix
  · cases h; exact o_code_checker_must
  · cases h; exact o_slices_ContainsFunc_int
  · cases h; exact o_code_checker_unit_c1
  · cases h; exact o_code_checker_op
  · cases h; exact o_code_checker_end
  · cases h; exact o_internal_strconv_small
  · cases h; exact o_internal_strconv_numDigits
  · cases h; exact o_internal_strconv_formatBase10
  · cases h; exact o_internal_strconv_formatBits
  · cases h; exact o_internal_stringslite_Cut
  · cases h; exact o_word_Read
  · cases h; exact o_internal_stringslite_CutPrefix
  · cases h; exact o_slices_IndexFunc_form
  · cases h; exact o_code_readOp_c1
  · cases h; exact o_unicode_utf8_DecodeRuneInString
  · cases h; exact o_internal_stringslite_Index
  · cases h; exact o_slices_IndexFunc_int
  · cases h; exact o_code_checker_reg
  · cases h; exact o_internal_strconv_log10Pow2
  · cases h; exact o_math_bits_Len64
  · cases h; exact o_internal_strconv_bool2_int
  · cases h; exact o_internal_strconv_isPowerOfTwo
  · cases h; exact o_math_bits_TrailingZeros
  · cases h; exact o_strconv_ParseInt
  · cases h; exact o_internal_stringslite_IndexByte
  · cases h; exact o_internal_bytealg_Cutover
  · cases h; exact o_internal_bytealg_IndexRabinKarp_string
  · cases h; exact o_internal_strconv_ParseInt
  · cases h; exact o_strconv_toError
  · cases h; exact o_internal_bytealg_hashStr_string
  · cases h; exact o_internal_strconv_ParseUint
  · cases h; exact o_strconv_baseError
  · cases h; exact o_strconv_bitSizeError
  · cases h; exact o_internal_strconv_lower
  · cases h; exact o_internal_strconv_underscoreOK
  · cases h; exact o_errors_New
  · cases h
/-- The functions of the seat, and whatever more is told. -/
structure On (X : Cx) : Prop where
  F : X.F = fnOf
  P : X.P = Go.Proofs.Tryz.prog
end Go.VX.Seat
end
section
set_option linter.unusedVariables false
set_option linter.unusedSimpArgs false
namespace Go.VX.Seat
def oneK (k : Int) : Bool := decide (1 ≤ k) && decide (k ≤ 25)
def hasDst (k : Int) : Bool := decide (k ≠ 17) && decide (k ≠ 19) && decide (k ≠ 20) && decide (k ≠ 21) && decide (k ≠ 22)
def hasA (k : Int) : Bool := decide (k ≠ 1) && decide (k ≠ 18)
def hasB (k : Int) : Bool := decide (3 ≤ k) && decide (k ≤ 15) || decide (k = 17) || decide (k = 23) || decide (k = 24)
def hasC (k : Int) : Bool := decide (k = 12)
def arrK (k : Int) : Bool := decide (k = 16) || decide (k = 17) || decide (k = 25)
def cellK (k : Int) : Bool := decide (k = 18) || decide (k = 19)
def endA (k : Int) : Bool := decide (k ≠ 1)
def endTo (k : Int) : Bool := decide (k = 1) || decide (k = 2)
def endElse (k : Int) : Bool := decide (k = 2)
section
variable {X : Cx} {st : St}
theorem j_r07_One (h : On X) (k : Int) : J X.P X.F X.H (.call 26 [.sc (.int .i64 k)] st (.ret (.sc (.bool (oneK k)))) st) := by
  refine pure_intro (by rw [h.F]; rfl) rfl ?_
  unfold oneK
  simp only [v_r07_One, kB, kC, cellsOf, fillA, partsEv, zeroes, Nat.reduceSub, Int.reduceToNat, Nat.reduceMul, asInt?, asNat?, Int.reduceAdd, Int.reduceLE, Int.reduceLT, Int.reduceNeg, Nat.reduceLeDiff, VOpd.ev, Nat.reduceEqDiff, Nat.reduceAdd, reduceIte, reduceCtorEq, splice, resOf, tupOf, cellsV, AV.toV, AV.cell?, cellVal]
  repeat' first | (refine gO_t ?_ ?_ <;> (intro hc; simp only [*, kB, kC, cellsOf, fillA, partsEv, zeroes, Nat.reduceSub, Int.reduceToNat, Nat.reduceMul, asInt?, asNat?, Int.reduceAdd, Int.reduceLE, Int.reduceLT, Int.reduceNeg, Nat.reduceLeDiff, VOpd.ev, Nat.reduceEqDiff, Nat.reduceAdd, reduceIte, reduceCtorEq, splice, resOf, tupOf, cellsV, AV.toV, AV.cell?, cellVal])) | (refine gO_f ?_ ?_ <;> (intro hc; simp only [*, kB, kC, cellsOf, fillA, partsEv, zeroes, Nat.reduceSub, Int.reduceToNat, Nat.reduceMul, asInt?, asNat?, Int.reduceAdd, Int.reduceLE, Int.reduceLT, Int.reduceNeg, Nat.reduceLeDiff, VOpd.ev, Nat.reduceEqDiff, Nat.reduceAdd, reduceIte, reduceCtorEq, splice, resOf, tupOf, cellsV, AV.toV, AV.cell?, cellVal])) | (refine condO_intro ?_ ?_ <;> (intro hc; simp only [*, kB, kC, cellsOf, fillA, partsEv, zeroes, Nat.reduceSub, Int.reduceToNat, Nat.reduceMul, asInt?, asNat?, Int.reduceAdd, Int.reduceLE, Int.reduceLT, Int.reduceNeg, Nat.reduceLeDiff, VOpd.ev, Nat.reduceEqDiff, Nat.reduceAdd, reduceIte, reduceCtorEq, splice, resOf, tupOf, cellsV, AV.toV, AV.cell?, cellVal]))
  all_goals first | exact ⟨_, rfl⟩ | exact ⟨rfl, _, rfl⟩ | exact ⟨trivial, _, rfl⟩ | exact ⟨[], (List.append_nil _).symm⟩
theorem j_r07_HasDst (h : On X) (k : Int) : J X.P X.F X.H (.call 57 [.sc (.int .i64 k)] st (.ret (.sc (.bool (hasDst k)))) st) := by
  refine pure_intro (by rw [h.F]; rfl) rfl ?_
  unfold hasDst
  simp only [v_r07_HasDst, kB, kC, cellsOf, fillA, partsEv, zeroes, Nat.reduceSub, Int.reduceToNat, Nat.reduceMul, asInt?, asNat?, Int.reduceAdd, Int.reduceLE, Int.reduceLT, Int.reduceNeg, Nat.reduceLeDiff, VOpd.ev, Nat.reduceEqDiff, Nat.reduceAdd, reduceIte, reduceCtorEq, splice, resOf, tupOf, cellsV, AV.toV, AV.cell?, cellVal]
  repeat' first | (refine gO_t ?_ ?_ <;> (intro hc; simp only [*, kB, kC, cellsOf, fillA, partsEv, zeroes, Nat.reduceSub, Int.reduceToNat, Nat.reduceMul, asInt?, asNat?, Int.reduceAdd, Int.reduceLE, Int.reduceLT, Int.reduceNeg, Nat.reduceLeDiff, VOpd.ev, Nat.reduceEqDiff, Nat.reduceAdd, reduceIte, reduceCtorEq, splice, resOf, tupOf, cellsV, AV.toV, AV.cell?, cellVal])) | (refine gO_f ?_ ?_ <;> (intro hc; simp only [*, kB, kC, cellsOf, fillA, partsEv, zeroes, Nat.reduceSub, Int.reduceToNat, Nat.reduceMul, asInt?, asNat?, Int.reduceAdd, Int.reduceLE, Int.reduceLT, Int.reduceNeg, Nat.reduceLeDiff, VOpd.ev, Nat.reduceEqDiff, Nat.reduceAdd, reduceIte, reduceCtorEq, splice, resOf, tupOf, cellsV, AV.toV, AV.cell?, cellVal])) | (refine condO_intro ?_ ?_ <;> (intro hc; simp only [*, kB, kC, cellsOf, fillA, partsEv, zeroes, Nat.reduceSub, Int.reduceToNat, Nat.reduceMul, asInt?, asNat?, Int.reduceAdd, Int.reduceLE, Int.reduceLT, Int.reduceNeg, Nat.reduceLeDiff, VOpd.ev, Nat.reduceEqDiff, Nat.reduceAdd, reduceIte, reduceCtorEq, splice, resOf, tupOf, cellsV, AV.toV, AV.cell?, cellVal]))
  all_goals first | exact ⟨_, rfl⟩ | exact ⟨rfl, _, rfl⟩ | exact ⟨trivial, _, rfl⟩ | exact ⟨[], (List.append_nil _).symm⟩
theorem j_r07_HasA (h : On X) (k : Int) : J X.P X.F X.H (.call 60 [.sc (.int .i64 k)] st (.ret (.sc (.bool (hasA k)))) st) := by
  refine pure_intro (by rw [h.F]; rfl) rfl ?_
  unfold hasA
  simp only [v_r07_HasA, kB, kC, cellsOf, fillA, partsEv, zeroes, Nat.reduceSub, Int.reduceToNat, Nat.reduceMul, asInt?, asNat?, Int.reduceAdd, Int.reduceLE, Int.reduceLT, Int.reduceNeg, Nat.reduceLeDiff, VOpd.ev, Nat.reduceEqDiff, Nat.reduceAdd, reduceIte, reduceCtorEq, splice, resOf, tupOf, cellsV, AV.toV, AV.cell?, cellVal]
  repeat' first | (refine gO_t ?_ ?_ <;> (intro hc; simp only [*, kB, kC, cellsOf, fillA, partsEv, zeroes, Nat.reduceSub, Int.reduceToNat, Nat.reduceMul, asInt?, asNat?, Int.reduceAdd, Int.reduceLE, Int.reduceLT, Int.reduceNeg, Nat.reduceLeDiff, VOpd.ev, Nat.reduceEqDiff, Nat.reduceAdd, reduceIte, reduceCtorEq, splice, resOf, tupOf, cellsV, AV.toV, AV.cell?, cellVal])) | (refine gO_f ?_ ?_ <;> (intro hc; simp only [*, kB, kC, cellsOf, fillA, partsEv, zeroes, Nat.reduceSub, Int.reduceToNat, Nat.reduceMul, asInt?, asNat?, Int.reduceAdd, Int.reduceLE, Int.reduceLT, Int.reduceNeg, Nat.reduceLeDiff, VOpd.ev, Nat.reduceEqDiff, Nat.reduceAdd, reduceIte, reduceCtorEq, splice, resOf, tupOf, cellsV, AV.toV, AV.cell?, cellVal])) | (refine condO_intro ?_ ?_ <;> (intro hc; simp only [*, kB, kC, cellsOf, fillA, partsEv, zeroes, Nat.reduceSub, Int.reduceToNat, Nat.reduceMul, asInt?, asNat?, Int.reduceAdd, Int.reduceLE, Int.reduceLT, Int.reduceNeg, Nat.reduceLeDiff, VOpd.ev, Nat.reduceEqDiff, Nat.reduceAdd, reduceIte, reduceCtorEq, splice, resOf, tupOf, cellsV, AV.toV, AV.cell?, cellVal]))
  all_goals first | exact ⟨_, rfl⟩ | exact ⟨rfl, _, rfl⟩ | exact ⟨trivial, _, rfl⟩ | exact ⟨[], (List.append_nil _).symm⟩
theorem j_r07_HasB (h : On X) (k : Int) : J X.P X.F X.H (.call 61 [.sc (.int .i64 k)] st (.ret (.sc (.bool (hasB k)))) st) := by
  refine pure_intro (by rw [h.F]; rfl) rfl ?_
  unfold hasB
  simp only [v_r07_HasB, kB, kC, cellsOf, fillA, partsEv, zeroes, Nat.reduceSub, Int.reduceToNat, Nat.reduceMul, asInt?, asNat?, Int.reduceAdd, Int.reduceLE, Int.reduceLT, Int.reduceNeg, Nat.reduceLeDiff, VOpd.ev, Nat.reduceEqDiff, Nat.reduceAdd, reduceIte, reduceCtorEq, splice, resOf, tupOf, cellsV, AV.toV, AV.cell?, cellVal]
  repeat' first | (refine gO_t ?_ ?_ <;> (intro hc; simp only [*, kB, kC, cellsOf, fillA, partsEv, zeroes, Nat.reduceSub, Int.reduceToNat, Nat.reduceMul, asInt?, asNat?, Int.reduceAdd, Int.reduceLE, Int.reduceLT, Int.reduceNeg, Nat.reduceLeDiff, VOpd.ev, Nat.reduceEqDiff, Nat.reduceAdd, reduceIte, reduceCtorEq, splice, resOf, tupOf, cellsV, AV.toV, AV.cell?, cellVal])) | (refine gO_f ?_ ?_ <;> (intro hc; simp only [*, kB, kC, cellsOf, fillA, partsEv, zeroes, Nat.reduceSub, Int.reduceToNat, Nat.reduceMul, asInt?, asNat?, Int.reduceAdd, Int.reduceLE, Int.reduceLT, Int.reduceNeg, Nat.reduceLeDiff, VOpd.ev, Nat.reduceEqDiff, Nat.reduceAdd, reduceIte, reduceCtorEq, splice, resOf, tupOf, cellsV, AV.toV, AV.cell?, cellVal])) | (refine condO_intro ?_ ?_ <;> (intro hc; simp only [*, kB, kC, cellsOf, fillA, partsEv, zeroes, Nat.reduceSub, Int.reduceToNat, Nat.reduceMul, asInt?, asNat?, Int.reduceAdd, Int.reduceLE, Int.reduceLT, Int.reduceNeg, Nat.reduceLeDiff, VOpd.ev, Nat.reduceEqDiff, Nat.reduceAdd, reduceIte, reduceCtorEq, splice, resOf, tupOf, cellsV, AV.toV, AV.cell?, cellVal]))
  all_goals first | exact ⟨_, rfl⟩ | exact ⟨rfl, _, rfl⟩ | exact ⟨trivial, _, rfl⟩ | exact ⟨[], (List.append_nil _).symm⟩
theorem j_r07_HasC (h : On X) (k : Int) : J X.P X.F X.H (.call 62 [.sc (.int .i64 k)] st (.ret (.sc (.bool (hasC k)))) st) := by
  refine pure_intro (by rw [h.F]; rfl) rfl ?_
  unfold hasC
  simp only [v_r07_HasC, kB, kC, cellsOf, fillA, partsEv, zeroes, Nat.reduceSub, Int.reduceToNat, Nat.reduceMul, asInt?, asNat?, Int.reduceAdd, Int.reduceLE, Int.reduceLT, Int.reduceNeg, Nat.reduceLeDiff, VOpd.ev, Nat.reduceEqDiff, Nat.reduceAdd, reduceIte, reduceCtorEq, splice, resOf, tupOf, cellsV, AV.toV, AV.cell?, cellVal]
  repeat' first | (refine gO_t ?_ ?_ <;> (intro hc; simp only [*, kB, kC, cellsOf, fillA, partsEv, zeroes, Nat.reduceSub, Int.reduceToNat, Nat.reduceMul, asInt?, asNat?, Int.reduceAdd, Int.reduceLE, Int.reduceLT, Int.reduceNeg, Nat.reduceLeDiff, VOpd.ev, Nat.reduceEqDiff, Nat.reduceAdd, reduceIte, reduceCtorEq, splice, resOf, tupOf, cellsV, AV.toV, AV.cell?, cellVal])) | (refine gO_f ?_ ?_ <;> (intro hc; simp only [*, kB, kC, cellsOf, fillA, partsEv, zeroes, Nat.reduceSub, Int.reduceToNat, Nat.reduceMul, asInt?, asNat?, Int.reduceAdd, Int.reduceLE, Int.reduceLT, Int.reduceNeg, Nat.reduceLeDiff, VOpd.ev, Nat.reduceEqDiff, Nat.reduceAdd, reduceIte, reduceCtorEq, splice, resOf, tupOf, cellsV, AV.toV, AV.cell?, cellVal])) | (refine condO_intro ?_ ?_ <;> (intro hc; simp only [*, kB, kC, cellsOf, fillA, partsEv, zeroes, Nat.reduceSub, Int.reduceToNat, Nat.reduceMul, asInt?, asNat?, Int.reduceAdd, Int.reduceLE, Int.reduceLT, Int.reduceNeg, Nat.reduceLeDiff, VOpd.ev, Nat.reduceEqDiff, Nat.reduceAdd, reduceIte, reduceCtorEq, splice, resOf, tupOf, cellsV, AV.toV, AV.cell?, cellVal]))
  all_goals first | exact ⟨_, rfl⟩ | exact ⟨rfl, _, rfl⟩ | exact ⟨trivial, _, rfl⟩ | exact ⟨[], (List.append_nil _).symm⟩
theorem j_r07_Array (h : On X) (k : Int) : J X.P X.F X.H (.call 87 [.sc (.int .i64 k)] st (.ret (.sc (.bool (arrK k)))) st) := by
  refine pure_intro (by rw [h.F]; rfl) rfl ?_
  unfold arrK
  simp only [v_r07_Array, kB, kC, cellsOf, fillA, partsEv, zeroes, Nat.reduceSub, Int.reduceToNat, Nat.reduceMul, asInt?, asNat?, Int.reduceAdd, Int.reduceLE, Int.reduceLT, Int.reduceNeg, Nat.reduceLeDiff, VOpd.ev, Nat.reduceEqDiff, Nat.reduceAdd, reduceIte, reduceCtorEq, splice, resOf, tupOf, cellsV, AV.toV, AV.cell?, cellVal]
  repeat' first | (refine gO_t ?_ ?_ <;> (intro hc; simp only [*, kB, kC, cellsOf, fillA, partsEv, zeroes, Nat.reduceSub, Int.reduceToNat, Nat.reduceMul, asInt?, asNat?, Int.reduceAdd, Int.reduceLE, Int.reduceLT, Int.reduceNeg, Nat.reduceLeDiff, VOpd.ev, Nat.reduceEqDiff, Nat.reduceAdd, reduceIte, reduceCtorEq, splice, resOf, tupOf, cellsV, AV.toV, AV.cell?, cellVal])) | (refine gO_f ?_ ?_ <;> (intro hc; simp only [*, kB, kC, cellsOf, fillA, partsEv, zeroes, Nat.reduceSub, Int.reduceToNat, Nat.reduceMul, asInt?, asNat?, Int.reduceAdd, Int.reduceLE, Int.reduceLT, Int.reduceNeg, Nat.reduceLeDiff, VOpd.ev, Nat.reduceEqDiff, Nat.reduceAdd, reduceIte, reduceCtorEq, splice, resOf, tupOf, cellsV, AV.toV, AV.cell?, cellVal])) | (refine condO_intro ?_ ?_ <;> (intro hc; simp only [*, kB, kC, cellsOf, fillA, partsEv, zeroes, Nat.reduceSub, Int.reduceToNat, Nat.reduceMul, asInt?, asNat?, Int.reduceAdd, Int.reduceLE, Int.reduceLT, Int.reduceNeg, Nat.reduceLeDiff, VOpd.ev, Nat.reduceEqDiff, Nat.reduceAdd, reduceIte, reduceCtorEq, splice, resOf, tupOf, cellsV, AV.toV, AV.cell?, cellVal]))
  all_goals first | exact ⟨_, rfl⟩ | exact ⟨rfl, _, rfl⟩ | exact ⟨trivial, _, rfl⟩ | exact ⟨[], (List.append_nil _).symm⟩
theorem j_r07_Cell (h : On X) (k : Int) : J X.P X.F X.H (.call 88 [.sc (.int .i64 k)] st (.ret (.sc (.bool (cellK k)))) st) := by
  refine pure_intro (by rw [h.F]; rfl) rfl ?_
  unfold cellK
  simp only [v_r07_Cell, kB, kC, cellsOf, fillA, partsEv, zeroes, Nat.reduceSub, Int.reduceToNat, Nat.reduceMul, asInt?, asNat?, Int.reduceAdd, Int.reduceLE, Int.reduceLT, Int.reduceNeg, Nat.reduceLeDiff, VOpd.ev, Nat.reduceEqDiff, Nat.reduceAdd, reduceIte, reduceCtorEq, splice, resOf, tupOf, cellsV, AV.toV, AV.cell?, cellVal]
  repeat' first | (refine gO_t ?_ ?_ <;> (intro hc; simp only [*, kB, kC, cellsOf, fillA, partsEv, zeroes, Nat.reduceSub, Int.reduceToNat, Nat.reduceMul, asInt?, asNat?, Int.reduceAdd, Int.reduceLE, Int.reduceLT, Int.reduceNeg, Nat.reduceLeDiff, VOpd.ev, Nat.reduceEqDiff, Nat.reduceAdd, reduceIte, reduceCtorEq, splice, resOf, tupOf, cellsV, AV.toV, AV.cell?, cellVal])) | (refine gO_f ?_ ?_ <;> (intro hc; simp only [*, kB, kC, cellsOf, fillA, partsEv, zeroes, Nat.reduceSub, Int.reduceToNat, Nat.reduceMul, asInt?, asNat?, Int.reduceAdd, Int.reduceLE, Int.reduceLT, Int.reduceNeg, Nat.reduceLeDiff, VOpd.ev, Nat.reduceEqDiff, Nat.reduceAdd, reduceIte, reduceCtorEq, splice, resOf, tupOf, cellsV, AV.toV, AV.cell?, cellVal])) | (refine condO_intro ?_ ?_ <;> (intro hc; simp only [*, kB, kC, cellsOf, fillA, partsEv, zeroes, Nat.reduceSub, Int.reduceToNat, Nat.reduceMul, asInt?, asNat?, Int.reduceAdd, Int.reduceLE, Int.reduceLT, Int.reduceNeg, Nat.reduceLeDiff, VOpd.ev, Nat.reduceEqDiff, Nat.reduceAdd, reduceIte, reduceCtorEq, splice, resOf, tupOf, cellsV, AV.toV, AV.cell?, cellVal]))
  all_goals first | exact ⟨_, rfl⟩ | exact ⟨rfl, _, rfl⟩ | exact ⟨trivial, _, rfl⟩ | exact ⟨[], (List.append_nil _).symm⟩
theorem j_r07_EndA (h : On X) (k : Int) : J X.P X.F X.H (.call 63 [.sc (.int .i64 k)] st (.ret (.sc (.bool (endA k)))) st) := by
  refine pure_intro (by rw [h.F]; rfl) rfl ?_
  unfold endA
  simp only [v_r07_EndA, kB, kC, cellsOf, fillA, partsEv, zeroes, Nat.reduceSub, Int.reduceToNat, Nat.reduceMul, asInt?, asNat?, Int.reduceAdd, Int.reduceLE, Int.reduceLT, Int.reduceNeg, Nat.reduceLeDiff, VOpd.ev, Nat.reduceEqDiff, Nat.reduceAdd, reduceIte, reduceCtorEq, splice, resOf, tupOf, cellsV, AV.toV, AV.cell?, cellVal]
  repeat' first | (refine gO_t ?_ ?_ <;> (intro hc; simp only [*, kB, kC, cellsOf, fillA, partsEv, zeroes, Nat.reduceSub, Int.reduceToNat, Nat.reduceMul, asInt?, asNat?, Int.reduceAdd, Int.reduceLE, Int.reduceLT, Int.reduceNeg, Nat.reduceLeDiff, VOpd.ev, Nat.reduceEqDiff, Nat.reduceAdd, reduceIte, reduceCtorEq, splice, resOf, tupOf, cellsV, AV.toV, AV.cell?, cellVal])) | (refine gO_f ?_ ?_ <;> (intro hc; simp only [*, kB, kC, cellsOf, fillA, partsEv, zeroes, Nat.reduceSub, Int.reduceToNat, Nat.reduceMul, asInt?, asNat?, Int.reduceAdd, Int.reduceLE, Int.reduceLT, Int.reduceNeg, Nat.reduceLeDiff, VOpd.ev, Nat.reduceEqDiff, Nat.reduceAdd, reduceIte, reduceCtorEq, splice, resOf, tupOf, cellsV, AV.toV, AV.cell?, cellVal])) | (refine condO_intro ?_ ?_ <;> (intro hc; simp only [*, kB, kC, cellsOf, fillA, partsEv, zeroes, Nat.reduceSub, Int.reduceToNat, Nat.reduceMul, asInt?, asNat?, Int.reduceAdd, Int.reduceLE, Int.reduceLT, Int.reduceNeg, Nat.reduceLeDiff, VOpd.ev, Nat.reduceEqDiff, Nat.reduceAdd, reduceIte, reduceCtorEq, splice, resOf, tupOf, cellsV, AV.toV, AV.cell?, cellVal]))
  all_goals first | exact ⟨_, rfl⟩ | exact ⟨rfl, _, rfl⟩ | exact ⟨trivial, _, rfl⟩ | exact ⟨[], (List.append_nil _).symm⟩
theorem j_r07_EndTo (h : On X) (k : Int) : J X.P X.F X.H (.call 64 [.sc (.int .i64 k)] st (.ret (.sc (.bool (endTo k)))) st) := by
  refine pure_intro (by rw [h.F]; rfl) rfl ?_
  unfold endTo
  simp only [v_r07_EndTo, kB, kC, cellsOf, fillA, partsEv, zeroes, Nat.reduceSub, Int.reduceToNat, Nat.reduceMul, asInt?, asNat?, Int.reduceAdd, Int.reduceLE, Int.reduceLT, Int.reduceNeg, Nat.reduceLeDiff, VOpd.ev, Nat.reduceEqDiff, Nat.reduceAdd, reduceIte, reduceCtorEq, splice, resOf, tupOf, cellsV, AV.toV, AV.cell?, cellVal]
  repeat' first | (refine gO_t ?_ ?_ <;> (intro hc; simp only [*, kB, kC, cellsOf, fillA, partsEv, zeroes, Nat.reduceSub, Int.reduceToNat, Nat.reduceMul, asInt?, asNat?, Int.reduceAdd, Int.reduceLE, Int.reduceLT, Int.reduceNeg, Nat.reduceLeDiff, VOpd.ev, Nat.reduceEqDiff, Nat.reduceAdd, reduceIte, reduceCtorEq, splice, resOf, tupOf, cellsV, AV.toV, AV.cell?, cellVal])) | (refine gO_f ?_ ?_ <;> (intro hc; simp only [*, kB, kC, cellsOf, fillA, partsEv, zeroes, Nat.reduceSub, Int.reduceToNat, Nat.reduceMul, asInt?, asNat?, Int.reduceAdd, Int.reduceLE, Int.reduceLT, Int.reduceNeg, Nat.reduceLeDiff, VOpd.ev, Nat.reduceEqDiff, Nat.reduceAdd, reduceIte, reduceCtorEq, splice, resOf, tupOf, cellsV, AV.toV, AV.cell?, cellVal])) | (refine condO_intro ?_ ?_ <;> (intro hc; simp only [*, kB, kC, cellsOf, fillA, partsEv, zeroes, Nat.reduceSub, Int.reduceToNat, Nat.reduceMul, asInt?, asNat?, Int.reduceAdd, Int.reduceLE, Int.reduceLT, Int.reduceNeg, Nat.reduceLeDiff, VOpd.ev, Nat.reduceEqDiff, Nat.reduceAdd, reduceIte, reduceCtorEq, splice, resOf, tupOf, cellsV, AV.toV, AV.cell?, cellVal]))
  all_goals first | exact ⟨_, rfl⟩ | exact ⟨rfl, _, rfl⟩ | exact ⟨trivial, _, rfl⟩ | exact ⟨[], (List.append_nil _).symm⟩
theorem j_r07_EndElse (h : On X) (k : Int) : J X.P X.F X.H (.call 65 [.sc (.int .i64 k)] st (.ret (.sc (.bool (endElse k)))) st) := by
  refine pure_intro (by rw [h.F]; rfl) rfl ?_
  unfold endElse
  simp only [v_r07_EndElse, kB, kC, cellsOf, fillA, partsEv, zeroes, Nat.reduceSub, Int.reduceToNat, Nat.reduceMul, asInt?, asNat?, Int.reduceAdd, Int.reduceLE, Int.reduceLT, Int.reduceNeg, Nat.reduceLeDiff, VOpd.ev, Nat.reduceEqDiff, Nat.reduceAdd, reduceIte, reduceCtorEq, splice, resOf, tupOf, cellsV, AV.toV, AV.cell?, cellVal]
  repeat' first | (refine gO_t ?_ ?_ <;> (intro hc; simp only [*, kB, kC, cellsOf, fillA, partsEv, zeroes, Nat.reduceSub, Int.reduceToNat, Nat.reduceMul, asInt?, asNat?, Int.reduceAdd, Int.reduceLE, Int.reduceLT, Int.reduceNeg, Nat.reduceLeDiff, VOpd.ev, Nat.reduceEqDiff, Nat.reduceAdd, reduceIte, reduceCtorEq, splice, resOf, tupOf, cellsV, AV.toV, AV.cell?, cellVal])) | (refine gO_f ?_ ?_ <;> (intro hc; simp only [*, kB, kC, cellsOf, fillA, partsEv, zeroes, Nat.reduceSub, Int.reduceToNat, Nat.reduceMul, asInt?, asNat?, Int.reduceAdd, Int.reduceLE, Int.reduceLT, Int.reduceNeg, Nat.reduceLeDiff, VOpd.ev, Nat.reduceEqDiff, Nat.reduceAdd, reduceIte, reduceCtorEq, splice, resOf, tupOf, cellsV, AV.toV, AV.cell?, cellVal])) | (refine condO_intro ?_ ?_ <;> (intro hc; simp only [*, kB, kC, cellsOf, fillA, partsEv, zeroes, Nat.reduceSub, Int.reduceToNat, Nat.reduceMul, asInt?, asNat?, Int.reduceAdd, Int.reduceLE, Int.reduceLT, Int.reduceNeg, Nat.reduceLeDiff, VOpd.ev, Nat.reduceEqDiff, Nat.reduceAdd, reduceIte, reduceCtorEq, splice, resOf, tupOf, cellsV, AV.toV, AV.cell?, cellVal]))
  all_goals first | exact ⟨_, rfl⟩ | exact ⟨rfl, _, rfl⟩ | exact ⟨trivial, _, rfl⟩ | exact ⟨[], (List.append_nil _).symm⟩
end
end Go.VX.Seat
end
section
set_option linter.unusedVariables false
set_option linter.unusedSimpArgs false
namespace Go.VX.Seat
def regOkA (regs r : Int) : Bool := decide (0 ≤ r) && decide (r < regs)
section
variable {X : Cx} {st : St}
theorem j_r07_HasN (h : On X) (k : Int) : J X.P X.F X.H (.call 75 [.sc (.int .i64 k)] st (.ret (.sc (.bool (decide (k = 1) || arrK k || cellK k || decide (k = 21))))) st) := by
  refine pure_intro (by rw [h.F]; rfl) rfl ?_
  simp only [v_r07_HasN, kB, kC, cellsOf, fillA, partsEv, zeroes, Nat.reduceSub, Int.reduceToNat, Nat.reduceMul, asInt?, asNat?, Int.reduceAdd, Int.reduceLE, Int.reduceLT, Int.reduceNeg, Nat.reduceLeDiff, VOpd.ev, Nat.reduceEqDiff, Nat.reduceAdd, reduceIte, reduceCtorEq, splice, resOf, tupOf, cellsV, AV.toV, AV.cell?, cellVal]
  repeat' first
    | refine callO_same (j_r07_Array h _) ?_; simp only [kB, kC, cellsOf, fillA, partsEv, zeroes, Nat.reduceSub, Int.reduceToNat, Nat.reduceMul, asInt?, asNat?, Int.reduceAdd, Int.reduceLE, Int.reduceLT, Int.reduceNeg, Nat.reduceLeDiff, VOpd.ev, Nat.reduceEqDiff, Nat.reduceAdd, reduceIte, reduceCtorEq, splice, resOf, tupOf, cellsV, AV.toV, AV.cell?, cellVal]
    | refine callO_same (j_r07_Cell h _) ?_; simp only [kB, kC, cellsOf, fillA, partsEv, zeroes, Nat.reduceSub, Int.reduceToNat, Nat.reduceMul, asInt?, asNat?, Int.reduceAdd, Int.reduceLE, Int.reduceLT, Int.reduceNeg, Nat.reduceLeDiff, VOpd.ev, Nat.reduceEqDiff, Nat.reduceAdd, reduceIte, reduceCtorEq, splice, resOf, tupOf, cellsV, AV.toV, AV.cell?, cellVal]
    | first | (refine gO_t ?_ ?_ <;> (intro hc; simp only [*, kB, kC, cellsOf, fillA, partsEv, zeroes, Nat.reduceSub, Int.reduceToNat, Nat.reduceMul, asInt?, asNat?, Int.reduceAdd, Int.reduceLE, Int.reduceLT, Int.reduceNeg, Nat.reduceLeDiff, VOpd.ev, Nat.reduceEqDiff, Nat.reduceAdd, reduceIte, reduceCtorEq, splice, resOf, tupOf, cellsV, AV.toV, AV.cell?, cellVal])) | (refine gO_f ?_ ?_ <;> (intro hc; simp only [*, kB, kC, cellsOf, fillA, partsEv, zeroes, Nat.reduceSub, Int.reduceToNat, Nat.reduceMul, asInt?, asNat?, Int.reduceAdd, Int.reduceLE, Int.reduceLT, Int.reduceNeg, Nat.reduceLeDiff, VOpd.ev, Nat.reduceEqDiff, Nat.reduceAdd, reduceIte, reduceCtorEq, splice, resOf, tupOf, cellsV, AV.toV, AV.cell?, cellVal])) | (refine condO_intro ?_ ?_ <;> (intro hc; simp only [*, kB, kC, cellsOf, fillA, partsEv, zeroes, Nat.reduceSub, Int.reduceToNat, Nat.reduceMul, asInt?, asNat?, Int.reduceAdd, Int.reduceLE, Int.reduceLT, Int.reduceNeg, Nat.reduceLeDiff, VOpd.ev, Nat.reduceEqDiff, Nat.reduceAdd, reduceIte, reduceCtorEq, splice, resOf, tupOf, cellsV, AV.toV, AV.cell?, cellVal]))
  all_goals first | exact ⟨_, rfl⟩ | exact ⟨rfl, _, rfl⟩ | exact ⟨trivial, _, rfl⟩ | exact ⟨[], (List.append_nil _).symm⟩
theorem j_r07_register (h : On X) (s p c sp bl : AV) (regs r : Int) : J X.P X.F X.H (.call 50 [.agg [s, p, .sc (.int .i64 regs), c, sp, bl], .sc (.int .i64 r)] st (.ret (.sc (.bool (regOkA regs r)))) st) := by
  refine pure_intro (by rw [h.F]; rfl) rfl ?_
  unfold regOkA
  simp only [v_r07_register, kB, kC, cellsOf, fillA, partsEv, zeroes, Nat.reduceSub, Int.reduceToNat, Nat.reduceMul, asInt?, asNat?, Int.reduceAdd, Int.reduceLE, Int.reduceLT, Int.reduceNeg, Nat.reduceLeDiff, VOpd.ev, Nat.reduceEqDiff, Nat.reduceAdd, reduceIte, reduceCtorEq, splice, resOf, tupOf, cellsV, AV.toV, AV.cell?, cellVal]
  repeat' first
    | first | (refine gO_t ?_ ?_ <;> (intro hc; simp only [*, kB, kC, cellsOf, fillA, partsEv, zeroes, Nat.reduceSub, Int.reduceToNat, Nat.reduceMul, asInt?, asNat?, Int.reduceAdd, Int.reduceLE, Int.reduceLT, Int.reduceNeg, Nat.reduceLeDiff, VOpd.ev, Nat.reduceEqDiff, Nat.reduceAdd, reduceIte, reduceCtorEq, splice, resOf, tupOf, cellsV, AV.toV, AV.cell?, cellVal])) | (refine gO_f ?_ ?_ <;> (intro hc; simp only [*, kB, kC, cellsOf, fillA, partsEv, zeroes, Nat.reduceSub, Int.reduceToNat, Nat.reduceMul, asInt?, asNat?, Int.reduceAdd, Int.reduceLE, Int.reduceLT, Int.reduceNeg, Nat.reduceLeDiff, VOpd.ev, Nat.reduceEqDiff, Nat.reduceAdd, reduceIte, reduceCtorEq, splice, resOf, tupOf, cellsV, AV.toV, AV.cell?, cellVal])) | (refine condO_intro ?_ ?_ <;> (intro hc; simp only [*, kB, kC, cellsOf, fillA, partsEv, zeroes, Nat.reduceSub, Int.reduceToNat, Nat.reduceMul, asInt?, asNat?, Int.reduceAdd, Int.reduceLE, Int.reduceLT, Int.reduceNeg, Nat.reduceLeDiff, VOpd.ev, Nat.reduceEqDiff, Nat.reduceAdd, reduceIte, reduceCtorEq, splice, resOf, tupOf, cellsV, AV.toV, AV.cell?, cellVal]))
  all_goals first | exact ⟨_, rfl⟩ | exact ⟨rfl, _, rfl⟩ | exact ⟨trivial, _, rfl⟩ | exact ⟨[], (List.append_nil _).symm⟩
theorem j_r07_there (h : On X) (s p g c sp bl : AV) (nb : Nat) (r : Int) (hb : lenA bl = some nb) : J X.P X.F X.H (.call 89 [.agg [s, p, g, c, sp, bl], .sc (.int .i64 r)] st (.ret (.sc (.bool (regOkA nb r)))) st) := by
  refine pure_intro (by rw [h.F]; rfl) rfl ?_
  unfold regOkA
  simp only [v_r07_there, hb, kB, kC, cellsOf, fillA, partsEv, zeroes, Nat.reduceSub, Int.reduceToNat, Nat.reduceMul, asInt?, asNat?, Int.reduceAdd, Int.reduceLE, Int.reduceLT, Int.reduceNeg, Nat.reduceLeDiff, VOpd.ev, Nat.reduceEqDiff, Nat.reduceAdd, reduceIte, reduceCtorEq, splice, resOf, tupOf, cellsV, AV.toV, AV.cell?, cellVal]
  repeat' first
    | first | (refine gO_t ?_ ?_ <;> (intro hc; simp only [*, kB, kC, cellsOf, fillA, partsEv, zeroes, Nat.reduceSub, Int.reduceToNat, Nat.reduceMul, asInt?, asNat?, Int.reduceAdd, Int.reduceLE, Int.reduceLT, Int.reduceNeg, Nat.reduceLeDiff, VOpd.ev, Nat.reduceEqDiff, Nat.reduceAdd, reduceIte, reduceCtorEq, splice, resOf, tupOf, cellsV, AV.toV, AV.cell?, cellVal])) | (refine gO_f ?_ ?_ <;> (intro hc; simp only [*, kB, kC, cellsOf, fillA, partsEv, zeroes, Nat.reduceSub, Int.reduceToNat, Nat.reduceMul, asInt?, asNat?, Int.reduceAdd, Int.reduceLE, Int.reduceLT, Int.reduceNeg, Nat.reduceLeDiff, VOpd.ev, Nat.reduceEqDiff, Nat.reduceAdd, reduceIte, reduceCtorEq, splice, resOf, tupOf, cellsV, AV.toV, AV.cell?, cellVal])) | (refine condO_intro ?_ ?_ <;> (intro hc; simp only [*, kB, kC, cellsOf, fillA, partsEv, zeroes, Nat.reduceSub, Int.reduceToNat, Nat.reduceMul, asInt?, asNat?, Int.reduceAdd, Int.reduceLE, Int.reduceLT, Int.reduceNeg, Nat.reduceLeDiff, VOpd.ev, Nat.reduceEqDiff, Nat.reduceAdd, reduceIte, reduceCtorEq, splice, resOf, tupOf, cellsV, AV.toV, AV.cell?, cellVal]))
    | simp only [hb, Option.map_some, kB, kC, cellsOf, fillA, partsEv, zeroes, Nat.reduceSub, Int.reduceToNat, Nat.reduceMul, asInt?, asNat?, Int.reduceAdd, Int.reduceLE, Int.reduceLT, Int.reduceNeg, Nat.reduceLeDiff, VOpd.ev, Nat.reduceEqDiff, Nat.reduceAdd, reduceIte, reduceCtorEq, splice, resOf, tupOf, cellsV, AV.toV, AV.cell?, cellVal]
  all_goals first | exact ⟨_, rfl⟩ | exact ⟨rfl, _, rfl⟩ | exact ⟨trivial, _, rfl⟩ | exact ⟨[], (List.append_nil _).symm⟩

def hasN (k : Int) : Bool := decide (k = 1) || arrK k || cellK k || decide (k = 21)
def manyOf (ns nb : Nat) (spill k : Int) : Int := if arrK k then ns else if cellK k then spill else if decide (k = 21) then nb else -1
/-- The error of an operation. -/
def opErr (ns nb : Nat) (regs spill k d a b c n g : Int) : Int :=
  if oneK k = false then 4 else
  if (hasDst k && !regOkA regs d) || (hasA k && !regOkA regs a) || (hasB k && !regOkA regs b) || (hasC k && !regOkA regs c) then 2 else
  if decide (g ≠ -1) && !regOkA regs g then 2 else
  if decide (0 ≤ manyOf ns nb spill k) && (decide (n < 0) || decide (manyOf ns nb spill k ≤ n)) then 5 else
  if (!hasDst k && decide (d ≠ 0)) || (!hasA k && decide (a ≠ 0)) || (!hasB k && decide (b ≠ 0)) || (!hasC k && decide (c ≠ 0)) then 4 else
  if !hasN k && decide (n ≠ 0) then 4 else 0
end
end Go.VX.Seat
end
section
set_option linter.unusedVariables false
set_option linter.unusedSimpArgs false
set_option maxRecDepth 4000
namespace Go.VX.Seat
open Go.Proofs
theorem eq_int (d : Nat) (a b : Int) : closed Tryz.prog (Op.equalIn (d + 1) 3 (.int .i64 a) (.int .i64 b)) = some (a == b) := by kernel_rfl
theorem eq_int2 (d : Nat) (a b : Int) : closed Tryz.prog (Op.equalIn (d + 1) 2 (.int .i64 a) (.int .i64 b)) = some (a == b) := by kernel_rfl
def opEq (k d a b c n g k' d' a' b' c' n' g' : Int) : Bool := if k == k' then if d == d' then if a == a' then if b == b' then if c == c' then if n == n' then if g == g' then true else false else false else false else false else false else false else false
def endEq (k a t e k' a' t' e' : Int) : Bool := if k == k' then if a == a' then if t == t' then if e == e' then true else false else false else false else false
theorem opEq_iff (k d a b c n g k' d' a' b' c' n' g' : Int) : opEq k d a b c n g k' d' a' b' c' n' g' = true ↔ (k = k' ∧ d = d' ∧ a = a' ∧ b = b' ∧ c = c' ∧ n = n' ∧ g = g') := by
  unfold opEq
  repeat' split
  all_goals simp_all
theorem endEq_iff (k a t e k' a' t' e' : Int) : endEq k a t e k' a' t' e' = true ↔ (k = k' ∧ a = a' ∧ t = t' ∧ e = e') := by
  unfold endEq
  repeat' split
  all_goals simp_all
noncomputable def fl_op : List Field := (Tryz.prog.fieldsOf 46).toList
theorem fl_op_eq : fl_op = [fl_op.getD 0 default, fl_op.getD 1 default, fl_op.getD 2 default, fl_op.getD 3 default, fl_op.getD 4 default, fl_op.getD 5 default, fl_op.getD 6 default] := by kernel_rfl
theorem op_fields (k d a b c n g k' d' a' b' c' n' g' : Int) : closed Tryz.prog (Op.eqFields 9999 #[.int .i64 k, .int .i64 d, .int .i64 a, .int .i64 b, .int .i64 c, .int .i64 n, .int .i64 g] #[.int .i64 k', .int .i64 d', .int .i64 a', .int .i64 b', .int .i64 c', .int .i64 n', .int .i64 g'] fl_op) = some (opEq k d a b c n g k' d' a' b' c' n' g') := by
  rw [fl_op_eq]
  rw [closed_fields (a := .int .i64 k) (b := .int .i64 k') (r := k == k') (by kernel_rfl) (by kernel_rfl) (by kernel_rfl) (by kernel_rfl)]
  rw [closed_fields (a := .int .i64 d) (b := .int .i64 d') (r := d == d') (by kernel_rfl) (by kernel_rfl) (by kernel_rfl) (by kernel_rfl)]
  rw [closed_fields (a := .int .i64 a) (b := .int .i64 a') (r := a == a') (by kernel_rfl) (by kernel_rfl) (by kernel_rfl) (by kernel_rfl)]
  rw [closed_fields (a := .int .i64 b) (b := .int .i64 b') (r := b == b') (by kernel_rfl) (by kernel_rfl) (by kernel_rfl) (by kernel_rfl)]
  rw [closed_fields (a := .int .i64 c) (b := .int .i64 c') (r := c == c') (by kernel_rfl) (by kernel_rfl) (by kernel_rfl) (by kernel_rfl)]
  rw [closed_fields (a := .int .i64 n) (b := .int .i64 n') (r := n == n') (by kernel_rfl) (by kernel_rfl) (by kernel_rfl) (by kernel_rfl)]
  rw [closed_fields (a := .int .i64 g) (b := .int .i64 g') (r := g == g') (by kernel_rfl) (by kernel_rfl) (by kernel_rfl) (by kernel_rfl)]
  rw [closed_fields_nil]
  unfold opEq
  repeat' split
  all_goals rfl
theorem op_equal (k d a b c n g k' d' a' b' c' n' g' : Int) : closed Tryz.prog (Op.equal 46 (.agg #[.int .i64 k, .int .i64 d, .int .i64 a, .int .i64 b, .int .i64 c, .int .i64 n, .int .i64 g]) (.agg #[.int .i64 k', .int .i64 d', .int .i64 a', .int .i64 b', .int .i64 c', .int .i64 n', .int .i64 g'])) = some (opEq k d a b c n g k' d' a' b' c' n' g') := by
  unfold Op.equal Op.maxDepth
  rw [closed_struct (P := Tryz.prog) 9999 46 _ _ (fs := Tryz.prog.fieldsOf 46) (by kernel_rfl) (by kernel_rfl)]
  exact op_fields k d a b c n g k' d' a' b' c' n' g'
theorem c_neq_op (ox oy : Operand) (k d a b c n g k' d' a' b' c' n' g' : Int) :
    closed Tryz.prog (do eqGuard .neq 46 ox oy (.agg #[.int .i64 k, .int .i64 d, .int .i64 a, .int .i64 b, .int .i64 c, .int .i64 n, .int .i64 g]) (.agg #[.int .i64 k', .int .i64 d', .int .i64 a', .int .i64 b', .int .i64 c', .int .i64 n', .int .i64 g']); binOp .neq 46 (.agg #[.int .i64 k, .int .i64 d, .int .i64 a, .int .i64 b, .int .i64 c, .int .i64 n, .int .i64 g]) (.agg #[.int .i64 k', .int .i64 d', .int .i64 a', .int .i64 b', .int .i64 c', .int .i64 n', .int .i64 g'])) = some (.bool (!opEq k d a b c n g k' d' a' b' c' n' g')) := by
  rw [closed_bind]
  have h1 : closed Tryz.prog (eqGuard .neq 46 ox oy (.agg #[.int .i64 k, .int .i64 d, .int .i64 a, .int .i64 b, .int .i64 c, .int .i64 n, .int .i64 g]) (.agg #[.int .i64 k', .int .i64 d', .int .i64 a', .int .i64 b', .int .i64 c', .int .i64 n', .int .i64 g'])) = some () := by kernel_rfl
  rw [h1]
  simp only [Option.bind_some]
  have h2 : binOp .neq 46 (.agg #[.int .i64 k, .int .i64 d, .int .i64 a, .int .i64 b, .int .i64 c, .int .i64 n, .int .i64 g]) (.agg #[.int .i64 k', .int .i64 d', .int .i64 a', .int .i64 b', .int .i64 c', .int .i64 n', .int .i64 g']) = (do pure (Value.bool (!(← Op.equal 46 (.agg #[.int .i64 k, .int .i64 d, .int .i64 a, .int .i64 b, .int .i64 c, .int .i64 n, .int .i64 g]) (.agg #[.int .i64 k', .int .i64 d', .int .i64 a', .int .i64 b', .int .i64 c', .int .i64 n', .int .i64 g']))))) := rfl
  rw [h2, closed_bind, op_equal]
  rfl
noncomputable def fl_end : List Field := (Tryz.prog.fieldsOf 75).toList
theorem fl_end_eq : fl_end = [fl_end.getD 0 default, fl_end.getD 1 default, fl_end.getD 2 default, fl_end.getD 3 default] := by kernel_rfl
theorem end_fields (k a t e k' a' t' e' : Int) : closed Tryz.prog (Op.eqFields 9999 #[.int .i64 k, .int .i64 a, .int .i64 t, .int .i64 e] #[.int .i64 k', .int .i64 a', .int .i64 t', .int .i64 e'] fl_end) = some (endEq k a t e k' a' t' e') := by
  rw [fl_end_eq]
  rw [closed_fields (a := .int .i64 k) (b := .int .i64 k') (r := k == k') (by kernel_rfl) (by kernel_rfl) (by kernel_rfl) (by kernel_rfl)]
  rw [closed_fields (a := .int .i64 a) (b := .int .i64 a') (r := a == a') (by kernel_rfl) (by kernel_rfl) (by kernel_rfl) (by kernel_rfl)]
  rw [closed_fields (a := .int .i64 t) (b := .int .i64 t') (r := t == t') (by kernel_rfl) (by kernel_rfl) (by kernel_rfl) (by kernel_rfl)]
  rw [closed_fields (a := .int .i64 e) (b := .int .i64 e') (r := e == e') (by kernel_rfl) (by kernel_rfl) (by kernel_rfl) (by kernel_rfl)]
  rw [closed_fields_nil]
  unfold endEq
  repeat' split
  all_goals rfl
theorem end_equal (k a t e k' a' t' e' : Int) : closed Tryz.prog (Op.equal 75 (.agg #[.int .i64 k, .int .i64 a, .int .i64 t, .int .i64 e]) (.agg #[.int .i64 k', .int .i64 a', .int .i64 t', .int .i64 e'])) = some (endEq k a t e k' a' t' e') := by
  unfold Op.equal Op.maxDepth
  rw [closed_struct (P := Tryz.prog) 9999 75 _ _ (fs := Tryz.prog.fieldsOf 75) (by kernel_rfl) (by kernel_rfl)]
  exact end_fields k a t e k' a' t' e'
theorem c_neq_end (ox oy : Operand) (k a t e k' a' t' e' : Int) :
    closed Tryz.prog (do eqGuard .neq 75 ox oy (.agg #[.int .i64 k, .int .i64 a, .int .i64 t, .int .i64 e]) (.agg #[.int .i64 k', .int .i64 a', .int .i64 t', .int .i64 e']); binOp .neq 75 (.agg #[.int .i64 k, .int .i64 a, .int .i64 t, .int .i64 e]) (.agg #[.int .i64 k', .int .i64 a', .int .i64 t', .int .i64 e'])) = some (.bool (!endEq k a t e k' a' t' e')) := by
  rw [closed_bind]
  have h1 : closed Tryz.prog (eqGuard .neq 75 ox oy (.agg #[.int .i64 k, .int .i64 a, .int .i64 t, .int .i64 e]) (.agg #[.int .i64 k', .int .i64 a', .int .i64 t', .int .i64 e'])) = some () := by kernel_rfl
  rw [h1]
  simp only [Option.bind_some]
  have h2 : binOp .neq 75 (.agg #[.int .i64 k, .int .i64 a, .int .i64 t, .int .i64 e]) (.agg #[.int .i64 k', .int .i64 a', .int .i64 t', .int .i64 e']) = (do pure (Value.bool (!(← Op.equal 75 (.agg #[.int .i64 k, .int .i64 a, .int .i64 t, .int .i64 e]) (.agg #[.int .i64 k', .int .i64 a', .int .i64 t', .int .i64 e']))))) := rfl
  rw [h2, closed_bind, end_equal]
  rfl
end Go.VX.Seat
end
section
set_option linter.unusedVariables false
set_option linter.unusedSimpArgs false
set_option maxRecDepth 4000
namespace Go.VX.Seat
/-- The error of an End. -/
def endErr (nb : Nat) (regs k a t e : Int) : Int :=
  if decide (k < 1) || decide (4 < k) then 4 else
  if endA k && !regOkA regs a then 2 else
  if (endTo k && !regOkA nb t) || (endElse k && !regOkA nb e) then 5 else
  if (!endA k && decide (a ≠ 0)) || (!endTo k && decide (t ≠ 0)) || (!endElse k && decide (e ≠ 0)) then 4 else 0
section
variable {X : Cx} {st : St}
theorem j_r07_end (h : On X) (s p cd sp bl : AV) (nb : Nat) (hb : lenA bl = some nb) (regs k a t e : Int) :
    J X.P X.F X.H (.call 52 [.agg [s, p, iA regs, cd, sp, bl], .agg [iA k, iA a, iA t, iA e]] st (.ret (iA (endErr nb regs k a t e))) st) := by
  refine pure_intro (by rw [h.F]; rfl) rfl ?_
  unfold endErr
  simp only [v_r07_end, kB, kC, cellsOf, fillA, partsEv, zeroes, Nat.reduceSub, Int.reduceToNat, Nat.reduceMul, asInt?, asNat?, Int.reduceAdd, Int.reduceLE, Int.reduceLT, Int.reduceNeg, Nat.reduceLeDiff, VOpd.ev, Nat.reduceEqDiff, Nat.reduceAdd, reduceIte, reduceCtorEq, splice, resOf, tupOf, cellsV, AV.toV, AV.cell?, cellVal]
  refine cutG (mS m0) [2, 3] (fun _ => (decide (k < 1) || decide (4 < k)) = false) ?_ ?_
  · repeat' first | (refine callO_same (j_r07_EndA h _) ?_; simp only [*, kB, kC, cellsOf, fillA, partsEv, zeroes, Nat.reduceSub, Int.reduceToNat, Nat.reduceMul, asInt?, asNat?, Int.reduceAdd, Int.reduceLE, Int.reduceLT, Int.reduceNeg, Nat.reduceLeDiff, VOpd.ev, Nat.reduceEqDiff, Nat.reduceAdd, reduceIte, reduceCtorEq, splice, resOf, tupOf, cellsV, AV.toV, AV.cell?, cellVal]) | (refine callO_same (j_r07_EndTo h _) ?_; simp only [*, kB, kC, cellsOf, fillA, partsEv, zeroes, Nat.reduceSub, Int.reduceToNat, Nat.reduceMul, asInt?, asNat?, Int.reduceAdd, Int.reduceLE, Int.reduceLT, Int.reduceNeg, Nat.reduceLeDiff, VOpd.ev, Nat.reduceEqDiff, Nat.reduceAdd, reduceIte, reduceCtorEq, splice, resOf, tupOf, cellsV, AV.toV, AV.cell?, cellVal]) | (refine callO_same (j_r07_EndElse h _) ?_; simp only [*, kB, kC, cellsOf, fillA, partsEv, zeroes, Nat.reduceSub, Int.reduceToNat, Nat.reduceMul, asInt?, asNat?, Int.reduceAdd, Int.reduceLE, Int.reduceLT, Int.reduceNeg, Nat.reduceLeDiff, VOpd.ev, Nat.reduceEqDiff, Nat.reduceAdd, reduceIte, reduceCtorEq, splice, resOf, tupOf, cellsV, AV.toV, AV.cell?, cellVal]) | (refine callO_same (j_r07_there h _ _ _ _ _ _ _ _ hb) ?_; simp only [*, kB, kC, cellsOf, fillA, partsEv, zeroes, Nat.reduceSub, Int.reduceToNat, Nat.reduceMul, asInt?, asNat?, Int.reduceAdd, Int.reduceLE, Int.reduceLT, Int.reduceNeg, Nat.reduceLeDiff, VOpd.ev, Nat.reduceEqDiff, Nat.reduceAdd, reduceIte, reduceCtorEq, splice, resOf, tupOf, cellsV, AV.toV, AV.cell?, cellVal]) | (refine callO_same (j_r07_register h _ _ _ _ _ _ _) ?_; simp only [*, kB, kC, cellsOf, fillA, partsEv, zeroes, Nat.reduceSub, Int.reduceToNat, Nat.reduceMul, asInt?, asNat?, Int.reduceAdd, Int.reduceLE, Int.reduceLT, Int.reduceNeg, Nat.reduceLeDiff, VOpd.ev, Nat.reduceEqDiff, Nat.reduceAdd, reduceIte, reduceCtorEq, splice, resOf, tupOf, cellsV, AV.toV, AV.cell?, cellVal]) | (refine callO_same (j_r07_Array h _) ?_; simp only [*, kB, kC, cellsOf, fillA, partsEv, zeroes, Nat.reduceSub, Int.reduceToNat, Nat.reduceMul, asInt?, asNat?, Int.reduceAdd, Int.reduceLE, Int.reduceLT, Int.reduceNeg, Nat.reduceLeDiff, VOpd.ev, Nat.reduceEqDiff, Nat.reduceAdd, reduceIte, reduceCtorEq, splice, resOf, tupOf, cellsV, AV.toV, AV.cell?, cellVal]) | (refine callO_same (j_r07_Cell h _) ?_; simp only [*, kB, kC, cellsOf, fillA, partsEv, zeroes, Nat.reduceSub, Int.reduceToNat, Nat.reduceMul, asInt?, asNat?, Int.reduceAdd, Int.reduceLE, Int.reduceLT, Int.reduceNeg, Nat.reduceLeDiff, VOpd.ev, Nat.reduceEqDiff, Nat.reduceAdd, reduceIte, reduceCtorEq, splice, resOf, tupOf, cellsV, AV.toV, AV.cell?, cellVal]) | (refine callO_same (j_r07_HasN h _) ?_; simp only [*, kB, kC, cellsOf, fillA, partsEv, zeroes, Nat.reduceSub, Int.reduceToNat, Nat.reduceMul, asInt?, asNat?, Int.reduceAdd, Int.reduceLE, Int.reduceLT, Int.reduceNeg, Nat.reduceLeDiff, VOpd.ev, Nat.reduceEqDiff, Nat.reduceAdd, reduceIte, reduceCtorEq, splice, resOf, tupOf, cellsV, AV.toV, AV.cell?, cellVal]) | first | (refine gO_t ?_ ?_ <;> (intro hc; simp only [*, kB, kC, cellsOf, fillA, partsEv, zeroes, Nat.reduceSub, Int.reduceToNat, Nat.reduceMul, asInt?, asNat?, Int.reduceAdd, Int.reduceLE, Int.reduceLT, Int.reduceNeg, Nat.reduceLeDiff, VOpd.ev, Nat.reduceEqDiff, Nat.reduceAdd, reduceIte, reduceCtorEq, splice, resOf, tupOf, cellsV, AV.toV, AV.cell?, cellVal])) | (refine gO_f ?_ ?_ <;> (intro hc; simp only [*, kB, kC, cellsOf, fillA, partsEv, zeroes, Nat.reduceSub, Int.reduceToNat, Nat.reduceMul, asInt?, asNat?, Int.reduceAdd, Int.reduceLE, Int.reduceLT, Int.reduceNeg, Nat.reduceLeDiff, VOpd.ev, Nat.reduceEqDiff, Nat.reduceAdd, reduceIte, reduceCtorEq, splice, resOf, tupOf, cellsV, AV.toV, AV.cell?, cellVal])) | (refine condO_intro ?_ ?_ <;> (intro hc; simp only [*, kB, kC, cellsOf, fillA, partsEv, zeroes, Nat.reduceSub, Int.reduceToNat, Nat.reduceMul, asInt?, asNat?, Int.reduceAdd, Int.reduceLE, Int.reduceLT, Int.reduceNeg, Nat.reduceLeDiff, VOpd.ev, Nat.reduceEqDiff, Nat.reduceAdd, reduceIte, reduceCtorEq, splice, resOf, tupOf, cellsV, AV.toV, AV.cell?, cellVal]))
    all_goals first | exact ⟨_, rfl⟩ | exact ⟨rfl, _, rfl⟩ | exact ⟨trivial, _, rfl⟩ | exact ⟨[], (List.append_nil _).symm⟩
  · intro e1 hL hR
    simp only [hR, kB, kC, cellsOf, fillA, partsEv, zeroes, Nat.reduceSub, Int.reduceToNat, Nat.reduceMul, asInt?, asNat?, Int.reduceAdd, Int.reduceLE, Int.reduceLT, Int.reduceNeg, Nat.reduceLeDiff, VOpd.ev, Nat.reduceEqDiff, Nat.reduceAdd, reduceIte, reduceCtorEq, splice, resOf, tupOf, cellsV, AV.toV, AV.cell?, cellVal] at hL ⊢
    obtain ⟨h2, h3⟩ := hL
    simp only [*, kB, kC, cellsOf, fillA, partsEv, zeroes, Nat.reduceSub, Int.reduceToNat, Nat.reduceMul, asInt?, asNat?, Int.reduceAdd, Int.reduceLE, Int.reduceLT, Int.reduceNeg, Nat.reduceLeDiff, VOpd.ev, Nat.reduceEqDiff, Nat.reduceAdd, reduceIte, reduceCtorEq, splice, resOf, tupOf, cellsV, AV.toV, AV.cell?, cellVal]
    refine cutCall (mS m0) [2, 3] (fun _ => (endA k && !regOkA regs a) = false) ?_ ?_
    · repeat' first | (refine callO_same (j_r07_EndA h _) ?_; simp only [*, kB, kC, cellsOf, fillA, partsEv, zeroes, Nat.reduceSub, Int.reduceToNat, Nat.reduceMul, asInt?, asNat?, Int.reduceAdd, Int.reduceLE, Int.reduceLT, Int.reduceNeg, Nat.reduceLeDiff, VOpd.ev, Nat.reduceEqDiff, Nat.reduceAdd, reduceIte, reduceCtorEq, splice, resOf, tupOf, cellsV, AV.toV, AV.cell?, cellVal]) | (refine callO_same (j_r07_EndTo h _) ?_; simp only [*, kB, kC, cellsOf, fillA, partsEv, zeroes, Nat.reduceSub, Int.reduceToNat, Nat.reduceMul, asInt?, asNat?, Int.reduceAdd, Int.reduceLE, Int.reduceLT, Int.reduceNeg, Nat.reduceLeDiff, VOpd.ev, Nat.reduceEqDiff, Nat.reduceAdd, reduceIte, reduceCtorEq, splice, resOf, tupOf, cellsV, AV.toV, AV.cell?, cellVal]) | (refine callO_same (j_r07_EndElse h _) ?_; simp only [*, kB, kC, cellsOf, fillA, partsEv, zeroes, Nat.reduceSub, Int.reduceToNat, Nat.reduceMul, asInt?, asNat?, Int.reduceAdd, Int.reduceLE, Int.reduceLT, Int.reduceNeg, Nat.reduceLeDiff, VOpd.ev, Nat.reduceEqDiff, Nat.reduceAdd, reduceIte, reduceCtorEq, splice, resOf, tupOf, cellsV, AV.toV, AV.cell?, cellVal]) | (refine callO_same (j_r07_there h _ _ _ _ _ _ _ _ hb) ?_; simp only [*, kB, kC, cellsOf, fillA, partsEv, zeroes, Nat.reduceSub, Int.reduceToNat, Nat.reduceMul, asInt?, asNat?, Int.reduceAdd, Int.reduceLE, Int.reduceLT, Int.reduceNeg, Nat.reduceLeDiff, VOpd.ev, Nat.reduceEqDiff, Nat.reduceAdd, reduceIte, reduceCtorEq, splice, resOf, tupOf, cellsV, AV.toV, AV.cell?, cellVal]) | (refine callO_same (j_r07_register h _ _ _ _ _ _ _) ?_; simp only [*, kB, kC, cellsOf, fillA, partsEv, zeroes, Nat.reduceSub, Int.reduceToNat, Nat.reduceMul, asInt?, asNat?, Int.reduceAdd, Int.reduceLE, Int.reduceLT, Int.reduceNeg, Nat.reduceLeDiff, VOpd.ev, Nat.reduceEqDiff, Nat.reduceAdd, reduceIte, reduceCtorEq, splice, resOf, tupOf, cellsV, AV.toV, AV.cell?, cellVal]) | (refine callO_same (j_r07_Array h _) ?_; simp only [*, kB, kC, cellsOf, fillA, partsEv, zeroes, Nat.reduceSub, Int.reduceToNat, Nat.reduceMul, asInt?, asNat?, Int.reduceAdd, Int.reduceLE, Int.reduceLT, Int.reduceNeg, Nat.reduceLeDiff, VOpd.ev, Nat.reduceEqDiff, Nat.reduceAdd, reduceIte, reduceCtorEq, splice, resOf, tupOf, cellsV, AV.toV, AV.cell?, cellVal]) | (refine callO_same (j_r07_Cell h _) ?_; simp only [*, kB, kC, cellsOf, fillA, partsEv, zeroes, Nat.reduceSub, Int.reduceToNat, Nat.reduceMul, asInt?, asNat?, Int.reduceAdd, Int.reduceLE, Int.reduceLT, Int.reduceNeg, Nat.reduceLeDiff, VOpd.ev, Nat.reduceEqDiff, Nat.reduceAdd, reduceIte, reduceCtorEq, splice, resOf, tupOf, cellsV, AV.toV, AV.cell?, cellVal]) | (refine callO_same (j_r07_HasN h _) ?_; simp only [*, kB, kC, cellsOf, fillA, partsEv, zeroes, Nat.reduceSub, Int.reduceToNat, Nat.reduceMul, asInt?, asNat?, Int.reduceAdd, Int.reduceLE, Int.reduceLT, Int.reduceNeg, Nat.reduceLeDiff, VOpd.ev, Nat.reduceEqDiff, Nat.reduceAdd, reduceIte, reduceCtorEq, splice, resOf, tupOf, cellsV, AV.toV, AV.cell?, cellVal]) | first | (refine gO_t ?_ ?_ <;> (intro hc; simp only [*, kB, kC, cellsOf, fillA, partsEv, zeroes, Nat.reduceSub, Int.reduceToNat, Nat.reduceMul, asInt?, asNat?, Int.reduceAdd, Int.reduceLE, Int.reduceLT, Int.reduceNeg, Nat.reduceLeDiff, VOpd.ev, Nat.reduceEqDiff, Nat.reduceAdd, reduceIte, reduceCtorEq, splice, resOf, tupOf, cellsV, AV.toV, AV.cell?, cellVal])) | (refine gO_f ?_ ?_ <;> (intro hc; simp only [*, kB, kC, cellsOf, fillA, partsEv, zeroes, Nat.reduceSub, Int.reduceToNat, Nat.reduceMul, asInt?, asNat?, Int.reduceAdd, Int.reduceLE, Int.reduceLT, Int.reduceNeg, Nat.reduceLeDiff, VOpd.ev, Nat.reduceEqDiff, Nat.reduceAdd, reduceIte, reduceCtorEq, splice, resOf, tupOf, cellsV, AV.toV, AV.cell?, cellVal])) | (refine condO_intro ?_ ?_ <;> (intro hc; simp only [*, kB, kC, cellsOf, fillA, partsEv, zeroes, Nat.reduceSub, Int.reduceToNat, Nat.reduceMul, asInt?, asNat?, Int.reduceAdd, Int.reduceLE, Int.reduceLT, Int.reduceNeg, Nat.reduceLeDiff, VOpd.ev, Nat.reduceEqDiff, Nat.reduceAdd, reduceIte, reduceCtorEq, splice, resOf, tupOf, cellsV, AV.toV, AV.cell?, cellVal]))
      all_goals first | exact ⟨_, rfl⟩ | exact ⟨rfl, _, rfl⟩ | exact ⟨trivial, _, rfl⟩ | exact ⟨[], (List.append_nil _).symm⟩
    · intro e2 hL hR
      simp only [hR, kB, kC, cellsOf, fillA, partsEv, zeroes, Nat.reduceSub, Int.reduceToNat, Nat.reduceMul, asInt?, asNat?, Int.reduceAdd, Int.reduceLE, Int.reduceLT, Int.reduceNeg, Nat.reduceLeDiff, VOpd.ev, Nat.reduceEqDiff, Nat.reduceAdd, reduceIte, reduceCtorEq, splice, resOf, tupOf, cellsV, AV.toV, AV.cell?, cellVal] at hL ⊢
      simp only [h2, h3] at hL
      obtain ⟨h2, h3⟩ := hL
      simp only [*, kB, kC, cellsOf, fillA, partsEv, zeroes, Nat.reduceSub, Int.reduceToNat, Nat.reduceMul, asInt?, asNat?, Int.reduceAdd, Int.reduceLE, Int.reduceLT, Int.reduceNeg, Nat.reduceLeDiff, VOpd.ev, Nat.reduceEqDiff, Nat.reduceAdd, reduceIte, reduceCtorEq, splice, resOf, tupOf, cellsV, AV.toV, AV.cell?, cellVal]
      refine cutCall (mS m0) [2, 3] (fun _ => ((endTo k && !regOkA nb t) || (endElse k && !regOkA nb e)) = false) ?_ ?_
      · repeat' first | (refine callO_same (j_r07_EndA h _) ?_; simp only [*, kB, kC, cellsOf, fillA, partsEv, zeroes, Nat.reduceSub, Int.reduceToNat, Nat.reduceMul, asInt?, asNat?, Int.reduceAdd, Int.reduceLE, Int.reduceLT, Int.reduceNeg, Nat.reduceLeDiff, VOpd.ev, Nat.reduceEqDiff, Nat.reduceAdd, reduceIte, reduceCtorEq, splice, resOf, tupOf, cellsV, AV.toV, AV.cell?, cellVal]) | (refine callO_same (j_r07_EndTo h _) ?_; simp only [*, kB, kC, cellsOf, fillA, partsEv, zeroes, Nat.reduceSub, Int.reduceToNat, Nat.reduceMul, asInt?, asNat?, Int.reduceAdd, Int.reduceLE, Int.reduceLT, Int.reduceNeg, Nat.reduceLeDiff, VOpd.ev, Nat.reduceEqDiff, Nat.reduceAdd, reduceIte, reduceCtorEq, splice, resOf, tupOf, cellsV, AV.toV, AV.cell?, cellVal]) | (refine callO_same (j_r07_EndElse h _) ?_; simp only [*, kB, kC, cellsOf, fillA, partsEv, zeroes, Nat.reduceSub, Int.reduceToNat, Nat.reduceMul, asInt?, asNat?, Int.reduceAdd, Int.reduceLE, Int.reduceLT, Int.reduceNeg, Nat.reduceLeDiff, VOpd.ev, Nat.reduceEqDiff, Nat.reduceAdd, reduceIte, reduceCtorEq, splice, resOf, tupOf, cellsV, AV.toV, AV.cell?, cellVal]) | (refine callO_same (j_r07_there h _ _ _ _ _ _ _ _ hb) ?_; simp only [*, kB, kC, cellsOf, fillA, partsEv, zeroes, Nat.reduceSub, Int.reduceToNat, Nat.reduceMul, asInt?, asNat?, Int.reduceAdd, Int.reduceLE, Int.reduceLT, Int.reduceNeg, Nat.reduceLeDiff, VOpd.ev, Nat.reduceEqDiff, Nat.reduceAdd, reduceIte, reduceCtorEq, splice, resOf, tupOf, cellsV, AV.toV, AV.cell?, cellVal]) | (refine callO_same (j_r07_register h _ _ _ _ _ _ _) ?_; simp only [*, kB, kC, cellsOf, fillA, partsEv, zeroes, Nat.reduceSub, Int.reduceToNat, Nat.reduceMul, asInt?, asNat?, Int.reduceAdd, Int.reduceLE, Int.reduceLT, Int.reduceNeg, Nat.reduceLeDiff, VOpd.ev, Nat.reduceEqDiff, Nat.reduceAdd, reduceIte, reduceCtorEq, splice, resOf, tupOf, cellsV, AV.toV, AV.cell?, cellVal]) | (refine callO_same (j_r07_Array h _) ?_; simp only [*, kB, kC, cellsOf, fillA, partsEv, zeroes, Nat.reduceSub, Int.reduceToNat, Nat.reduceMul, asInt?, asNat?, Int.reduceAdd, Int.reduceLE, Int.reduceLT, Int.reduceNeg, Nat.reduceLeDiff, VOpd.ev, Nat.reduceEqDiff, Nat.reduceAdd, reduceIte, reduceCtorEq, splice, resOf, tupOf, cellsV, AV.toV, AV.cell?, cellVal]) | (refine callO_same (j_r07_Cell h _) ?_; simp only [*, kB, kC, cellsOf, fillA, partsEv, zeroes, Nat.reduceSub, Int.reduceToNat, Nat.reduceMul, asInt?, asNat?, Int.reduceAdd, Int.reduceLE, Int.reduceLT, Int.reduceNeg, Nat.reduceLeDiff, VOpd.ev, Nat.reduceEqDiff, Nat.reduceAdd, reduceIte, reduceCtorEq, splice, resOf, tupOf, cellsV, AV.toV, AV.cell?, cellVal]) | (refine callO_same (j_r07_HasN h _) ?_; simp only [*, kB, kC, cellsOf, fillA, partsEv, zeroes, Nat.reduceSub, Int.reduceToNat, Nat.reduceMul, asInt?, asNat?, Int.reduceAdd, Int.reduceLE, Int.reduceLT, Int.reduceNeg, Nat.reduceLeDiff, VOpd.ev, Nat.reduceEqDiff, Nat.reduceAdd, reduceIte, reduceCtorEq, splice, resOf, tupOf, cellsV, AV.toV, AV.cell?, cellVal]) | first | (refine gO_t ?_ ?_ <;> (intro hc; simp only [*, kB, kC, cellsOf, fillA, partsEv, zeroes, Nat.reduceSub, Int.reduceToNat, Nat.reduceMul, asInt?, asNat?, Int.reduceAdd, Int.reduceLE, Int.reduceLT, Int.reduceNeg, Nat.reduceLeDiff, VOpd.ev, Nat.reduceEqDiff, Nat.reduceAdd, reduceIte, reduceCtorEq, splice, resOf, tupOf, cellsV, AV.toV, AV.cell?, cellVal])) | (refine gO_f ?_ ?_ <;> (intro hc; simp only [*, kB, kC, cellsOf, fillA, partsEv, zeroes, Nat.reduceSub, Int.reduceToNat, Nat.reduceMul, asInt?, asNat?, Int.reduceAdd, Int.reduceLE, Int.reduceLT, Int.reduceNeg, Nat.reduceLeDiff, VOpd.ev, Nat.reduceEqDiff, Nat.reduceAdd, reduceIte, reduceCtorEq, splice, resOf, tupOf, cellsV, AV.toV, AV.cell?, cellVal])) | (refine condO_intro ?_ ?_ <;> (intro hc; simp only [*, kB, kC, cellsOf, fillA, partsEv, zeroes, Nat.reduceSub, Int.reduceToNat, Nat.reduceMul, asInt?, asNat?, Int.reduceAdd, Int.reduceLE, Int.reduceLT, Int.reduceNeg, Nat.reduceLeDiff, VOpd.ev, Nat.reduceEqDiff, Nat.reduceAdd, reduceIte, reduceCtorEq, splice, resOf, tupOf, cellsV, AV.toV, AV.cell?, cellVal]))
        all_goals first | exact ⟨_, rfl⟩ | exact ⟨rfl, _, rfl⟩ | exact ⟨trivial, _, rfl⟩ | exact ⟨[], (List.append_nil _).symm⟩
      · intro e3 hL hR
        simp only [hR, kB, kC, cellsOf, fillA, partsEv, zeroes, Nat.reduceSub, Int.reduceToNat, Nat.reduceMul, asInt?, asNat?, Int.reduceAdd, Int.reduceLE, Int.reduceLT, Int.reduceNeg, Nat.reduceLeDiff, VOpd.ev, Nat.reduceEqDiff, Nat.reduceAdd, reduceIte, reduceCtorEq, splice, resOf, tupOf, cellsV, AV.toV, AV.cell?, cellVal] at hL ⊢
        simp only [h2, h3] at hL
        obtain ⟨h2, h3⟩ := hL
        simp only [*, kB, kC, cellsOf, fillA, partsEv, zeroes, Nat.reduceSub, Int.reduceToNat, Nat.reduceMul, asInt?, asNat?, Int.reduceAdd, Int.reduceLE, Int.reduceLT, Int.reduceNeg, Nat.reduceLeDiff, VOpd.ev, Nat.reduceEqDiff, Nat.reduceAdd, reduceIte, reduceCtorEq, splice, resOf, tupOf, cellsV, AV.toV, AV.cell?, cellVal]
        repeat' first | (refine callO_same (j_r07_EndA h _) ?_; simp only [*, kB, kC, cellsOf, fillA, partsEv, zeroes, Nat.reduceSub, Int.reduceToNat, Nat.reduceMul, asInt?, asNat?, Int.reduceAdd, Int.reduceLE, Int.reduceLT, Int.reduceNeg, Nat.reduceLeDiff, VOpd.ev, Nat.reduceEqDiff, Nat.reduceAdd, reduceIte, reduceCtorEq, splice, resOf, tupOf, cellsV, AV.toV, AV.cell?, cellVal]) | (refine callO_same (j_r07_EndTo h _) ?_; simp only [*, kB, kC, cellsOf, fillA, partsEv, zeroes, Nat.reduceSub, Int.reduceToNat, Nat.reduceMul, asInt?, asNat?, Int.reduceAdd, Int.reduceLE, Int.reduceLT, Int.reduceNeg, Nat.reduceLeDiff, VOpd.ev, Nat.reduceEqDiff, Nat.reduceAdd, reduceIte, reduceCtorEq, splice, resOf, tupOf, cellsV, AV.toV, AV.cell?, cellVal]) | (refine callO_same (j_r07_EndElse h _) ?_; simp only [*, kB, kC, cellsOf, fillA, partsEv, zeroes, Nat.reduceSub, Int.reduceToNat, Nat.reduceMul, asInt?, asNat?, Int.reduceAdd, Int.reduceLE, Int.reduceLT, Int.reduceNeg, Nat.reduceLeDiff, VOpd.ev, Nat.reduceEqDiff, Nat.reduceAdd, reduceIte, reduceCtorEq, splice, resOf, tupOf, cellsV, AV.toV, AV.cell?, cellVal]) | (refine callO_same (j_r07_there h _ _ _ _ _ _ _ _ hb) ?_; simp only [*, kB, kC, cellsOf, fillA, partsEv, zeroes, Nat.reduceSub, Int.reduceToNat, Nat.reduceMul, asInt?, asNat?, Int.reduceAdd, Int.reduceLE, Int.reduceLT, Int.reduceNeg, Nat.reduceLeDiff, VOpd.ev, Nat.reduceEqDiff, Nat.reduceAdd, reduceIte, reduceCtorEq, splice, resOf, tupOf, cellsV, AV.toV, AV.cell?, cellVal]) | (refine callO_same (j_r07_register h _ _ _ _ _ _ _) ?_; simp only [*, kB, kC, cellsOf, fillA, partsEv, zeroes, Nat.reduceSub, Int.reduceToNat, Nat.reduceMul, asInt?, asNat?, Int.reduceAdd, Int.reduceLE, Int.reduceLT, Int.reduceNeg, Nat.reduceLeDiff, VOpd.ev, Nat.reduceEqDiff, Nat.reduceAdd, reduceIte, reduceCtorEq, splice, resOf, tupOf, cellsV, AV.toV, AV.cell?, cellVal]) | (refine callO_same (j_r07_Array h _) ?_; simp only [*, kB, kC, cellsOf, fillA, partsEv, zeroes, Nat.reduceSub, Int.reduceToNat, Nat.reduceMul, asInt?, asNat?, Int.reduceAdd, Int.reduceLE, Int.reduceLT, Int.reduceNeg, Nat.reduceLeDiff, VOpd.ev, Nat.reduceEqDiff, Nat.reduceAdd, reduceIte, reduceCtorEq, splice, resOf, tupOf, cellsV, AV.toV, AV.cell?, cellVal]) | (refine callO_same (j_r07_Cell h _) ?_; simp only [*, kB, kC, cellsOf, fillA, partsEv, zeroes, Nat.reduceSub, Int.reduceToNat, Nat.reduceMul, asInt?, asNat?, Int.reduceAdd, Int.reduceLE, Int.reduceLT, Int.reduceNeg, Nat.reduceLeDiff, VOpd.ev, Nat.reduceEqDiff, Nat.reduceAdd, reduceIte, reduceCtorEq, splice, resOf, tupOf, cellsV, AV.toV, AV.cell?, cellVal]) | (refine callO_same (j_r07_HasN h _) ?_; simp only [*, kB, kC, cellsOf, fillA, partsEv, zeroes, Nat.reduceSub, Int.reduceToNat, Nat.reduceMul, asInt?, asNat?, Int.reduceAdd, Int.reduceLE, Int.reduceLT, Int.reduceNeg, Nat.reduceLeDiff, VOpd.ev, Nat.reduceEqDiff, Nat.reduceAdd, reduceIte, reduceCtorEq, splice, resOf, tupOf, cellsV, AV.toV, AV.cell?, cellVal]) | first | (refine gO_t ?_ ?_ <;> (intro hc; simp only [*, kB, kC, cellsOf, fillA, partsEv, zeroes, Nat.reduceSub, Int.reduceToNat, Nat.reduceMul, asInt?, asNat?, Int.reduceAdd, Int.reduceLE, Int.reduceLT, Int.reduceNeg, Nat.reduceLeDiff, VOpd.ev, Nat.reduceEqDiff, Nat.reduceAdd, reduceIte, reduceCtorEq, splice, resOf, tupOf, cellsV, AV.toV, AV.cell?, cellVal])) | (refine gO_f ?_ ?_ <;> (intro hc; simp only [*, kB, kC, cellsOf, fillA, partsEv, zeroes, Nat.reduceSub, Int.reduceToNat, Nat.reduceMul, asInt?, asNat?, Int.reduceAdd, Int.reduceLE, Int.reduceLT, Int.reduceNeg, Nat.reduceLeDiff, VOpd.ev, Nat.reduceEqDiff, Nat.reduceAdd, reduceIte, reduceCtorEq, splice, resOf, tupOf, cellsV, AV.toV, AV.cell?, cellVal])) | (refine condO_intro ?_ ?_ <;> (intro hc; simp only [*, kB, kC, cellsOf, fillA, partsEv, zeroes, Nat.reduceSub, Int.reduceToNat, Nat.reduceMul, asInt?, asNat?, Int.reduceAdd, Int.reduceLE, Int.reduceLT, Int.reduceNeg, Nat.reduceLeDiff, VOpd.ev, Nat.reduceEqDiff, Nat.reduceAdd, reduceIte, reduceCtorEq, splice, resOf, tupOf, cellsV, AV.toV, AV.cell?, cellVal]))
        all_goals first | exact ⟨_, rfl⟩ | exact ⟨rfl, _, rfl⟩ | exact ⟨trivial, _, rfl⟩ | exact ⟨[], (List.append_nil _).symm⟩
end
end Go.VX.Seat
end
section
set_option linter.unusedVariables false
set_option linter.unusedSimpArgs false
set_option maxRecDepth 4000
namespace Go.VX.Seat
section
variable {X : Cx} {st : St}
theorem j_r07_op (h : On X) (s p cd bl : AV) (ns nb : Nat) (hs : lenA s = some ns) (hb : lenA bl = some nb) (regs spill k d a b c n g : Int) :
    J X.P X.F X.H (.call 51 [.agg [s, p, .sc (.int .i64 regs), cd, .sc (.int .i64 spill), bl], .agg [.sc (.int .i64 k), .sc (.int .i64 d), .sc (.int .i64 a), .sc (.int .i64 b), .sc (.int .i64 c), .sc (.int .i64 n), .sc (.int .i64 g)]] st (.ret (.sc (.int .i64 (opErr ns nb regs spill k d a b c n g)))) st) := by
  refine pure_intro (by rw [h.F]; rfl) rfl ?_
  unfold opErr
  simp only [v_r07_op, kB, kC, cellsOf, fillA, partsEv, zeroes, Nat.reduceSub, Int.reduceToNat, Nat.reduceMul, asInt?, asNat?, Int.reduceAdd, Int.reduceLE, Int.reduceLT, Int.reduceNeg, Nat.reduceLeDiff, VOpd.ev, Nat.reduceEqDiff, Nat.reduceAdd, reduceIte, reduceCtorEq, splice, resOf, tupOf, cellsV, AV.toV, AV.cell?, cellVal]
  refine callO_same (j_r07_One h _) ?_
  simp only [kB, kC, cellsOf, fillA, partsEv, zeroes, Nat.reduceSub, Int.reduceToNat, Nat.reduceMul, asInt?, asNat?, Int.reduceAdd, Int.reduceLE, Int.reduceLT, Int.reduceNeg, Nat.reduceLeDiff, VOpd.ev, Nat.reduceEqDiff, Nat.reduceAdd, reduceIte, reduceCtorEq, splice, resOf, tupOf, cellsV, AV.toV, AV.cell?, cellVal]
  refine condO_intro ?_ ?_ <;> intro h1 <;> simp only [kB, kC, cellsOf, fillA, partsEv, zeroes, Nat.reduceSub, Int.reduceToNat, Nat.reduceMul, asInt?, asNat?, Int.reduceAdd, Int.reduceLE, Int.reduceLT, Int.reduceNeg, Nat.reduceLeDiff, VOpd.ev, Nat.reduceEqDiff, Nat.reduceAdd, reduceIte, reduceCtorEq, splice, resOf, tupOf, cellsV, AV.toV, AV.cell?, cellVal]
  · have h1 : oneK k = false := by simpa using h1
    simp only [h1, kB, kC, cellsOf, fillA, partsEv, zeroes, Nat.reduceSub, Int.reduceToNat, Nat.reduceMul, asInt?, asNat?, Int.reduceAdd, Int.reduceLE, Int.reduceLT, Int.reduceNeg, Nat.reduceLeDiff, VOpd.ev, Nat.reduceEqDiff, Nat.reduceAdd, reduceIte, reduceCtorEq, splice, resOf, tupOf, cellsV, AV.toV, AV.cell?, cellVal]
    first | exact ⟨_, rfl⟩ | exact ⟨rfl, _, rfl⟩ | exact ⟨trivial, _, rfl⟩ | exact ⟨[], (List.append_nil _).symm⟩
  · have h1 : oneK k = true := by simpa using h1
    simp only [h1, kB, kC, cellsOf, fillA, partsEv, zeroes, Nat.reduceSub, Int.reduceToNat, Nat.reduceMul, asInt?, asNat?, Int.reduceAdd, Int.reduceLE, Int.reduceLT, Int.reduceNeg, Nat.reduceLeDiff, VOpd.ev, Nat.reduceEqDiff, Nat.reduceAdd, reduceIte, reduceCtorEq, splice, resOf, tupOf, cellsV, AV.toV, AV.cell?, cellVal]
    refine callO_same (j_r07_HasDst h _) ?_
    simp only [kB, kC, cellsOf, fillA, partsEv, zeroes, Nat.reduceSub, Int.reduceToNat, Nat.reduceMul, asInt?, asNat?, Int.reduceAdd, Int.reduceLE, Int.reduceLT, Int.reduceNeg, Nat.reduceLeDiff, VOpd.ev, Nat.reduceEqDiff, Nat.reduceAdd, reduceIte, reduceCtorEq, splice, resOf, tupOf, cellsV, AV.toV, AV.cell?, cellVal]
    refine callO_same (j_r07_HasA h _) ?_
    simp only [kB, kC, cellsOf, fillA, partsEv, zeroes, Nat.reduceSub, Int.reduceToNat, Nat.reduceMul, asInt?, asNat?, Int.reduceAdd, Int.reduceLE, Int.reduceLT, Int.reduceNeg, Nat.reduceLeDiff, VOpd.ev, Nat.reduceEqDiff, Nat.reduceAdd, reduceIte, reduceCtorEq, splice, resOf, tupOf, cellsV, AV.toV, AV.cell?, cellVal]
    refine callO_same (j_r07_HasB h _) ?_
    simp only [kB, kC, cellsOf, fillA, partsEv, zeroes, Nat.reduceSub, Int.reduceToNat, Nat.reduceMul, asInt?, asNat?, Int.reduceAdd, Int.reduceLE, Int.reduceLT, Int.reduceNeg, Nat.reduceLeDiff, VOpd.ev, Nat.reduceEqDiff, Nat.reduceAdd, reduceIte, reduceCtorEq, splice, resOf, tupOf, cellsV, AV.toV, AV.cell?, cellVal]
    refine callO_same (j_r07_HasC h _) ?_
    simp only [kB, kC, cellsOf, fillA, partsEv, zeroes, Nat.reduceSub, Int.reduceToNat, Nat.reduceMul, asInt?, asNat?, Int.reduceAdd, Int.reduceLE, Int.reduceLT, Int.reduceNeg, Nat.reduceLeDiff, VOpd.ev, Nat.reduceEqDiff, Nat.reduceAdd, reduceIte, reduceCtorEq, splice, resOf, tupOf, cellsV, AV.toV, AV.cell?, cellVal]
    refine loop_cut [2, 3, 5, 6] (fun e => ((hasDst k && !regOkA regs d) || (hasA k && !regOkA regs a) || (hasB k && !regOkA regs b) || (hasC k && !regOkA regs c)) = false) ?_ ?_
    · refine loop_live [2, 3, 5, 6] (fun m e => ∃ i : Int, 0 ≤ i ∧ i + m = 4 ∧ e 7 = .sc (.int .i64 i) ∧ (0 < i → (hasDst k && !regOkA regs d) = false) ∧ (1 < i → (hasA k && !regOkA regs a) = false) ∧ (2 < i → (hasB k && !regOkA regs b) = false) ∧ (3 < i → (hasC k && !regOkA regs c) = false)) 4 ?_ ?_
      · exact ⟨0, by omega, by omega, by simp only [kB, kC, cellsOf, fillA, partsEv, zeroes, Nat.reduceSub, Int.reduceToNat, Nat.reduceMul, asInt?, asNat?, Int.reduceAdd, Int.reduceLE, Int.reduceLT, Int.reduceNeg, Nat.reduceLeDiff, VOpd.ev, Nat.reduceEqDiff, Nat.reduceAdd, reduceIte, reduceCtorEq, splice, resOf, tupOf, cellsV, AV.toV, AV.cell?, cellVal], by omega, by omega, by omega, by omega⟩
      · intro m e hL ⟨i, hi, him, h7, f0, f1, f2, f3⟩
        simp only [kB, kC, cellsOf, fillA, partsEv, zeroes, Nat.reduceSub, Int.reduceToNat, Nat.reduceMul, asInt?, asNat?, Int.reduceAdd, Int.reduceLE, Int.reduceLT, Int.reduceNeg, Nat.reduceLeDiff, VOpd.ev, Nat.reduceEqDiff, Nat.reduceAdd, reduceIte, reduceCtorEq, splice, resOf, tupOf, cellsV, AV.toV, AV.cell?, cellVal] at hL
        obtain ⟨h2, h3, h5, h6⟩ := hL
        have : i = 0 ∨ i = 1 ∨ i = 2 ∨ i = 3 ∨ i = 4 := by omega
        rcases this with rfl | rfl | rfl | rfl | rfl
        all_goals
          simp only [h2, h3, h5, h6, h7, kB, kC, cellsOf, fillA, partsEv, zeroes, Nat.reduceSub, Int.reduceToNat, Nat.reduceMul, asInt?, asNat?, Int.reduceAdd, Int.reduceLE, Int.reduceLT, Int.reduceNeg, Nat.reduceLeDiff, VOpd.ev, Nat.reduceEqDiff, Nat.reduceAdd, reduceIte, reduceCtorEq, splice, resOf, tupOf, cellsV, AV.toV, AV.cell?, cellVal]
          repeat' first | (refine callO_same (j_r07_EndA h _) ?_; simp only [*, kB, kC, cellsOf, fillA, partsEv, zeroes, Nat.reduceSub, Int.reduceToNat, Nat.reduceMul, asInt?, asNat?, Int.reduceAdd, Int.reduceLE, Int.reduceLT, Int.reduceNeg, Nat.reduceLeDiff, VOpd.ev, Nat.reduceEqDiff, Nat.reduceAdd, reduceIte, reduceCtorEq, splice, resOf, tupOf, cellsV, AV.toV, AV.cell?, cellVal]) | (refine callO_same (j_r07_EndTo h _) ?_; simp only [*, kB, kC, cellsOf, fillA, partsEv, zeroes, Nat.reduceSub, Int.reduceToNat, Nat.reduceMul, asInt?, asNat?, Int.reduceAdd, Int.reduceLE, Int.reduceLT, Int.reduceNeg, Nat.reduceLeDiff, VOpd.ev, Nat.reduceEqDiff, Nat.reduceAdd, reduceIte, reduceCtorEq, splice, resOf, tupOf, cellsV, AV.toV, AV.cell?, cellVal]) | (refine callO_same (j_r07_EndElse h _) ?_; simp only [*, kB, kC, cellsOf, fillA, partsEv, zeroes, Nat.reduceSub, Int.reduceToNat, Nat.reduceMul, asInt?, asNat?, Int.reduceAdd, Int.reduceLE, Int.reduceLT, Int.reduceNeg, Nat.reduceLeDiff, VOpd.ev, Nat.reduceEqDiff, Nat.reduceAdd, reduceIte, reduceCtorEq, splice, resOf, tupOf, cellsV, AV.toV, AV.cell?, cellVal]) | (refine callO_same (j_r07_there h _ _ _ _ _ _ _ _ hb) ?_; simp only [*, kB, kC, cellsOf, fillA, partsEv, zeroes, Nat.reduceSub, Int.reduceToNat, Nat.reduceMul, asInt?, asNat?, Int.reduceAdd, Int.reduceLE, Int.reduceLT, Int.reduceNeg, Nat.reduceLeDiff, VOpd.ev, Nat.reduceEqDiff, Nat.reduceAdd, reduceIte, reduceCtorEq, splice, resOf, tupOf, cellsV, AV.toV, AV.cell?, cellVal]) | (refine callO_same (j_r07_register h _ _ _ _ _ _ _) ?_; simp only [*, kB, kC, cellsOf, fillA, partsEv, zeroes, Nat.reduceSub, Int.reduceToNat, Nat.reduceMul, asInt?, asNat?, Int.reduceAdd, Int.reduceLE, Int.reduceLT, Int.reduceNeg, Nat.reduceLeDiff, VOpd.ev, Nat.reduceEqDiff, Nat.reduceAdd, reduceIte, reduceCtorEq, splice, resOf, tupOf, cellsV, AV.toV, AV.cell?, cellVal]) | (refine callO_same (j_r07_Array h _) ?_; simp only [*, kB, kC, cellsOf, fillA, partsEv, zeroes, Nat.reduceSub, Int.reduceToNat, Nat.reduceMul, asInt?, asNat?, Int.reduceAdd, Int.reduceLE, Int.reduceLT, Int.reduceNeg, Nat.reduceLeDiff, VOpd.ev, Nat.reduceEqDiff, Nat.reduceAdd, reduceIte, reduceCtorEq, splice, resOf, tupOf, cellsV, AV.toV, AV.cell?, cellVal]) | (refine callO_same (j_r07_Cell h _) ?_; simp only [*, kB, kC, cellsOf, fillA, partsEv, zeroes, Nat.reduceSub, Int.reduceToNat, Nat.reduceMul, asInt?, asNat?, Int.reduceAdd, Int.reduceLE, Int.reduceLT, Int.reduceNeg, Nat.reduceLeDiff, VOpd.ev, Nat.reduceEqDiff, Nat.reduceAdd, reduceIte, reduceCtorEq, splice, resOf, tupOf, cellsV, AV.toV, AV.cell?, cellVal]) | (refine callO_same (j_r07_HasN h _) ?_; simp only [*, kB, kC, cellsOf, fillA, partsEv, zeroes, Nat.reduceSub, Int.reduceToNat, Nat.reduceMul, asInt?, asNat?, Int.reduceAdd, Int.reduceLE, Int.reduceLT, Int.reduceNeg, Nat.reduceLeDiff, VOpd.ev, Nat.reduceEqDiff, Nat.reduceAdd, reduceIte, reduceCtorEq, splice, resOf, tupOf, cellsV, AV.toV, AV.cell?, cellVal]) | first | (refine gO_t ?_ ?_ <;> (intro hc; simp only [*, kB, kC, cellsOf, fillA, partsEv, zeroes, Nat.reduceSub, Int.reduceToNat, Nat.reduceMul, asInt?, asNat?, Int.reduceAdd, Int.reduceLE, Int.reduceLT, Int.reduceNeg, Nat.reduceLeDiff, VOpd.ev, Nat.reduceEqDiff, Nat.reduceAdd, reduceIte, reduceCtorEq, splice, resOf, tupOf, cellsV, AV.toV, AV.cell?, cellVal])) | (refine gO_f ?_ ?_ <;> (intro hc; simp only [*, kB, kC, cellsOf, fillA, partsEv, zeroes, Nat.reduceSub, Int.reduceToNat, Nat.reduceMul, asInt?, asNat?, Int.reduceAdd, Int.reduceLE, Int.reduceLT, Int.reduceNeg, Nat.reduceLeDiff, VOpd.ev, Nat.reduceEqDiff, Nat.reduceAdd, reduceIte, reduceCtorEq, splice, resOf, tupOf, cellsV, AV.toV, AV.cell?, cellVal])) | (refine condO_intro ?_ ?_ <;> (intro hc; simp only [*, kB, kC, cellsOf, fillA, partsEv, zeroes, Nat.reduceSub, Int.reduceToNat, Nat.reduceMul, asInt?, asNat?, Int.reduceAdd, Int.reduceLE, Int.reduceLT, Int.reduceNeg, Nat.reduceLeDiff, VOpd.ev, Nat.reduceEqDiff, Nat.reduceAdd, reduceIte, reduceCtorEq, splice, resOf, tupOf, cellsV, AV.toV, AV.cell?, cellVal]))
        all_goals first
          | first | exact ⟨_, rfl⟩ | exact ⟨rfl, _, rfl⟩ | exact ⟨trivial, _, rfl⟩ | exact ⟨[], (List.append_nil _).symm⟩
          | exact ⟨m - 1, by omega, _, by omega, by omega, rfl, by intro hh; first | omega | simp_all, by intro hh; first | omega | simp_all, by intro hh; first | omega | simp_all, by intro hh; first | omega | simp_all⟩
          | simp only [f0 (by omega), f1 (by omega), f2 (by omega), f3 (by omega), Bool.or_self, and_self]
    · intro e hL hR
      simp only [hR, kB, kC, cellsOf, fillA, partsEv, zeroes, Nat.reduceSub, Int.reduceToNat, Nat.reduceMul, asInt?, asNat?, Int.reduceAdd, Int.reduceLE, Int.reduceLT, Int.reduceNeg, Nat.reduceLeDiff, VOpd.ev, Nat.reduceEqDiff, Nat.reduceAdd, reduceIte, reduceCtorEq, splice, resOf, tupOf, cellsV, AV.toV, AV.cell?, cellVal] at hL ⊢
      obtain ⟨h2, h3, h5, h6⟩ := hL
      simp only [*, kB, kC, cellsOf, fillA, partsEv, zeroes, Nat.reduceSub, Int.reduceToNat, Nat.reduceMul, asInt?, asNat?, Int.reduceAdd, Int.reduceLE, Int.reduceLT, Int.reduceNeg, Nat.reduceLeDiff, VOpd.ev, Nat.reduceEqDiff, Nat.reduceAdd, reduceIte, reduceCtorEq, splice, resOf, tupOf, cellsV, AV.toV, AV.cell?, cellVal]
      refine cutG (mS m0) [2, 3, 5, 6] (fun _ => (decide (g ≠ -1) && !regOkA regs g) = false) ?_ ?_
      · repeat' first | (refine callO_same (j_r07_EndA h _) ?_; simp only [*, kB, kC, cellsOf, fillA, partsEv, zeroes, Nat.reduceSub, Int.reduceToNat, Nat.reduceMul, asInt?, asNat?, Int.reduceAdd, Int.reduceLE, Int.reduceLT, Int.reduceNeg, Nat.reduceLeDiff, VOpd.ev, Nat.reduceEqDiff, Nat.reduceAdd, reduceIte, reduceCtorEq, splice, resOf, tupOf, cellsV, AV.toV, AV.cell?, cellVal]) | (refine callO_same (j_r07_EndTo h _) ?_; simp only [*, kB, kC, cellsOf, fillA, partsEv, zeroes, Nat.reduceSub, Int.reduceToNat, Nat.reduceMul, asInt?, asNat?, Int.reduceAdd, Int.reduceLE, Int.reduceLT, Int.reduceNeg, Nat.reduceLeDiff, VOpd.ev, Nat.reduceEqDiff, Nat.reduceAdd, reduceIte, reduceCtorEq, splice, resOf, tupOf, cellsV, AV.toV, AV.cell?, cellVal]) | (refine callO_same (j_r07_EndElse h _) ?_; simp only [*, kB, kC, cellsOf, fillA, partsEv, zeroes, Nat.reduceSub, Int.reduceToNat, Nat.reduceMul, asInt?, asNat?, Int.reduceAdd, Int.reduceLE, Int.reduceLT, Int.reduceNeg, Nat.reduceLeDiff, VOpd.ev, Nat.reduceEqDiff, Nat.reduceAdd, reduceIte, reduceCtorEq, splice, resOf, tupOf, cellsV, AV.toV, AV.cell?, cellVal]) | (refine callO_same (j_r07_there h _ _ _ _ _ _ _ _ hb) ?_; simp only [*, kB, kC, cellsOf, fillA, partsEv, zeroes, Nat.reduceSub, Int.reduceToNat, Nat.reduceMul, asInt?, asNat?, Int.reduceAdd, Int.reduceLE, Int.reduceLT, Int.reduceNeg, Nat.reduceLeDiff, VOpd.ev, Nat.reduceEqDiff, Nat.reduceAdd, reduceIte, reduceCtorEq, splice, resOf, tupOf, cellsV, AV.toV, AV.cell?, cellVal]) | (refine callO_same (j_r07_register h _ _ _ _ _ _ _) ?_; simp only [*, kB, kC, cellsOf, fillA, partsEv, zeroes, Nat.reduceSub, Int.reduceToNat, Nat.reduceMul, asInt?, asNat?, Int.reduceAdd, Int.reduceLE, Int.reduceLT, Int.reduceNeg, Nat.reduceLeDiff, VOpd.ev, Nat.reduceEqDiff, Nat.reduceAdd, reduceIte, reduceCtorEq, splice, resOf, tupOf, cellsV, AV.toV, AV.cell?, cellVal]) | (refine callO_same (j_r07_Array h _) ?_; simp only [*, kB, kC, cellsOf, fillA, partsEv, zeroes, Nat.reduceSub, Int.reduceToNat, Nat.reduceMul, asInt?, asNat?, Int.reduceAdd, Int.reduceLE, Int.reduceLT, Int.reduceNeg, Nat.reduceLeDiff, VOpd.ev, Nat.reduceEqDiff, Nat.reduceAdd, reduceIte, reduceCtorEq, splice, resOf, tupOf, cellsV, AV.toV, AV.cell?, cellVal]) | (refine callO_same (j_r07_Cell h _) ?_; simp only [*, kB, kC, cellsOf, fillA, partsEv, zeroes, Nat.reduceSub, Int.reduceToNat, Nat.reduceMul, asInt?, asNat?, Int.reduceAdd, Int.reduceLE, Int.reduceLT, Int.reduceNeg, Nat.reduceLeDiff, VOpd.ev, Nat.reduceEqDiff, Nat.reduceAdd, reduceIte, reduceCtorEq, splice, resOf, tupOf, cellsV, AV.toV, AV.cell?, cellVal]) | (refine callO_same (j_r07_HasN h _) ?_; simp only [*, kB, kC, cellsOf, fillA, partsEv, zeroes, Nat.reduceSub, Int.reduceToNat, Nat.reduceMul, asInt?, asNat?, Int.reduceAdd, Int.reduceLE, Int.reduceLT, Int.reduceNeg, Nat.reduceLeDiff, VOpd.ev, Nat.reduceEqDiff, Nat.reduceAdd, reduceIte, reduceCtorEq, splice, resOf, tupOf, cellsV, AV.toV, AV.cell?, cellVal]) | first | (refine gO_t ?_ ?_ <;> (intro hc; simp only [*, kB, kC, cellsOf, fillA, partsEv, zeroes, Nat.reduceSub, Int.reduceToNat, Nat.reduceMul, asInt?, asNat?, Int.reduceAdd, Int.reduceLE, Int.reduceLT, Int.reduceNeg, Nat.reduceLeDiff, VOpd.ev, Nat.reduceEqDiff, Nat.reduceAdd, reduceIte, reduceCtorEq, splice, resOf, tupOf, cellsV, AV.toV, AV.cell?, cellVal])) | (refine gO_f ?_ ?_ <;> (intro hc; simp only [*, kB, kC, cellsOf, fillA, partsEv, zeroes, Nat.reduceSub, Int.reduceToNat, Nat.reduceMul, asInt?, asNat?, Int.reduceAdd, Int.reduceLE, Int.reduceLT, Int.reduceNeg, Nat.reduceLeDiff, VOpd.ev, Nat.reduceEqDiff, Nat.reduceAdd, reduceIte, reduceCtorEq, splice, resOf, tupOf, cellsV, AV.toV, AV.cell?, cellVal])) | (refine condO_intro ?_ ?_ <;> (intro hc; simp only [*, kB, kC, cellsOf, fillA, partsEv, zeroes, Nat.reduceSub, Int.reduceToNat, Nat.reduceMul, asInt?, asNat?, Int.reduceAdd, Int.reduceLE, Int.reduceLT, Int.reduceNeg, Nat.reduceLeDiff, VOpd.ev, Nat.reduceEqDiff, Nat.reduceAdd, reduceIte, reduceCtorEq, splice, resOf, tupOf, cellsV, AV.toV, AV.cell?, cellVal]))
        all_goals first | exact ⟨_, rfl⟩ | exact ⟨rfl, _, rfl⟩ | exact ⟨trivial, _, rfl⟩ | exact ⟨[], (List.append_nil _).symm⟩
      · intro e1 hL hR2
        simp only [hR2, kB, kC, cellsOf, fillA, partsEv, zeroes, Nat.reduceSub, Int.reduceToNat, Nat.reduceMul, asInt?, asNat?, Int.reduceAdd, Int.reduceLE, Int.reduceLT, Int.reduceNeg, Nat.reduceLeDiff, VOpd.ev, Nat.reduceEqDiff, Nat.reduceAdd, reduceIte, reduceCtorEq, splice, resOf, tupOf, cellsV, AV.toV, AV.cell?, cellVal] at hL ⊢
        simp only [h2, h3, h5, h6] at hL
        obtain ⟨g2, g3, g5, g6⟩ := hL
        simp only [*, kB, kC, cellsOf, fillA, partsEv, zeroes, Nat.reduceSub, Int.reduceToNat, Nat.reduceMul, asInt?, asNat?, Int.reduceAdd, Int.reduceLE, Int.reduceLT, Int.reduceNeg, Nat.reduceLeDiff, VOpd.ev, Nat.reduceEqDiff, Nat.reduceAdd, reduceIte, reduceCtorEq, splice, resOf, tupOf, cellsV, AV.toV, AV.cell?, cellVal]
        refine cutCall (mS (mB m0)) [2, 3, 5, 6] (fun e => e 8 = .sc (.int .i64 (manyOf ns nb spill k))) ?_ ?_
        · unfold manyOf
          repeat' first | (refine callO_same (j_r07_EndA h _) ?_; simp only [*, kB, kC, cellsOf, fillA, partsEv, zeroes, Nat.reduceSub, Int.reduceToNat, Nat.reduceMul, asInt?, asNat?, Int.reduceAdd, Int.reduceLE, Int.reduceLT, Int.reduceNeg, Nat.reduceLeDiff, VOpd.ev, Nat.reduceEqDiff, Nat.reduceAdd, reduceIte, reduceCtorEq, splice, resOf, tupOf, cellsV, AV.toV, AV.cell?, cellVal]) | (refine callO_same (j_r07_EndTo h _) ?_; simp only [*, kB, kC, cellsOf, fillA, partsEv, zeroes, Nat.reduceSub, Int.reduceToNat, Nat.reduceMul, asInt?, asNat?, Int.reduceAdd, Int.reduceLE, Int.reduceLT, Int.reduceNeg, Nat.reduceLeDiff, VOpd.ev, Nat.reduceEqDiff, Nat.reduceAdd, reduceIte, reduceCtorEq, splice, resOf, tupOf, cellsV, AV.toV, AV.cell?, cellVal]) | (refine callO_same (j_r07_EndElse h _) ?_; simp only [*, kB, kC, cellsOf, fillA, partsEv, zeroes, Nat.reduceSub, Int.reduceToNat, Nat.reduceMul, asInt?, asNat?, Int.reduceAdd, Int.reduceLE, Int.reduceLT, Int.reduceNeg, Nat.reduceLeDiff, VOpd.ev, Nat.reduceEqDiff, Nat.reduceAdd, reduceIte, reduceCtorEq, splice, resOf, tupOf, cellsV, AV.toV, AV.cell?, cellVal]) | (refine callO_same (j_r07_there h _ _ _ _ _ _ _ _ hb) ?_; simp only [*, kB, kC, cellsOf, fillA, partsEv, zeroes, Nat.reduceSub, Int.reduceToNat, Nat.reduceMul, asInt?, asNat?, Int.reduceAdd, Int.reduceLE, Int.reduceLT, Int.reduceNeg, Nat.reduceLeDiff, VOpd.ev, Nat.reduceEqDiff, Nat.reduceAdd, reduceIte, reduceCtorEq, splice, resOf, tupOf, cellsV, AV.toV, AV.cell?, cellVal]) | (refine callO_same (j_r07_register h _ _ _ _ _ _ _) ?_; simp only [*, kB, kC, cellsOf, fillA, partsEv, zeroes, Nat.reduceSub, Int.reduceToNat, Nat.reduceMul, asInt?, asNat?, Int.reduceAdd, Int.reduceLE, Int.reduceLT, Int.reduceNeg, Nat.reduceLeDiff, VOpd.ev, Nat.reduceEqDiff, Nat.reduceAdd, reduceIte, reduceCtorEq, splice, resOf, tupOf, cellsV, AV.toV, AV.cell?, cellVal]) | (refine callO_same (j_r07_Array h _) ?_; simp only [*, kB, kC, cellsOf, fillA, partsEv, zeroes, Nat.reduceSub, Int.reduceToNat, Nat.reduceMul, asInt?, asNat?, Int.reduceAdd, Int.reduceLE, Int.reduceLT, Int.reduceNeg, Nat.reduceLeDiff, VOpd.ev, Nat.reduceEqDiff, Nat.reduceAdd, reduceIte, reduceCtorEq, splice, resOf, tupOf, cellsV, AV.toV, AV.cell?, cellVal]) | (refine callO_same (j_r07_Cell h _) ?_; simp only [*, kB, kC, cellsOf, fillA, partsEv, zeroes, Nat.reduceSub, Int.reduceToNat, Nat.reduceMul, asInt?, asNat?, Int.reduceAdd, Int.reduceLE, Int.reduceLT, Int.reduceNeg, Nat.reduceLeDiff, VOpd.ev, Nat.reduceEqDiff, Nat.reduceAdd, reduceIte, reduceCtorEq, splice, resOf, tupOf, cellsV, AV.toV, AV.cell?, cellVal]) | (refine callO_same (j_r07_HasN h _) ?_; simp only [*, kB, kC, cellsOf, fillA, partsEv, zeroes, Nat.reduceSub, Int.reduceToNat, Nat.reduceMul, asInt?, asNat?, Int.reduceAdd, Int.reduceLE, Int.reduceLT, Int.reduceNeg, Nat.reduceLeDiff, VOpd.ev, Nat.reduceEqDiff, Nat.reduceAdd, reduceIte, reduceCtorEq, splice, resOf, tupOf, cellsV, AV.toV, AV.cell?, cellVal]) | first | (refine gO_t ?_ ?_ <;> (intro hc; simp only [*, kB, kC, cellsOf, fillA, partsEv, zeroes, Nat.reduceSub, Int.reduceToNat, Nat.reduceMul, asInt?, asNat?, Int.reduceAdd, Int.reduceLE, Int.reduceLT, Int.reduceNeg, Nat.reduceLeDiff, VOpd.ev, Nat.reduceEqDiff, Nat.reduceAdd, reduceIte, reduceCtorEq, splice, resOf, tupOf, cellsV, AV.toV, AV.cell?, cellVal])) | (refine gO_f ?_ ?_ <;> (intro hc; simp only [*, kB, kC, cellsOf, fillA, partsEv, zeroes, Nat.reduceSub, Int.reduceToNat, Nat.reduceMul, asInt?, asNat?, Int.reduceAdd, Int.reduceLE, Int.reduceLT, Int.reduceNeg, Nat.reduceLeDiff, VOpd.ev, Nat.reduceEqDiff, Nat.reduceAdd, reduceIte, reduceCtorEq, splice, resOf, tupOf, cellsV, AV.toV, AV.cell?, cellVal])) | (refine condO_intro ?_ ?_ <;> (intro hc; simp only [*, kB, kC, cellsOf, fillA, partsEv, zeroes, Nat.reduceSub, Int.reduceToNat, Nat.reduceMul, asInt?, asNat?, Int.reduceAdd, Int.reduceLE, Int.reduceLT, Int.reduceNeg, Nat.reduceLeDiff, VOpd.ev, Nat.reduceEqDiff, Nat.reduceAdd, reduceIte, reduceCtorEq, splice, resOf, tupOf, cellsV, AV.toV, AV.cell?, cellVal]))
        · intro e hL hR
          simp only [g2, g3, g5, g6, kB, kC, cellsOf, fillA, partsEv, zeroes, Nat.reduceSub, Int.reduceToNat, Nat.reduceMul, asInt?, asNat?, Int.reduceAdd, Int.reduceLE, Int.reduceLT, Int.reduceNeg, Nat.reduceLeDiff, VOpd.ev, Nat.reduceEqDiff, Nat.reduceAdd, reduceIte, reduceCtorEq, splice, resOf, tupOf, cellsV, AV.toV, AV.cell?, cellVal] at hL
          obtain ⟨h2, h3, h5, h6⟩ := hL
          generalize manyOf ns nb spill k = mm at hR ⊢
          simp only [*, kB, kC, cellsOf, fillA, partsEv, zeroes, Nat.reduceSub, Int.reduceToNat, Nat.reduceMul, asInt?, asNat?, Int.reduceAdd, Int.reduceLE, Int.reduceLT, Int.reduceNeg, Nat.reduceLeDiff, VOpd.ev, Nat.reduceEqDiff, Nat.reduceAdd, reduceIte, reduceCtorEq, splice, resOf, tupOf, cellsV, AV.toV, AV.cell?, cellVal]
          refine cutG (mS m0) [2, 3, 5, 6] (fun e => (decide (0 ≤ mm) && (decide (n < 0) || decide (mm ≤ n))) = false) ?_ ?_
          · repeat' first | (refine callO_same (j_r07_EndA h _) ?_; simp only [*, kB, kC, cellsOf, fillA, partsEv, zeroes, Nat.reduceSub, Int.reduceToNat, Nat.reduceMul, asInt?, asNat?, Int.reduceAdd, Int.reduceLE, Int.reduceLT, Int.reduceNeg, Nat.reduceLeDiff, VOpd.ev, Nat.reduceEqDiff, Nat.reduceAdd, reduceIte, reduceCtorEq, splice, resOf, tupOf, cellsV, AV.toV, AV.cell?, cellVal]) | (refine callO_same (j_r07_EndTo h _) ?_; simp only [*, kB, kC, cellsOf, fillA, partsEv, zeroes, Nat.reduceSub, Int.reduceToNat, Nat.reduceMul, asInt?, asNat?, Int.reduceAdd, Int.reduceLE, Int.reduceLT, Int.reduceNeg, Nat.reduceLeDiff, VOpd.ev, Nat.reduceEqDiff, Nat.reduceAdd, reduceIte, reduceCtorEq, splice, resOf, tupOf, cellsV, AV.toV, AV.cell?, cellVal]) | (refine callO_same (j_r07_EndElse h _) ?_; simp only [*, kB, kC, cellsOf, fillA, partsEv, zeroes, Nat.reduceSub, Int.reduceToNat, Nat.reduceMul, asInt?, asNat?, Int.reduceAdd, Int.reduceLE, Int.reduceLT, Int.reduceNeg, Nat.reduceLeDiff, VOpd.ev, Nat.reduceEqDiff, Nat.reduceAdd, reduceIte, reduceCtorEq, splice, resOf, tupOf, cellsV, AV.toV, AV.cell?, cellVal]) | (refine callO_same (j_r07_there h _ _ _ _ _ _ _ _ hb) ?_; simp only [*, kB, kC, cellsOf, fillA, partsEv, zeroes, Nat.reduceSub, Int.reduceToNat, Nat.reduceMul, asInt?, asNat?, Int.reduceAdd, Int.reduceLE, Int.reduceLT, Int.reduceNeg, Nat.reduceLeDiff, VOpd.ev, Nat.reduceEqDiff, Nat.reduceAdd, reduceIte, reduceCtorEq, splice, resOf, tupOf, cellsV, AV.toV, AV.cell?, cellVal]) | (refine callO_same (j_r07_register h _ _ _ _ _ _ _) ?_; simp only [*, kB, kC, cellsOf, fillA, partsEv, zeroes, Nat.reduceSub, Int.reduceToNat, Nat.reduceMul, asInt?, asNat?, Int.reduceAdd, Int.reduceLE, Int.reduceLT, Int.reduceNeg, Nat.reduceLeDiff, VOpd.ev, Nat.reduceEqDiff, Nat.reduceAdd, reduceIte, reduceCtorEq, splice, resOf, tupOf, cellsV, AV.toV, AV.cell?, cellVal]) | (refine callO_same (j_r07_Array h _) ?_; simp only [*, kB, kC, cellsOf, fillA, partsEv, zeroes, Nat.reduceSub, Int.reduceToNat, Nat.reduceMul, asInt?, asNat?, Int.reduceAdd, Int.reduceLE, Int.reduceLT, Int.reduceNeg, Nat.reduceLeDiff, VOpd.ev, Nat.reduceEqDiff, Nat.reduceAdd, reduceIte, reduceCtorEq, splice, resOf, tupOf, cellsV, AV.toV, AV.cell?, cellVal]) | (refine callO_same (j_r07_Cell h _) ?_; simp only [*, kB, kC, cellsOf, fillA, partsEv, zeroes, Nat.reduceSub, Int.reduceToNat, Nat.reduceMul, asInt?, asNat?, Int.reduceAdd, Int.reduceLE, Int.reduceLT, Int.reduceNeg, Nat.reduceLeDiff, VOpd.ev, Nat.reduceEqDiff, Nat.reduceAdd, reduceIte, reduceCtorEq, splice, resOf, tupOf, cellsV, AV.toV, AV.cell?, cellVal]) | (refine callO_same (j_r07_HasN h _) ?_; simp only [*, kB, kC, cellsOf, fillA, partsEv, zeroes, Nat.reduceSub, Int.reduceToNat, Nat.reduceMul, asInt?, asNat?, Int.reduceAdd, Int.reduceLE, Int.reduceLT, Int.reduceNeg, Nat.reduceLeDiff, VOpd.ev, Nat.reduceEqDiff, Nat.reduceAdd, reduceIte, reduceCtorEq, splice, resOf, tupOf, cellsV, AV.toV, AV.cell?, cellVal]) | first | (refine gO_t ?_ ?_ <;> (intro hc; simp only [*, kB, kC, cellsOf, fillA, partsEv, zeroes, Nat.reduceSub, Int.reduceToNat, Nat.reduceMul, asInt?, asNat?, Int.reduceAdd, Int.reduceLE, Int.reduceLT, Int.reduceNeg, Nat.reduceLeDiff, VOpd.ev, Nat.reduceEqDiff, Nat.reduceAdd, reduceIte, reduceCtorEq, splice, resOf, tupOf, cellsV, AV.toV, AV.cell?, cellVal])) | (refine gO_f ?_ ?_ <;> (intro hc; simp only [*, kB, kC, cellsOf, fillA, partsEv, zeroes, Nat.reduceSub, Int.reduceToNat, Nat.reduceMul, asInt?, asNat?, Int.reduceAdd, Int.reduceLE, Int.reduceLT, Int.reduceNeg, Nat.reduceLeDiff, VOpd.ev, Nat.reduceEqDiff, Nat.reduceAdd, reduceIte, reduceCtorEq, splice, resOf, tupOf, cellsV, AV.toV, AV.cell?, cellVal])) | (refine condO_intro ?_ ?_ <;> (intro hc; simp only [*, kB, kC, cellsOf, fillA, partsEv, zeroes, Nat.reduceSub, Int.reduceToNat, Nat.reduceMul, asInt?, asNat?, Int.reduceAdd, Int.reduceLE, Int.reduceLT, Int.reduceNeg, Nat.reduceLeDiff, VOpd.ev, Nat.reduceEqDiff, Nat.reduceAdd, reduceIte, reduceCtorEq, splice, resOf, tupOf, cellsV, AV.toV, AV.cell?, cellVal]))
            all_goals first | exact ⟨_, rfl⟩ | exact ⟨rfl, _, rfl⟩ | exact ⟨trivial, _, rfl⟩ | exact ⟨[], (List.append_nil _).symm⟩
          · intro e1 hL hR
            simp only [hR, kB, kC, cellsOf, fillA, partsEv, zeroes, Nat.reduceSub, Int.reduceToNat, Nat.reduceMul, asInt?, asNat?, Int.reduceAdd, Int.reduceLE, Int.reduceLT, Int.reduceNeg, Nat.reduceLeDiff, VOpd.ev, Nat.reduceEqDiff, Nat.reduceAdd, reduceIte, reduceCtorEq, splice, resOf, tupOf, cellsV, AV.toV, AV.cell?, cellVal] at hL ⊢
            simp only [h2, h3, h5, h6] at hL
            obtain ⟨g2, g3, g5, g6⟩ := hL
            try simp only [*, kB, kC, cellsOf, fillA, partsEv, zeroes, Nat.reduceSub, Int.reduceToNat, Nat.reduceMul, asInt?, asNat?, Int.reduceAdd, Int.reduceLE, Int.reduceLT, Int.reduceNeg, Nat.reduceLeDiff, VOpd.ev, Nat.reduceEqDiff, Nat.reduceAdd, reduceIte, reduceCtorEq, splice, resOf, tupOf, cellsV, AV.toV, AV.cell?, cellVal]
            refine cutLoop (mB m0) [2, 3, 5, 6] (fun e => ((!hasDst k && decide (d ≠ 0)) || (!hasA k && decide (a ≠ 0)) || (!hasB k && decide (b ≠ 0)) || (!hasC k && decide (c ≠ 0))) = false) ?_ ?_
            · refine loop_live [2, 3, 5, 6] (fun m e => ∃ i : Int, 0 ≤ i ∧ i + m = 4 ∧ e 9 = .sc (.int .i64 i) ∧ (0 < i → (!hasDst k && decide (d ≠ 0)) = false) ∧ (1 < i → (!hasA k && decide (a ≠ 0)) = false) ∧ (2 < i → (!hasB k && decide (b ≠ 0)) = false) ∧ (3 < i → (!hasC k && decide (c ≠ 0)) = false)) 4 ?_ ?_
              · exact ⟨0, by omega, by omega, by simp only [kB, kC, cellsOf, fillA, partsEv, zeroes, Nat.reduceSub, Int.reduceToNat, Nat.reduceMul, asInt?, asNat?, Int.reduceAdd, Int.reduceLE, Int.reduceLT, Int.reduceNeg, Nat.reduceLeDiff, VOpd.ev, Nat.reduceEqDiff, Nat.reduceAdd, reduceIte, reduceCtorEq, splice, resOf, tupOf, cellsV, AV.toV, AV.cell?, cellVal], by omega, by omega, by omega, by omega⟩
              · intro m e hL ⟨i, hi, him, h7, f0, f1, f2, f3⟩
                simp only [kB, kC, cellsOf, fillA, partsEv, zeroes, Nat.reduceSub, Int.reduceToNat, Nat.reduceMul, asInt?, asNat?, Int.reduceAdd, Int.reduceLE, Int.reduceLT, Int.reduceNeg, Nat.reduceLeDiff, VOpd.ev, Nat.reduceEqDiff, Nat.reduceAdd, reduceIte, reduceCtorEq, splice, resOf, tupOf, cellsV, AV.toV, AV.cell?, cellVal] at hL
                simp only [g2, g3, g5, g6] at hL
                obtain ⟨h2, h3, h5, h6⟩ := hL
                have : i = 0 ∨ i = 1 ∨ i = 2 ∨ i = 3 ∨ i = 4 := by omega
                rcases this with rfl | rfl | rfl | rfl | rfl
                all_goals
                  simp only [h2, h3, h5, h6, h7, kB, kC, cellsOf, fillA, partsEv, zeroes, Nat.reduceSub, Int.reduceToNat, Nat.reduceMul, asInt?, asNat?, Int.reduceAdd, Int.reduceLE, Int.reduceLT, Int.reduceNeg, Nat.reduceLeDiff, VOpd.ev, Nat.reduceEqDiff, Nat.reduceAdd, reduceIte, reduceCtorEq, splice, resOf, tupOf, cellsV, AV.toV, AV.cell?, cellVal]
                  repeat' first | (refine callO_same (j_r07_EndA h _) ?_; simp only [*, kB, kC, cellsOf, fillA, partsEv, zeroes, Nat.reduceSub, Int.reduceToNat, Nat.reduceMul, asInt?, asNat?, Int.reduceAdd, Int.reduceLE, Int.reduceLT, Int.reduceNeg, Nat.reduceLeDiff, VOpd.ev, Nat.reduceEqDiff, Nat.reduceAdd, reduceIte, reduceCtorEq, splice, resOf, tupOf, cellsV, AV.toV, AV.cell?, cellVal]) | (refine callO_same (j_r07_EndTo h _) ?_; simp only [*, kB, kC, cellsOf, fillA, partsEv, zeroes, Nat.reduceSub, Int.reduceToNat, Nat.reduceMul, asInt?, asNat?, Int.reduceAdd, Int.reduceLE, Int.reduceLT, Int.reduceNeg, Nat.reduceLeDiff, VOpd.ev, Nat.reduceEqDiff, Nat.reduceAdd, reduceIte, reduceCtorEq, splice, resOf, tupOf, cellsV, AV.toV, AV.cell?, cellVal]) | (refine callO_same (j_r07_EndElse h _) ?_; simp only [*, kB, kC, cellsOf, fillA, partsEv, zeroes, Nat.reduceSub, Int.reduceToNat, Nat.reduceMul, asInt?, asNat?, Int.reduceAdd, Int.reduceLE, Int.reduceLT, Int.reduceNeg, Nat.reduceLeDiff, VOpd.ev, Nat.reduceEqDiff, Nat.reduceAdd, reduceIte, reduceCtorEq, splice, resOf, tupOf, cellsV, AV.toV, AV.cell?, cellVal]) | (refine callO_same (j_r07_there h _ _ _ _ _ _ _ _ hb) ?_; simp only [*, kB, kC, cellsOf, fillA, partsEv, zeroes, Nat.reduceSub, Int.reduceToNat, Nat.reduceMul, asInt?, asNat?, Int.reduceAdd, Int.reduceLE, Int.reduceLT, Int.reduceNeg, Nat.reduceLeDiff, VOpd.ev, Nat.reduceEqDiff, Nat.reduceAdd, reduceIte, reduceCtorEq, splice, resOf, tupOf, cellsV, AV.toV, AV.cell?, cellVal]) | (refine callO_same (j_r07_register h _ _ _ _ _ _ _) ?_; simp only [*, kB, kC, cellsOf, fillA, partsEv, zeroes, Nat.reduceSub, Int.reduceToNat, Nat.reduceMul, asInt?, asNat?, Int.reduceAdd, Int.reduceLE, Int.reduceLT, Int.reduceNeg, Nat.reduceLeDiff, VOpd.ev, Nat.reduceEqDiff, Nat.reduceAdd, reduceIte, reduceCtorEq, splice, resOf, tupOf, cellsV, AV.toV, AV.cell?, cellVal]) | (refine callO_same (j_r07_Array h _) ?_; simp only [*, kB, kC, cellsOf, fillA, partsEv, zeroes, Nat.reduceSub, Int.reduceToNat, Nat.reduceMul, asInt?, asNat?, Int.reduceAdd, Int.reduceLE, Int.reduceLT, Int.reduceNeg, Nat.reduceLeDiff, VOpd.ev, Nat.reduceEqDiff, Nat.reduceAdd, reduceIte, reduceCtorEq, splice, resOf, tupOf, cellsV, AV.toV, AV.cell?, cellVal]) | (refine callO_same (j_r07_Cell h _) ?_; simp only [*, kB, kC, cellsOf, fillA, partsEv, zeroes, Nat.reduceSub, Int.reduceToNat, Nat.reduceMul, asInt?, asNat?, Int.reduceAdd, Int.reduceLE, Int.reduceLT, Int.reduceNeg, Nat.reduceLeDiff, VOpd.ev, Nat.reduceEqDiff, Nat.reduceAdd, reduceIte, reduceCtorEq, splice, resOf, tupOf, cellsV, AV.toV, AV.cell?, cellVal]) | (refine callO_same (j_r07_HasN h _) ?_; simp only [*, kB, kC, cellsOf, fillA, partsEv, zeroes, Nat.reduceSub, Int.reduceToNat, Nat.reduceMul, asInt?, asNat?, Int.reduceAdd, Int.reduceLE, Int.reduceLT, Int.reduceNeg, Nat.reduceLeDiff, VOpd.ev, Nat.reduceEqDiff, Nat.reduceAdd, reduceIte, reduceCtorEq, splice, resOf, tupOf, cellsV, AV.toV, AV.cell?, cellVal]) | first | (refine gO_t ?_ ?_ <;> (intro hc; simp only [*, kB, kC, cellsOf, fillA, partsEv, zeroes, Nat.reduceSub, Int.reduceToNat, Nat.reduceMul, asInt?, asNat?, Int.reduceAdd, Int.reduceLE, Int.reduceLT, Int.reduceNeg, Nat.reduceLeDiff, VOpd.ev, Nat.reduceEqDiff, Nat.reduceAdd, reduceIte, reduceCtorEq, splice, resOf, tupOf, cellsV, AV.toV, AV.cell?, cellVal])) | (refine gO_f ?_ ?_ <;> (intro hc; simp only [*, kB, kC, cellsOf, fillA, partsEv, zeroes, Nat.reduceSub, Int.reduceToNat, Nat.reduceMul, asInt?, asNat?, Int.reduceAdd, Int.reduceLE, Int.reduceLT, Int.reduceNeg, Nat.reduceLeDiff, VOpd.ev, Nat.reduceEqDiff, Nat.reduceAdd, reduceIte, reduceCtorEq, splice, resOf, tupOf, cellsV, AV.toV, AV.cell?, cellVal])) | (refine condO_intro ?_ ?_ <;> (intro hc; simp only [*, kB, kC, cellsOf, fillA, partsEv, zeroes, Nat.reduceSub, Int.reduceToNat, Nat.reduceMul, asInt?, asNat?, Int.reduceAdd, Int.reduceLE, Int.reduceLT, Int.reduceNeg, Nat.reduceLeDiff, VOpd.ev, Nat.reduceEqDiff, Nat.reduceAdd, reduceIte, reduceCtorEq, splice, resOf, tupOf, cellsV, AV.toV, AV.cell?, cellVal]))
                all_goals first
                  | first | exact ⟨_, rfl⟩ | exact ⟨rfl, _, rfl⟩ | exact ⟨trivial, _, rfl⟩ | exact ⟨[], (List.append_nil _).symm⟩
                  | exact ⟨m - 1, by omega, _, by omega, by omega, rfl, by intro hh; first | omega | simp_all, by intro hh; first | omega | simp_all, by intro hh; first | omega | simp_all, by intro hh; first | omega | simp_all⟩
                  | simp only [g2, g3, g5, g6, f0 (by omega), f1 (by omega), f2 (by omega), f3 (by omega), Bool.or_self, and_self]
            · intro e hL hR
              simp only [hR, kB, kC, cellsOf, fillA, partsEv, zeroes, Nat.reduceSub, Int.reduceToNat, Nat.reduceMul, asInt?, asNat?, Int.reduceAdd, Int.reduceLE, Int.reduceLT, Int.reduceNeg, Nat.reduceLeDiff, VOpd.ev, Nat.reduceEqDiff, Nat.reduceAdd, reduceIte, reduceCtorEq, splice, resOf, tupOf, cellsV, AV.toV, AV.cell?, cellVal] at hL ⊢
              simp only [g2, g3, g5, g6] at hL
              obtain ⟨h2, h3, h5, h6⟩ := hL
              unfold hasN
              simp only [*, kB, kC, cellsOf, fillA, partsEv, zeroes, Nat.reduceSub, Int.reduceToNat, Nat.reduceMul, asInt?, asNat?, Int.reduceAdd, Int.reduceLE, Int.reduceLT, Int.reduceNeg, Nat.reduceLeDiff, VOpd.ev, Nat.reduceEqDiff, Nat.reduceAdd, reduceIte, reduceCtorEq, splice, resOf, tupOf, cellsV, AV.toV, AV.cell?, cellVal]
              repeat' first | (refine callO_same (j_r07_EndA h _) ?_; simp only [*, kB, kC, cellsOf, fillA, partsEv, zeroes, Nat.reduceSub, Int.reduceToNat, Nat.reduceMul, asInt?, asNat?, Int.reduceAdd, Int.reduceLE, Int.reduceLT, Int.reduceNeg, Nat.reduceLeDiff, VOpd.ev, Nat.reduceEqDiff, Nat.reduceAdd, reduceIte, reduceCtorEq, splice, resOf, tupOf, cellsV, AV.toV, AV.cell?, cellVal]) | (refine callO_same (j_r07_EndTo h _) ?_; simp only [*, kB, kC, cellsOf, fillA, partsEv, zeroes, Nat.reduceSub, Int.reduceToNat, Nat.reduceMul, asInt?, asNat?, Int.reduceAdd, Int.reduceLE, Int.reduceLT, Int.reduceNeg, Nat.reduceLeDiff, VOpd.ev, Nat.reduceEqDiff, Nat.reduceAdd, reduceIte, reduceCtorEq, splice, resOf, tupOf, cellsV, AV.toV, AV.cell?, cellVal]) | (refine callO_same (j_r07_EndElse h _) ?_; simp only [*, kB, kC, cellsOf, fillA, partsEv, zeroes, Nat.reduceSub, Int.reduceToNat, Nat.reduceMul, asInt?, asNat?, Int.reduceAdd, Int.reduceLE, Int.reduceLT, Int.reduceNeg, Nat.reduceLeDiff, VOpd.ev, Nat.reduceEqDiff, Nat.reduceAdd, reduceIte, reduceCtorEq, splice, resOf, tupOf, cellsV, AV.toV, AV.cell?, cellVal]) | (refine callO_same (j_r07_there h _ _ _ _ _ _ _ _ hb) ?_; simp only [*, kB, kC, cellsOf, fillA, partsEv, zeroes, Nat.reduceSub, Int.reduceToNat, Nat.reduceMul, asInt?, asNat?, Int.reduceAdd, Int.reduceLE, Int.reduceLT, Int.reduceNeg, Nat.reduceLeDiff, VOpd.ev, Nat.reduceEqDiff, Nat.reduceAdd, reduceIte, reduceCtorEq, splice, resOf, tupOf, cellsV, AV.toV, AV.cell?, cellVal]) | (refine callO_same (j_r07_register h _ _ _ _ _ _ _) ?_; simp only [*, kB, kC, cellsOf, fillA, partsEv, zeroes, Nat.reduceSub, Int.reduceToNat, Nat.reduceMul, asInt?, asNat?, Int.reduceAdd, Int.reduceLE, Int.reduceLT, Int.reduceNeg, Nat.reduceLeDiff, VOpd.ev, Nat.reduceEqDiff, Nat.reduceAdd, reduceIte, reduceCtorEq, splice, resOf, tupOf, cellsV, AV.toV, AV.cell?, cellVal]) | (refine callO_same (j_r07_Array h _) ?_; simp only [*, kB, kC, cellsOf, fillA, partsEv, zeroes, Nat.reduceSub, Int.reduceToNat, Nat.reduceMul, asInt?, asNat?, Int.reduceAdd, Int.reduceLE, Int.reduceLT, Int.reduceNeg, Nat.reduceLeDiff, VOpd.ev, Nat.reduceEqDiff, Nat.reduceAdd, reduceIte, reduceCtorEq, splice, resOf, tupOf, cellsV, AV.toV, AV.cell?, cellVal]) | (refine callO_same (j_r07_Cell h _) ?_; simp only [*, kB, kC, cellsOf, fillA, partsEv, zeroes, Nat.reduceSub, Int.reduceToNat, Nat.reduceMul, asInt?, asNat?, Int.reduceAdd, Int.reduceLE, Int.reduceLT, Int.reduceNeg, Nat.reduceLeDiff, VOpd.ev, Nat.reduceEqDiff, Nat.reduceAdd, reduceIte, reduceCtorEq, splice, resOf, tupOf, cellsV, AV.toV, AV.cell?, cellVal]) | (refine callO_same (j_r07_HasN h _) ?_; simp only [*, kB, kC, cellsOf, fillA, partsEv, zeroes, Nat.reduceSub, Int.reduceToNat, Nat.reduceMul, asInt?, asNat?, Int.reduceAdd, Int.reduceLE, Int.reduceLT, Int.reduceNeg, Nat.reduceLeDiff, VOpd.ev, Nat.reduceEqDiff, Nat.reduceAdd, reduceIte, reduceCtorEq, splice, resOf, tupOf, cellsV, AV.toV, AV.cell?, cellVal]) | first | (refine gO_t ?_ ?_ <;> (intro hc; simp only [*, kB, kC, cellsOf, fillA, partsEv, zeroes, Nat.reduceSub, Int.reduceToNat, Nat.reduceMul, asInt?, asNat?, Int.reduceAdd, Int.reduceLE, Int.reduceLT, Int.reduceNeg, Nat.reduceLeDiff, VOpd.ev, Nat.reduceEqDiff, Nat.reduceAdd, reduceIte, reduceCtorEq, splice, resOf, tupOf, cellsV, AV.toV, AV.cell?, cellVal])) | (refine gO_f ?_ ?_ <;> (intro hc; simp only [*, kB, kC, cellsOf, fillA, partsEv, zeroes, Nat.reduceSub, Int.reduceToNat, Nat.reduceMul, asInt?, asNat?, Int.reduceAdd, Int.reduceLE, Int.reduceLT, Int.reduceNeg, Nat.reduceLeDiff, VOpd.ev, Nat.reduceEqDiff, Nat.reduceAdd, reduceIte, reduceCtorEq, splice, resOf, tupOf, cellsV, AV.toV, AV.cell?, cellVal])) | (refine condO_intro ?_ ?_ <;> (intro hc; simp only [*, kB, kC, cellsOf, fillA, partsEv, zeroes, Nat.reduceSub, Int.reduceToNat, Nat.reduceMul, asInt?, asNat?, Int.reduceAdd, Int.reduceLE, Int.reduceLT, Int.reduceNeg, Nat.reduceLeDiff, VOpd.ev, Nat.reduceEqDiff, Nat.reduceAdd, reduceIte, reduceCtorEq, splice, resOf, tupOf, cellsV, AV.toV, AV.cell?, cellVal]))
              all_goals first | exact ⟨_, rfl⟩ | exact ⟨rfl, _, rfl⟩ | exact ⟨trivial, _, rfl⟩ | exact ⟨[], (List.append_nil _).symm⟩
end
end Go.VX.Seat
end
section
set_option linter.unusedVariables false
set_option linter.unusedSimpArgs false
set_option maxRecDepth 4000
/-! Units as they lie in memory; when two are the same. -/
namespace Go.VX.Seat
open Go.Proofs
structure OpV where
  k : Int
  d : Int
  a : Int
  b : Int
  c : Int
  n : Int
  g : Int
  deriving DecidableEq
structure EndV where
  k : Int
  a : Int
  t : Int
  e : Int
  deriving DecidableEq
structure BlkV where
  ops : List OpV
  e : EndV
  catch_ : Int
  deriving DecidableEq
structure UnitV where
  sizes : List Int
  params : Int
  regs : Int
  code : Int
  spill : Int
  blocks : List BlkV
  deriving DecidableEq
def OpV.row (o : OpV) : List AV := [iA o.k, iA o.d, iA o.a, iA o.b, iA o.c, iA o.n, iA o.g]
def BlkV.row (b : BlkV) (v : AV) : List AV := [v, iA b.e.k, iA b.e.a, iA b.e.t, iA b.e.e, iA b.catch_]
abbrev OpsAt (st : St) (lo hi : Nat) (v : AV) (l : List OpV) : Prop := ArrAt st lo hi v 7 (l.map OpV.row)
abbrev IntsAt (st : St) (lo hi : Nat) (v : AV) (l : List Int) : Prop := ArrAt st lo hi v 1 (l.map fun n => [iA n])
def BlksAt (st : St) (lo hi : Nat) (v : AV) (l : List BlkV) : Prop := ∃ f : Nat → AV, ArrAt st lo hi v 6 (l.mapIdx fun i b => b.row (f i)) ∧ ∀ i (h : i < l.length), OpsAt st lo hi (f i) l[i].ops
def UnitAt (st : St) (lo hi : Nat) (v : AV) (u : UnitV) : Prop := ∃ s bl, v = .agg [s, iA u.params, iA u.regs, iA u.code, iA u.spill, bl] ∧ IntsAt st lo hi s u.sizes ∧ BlksAt st lo hi bl u.blocks
section
variable {X : Cx} {st : St}
theorem j_r07_SameOps (h : On X) {lo hi lo' hi' : Nat} {v w : AV} {xs ys : List OpV} (hv : OpsAt st lo hi v xs) (hw : OpsAt st lo' hi' w ys) (hlen : (xs.length : Int) < 4611686018427387904) :
    J X.P X.F X.H (.call 86 [v, w] st (.ret (bA (decide (xs = ys)))) st) := by
  refine pure_intro (by rw [h.F]; rfl) rfl ?_
  have l1 := hv.len
  have l2 := hw.len
  simp only [List.length_map] at l1 l2
  simp only [v_r07_SameOps, l1, l2, kB, kC, cellsOf, fillA, partsEv, zeroes, Nat.reduceSub, Int.reduceToNat, Nat.reduceMul, asInt?, asNat?, Int.reduceAdd, Int.reduceLE, Int.reduceLT, Int.reduceNeg, Nat.reduceLeDiff, VOpd.ev, Nat.reduceEqDiff, Nat.reduceAdd, reduceIte, reduceCtorEq, splice, resOf, tupOf, cellsV, AV.toV, AV.cell?, cellVal]
  by_cases hne : xs.length = ys.length
  case neg =>
    have : xs ≠ ys := fun e => hne (by rw [e])
    have h3 : ((xs.length : Int) ≠ (ys.length : Int)) := by omega
    simp only [h3, this, ne_eq, not_false_eq_true, kB, kC, cellsOf, fillA, partsEv, zeroes, Nat.reduceSub, Int.reduceToNat, Nat.reduceMul, asInt?, asNat?, Int.reduceAdd, Int.reduceLE, Int.reduceLT, Int.reduceNeg, Nat.reduceLeDiff, VOpd.ev, Nat.reduceEqDiff, Nat.reduceAdd, reduceIte, reduceCtorEq, splice, resOf, tupOf, cellsV, AV.toV, AV.cell?, cellVal]
    first | exact ⟨_, rfl⟩ | exact ⟨rfl, _, rfl⟩ | exact ⟨trivial, _, rfl⟩ | exact ⟨[], (List.append_nil _).symm⟩
  have h3 : ¬ ((xs.length : Int) ≠ (ys.length : Int)) := by omega
  simp only [h3, kB, kC, cellsOf, fillA, partsEv, zeroes, Nat.reduceSub, Int.reduceToNat, Nat.reduceMul, asInt?, asNat?, Int.reduceAdd, Int.reduceLE, Int.reduceLT, Int.reduceNeg, Nat.reduceLeDiff, VOpd.ev, Nat.reduceEqDiff, Nat.reduceAdd, reduceIte, reduceCtorEq, splice, resOf, tupOf, cellsV, AV.toV, AV.cell?, cellVal]
  refine loop_live [0, 1] (fun m e => ∃ i : Nat, i + m = xs.length ∧ e 5 = iA i ∧ ∀ j (h1 : j < xs.length) (h2 : j < ys.length), j < i → xs[j] = ys[j]) xs.length ?_ ?_
  · exact ⟨0, by omega, by simp only [kB, kC, cellsOf, fillA, partsEv, zeroes, Nat.reduceSub, Int.reduceToNat, Nat.reduceMul, asInt?, asNat?, Int.reduceAdd, Int.reduceLE, Int.reduceLT, Int.reduceNeg, Nat.reduceLeDiff, VOpd.ev, Nat.reduceEqDiff, Nat.reduceAdd, reduceIte, reduceCtorEq, splice, resOf, tupOf, cellsV, AV.toV, AV.cell?, cellVal], fun j _ _ hj => absurd hj (by omega)⟩
  · intro m e hL ⟨i, him, h5, hpre⟩
    simp only [kB, kC, cellsOf, fillA, partsEv, zeroes, Nat.reduceSub, Int.reduceToNat, Nat.reduceMul, asInt?, asNat?, Int.reduceAdd, Int.reduceLE, Int.reduceLT, Int.reduceNeg, Nat.reduceLeDiff, VOpd.ev, Nat.reduceEqDiff, Nat.reduceAdd, reduceIte, reduceCtorEq, splice, resOf, tupOf, cellsV, AV.toV, AV.cell?, cellVal] at hL
    obtain ⟨h0, h1⟩ := hL
    simp only [*, kB, kC, cellsOf, fillA, partsEv, zeroes, Nat.reduceSub, Int.reduceToNat, Nat.reduceMul, asInt?, asNat?, Int.reduceAdd, Int.reduceLE, Int.reduceLT, Int.reduceNeg, Nat.reduceLeDiff, VOpd.ev, Nat.reduceEqDiff, Nat.reduceAdd, reduceIte, reduceCtorEq, splice, resOf, tupOf, cellsV, AV.toV, AV.cell?, cellVal]
    refine condO_intro ?_ ?_ <;> intro hc <;> simp only [kB, kC, cellsOf, fillA, partsEv, zeroes, Nat.reduceSub, Int.reduceToNat, Nat.reduceMul, asInt?, asNat?, Int.reduceAdd, Int.reduceLE, Int.reduceLT, Int.reduceNeg, Nat.reduceLeDiff, VOpd.ev, Nat.reduceEqDiff, Nat.reduceAdd, reduceIte, reduceCtorEq, splice, resOf, tupOf, cellsV, AV.toV, AV.cell?, cellVal]
    · have hi : i < xs.length := by have := of_decide_eq_true hc; omega
      obtain ⟨b1, o1, he1, hn1, _, _⟩ := hv.get i (by simpa using hi)
      obtain ⟨b2, o2, he2, hn2, _, _⟩ := hw.get i (by simpa using (by omega : i < ys.length))
      simp only [List.getElem_map, OpV.row] at hn1 hn2
      simp only [*, h.P, c_neq_op, kB, kC, cellsOf, fillA, partsEv, zeroes, Nat.reduceSub, Int.reduceToNat, Nat.reduceMul, asInt?, asNat?, Int.reduceAdd, Int.reduceLE, Int.reduceLT, Int.reduceNeg, Nat.reduceLeDiff, VOpd.ev, Nat.reduceEqDiff, Nat.reduceAdd, reduceIte, reduceCtorEq, splice, resOf, tupOf, cellsV, AV.toV, AV.cell?, cellVal]
      refine condO_intro ?_ ?_ <;> intro hq <;> simp only [*, kB, kC, cellsOf, fillA, partsEv, zeroes, Nat.reduceSub, Int.reduceToNat, Nat.reduceMul, asInt?, asNat?, Int.reduceAdd, Int.reduceLE, Int.reduceLT, Int.reduceNeg, Nat.reduceLeDiff, VOpd.ev, Nat.reduceEqDiff, Nat.reduceAdd, reduceIte, reduceCtorEq, splice, resOf, tupOf, cellsV, AV.toV, AV.cell?, cellVal]
      · have : xs ≠ ys := by
          rintro rfl
          have := (opEq_iff _ _ _ _ _ _ _ _ _ _ _ _ _ _).2 (⟨rfl, rfl, rfl, rfl, rfl, rfl, rfl⟩ : xs[i].k = xs[i].k ∧ xs[i].d = xs[i].d ∧ xs[i].a = xs[i].a ∧ xs[i].b = xs[i].b ∧ xs[i].c = xs[i].c ∧ xs[i].n = xs[i].n ∧ xs[i].g = xs[i].g)
          rw [this] at hq
          cases hq
        simp only [this, kB, kC, cellsOf, fillA, partsEv, zeroes, Nat.reduceSub, Int.reduceToNat, Nat.reduceMul, asInt?, asNat?, Int.reduceAdd, Int.reduceLE, Int.reduceLT, Int.reduceNeg, Nat.reduceLeDiff, VOpd.ev, Nat.reduceEqDiff, Nat.reduceAdd, reduceIte, reduceCtorEq, splice, resOf, tupOf, cellsV, AV.toV, AV.cell?, cellVal]
        first | exact ⟨_, rfl⟩ | exact ⟨rfl, _, rfl⟩ | exact ⟨trivial, _, rfl⟩ | exact ⟨[], (List.append_nil _).symm⟩
      · have he : xs[i] = ys[i] := by
          have := (opEq_iff _ _ _ _ _ _ _ _ _ _ _ _ _ _).1 (by simpa using hq)
          obtain ⟨q1, q2, q3, q4, q5, q6, q7⟩ := this
          cases hx : xs[i]; cases hy : ys[i]
          rw [hx, hy] at q1 q2 q3 q4 q5 q6 q7
          simp_all
        rw [wrap_small (by omega) (by omega)]
        refine ⟨m - 1, by omega, i + 1, by omega, by simp, fun j h1 h2 hj => ?_⟩
        by_cases hji : j = i
        · subst hji; exact he
        · exact hpre j (by omega) h2 (by omega)
    · have hi : i = xs.length := by have := of_decide_eq_false hc; omega
      have : xs = ys := List.ext_getElem hne fun j h1 h2 => hpre j h1 h2 (by omega)
      simp only [this, kB, kC, cellsOf, fillA, partsEv, zeroes, Nat.reduceSub, Int.reduceToNat, Nat.reduceMul, asInt?, asNat?, Int.reduceAdd, Int.reduceLE, Int.reduceLT, Int.reduceNeg, Nat.reduceLeDiff, VOpd.ev, Nat.reduceEqDiff, Nat.reduceAdd, reduceIte, reduceCtorEq, splice, resOf, tupOf, cellsV, AV.toV, AV.cell?, cellVal]
      first | exact ⟨_, rfl⟩ | exact ⟨rfl, _, rfl⟩ | exact ⟨trivial, _, rfl⟩ | exact ⟨[], (List.append_nil _).symm⟩
end
end Go.VX.Seat
end
section
set_option linter.unusedVariables false
set_option linter.unusedSimpArgs false
set_option maxRecDepth 4000
namespace Go.VX.Seat
open Go.Proofs
section
variable {X : Cx} {st : St}
theorem j_r07_SameBlocks (h : On X) {lo hi lo' hi' : Nat} {v w : AV} {xs ys : List BlkV} (hv : BlksAt st lo hi v xs) (hw : BlksAt st lo' hi' w ys) (hlen : (xs.length : Int) < 4611686018427387904) (hops : ∀ b ∈ xs, (b.ops.length : Int) < 4611686018427387904) :
    J X.P X.F X.H (.call 49 [v, w] st (.ret (bA (decide (xs = ys)))) st) := by
  refine pure_intro (by rw [h.F]; rfl) rfl ?_
  obtain ⟨fv, hv, hvo⟩ := hv
  obtain ⟨fw, hw, hwo⟩ := hw
  have l1 := hv.len
  have l2 := hw.len
  simp only [List.length_mapIdx] at l1 l2
  simp only [v_r07_SameBlocks, l1, l2, kB, kC, cellsOf, fillA, partsEv, zeroes, Nat.reduceSub, Int.reduceToNat, Nat.reduceMul, asInt?, asNat?, Int.reduceAdd, Int.reduceLE, Int.reduceLT, Int.reduceNeg, Nat.reduceLeDiff, VOpd.ev, Nat.reduceEqDiff, Nat.reduceAdd, reduceIte, reduceCtorEq, splice, resOf, tupOf, cellsV, AV.toV, AV.cell?, cellVal]
  by_cases hne : xs.length = ys.length
  case neg =>
    have : xs ≠ ys := fun e => hne (by rw [e])
    have h3 : ((xs.length : Int) ≠ (ys.length : Int)) := by omega
    simp only [h3, this, ne_eq, not_false_eq_true, kB, kC, cellsOf, fillA, partsEv, zeroes, Nat.reduceSub, Int.reduceToNat, Nat.reduceMul, asInt?, asNat?, Int.reduceAdd, Int.reduceLE, Int.reduceLT, Int.reduceNeg, Nat.reduceLeDiff, VOpd.ev, Nat.reduceEqDiff, Nat.reduceAdd, reduceIte, reduceCtorEq, splice, resOf, tupOf, cellsV, AV.toV, AV.cell?, cellVal]
    first | exact ⟨_, rfl⟩ | exact ⟨rfl, _, rfl⟩ | exact ⟨trivial, _, rfl⟩ | exact ⟨[], (List.append_nil _).symm⟩
  have h3 : ¬ ((xs.length : Int) ≠ (ys.length : Int)) := by omega
  simp only [h3, kB, kC, cellsOf, fillA, partsEv, zeroes, Nat.reduceSub, Int.reduceToNat, Nat.reduceMul, asInt?, asNat?, Int.reduceAdd, Int.reduceLE, Int.reduceLT, Int.reduceNeg, Nat.reduceLeDiff, VOpd.ev, Nat.reduceEqDiff, Nat.reduceAdd, reduceIte, reduceCtorEq, splice, resOf, tupOf, cellsV, AV.toV, AV.cell?, cellVal]
  refine loop_live [0, 1] (fun m e => ∃ i : Nat, i + m = xs.length ∧ e 5 = iA i ∧ ∀ j (h1 : j < xs.length) (h2 : j < ys.length), j < i → xs[j] = ys[j]) xs.length ?_ ?_
  · exact ⟨0, by omega, by simp only [kB, kC, cellsOf, fillA, partsEv, zeroes, Nat.reduceSub, Int.reduceToNat, Nat.reduceMul, asInt?, asNat?, Int.reduceAdd, Int.reduceLE, Int.reduceLT, Int.reduceNeg, Nat.reduceLeDiff, VOpd.ev, Nat.reduceEqDiff, Nat.reduceAdd, reduceIte, reduceCtorEq, splice, resOf, tupOf, cellsV, AV.toV, AV.cell?, cellVal], fun j _ _ hj => absurd hj (by omega)⟩
  · intro m e hL ⟨i, him, h5, hpre⟩
    simp only [kB, kC, cellsOf, fillA, partsEv, zeroes, Nat.reduceSub, Int.reduceToNat, Nat.reduceMul, asInt?, asNat?, Int.reduceAdd, Int.reduceLE, Int.reduceLT, Int.reduceNeg, Nat.reduceLeDiff, VOpd.ev, Nat.reduceEqDiff, Nat.reduceAdd, reduceIte, reduceCtorEq, splice, resOf, tupOf, cellsV, AV.toV, AV.cell?, cellVal] at hL
    obtain ⟨h0, h1⟩ := hL
    simp only [*, kB, kC, cellsOf, fillA, partsEv, zeroes, Nat.reduceSub, Int.reduceToNat, Nat.reduceMul, asInt?, asNat?, Int.reduceAdd, Int.reduceLE, Int.reduceLT, Int.reduceNeg, Nat.reduceLeDiff, VOpd.ev, Nat.reduceEqDiff, Nat.reduceAdd, reduceIte, reduceCtorEq, splice, resOf, tupOf, cellsV, AV.toV, AV.cell?, cellVal]
    refine condO_intro ?_ ?_ <;> intro hc <;> simp only [kB, kC, cellsOf, fillA, partsEv, zeroes, Nat.reduceSub, Int.reduceToNat, Nat.reduceMul, asInt?, asNat?, Int.reduceAdd, Int.reduceLE, Int.reduceLT, Int.reduceNeg, Nat.reduceLeDiff, VOpd.ev, Nat.reduceEqDiff, Nat.reduceAdd, reduceIte, reduceCtorEq, splice, resOf, tupOf, cellsV, AV.toV, AV.cell?, cellVal]
    · have hi : i < xs.length := by have := of_decide_eq_true hc; omega
      have hi2 : i < ys.length := by omega
      obtain ⟨b1, o1, he1, hn1, ha1, hm1⟩ := hv.get i (by simpa using hi)
      obtain ⟨b2, o2, he2, hn2, ha2, hm2⟩ := hw.get i (by simpa using (by omega : i < ys.length))
      simp only [List.getElem_mapIdx, BlkV.row] at hn1 hn2 ha1 ha2 hm1 hm2
      have p1 := fun L => ha1 L 0 (by omega)
      have p2 := fun L => ha2 L 0 (by omega)
      have q1 := fun L => ha1 L 5 (by omega)
      have q2 := fun L => ha2 L 5 (by omega)
      have r1 := fun L => hm1 L 1 4 (by omega)
      have r2 := fun L => hm2 L 1 4 (by omega)
      simp only [kB, kC, cellsOf, fillA, partsEv, zeroes, Nat.reduceSub, Int.reduceToNat, Nat.reduceMul, asInt?, asNat?, Int.reduceAdd, Int.reduceLE, Int.reduceLT, Int.reduceNeg, Nat.reduceLeDiff, VOpd.ev, Nat.reduceEqDiff, Nat.reduceAdd, reduceIte, reduceCtorEq, splice, resOf, tupOf, cellsV, AV.toV, AV.cell?, cellVal] at p1 p2 q1 q2 r1 r2
      simp only [*, h.P, c_neq_end, kB, kC, cellsOf, fillA, partsEv, zeroes, Nat.reduceSub, Int.reduceToNat, Nat.reduceMul, asInt?, asNat?, Int.reduceAdd, Int.reduceLE, Int.reduceLT, Int.reduceNeg, Nat.reduceLeDiff, VOpd.ev, Nat.reduceEqDiff, Nat.reduceAdd, reduceIte, reduceCtorEq, splice, resOf, tupOf, cellsV, AV.toV, AV.cell?, cellVal]
      have hso := j_r07_SameOps (st := st ++ []) h ((hvo i hi).mono []) ((hwo i hi2).mono []) (hops _ (List.getElem_mem hi))
      refine callO_same hso ?_
      have hxy : xs[i] = ys[i] ↔ (xs[i].ops = ys[i].ops ∧ endEq xs[i].e.k xs[i].e.a xs[i].e.t xs[i].e.e ys[i].e.k ys[i].e.a ys[i].e.t ys[i].e.e = true ∧ xs[i].catch_ = ys[i].catch_) := by
        rw [endEq_iff]
        cases hx : xs[i]; cases hy : ys[i]
        simp only [BlkV.mk.injEq]
        rename_i o1 e1 c1 o2 e2 c2
        cases e1; cases e2
        simp
      generalize xs[i].ops = A at *
      generalize ys[i].ops = B at *
      simp only [*, h.P, c_neq_end, kB, kC, cellsOf, fillA, partsEv, zeroes, Nat.reduceSub, Int.reduceToNat, Nat.reduceMul, asInt?, asNat?, Int.reduceAdd, Int.reduceLE, Int.reduceLT, Int.reduceNeg, Nat.reduceLeDiff, VOpd.ev, Nat.reduceEqDiff, Nat.reduceAdd, reduceIte, reduceCtorEq, splice, resOf, tupOf, cellsV, AV.toV, AV.cell?, cellVal]
      refine cutG (mS (mB m0)) [0, 1, 5] (fun _ => xs[i] = ys[i]) ?_ ?_
      · repeat' first
          | first | (refine gO_t ?_ ?_ <;> (intro hc; simp only [*, kB, kC, cellsOf, fillA, partsEv, zeroes, Nat.reduceSub, Int.reduceToNat, Nat.reduceMul, asInt?, asNat?, Int.reduceAdd, Int.reduceLE, Int.reduceLT, Int.reduceNeg, Nat.reduceLeDiff, VOpd.ev, Nat.reduceEqDiff, Nat.reduceAdd, reduceIte, reduceCtorEq, splice, resOf, tupOf, cellsV, AV.toV, AV.cell?, cellVal])) | (refine gO_f ?_ ?_ <;> (intro hc; simp only [*, kB, kC, cellsOf, fillA, partsEv, zeroes, Nat.reduceSub, Int.reduceToNat, Nat.reduceMul, asInt?, asNat?, Int.reduceAdd, Int.reduceLE, Int.reduceLT, Int.reduceNeg, Nat.reduceLeDiff, VOpd.ev, Nat.reduceEqDiff, Nat.reduceAdd, reduceIte, reduceCtorEq, splice, resOf, tupOf, cellsV, AV.toV, AV.cell?, cellVal])) | (refine condO_intro ?_ ?_ <;> (intro hc; simp only [*, kB, kC, cellsOf, fillA, partsEv, zeroes, Nat.reduceSub, Int.reduceToNat, Nat.reduceMul, asInt?, asNat?, Int.reduceAdd, Int.reduceLE, Int.reduceLT, Int.reduceNeg, Nat.reduceLeDiff, VOpd.ev, Nat.reduceEqDiff, Nat.reduceAdd, reduceIte, reduceCtorEq, splice, resOf, tupOf, cellsV, AV.toV, AV.cell?, cellVal]))
          | simp only [*, h.P, c_neq_end, kB, kC, cellsOf, fillA, partsEv, zeroes, Nat.reduceSub, Int.reduceToNat, Nat.reduceMul, asInt?, asNat?, Int.reduceAdd, Int.reduceLE, Int.reduceLT, Int.reduceNeg, Nat.reduceLeDiff, VOpd.ev, Nat.reduceEqDiff, Nat.reduceAdd, reduceIte, reduceCtorEq, splice, resOf, tupOf, cellsV, AV.toV, AV.cell?, cellVal]
        iterate 3
          have hne2 : xs ≠ ys := fun e => by
            have hx : xs[i] = ys[i] := by subst e; rfl
            obtain ⟨x1, x2, x3⟩ := hxy.1 hx
            simp [x1, x2, x3] at hc
          · simp only [hne2, decide_false]
            exact ⟨trivial, _, rfl⟩
        simp_all
      · intro e1 hL hR
        simp only [kB, kC, cellsOf, fillA, partsEv, zeroes, Nat.reduceSub, Int.reduceToNat, Nat.reduceMul, asInt?, asNat?, Int.reduceAdd, Int.reduceLE, Int.reduceLT, Int.reduceNeg, Nat.reduceLeDiff, VOpd.ev, Nat.reduceEqDiff, Nat.reduceAdd, reduceIte, reduceCtorEq, splice, resOf, tupOf, cellsV, AV.toV, AV.cell?, cellVal] at hL ⊢
        simp only [h0, h1, h5] at hL
        obtain ⟨g0, g1, g5⟩ := hL
        simp only [*, kB, kC, cellsOf, fillA, partsEv, zeroes, Nat.reduceSub, Int.reduceToNat, Nat.reduceMul, asInt?, asNat?, Int.reduceAdd, Int.reduceLE, Int.reduceLT, Int.reduceNeg, Nat.reduceLeDiff, VOpd.ev, Nat.reduceEqDiff, Nat.reduceAdd, reduceIte, reduceCtorEq, splice, resOf, tupOf, cellsV, AV.toV, AV.cell?, cellVal]
        rw [wrap_small (by omega) (by omega)]
        refine ⟨m - 1, by omega, i + 1, by omega, by simp, fun j h1 h2 hj => ?_⟩
        by_cases hji : j = i
        · subst hji; exact hR
        · exact hpre j (by omega) h2 (by omega)
    · have hi : i = xs.length := by have := of_decide_eq_false hc; omega
      have : xs = ys := List.ext_getElem hne fun j h1 h2 => hpre j h1 h2 (by omega)
      simp only [this, kB, kC, cellsOf, fillA, partsEv, zeroes, Nat.reduceSub, Int.reduceToNat, Nat.reduceMul, asInt?, asNat?, Int.reduceAdd, Int.reduceLE, Int.reduceLT, Int.reduceNeg, Nat.reduceLeDiff, VOpd.ev, Nat.reduceEqDiff, Nat.reduceAdd, reduceIte, reduceCtorEq, splice, resOf, tupOf, cellsV, AV.toV, AV.cell?, cellVal]
      first | exact ⟨_, rfl⟩ | exact ⟨rfl, _, rfl⟩ | exact ⟨trivial, _, rfl⟩ | exact ⟨[], (List.append_nil _).symm⟩
end
end Go.VX.Seat
end
section
set_option linter.unusedVariables false
set_option linter.unusedSimpArgs false
set_option maxRecDepth 4000
namespace Go.VX.Seat
open Go.Proofs
theorem unit_ext {U V : UnitV} (h1 : U.sizes = V.sizes) (h2 : U.params = V.params) (h3 : U.regs = V.regs) (h4 : U.code = V.code) (h5 : U.spill = V.spill) (h6 : U.blocks = V.blocks) : U = V := by
  cases U; cases V; simp_all
/-- Nothing is out of all measure. -/
def Fits (U : UnitV) : Prop := (U.sizes.length : Int) < 4611686018427387904 ∧ (U.blocks.length : Int) < 4611686018427387904 ∧ ∀ b ∈ U.blocks, (b.ops.length : Int) < 4611686018427387904
theorem BlksAt.mono {st : St} {lo hi : Nat} {v : AV} {l : List BlkV} (h : BlksAt st lo hi v l) (m : St) : BlksAt (st ++ m) lo hi v l :=
  let ⟨f, h1, h2⟩ := h; ⟨f, h1.mono m, fun i hi => (h2 i hi).mono m⟩
theorem UnitAt.mono {st : St} {lo hi : Nat} {v : AV} {U : UnitV} (h : UnitAt st lo hi v U) (m : St) : UnitAt (st ++ m) lo hi v U :=
  let ⟨s, bl, h1, h2, h3⟩ := h; ⟨s, bl, h1, h2.mono m, h3.mono m⟩
theorem BlksAt.ext {st s : St} {lo hi : Nat} {v : AV} {l : List BlkV} (h : BlksAt st lo hi v l) (he : Ext st s) : BlksAt s lo hi v l := by obtain ⟨L, rfl⟩ := he; exact h.mono L
theorem UnitAt.ext {st s : St} {lo hi : Nat} {v : AV} {U : UnitV} (h : UnitAt st lo hi v U) (he : Ext st s) : UnitAt s lo hi v U := by obtain ⟨L, rfl⟩ := he; exact h.mono L
theorem isCell_len {v : AV} {n : Nat} (h : lenA v = some n) : AV.isCell v = true := by
  unfold lenA at h
  split at h
  · rfl
  · rfl
  · cases h
section
variable {X : Cx} {st : St}
theorem j_r07_Same (h : On X) {lo hi lo' hi' : Nat} {v w : AV} {U V : UnitV} (hv : UnitAt st lo hi v U) (hw : UnitAt st lo' hi' w V) (hf : Fits U) :
    J X.P X.F X.H (.call 16 [v, w] st (.ret (bA (decide (U = V)))) st) := by
  refine pure_intro (by rw [h.F]; rfl) rfl ?_
  obtain ⟨s, bl, rfl, hs, hb⟩ := hv
  obtain ⟨s', bl', rfl, hs', hb'⟩ := hw
  have l1 := hs.len
  have l2 := hs'.len
  simp only [List.length_map] at l1 l2
  simp only [v_r07_Same, l1, l2, kB, kC, cellsOf, fillA, partsEv, zeroes, Nat.reduceSub, Int.reduceToNat, Nat.reduceMul, asInt?, asNat?, Int.reduceAdd, Int.reduceLE, Int.reduceLT, Int.reduceNeg, Nat.reduceLeDiff, VOpd.ev, Nat.reduceEqDiff, Nat.reduceAdd, reduceIte, reduceCtorEq, splice, resOf, tupOf, cellsV, AV.toV, AV.cell?, cellVal]
  refine cutG (mS m0) [2, 3] (fun _ => U.sizes.length = V.sizes.length ∧ U.params = V.params ∧ U.regs = V.regs ∧ U.code = V.code ∧ U.spill = V.spill) ?_ ?_
  · repeat' first | (refine gO_t ?_ ?_ <;> (intro hc; simp only [*, kB, kC, cellsOf, fillA, partsEv, zeroes, Nat.reduceSub, Int.reduceToNat, Nat.reduceMul, asInt?, asNat?, Int.reduceAdd, Int.reduceLE, Int.reduceLT, Int.reduceNeg, Nat.reduceLeDiff, VOpd.ev, Nat.reduceEqDiff, Nat.reduceAdd, reduceIte, reduceCtorEq, splice, resOf, tupOf, cellsV, AV.toV, AV.cell?, cellVal])) | (refine gO_f ?_ ?_ <;> (intro hc; simp only [*, kB, kC, cellsOf, fillA, partsEv, zeroes, Nat.reduceSub, Int.reduceToNat, Nat.reduceMul, asInt?, asNat?, Int.reduceAdd, Int.reduceLE, Int.reduceLT, Int.reduceNeg, Nat.reduceLeDiff, VOpd.ev, Nat.reduceEqDiff, Nat.reduceAdd, reduceIte, reduceCtorEq, splice, resOf, tupOf, cellsV, AV.toV, AV.cell?, cellVal])) | (refine condO_intro ?_ ?_ <;> (intro hc; simp only [*, kB, kC, cellsOf, fillA, partsEv, zeroes, Nat.reduceSub, Int.reduceToNat, Nat.reduceMul, asInt?, asNat?, Int.reduceAdd, Int.reduceLE, Int.reduceLT, Int.reduceNeg, Nat.reduceLeDiff, VOpd.ev, Nat.reduceEqDiff, Nat.reduceAdd, reduceIte, reduceCtorEq, splice, resOf, tupOf, cellsV, AV.toV, AV.cell?, cellVal]))
    iterate 5
      have hne2 : U ≠ V := fun e => by
        subst e
        have := of_decide_eq_true hc
        simp at this
      · simp only [hne2, decide_false]
        exact ⟨trivial, _, rfl⟩
    simp_all
    omega
  · intro e1 hL ⟨e1', e2, e3, e4, e5⟩
    simp only [kB, kC, cellsOf, fillA, partsEv, zeroes, Nat.reduceSub, Int.reduceToNat, Nat.reduceMul, asInt?, asNat?, Int.reduceAdd, Int.reduceLE, Int.reduceLT, Int.reduceNeg, Nat.reduceLeDiff, VOpd.ev, Nat.reduceEqDiff, Nat.reduceAdd, reduceIte, reduceCtorEq, splice, resOf, tupOf, cellsV, AV.toV, AV.cell?, cellVal] at hL ⊢
    obtain ⟨h2, h3⟩ := hL
    refine cutLoop (mB m0) [2, 3] (fun _ => U.sizes = V.sizes) ?_ ?_
    · refine loop_live [2, 3] (fun m e => ∃ i : Nat, i + m = U.sizes.length ∧ e 5 = iA i ∧ ∀ j (h1 : j < U.sizes.length) (h2 : j < V.sizes.length), j < i → U.sizes[j] = V.sizes[j]) U.sizes.length ?_ ?_
      · exact ⟨0, by omega, by simp only [kB, kC, cellsOf, fillA, partsEv, zeroes, Nat.reduceSub, Int.reduceToNat, Nat.reduceMul, asInt?, asNat?, Int.reduceAdd, Int.reduceLE, Int.reduceLT, Int.reduceNeg, Nat.reduceLeDiff, VOpd.ev, Nat.reduceEqDiff, Nat.reduceAdd, reduceIte, reduceCtorEq, splice, resOf, tupOf, cellsV, AV.toV, AV.cell?, cellVal], fun j _ _ hj => absurd hj (by omega)⟩
      · intro m e hL ⟨i, him, h5, hpre⟩
        simp only [kB, kC, cellsOf, fillA, partsEv, zeroes, Nat.reduceSub, Int.reduceToNat, Nat.reduceMul, asInt?, asNat?, Int.reduceAdd, Int.reduceLE, Int.reduceLT, Int.reduceNeg, Nat.reduceLeDiff, VOpd.ev, Nat.reduceEqDiff, Nat.reduceAdd, reduceIte, reduceCtorEq, splice, resOf, tupOf, cellsV, AV.toV, AV.cell?, cellVal] at hL
        simp only [h2, h3] at hL
        obtain ⟨h2', h3'⟩ := hL
        simp only [h2', h3', h5, l1, l2, kB, kC, cellsOf, fillA, partsEv, zeroes, Nat.reduceSub, Int.reduceToNat, Nat.reduceMul, asInt?, asNat?, Int.reduceAdd, Int.reduceLE, Int.reduceLT, Int.reduceNeg, Nat.reduceLeDiff, VOpd.ev, Nat.reduceEqDiff, Nat.reduceAdd, reduceIte, reduceCtorEq, splice, resOf, tupOf, cellsV, AV.toV, AV.cell?, cellVal]
        refine condO_intro ?_ ?_ <;> intro hc <;> simp only [kB, kC, cellsOf, fillA, partsEv, zeroes, Nat.reduceSub, Int.reduceToNat, Nat.reduceMul, asInt?, asNat?, Int.reduceAdd, Int.reduceLE, Int.reduceLT, Int.reduceNeg, Nat.reduceLeDiff, VOpd.ev, Nat.reduceEqDiff, Nat.reduceAdd, reduceIte, reduceCtorEq, splice, resOf, tupOf, cellsV, AV.toV, AV.cell?, cellVal]
        · have hi : i < U.sizes.length := by have := of_decide_eq_true hc; omega
          have hi2 : i < V.sizes.length := by omega
          obtain ⟨b1, o1, he1, hn1, ha1, hm1⟩ := hs.get i (by simpa using hi)
          obtain ⟨b2, o2, he2, hn2, ha2, hm2⟩ := hs'.get i (by simpa using hi2)
          have p1 := fun L => ha1 L 0 (by omega)
          have p2 := fun L => ha2 L 0 (by omega)
          simp only [List.getElem_map, Nat.add_zero, kB, kC, cellsOf, fillA, partsEv, zeroes, Nat.reduceSub, Int.reduceToNat, Nat.reduceMul, asInt?, asNat?, Int.reduceAdd, Int.reduceLE, Int.reduceLT, Int.reduceNeg, Nat.reduceLeDiff, VOpd.ev, Nat.reduceEqDiff, Nat.reduceAdd, reduceIte, reduceCtorEq, splice, resOf, tupOf, cellsV, AV.toV, AV.cell?, cellVal] at p1 p2
          simp only [h2', h3', h5, l1, l2, he1, he2, p1, p2, kB, kC, cellsOf, fillA, partsEv, zeroes, Nat.reduceSub, Int.reduceToNat, Nat.reduceMul, asInt?, asNat?, Int.reduceAdd, Int.reduceLE, Int.reduceLT, Int.reduceNeg, Nat.reduceLeDiff, VOpd.ev, Nat.reduceEqDiff, Nat.reduceAdd, reduceIte, reduceCtorEq, splice, resOf, tupOf, cellsV, AV.toV, AV.cell?, cellVal]
          refine condO_intro ?_ ?_ <;> intro hq <;> simp only [h2', h3', h5, h2, h3, kB, kC, cellsOf, fillA, partsEv, zeroes, Nat.reduceSub, Int.reduceToNat, Nat.reduceMul, asInt?, asNat?, Int.reduceAdd, Int.reduceLE, Int.reduceLT, Int.reduceNeg, Nat.reduceLeDiff, VOpd.ev, Nat.reduceEqDiff, Nat.reduceAdd, reduceIte, reduceCtorEq, splice, resOf, tupOf, cellsV, AV.toV, AV.cell?, cellVal]
          · have hne2 : U ≠ V := fun e => by
              subst e
              have := of_decide_eq_true hq
              simp at this
            simp only [hne2, decide_false]
            exact ⟨trivial, _, rfl⟩
          · rw [wrap_small (by omega) (by have := hf.1; omega)]
            refine ⟨m - 1, by omega, i + 1, by omega, by simp, fun j h1 h2 hj => ?_⟩
            by_cases hji : j = i
            · subst hji
              have := of_decide_eq_false hq
              omega
            · exact hpre j (by omega) h2 (by omega)
        · have hi : i = U.sizes.length := by have := of_decide_eq_false hc; omega
          simp only [h2', h3', h2, h3, kB, kC, cellsOf, fillA, partsEv, zeroes, Nat.reduceSub, Int.reduceToNat, Nat.reduceMul, asInt?, asNat?, Int.reduceAdd, Int.reduceLE, Int.reduceLT, Int.reduceNeg, Nat.reduceLeDiff, VOpd.ev, Nat.reduceEqDiff, Nat.reduceAdd, reduceIte, reduceCtorEq, splice, resOf, tupOf, cellsV, AV.toV, AV.cell?, cellVal]
          exact List.ext_getElem e1' fun j h1 h2 => hpre j h1 h2 (by omega)
    · intro e hL hss
      simp only [kB, kC, cellsOf, fillA, partsEv, zeroes, Nat.reduceSub, Int.reduceToNat, Nat.reduceMul, asInt?, asNat?, Int.reduceAdd, Int.reduceLE, Int.reduceLT, Int.reduceNeg, Nat.reduceLeDiff, VOpd.ev, Nat.reduceEqDiff, Nat.reduceAdd, reduceIte, reduceCtorEq, splice, resOf, tupOf, cellsV, AV.toV, AV.cell?, cellVal] at hL ⊢
      simp only [h2, h3] at hL
      obtain ⟨h2', h3'⟩ := hL
      simp only [h2', h3', kB, kC, cellsOf, fillA, partsEv, zeroes, Nat.reduceSub, Int.reduceToNat, Nat.reduceMul, asInt?, asNat?, Int.reduceAdd, Int.reduceLE, Int.reduceLT, Int.reduceNeg, Nat.reduceLeDiff, VOpd.ev, Nat.reduceEqDiff, Nat.reduceAdd, reduceIte, reduceCtorEq, splice, resOf, tupOf, cellsV, AV.toV, AV.cell?, cellVal]
      refine callO_same (j_r07_SameBlocks h (lo := lo) (hi := hi) (lo' := lo') (hi' := hi') (xs := U.blocks) (ys := V.blocks) ?_ ?_ hf.2.1 hf.2.2) ?_
      · exact hb.mono _
      · exact hb'.mono _
      · simp only [kB, kC, cellsOf, fillA, partsEv, zeroes, Nat.reduceSub, Int.reduceToNat, Nat.reduceMul, asInt?, asNat?, Int.reduceAdd, Int.reduceLE, Int.reduceLT, Int.reduceNeg, Nat.reduceLeDiff, VOpd.ev, Nat.reduceEqDiff, Nat.reduceAdd, reduceIte, reduceCtorEq, splice, resOf, tupOf, cellsV, AV.toV, AV.cell?, cellVal]
        have hiff : (U.blocks = V.blocks) ↔ (U = V) := ⟨fun h6 => unit_ext hss e2 e3 e4 e5 h6, fun e => by rw [e]⟩
        simp only [hiff]
        exact ⟨trivial, _, rfl⟩
end
end Go.VX.Seat
end
section
set_option linter.unusedVariables false
set_option linter.unusedSimpArgs false
set_option maxRecDepth 4000
/-! The first error of a unit. -/
namespace Go.VX.Seat
open Go.Proofs
def opErrU (U : UnitV) (o : OpV) : Int := opErr U.sizes.length U.blocks.length U.regs U.spill o.k o.d o.a o.b o.c o.n o.g
def endErrU (U : UnitV) (e : EndV) : Int := endErr U.blocks.length U.regs e.k e.a e.t e.e
def opsFind (U : UnitV) (i : Nat) : Nat → List OpV → Option (Int × Int × Int)
  | _, [] => none
  | k, o :: r => if decide (opErrU U o ≠ 0) then some (opErrU U o, i, k) else opsFind U i (k + 1) r
def blkFind (U : UnitV) : Nat → List BlkV → Option (Int × Int × Int)
  | _, [] => none
  | i, b :: r =>
    if decide (b.catch_ < -1) || decide ((U.blocks.length : Int) ≤ b.catch_) then some (2, i, b.ops.length) else
    if decide (400 < (b.ops.length : Int)) then some (3, i, b.ops.length) else
    match opsFind U i 0 b.ops with
    | some x => some x
    | none => if decide (endErrU U b.e ≠ 0) then some (endErrU U b.e, i, b.ops.length) else blkFind U (i + 1) r
def total (l : List BlkV) : Nat := (l.map (·.ops.length)).sum
def badSize (n : Int) : Bool := decide (n < 1) || decide (65536 < n)
def limitsU (U : UnitV) : Bool := decide (16 < (U.sizes.length : Int)) || decide (2000 < (U.blocks.length : Int)) || decide ((U.blocks.length : Int) = 0) || decide (4096 < U.regs) || decide (4096 < U.spill)
def headU (U : UnitV) : Bool := decide (U.regs < 1) || decide (U.spill < 0) || decide (U.params < 0) || decide (8 < U.params) || decide (U.regs < U.params) || !regOkA U.regs U.code
def findU (U : UnitV) : Int × Int × Int :=
  if limitsU U then (3, 0, 0) else
  if U.sizes.any badSize then (2, 0, 0) else
  if headU U then (2, 0, 0) else
  match blkFind U 0 U.blocks with
  | some x => x
  | none => if decide (20000 < (total U.blocks : Int)) then (3, 0, 0) else (0, 0, 0)
abbrev triA (x : Int × Int × Int) : AV := .tup [iA x.1, iA x.2.1, iA x.2.2]
section
variable {X : Cx} {st : St}
theorem j_r07_Find (h : On X) {lo hi : Nat} {v : AV} {U : UnitV} (hv : UnitAt st lo hi v U) :
    J X.P X.F X.H (.call 17 [v] st (.ret (triA (findU U))) st) := by
  refine pure_intro (by rw [h.F]; rfl) rfl ?_
  obtain ⟨s, bl, rfl, hs, hb⟩ := hv
  have l1 := hs.len
  have l2 : lenA bl = some U.blocks.length := by
    obtain ⟨f, hb, _⟩ := hb
    have := hb.len
    simpa using this
  simp only [List.length_map] at l1
  have hbox := BoxAt.last st [s, iA U.params, iA U.regs, iA U.code, iA U.spill, bl] 0
  have hs0 := hs.mono [⟨[s, iA U.params, iA U.regs, iA U.code, iA U.spill, bl], 0, 0⟩]
  have hb0 := hb.mono [⟨[s, iA U.params, iA U.regs, iA U.code, iA U.spill, bl], 0, 0⟩]
  simp only [v_r07_Find, l1, l2, kB, kC, cellsOf, fillA, partsEv, zeroes, Nat.reduceSub, Int.reduceToNat, Nat.reduceMul, asInt?, asNat?, Int.reduceAdd, Int.reduceLE, Int.reduceLT, Int.reduceNeg, Nat.reduceLeDiff, VOpd.ev, Nat.reduceEqDiff, Nat.reduceAdd, reduceIte, reduceCtorEq, splice, resOf, tupOf, cellsV, AV.toV, AV.cell?, cellVal]
  refine cutG (mS m0) [1] (fun _ => limitsU U = false) ?_ ?_
  · unfold findU limitsU
    repeat' first | (refine gO_t ?_ ?_ <;> (intro hc; simp only [*, kB, kC, cellsOf, fillA, partsEv, zeroes, Nat.reduceSub, Int.reduceToNat, Nat.reduceMul, asInt?, asNat?, Int.reduceAdd, Int.reduceLE, Int.reduceLT, Int.reduceNeg, Nat.reduceLeDiff, VOpd.ev, Nat.reduceEqDiff, Nat.reduceAdd, reduceIte, reduceCtorEq, splice, resOf, tupOf, cellsV, AV.toV, AV.cell?, cellVal])) | (refine gO_f ?_ ?_ <;> (intro hc; simp only [*, kB, kC, cellsOf, fillA, partsEv, zeroes, Nat.reduceSub, Int.reduceToNat, Nat.reduceMul, asInt?, asNat?, Int.reduceAdd, Int.reduceLE, Int.reduceLT, Int.reduceNeg, Nat.reduceLeDiff, VOpd.ev, Nat.reduceEqDiff, Nat.reduceAdd, reduceIte, reduceCtorEq, splice, resOf, tupOf, cellsV, AV.toV, AV.cell?, cellVal])) | (refine condO_intro ?_ ?_ <;> (intro hc; simp only [*, kB, kC, cellsOf, fillA, partsEv, zeroes, Nat.reduceSub, Int.reduceToNat, Nat.reduceMul, asInt?, asNat?, Int.reduceAdd, Int.reduceLE, Int.reduceLT, Int.reduceNeg, Nat.reduceLeDiff, VOpd.ev, Nat.reduceEqDiff, Nat.reduceAdd, reduceIte, reduceCtorEq, splice, resOf, tupOf, cellsV, AV.toV, AV.cell?, cellVal]))
    all_goals first | exact ⟨_, rfl⟩ | exact ⟨rfl, _, rfl⟩ | exact ⟨trivial, _, rfl⟩ | exact ⟨[], (List.append_nil _).symm⟩
  · intro e1 hL hlim
    simp only [kB, kC, cellsOf, fillA, partsEv, zeroes, Nat.reduceSub, Int.reduceToNat, Nat.reduceMul, asInt?, asNat?, Int.reduceAdd, Int.reduceLE, Int.reduceLT, Int.reduceNeg, Nat.reduceLeDiff, VOpd.ev, Nat.reduceEqDiff, Nat.reduceAdd, reduceIte, reduceCtorEq, splice, resOf, tupOf, cellsV, AV.toV, AV.cell?, cellVal] at hL ⊢
    refine cutLoop (mB m0) [1] (fun _ => U.sizes.any badSize = false) ?_ ?_
    · refine loop_live [1] (fun m e => ∃ i : Nat, i + m = U.sizes.length ∧ e 5 = iA i ∧ ∀ j (h1 : j < U.sizes.length), j < i → badSize U.sizes[j] = false) U.sizes.length ?_ ?_
      · exact ⟨0, by omega, by simp only [kB, kC, cellsOf, fillA, partsEv, zeroes, Nat.reduceSub, Int.reduceToNat, Nat.reduceMul, asInt?, asNat?, Int.reduceAdd, Int.reduceLE, Int.reduceLT, Int.reduceNeg, Nat.reduceLeDiff, VOpd.ev, Nat.reduceEqDiff, Nat.reduceAdd, reduceIte, reduceCtorEq, splice, resOf, tupOf, cellsV, AV.toV, AV.cell?, cellVal], fun j _ hj => absurd hj (by omega)⟩
      · intro m e hL2 ⟨i, him, h5, hpre⟩
        simp only [kB, kC, cellsOf, fillA, partsEv, zeroes, Nat.reduceSub, Int.reduceToNat, Nat.reduceMul, asInt?, asNat?, Int.reduceAdd, Int.reduceLE, Int.reduceLT, Int.reduceNeg, Nat.reduceLeDiff, VOpd.ev, Nat.reduceEqDiff, Nat.reduceAdd, reduceIte, reduceCtorEq, splice, resOf, tupOf, cellsV, AV.toV, AV.cell?, cellVal] at hL2
        simp only [hL] at hL2
        simp only [hL2, h5, l1, l2, kB, kC, cellsOf, fillA, partsEv, zeroes, Nat.reduceSub, Int.reduceToNat, Nat.reduceMul, asInt?, asNat?, Int.reduceAdd, Int.reduceLE, Int.reduceLT, Int.reduceNeg, Nat.reduceLeDiff, VOpd.ev, Nat.reduceEqDiff, Nat.reduceAdd, reduceIte, reduceCtorEq, splice, resOf, tupOf, cellsV, AV.toV, AV.cell?, cellVal]
        refine condO_intro ?_ ?_ <;> intro hc <;> simp only [kB, kC, cellsOf, fillA, partsEv, zeroes, Nat.reduceSub, Int.reduceToNat, Nat.reduceMul, asInt?, asNat?, Int.reduceAdd, Int.reduceLE, Int.reduceLT, Int.reduceNeg, Nat.reduceLeDiff, VOpd.ev, Nat.reduceEqDiff, Nat.reduceAdd, reduceIte, reduceCtorEq, splice, resOf, tupOf, cellsV, AV.toV, AV.cell?, cellVal]
        · have hi : i < U.sizes.length := by have := of_decide_eq_true hc; omega
          obtain ⟨b1, o1, he1, hn1, ha1, hm1⟩ := hs.get i (by simpa using hi)
          have p1 := fun L => ha1 L 0 (by omega)
          simp only [List.getElem_map, Nat.add_zero, kB, kC, cellsOf, fillA, partsEv, zeroes, Nat.reduceSub, Int.reduceToNat, Nat.reduceMul, asInt?, asNat?, Int.reduceAdd, Int.reduceLE, Int.reduceLT, Int.reduceNeg, Nat.reduceLeDiff, VOpd.ev, Nat.reduceEqDiff, Nat.reduceAdd, reduceIte, reduceCtorEq, splice, resOf, tupOf, cellsV, AV.toV, AV.cell?, cellVal] at p1
          simp only [hL2, h5, l1, l2, he1, p1, kB, kC, cellsOf, fillA, partsEv, zeroes, Nat.reduceSub, Int.reduceToNat, Nat.reduceMul, asInt?, asNat?, Int.reduceAdd, Int.reduceLE, Int.reduceLT, Int.reduceNeg, Nat.reduceLeDiff, VOpd.ev, Nat.reduceEqDiff, Nat.reduceAdd, reduceIte, reduceCtorEq, splice, resOf, tupOf, cellsV, AV.toV, AV.cell?, cellVal]
          have hsm : (U.sizes.length : Int) ≤ 16 := by
            unfold limitsU at hlim
            simp at hlim
            omega
          refine cutG (mS (mB m0)) [1, 5] (fun _ => badSize U.sizes[i] = false) ?_ ?_
          · have hbad : badSize U.sizes[i] = true → findU U = (2, 0, 0) := fun hb => by
              have : U.sizes.any badSize = true := List.any_eq_true.2 ⟨_, List.getElem_mem hi, hb⟩
              unfold findU
              simp only [hlim, this, Bool.false_eq_true, if_false, if_true]
            unfold badSize at hbad ⊢
            repeat' first | (refine gO_t ?_ ?_ <;> (intro hc; simp only [*, kB, kC, cellsOf, fillA, partsEv, zeroes, Nat.reduceSub, Int.reduceToNat, Nat.reduceMul, asInt?, asNat?, Int.reduceAdd, Int.reduceLE, Int.reduceLT, Int.reduceNeg, Nat.reduceLeDiff, VOpd.ev, Nat.reduceEqDiff, Nat.reduceAdd, reduceIte, reduceCtorEq, splice, resOf, tupOf, cellsV, AV.toV, AV.cell?, cellVal])) | (refine gO_f ?_ ?_ <;> (intro hc; simp only [*, kB, kC, cellsOf, fillA, partsEv, zeroes, Nat.reduceSub, Int.reduceToNat, Nat.reduceMul, asInt?, asNat?, Int.reduceAdd, Int.reduceLE, Int.reduceLT, Int.reduceNeg, Nat.reduceLeDiff, VOpd.ev, Nat.reduceEqDiff, Nat.reduceAdd, reduceIte, reduceCtorEq, splice, resOf, tupOf, cellsV, AV.toV, AV.cell?, cellVal])) | (refine condO_intro ?_ ?_ <;> (intro hc; simp only [*, kB, kC, cellsOf, fillA, partsEv, zeroes, Nat.reduceSub, Int.reduceToNat, Nat.reduceMul, asInt?, asNat?, Int.reduceAdd, Int.reduceLE, Int.reduceLT, Int.reduceNeg, Nat.reduceLeDiff, VOpd.ev, Nat.reduceEqDiff, Nat.reduceAdd, reduceIte, reduceCtorEq, splice, resOf, tupOf, cellsV, AV.toV, AV.cell?, cellVal]))
            all_goals first
              | first | exact ⟨_, rfl⟩ | exact ⟨rfl, _, rfl⟩ | exact ⟨trivial, _, rfl⟩ | exact ⟨[], (List.append_nil _).symm⟩
              | fail
          · intro e hL3 hok
            simp only [kB, kC, cellsOf, fillA, partsEv, zeroes, Nat.reduceSub, Int.reduceToNat, Nat.reduceMul, asInt?, asNat?, Int.reduceAdd, Int.reduceLE, Int.reduceLT, Int.reduceNeg, Nat.reduceLeDiff, VOpd.ev, Nat.reduceEqDiff, Nat.reduceAdd, reduceIte, reduceCtorEq, splice, resOf, tupOf, cellsV, AV.toV, AV.cell?, cellVal] at hL3 ⊢
            simp only [hL2, h5] at hL3
            obtain ⟨g1, g5⟩ := hL3
            simp only [hL, g1, g5, kB, kC, cellsOf, fillA, partsEv, zeroes, Nat.reduceSub, Int.reduceToNat, Nat.reduceMul, asInt?, asNat?, Int.reduceAdd, Int.reduceLE, Int.reduceLT, Int.reduceNeg, Nat.reduceLeDiff, VOpd.ev, Nat.reduceEqDiff, Nat.reduceAdd, reduceIte, reduceCtorEq, splice, resOf, tupOf, cellsV, AV.toV, AV.cell?, cellVal]
            rw [wrap_small (by omega) (by omega)]
            refine ⟨m - 1, by omega, i + 1, by omega, by simp, fun j h1 hj => ?_⟩
            by_cases hji : j = i
            · subst hji; exact hok
            · exact hpre j (by omega) (by omega)
        · have hi : i = U.sizes.length := by have := of_decide_eq_false hc; omega
          simp only [hL2, hL, kB, kC, cellsOf, fillA, partsEv, zeroes, Nat.reduceSub, Int.reduceToNat, Nat.reduceMul, asInt?, asNat?, Int.reduceAdd, Int.reduceLE, Int.reduceLT, Int.reduceNeg, Nat.reduceLeDiff, VOpd.ev, Nat.reduceEqDiff, Nat.reduceAdd, reduceIte, reduceCtorEq, splice, resOf, tupOf, cellsV, AV.toV, AV.cell?, cellVal]
          rw [List.any_eq_false]
          intro x hx
          obtain ⟨j, hj, rfl⟩ := List.getElem_of_mem hx
          rw [hpre j hj (by omega)]
          decide
    · intro e hL2 hsz
      simp only [kB, kC, cellsOf, fillA, partsEv, zeroes, Nat.reduceSub, Int.reduceToNat, Nat.reduceMul, asInt?, asNat?, Int.reduceAdd, Int.reduceLE, Int.reduceLT, Int.reduceNeg, Nat.reduceLeDiff, VOpd.ev, Nat.reduceEqDiff, Nat.reduceAdd, reduceIte, reduceCtorEq, splice, resOf, tupOf, cellsV, AV.toV, AV.cell?, cellVal] at hL2 ⊢
      simp only [hL] at hL2
      simp only [hL2, kB, kC, cellsOf, fillA, partsEv, zeroes, Nat.reduceSub, Int.reduceToNat, Nat.reduceMul, asInt?, asNat?, Int.reduceAdd, Int.reduceLE, Int.reduceLT, Int.reduceNeg, Nat.reduceLeDiff, VOpd.ev, Nat.reduceEqDiff, Nat.reduceAdd, reduceIte, reduceCtorEq, splice, resOf, tupOf, cellsV, AV.toV, AV.cell?, cellVal]
      refine cutG (mS m0) [1] (fun _ => headU U = false) ?_ ?_
      · have hbad : headU U = true → findU U = (2, 0, 0) := fun hb => by
          unfold findU
          simp only [hlim, hsz, hb, Bool.false_eq_true, if_false, if_true]
        unfold headU at hbad ⊢
        repeat' first | (refine callO_same (j_r07_EndA h _) ?_; simp only [*, kB, kC, cellsOf, fillA, partsEv, zeroes, Nat.reduceSub, Int.reduceToNat, Nat.reduceMul, asInt?, asNat?, Int.reduceAdd, Int.reduceLE, Int.reduceLT, Int.reduceNeg, Nat.reduceLeDiff, VOpd.ev, Nat.reduceEqDiff, Nat.reduceAdd, reduceIte, reduceCtorEq, splice, resOf, tupOf, cellsV, AV.toV, AV.cell?, cellVal]) | (refine callO_same (j_r07_EndTo h _) ?_; simp only [*, kB, kC, cellsOf, fillA, partsEv, zeroes, Nat.reduceSub, Int.reduceToNat, Nat.reduceMul, asInt?, asNat?, Int.reduceAdd, Int.reduceLE, Int.reduceLT, Int.reduceNeg, Nat.reduceLeDiff, VOpd.ev, Nat.reduceEqDiff, Nat.reduceAdd, reduceIte, reduceCtorEq, splice, resOf, tupOf, cellsV, AV.toV, AV.cell?, cellVal]) | (refine callO_same (j_r07_EndElse h _) ?_; simp only [*, kB, kC, cellsOf, fillA, partsEv, zeroes, Nat.reduceSub, Int.reduceToNat, Nat.reduceMul, asInt?, asNat?, Int.reduceAdd, Int.reduceLE, Int.reduceLT, Int.reduceNeg, Nat.reduceLeDiff, VOpd.ev, Nat.reduceEqDiff, Nat.reduceAdd, reduceIte, reduceCtorEq, splice, resOf, tupOf, cellsV, AV.toV, AV.cell?, cellVal]) | (refine callO_same (j_r07_there h _ _ _ _ _ _ _ _ hb) ?_; simp only [*, kB, kC, cellsOf, fillA, partsEv, zeroes, Nat.reduceSub, Int.reduceToNat, Nat.reduceMul, asInt?, asNat?, Int.reduceAdd, Int.reduceLE, Int.reduceLT, Int.reduceNeg, Nat.reduceLeDiff, VOpd.ev, Nat.reduceEqDiff, Nat.reduceAdd, reduceIte, reduceCtorEq, splice, resOf, tupOf, cellsV, AV.toV, AV.cell?, cellVal]) | (refine callO_same (j_r07_register h _ _ _ _ _ _ _) ?_; simp only [*, kB, kC, cellsOf, fillA, partsEv, zeroes, Nat.reduceSub, Int.reduceToNat, Nat.reduceMul, asInt?, asNat?, Int.reduceAdd, Int.reduceLE, Int.reduceLT, Int.reduceNeg, Nat.reduceLeDiff, VOpd.ev, Nat.reduceEqDiff, Nat.reduceAdd, reduceIte, reduceCtorEq, splice, resOf, tupOf, cellsV, AV.toV, AV.cell?, cellVal]) | (refine callO_same (j_r07_Array h _) ?_; simp only [*, kB, kC, cellsOf, fillA, partsEv, zeroes, Nat.reduceSub, Int.reduceToNat, Nat.reduceMul, asInt?, asNat?, Int.reduceAdd, Int.reduceLE, Int.reduceLT, Int.reduceNeg, Nat.reduceLeDiff, VOpd.ev, Nat.reduceEqDiff, Nat.reduceAdd, reduceIte, reduceCtorEq, splice, resOf, tupOf, cellsV, AV.toV, AV.cell?, cellVal]) | (refine callO_same (j_r07_Cell h _) ?_; simp only [*, kB, kC, cellsOf, fillA, partsEv, zeroes, Nat.reduceSub, Int.reduceToNat, Nat.reduceMul, asInt?, asNat?, Int.reduceAdd, Int.reduceLE, Int.reduceLT, Int.reduceNeg, Nat.reduceLeDiff, VOpd.ev, Nat.reduceEqDiff, Nat.reduceAdd, reduceIte, reduceCtorEq, splice, resOf, tupOf, cellsV, AV.toV, AV.cell?, cellVal]) | (refine callO_same (j_r07_HasN h _) ?_; simp only [*, kB, kC, cellsOf, fillA, partsEv, zeroes, Nat.reduceSub, Int.reduceToNat, Nat.reduceMul, asInt?, asNat?, Int.reduceAdd, Int.reduceLE, Int.reduceLT, Int.reduceNeg, Nat.reduceLeDiff, VOpd.ev, Nat.reduceEqDiff, Nat.reduceAdd, reduceIte, reduceCtorEq, splice, resOf, tupOf, cellsV, AV.toV, AV.cell?, cellVal]) | first | (refine gO_t ?_ ?_ <;> (intro hc; simp only [*, kB, kC, cellsOf, fillA, partsEv, zeroes, Nat.reduceSub, Int.reduceToNat, Nat.reduceMul, asInt?, asNat?, Int.reduceAdd, Int.reduceLE, Int.reduceLT, Int.reduceNeg, Nat.reduceLeDiff, VOpd.ev, Nat.reduceEqDiff, Nat.reduceAdd, reduceIte, reduceCtorEq, splice, resOf, tupOf, cellsV, AV.toV, AV.cell?, cellVal])) | (refine gO_f ?_ ?_ <;> (intro hc; simp only [*, kB, kC, cellsOf, fillA, partsEv, zeroes, Nat.reduceSub, Int.reduceToNat, Nat.reduceMul, asInt?, asNat?, Int.reduceAdd, Int.reduceLE, Int.reduceLT, Int.reduceNeg, Nat.reduceLeDiff, VOpd.ev, Nat.reduceEqDiff, Nat.reduceAdd, reduceIte, reduceCtorEq, splice, resOf, tupOf, cellsV, AV.toV, AV.cell?, cellVal])) | (refine condO_intro ?_ ?_ <;> (intro hc; simp only [*, kB, kC, cellsOf, fillA, partsEv, zeroes, Nat.reduceSub, Int.reduceToNat, Nat.reduceMul, asInt?, asNat?, Int.reduceAdd, Int.reduceLE, Int.reduceLT, Int.reduceNeg, Nat.reduceLeDiff, VOpd.ev, Nat.reduceEqDiff, Nat.reduceAdd, reduceIte, reduceCtorEq, splice, resOf, tupOf, cellsV, AV.toV, AV.cell?, cellVal]))
        all_goals first
          | first | exact ⟨_, rfl⟩ | exact ⟨rfl, _, rfl⟩ | exact ⟨trivial, _, rfl⟩ | exact ⟨[], (List.append_nil _).symm⟩
          | fail
      · intro e hL3 hhd
        simp only [kB, kC, cellsOf, fillA, partsEv, zeroes, Nat.reduceSub, Int.reduceToNat, Nat.reduceMul, asInt?, asNat?, Int.reduceAdd, Int.reduceLE, Int.reduceLT, Int.reduceNeg, Nat.reduceLeDiff, VOpd.ev, Nat.reduceEqDiff, Nat.reduceAdd, reduceIte, reduceCtorEq, splice, resOf, tupOf, cellsV, AV.toV, AV.cell?, cellVal] at hL3 ⊢
        simp only [hL2] at hL3
        have hval : findU U = match blkFind U 0 U.blocks with
            | some x => x
            | none => if decide (20000 < (total U.blocks : Int)) then (3, 0, 0) else (0, 0, 0) := by
          unfold findU
          simp only [hlim, hsz, hhd, Bool.false_eq_true, if_false]
        have hnb : (U.blocks.length : Int) ≤ 2000 := by
          unfold limitsU at hlim
          simp at hlim
          omega
        refine growLoop (mB m0) [1] (fun e => blkFind U 0 U.blocks = none ∧ e 6 = iA (total U.blocks)) ?_ ?_
        · refine loop_grow [1] (fun m e => ∃ i : Nat, i + m = U.blocks.length ∧ e 7 = iA i ∧ e 6 = iA (total (U.blocks.take i)) ∧ total (U.blocks.take i) ≤ 400 * i ∧ blkFind U i (U.blocks.drop i) = blkFind U 0 U.blocks) U.blocks.length ?_ ?_
          · exact ⟨0, by omega, by simp only [kB, kC, cellsOf, fillA, partsEv, zeroes, Nat.reduceSub, Int.reduceToNat, Nat.reduceMul, asInt?, asNat?, Int.reduceAdd, Int.reduceLE, Int.reduceLT, Int.reduceNeg, Nat.reduceLeDiff, VOpd.ev, Nat.reduceEqDiff, Nat.reduceAdd, reduceIte, reduceCtorEq, splice, resOf, tupOf, cellsV, AV.toV, AV.cell?, cellVal], by simp only [kB, kC, cellsOf, fillA, partsEv, zeroes, Nat.reduceSub, Int.reduceToNat, Nat.reduceMul, asInt?, asNat?, Int.reduceAdd, Int.reduceLE, Int.reduceLT, Int.reduceNeg, Nat.reduceLeDiff, VOpd.ev, Nat.reduceEqDiff, Nat.reduceAdd, reduceIte, reduceCtorEq, splice, resOf, tupOf, cellsV, AV.toV, AV.cell?, cellVal]; rfl, by simp [total], rfl⟩
          · intro m e s1 hE hL4 ⟨i, him, h7, h6, htot, hfind⟩
            simp only [kB, kC, cellsOf, fillA, partsEv, zeroes, Nat.reduceSub, Int.reduceToNat, Nat.reduceMul, asInt?, asNat?, Int.reduceAdd, Int.reduceLE, Int.reduceLT, Int.reduceNeg, Nat.reduceLeDiff, VOpd.ev, Nat.reduceEqDiff, Nat.reduceAdd, reduceIte, reduceCtorEq, splice, resOf, tupOf, cellsV, AV.toV, AV.cell?, cellVal] at hL4
            simp only [hL3] at hL4
            have hbox1 := hbox.ext hE
            obtain ⟨f, hb1, hbo⟩ := hb0.ext hE
            have x1 := hbox1.at1
            have xN := hbox1.atN
            simp only [hL4, h7, x1, l2, kB, kC, cellsOf, fillA, partsEv, zeroes, Nat.reduceSub, Int.reduceToNat, Nat.reduceMul, asInt?, asNat?, Int.reduceAdd, Int.reduceLE, Int.reduceLT, Int.reduceNeg, Nat.reduceLeDiff, VOpd.ev, Nat.reduceEqDiff, Nat.reduceAdd, reduceIte, reduceCtorEq, splice, resOf, tupOf, cellsV, AV.toV, AV.cell?, cellVal]
            refine condO_intro ?_ ?_ <;> intro hc <;> simp only [kB, kC, cellsOf, fillA, partsEv, zeroes, Nat.reduceSub, Int.reduceToNat, Nat.reduceMul, asInt?, asNat?, Int.reduceAdd, Int.reduceLE, Int.reduceLT, Int.reduceNeg, Nat.reduceLeDiff, VOpd.ev, Nat.reduceEqDiff, Nat.reduceAdd, reduceIte, reduceCtorEq, splice, resOf, tupOf, cellsV, AV.toV, AV.cell?, cellVal]
            · have hi : i < U.blocks.length := by have := of_decide_eq_true hc; omega
              obtain ⟨b1, o1, he1, hn1, _, _⟩ := hb1.get i (by simpa using hi)
              simp only [List.getElem_mapIdx, BlkV.row] at hn1
              have hcell := isCell_len (hbo i hi).len
              have l3 := (hbo i hi).len
              simp only [List.length_map] at l3
              rw [List.drop_eq_getElem_cons hi] at hfind
              simp only [blkFind] at hfind
              simp only [hL4, h7, x1, l2, he1, hn1, hcell, l3, kB, kC, cellsOf, fillA, partsEv, zeroes, Nat.reduceSub, Int.reduceToNat, Nat.reduceMul, asInt?, asNat?, Int.reduceAdd, Int.reduceLE, Int.reduceLT, Int.reduceNeg, Nat.reduceLeDiff, VOpd.ev, Nat.reduceEqDiff, Nat.reduceAdd, reduceIte, reduceCtorEq, splice, resOf, tupOf, cellsV, AV.toV, AV.cell?, cellVal]
              have hgo : ∀ L : St, ∃ m, s1 ++ L = st ++ m := fun L => ((Ext.of st _).trans hE).app L
              have hbad : (decide (U.blocks[i].catch_ < -1) || decide ((U.blocks.length : Int) ≤ U.blocks[i].catch_)) = true → findU U = (2, (i : Int), (U.blocks[i].ops.length : Int)) := fun hb => by
                rw [hval, ← hfind]
                simp only [hb, if_true]
              refine cutG (mS m0) [1, 6, 7, 8] (fun _ => (decide (U.blocks[i].catch_ < -1) || decide ((U.blocks.length : Int) ≤ U.blocks[i].catch_)) = false) ?_ ?_
              · clear hfind hval
                repeat' first | (refine gO_t ?_ ?_ <;> (intro hc; simp only [*, kB, kC, cellsOf, fillA, partsEv, zeroes, Nat.reduceSub, Int.reduceToNat, Nat.reduceMul, asInt?, asNat?, Int.reduceAdd, Int.reduceLE, Int.reduceLT, Int.reduceNeg, Nat.reduceLeDiff, VOpd.ev, Nat.reduceEqDiff, Nat.reduceAdd, reduceIte, reduceCtorEq, splice, resOf, tupOf, cellsV, AV.toV, AV.cell?, cellVal])) | (refine gO_f ?_ ?_ <;> (intro hc; simp only [*, kB, kC, cellsOf, fillA, partsEv, zeroes, Nat.reduceSub, Int.reduceToNat, Nat.reduceMul, asInt?, asNat?, Int.reduceAdd, Int.reduceLE, Int.reduceLT, Int.reduceNeg, Nat.reduceLeDiff, VOpd.ev, Nat.reduceEqDiff, Nat.reduceAdd, reduceIte, reduceCtorEq, splice, resOf, tupOf, cellsV, AV.toV, AV.cell?, cellVal])) | (refine condO_intro ?_ ?_ <;> (intro hc; simp only [*, kB, kC, cellsOf, fillA, partsEv, zeroes, Nat.reduceSub, Int.reduceToNat, Nat.reduceMul, asInt?, asNat?, Int.reduceAdd, Int.reduceLE, Int.reduceLT, Int.reduceNeg, Nat.reduceLeDiff, VOpd.ev, Nat.reduceEqDiff, Nat.reduceAdd, reduceIte, reduceCtorEq, splice, resOf, tupOf, cellsV, AV.toV, AV.cell?, cellVal]))
                all_goals first
                  | exact hgo _
                  | exact ⟨rfl, hgo _⟩
                  | fail
              · intro e5 hL5 hcat
                simp only [hcat, Bool.false_eq_true, if_false] at hfind
                clear hbad
                simp only [kB, kC, cellsOf, fillA, partsEv, zeroes, Nat.reduceSub, Int.reduceToNat, Nat.reduceMul, asInt?, asNat?, Int.reduceAdd, Int.reduceLE, Int.reduceLT, Int.reduceNeg, Nat.reduceLeDiff, VOpd.ev, Nat.reduceEqDiff, Nat.reduceAdd, reduceIte, reduceCtorEq, splice, resOf, tupOf, cellsV, AV.toV, AV.cell?, cellVal] at hL5 ⊢
                simp only [hL4, h6, h7] at hL5
                obtain ⟨g1, g6, g7, g8⟩ := hL5
                simp only [g1, g6, g7, g8, l3, kB, kC, cellsOf, fillA, partsEv, zeroes, Nat.reduceSub, Int.reduceToNat, Nat.reduceMul, asInt?, asNat?, Int.reduceAdd, Int.reduceLE, Int.reduceLT, Int.reduceNeg, Nat.reduceLeDiff, VOpd.ev, Nat.reduceEqDiff, Nat.reduceAdd, reduceIte, reduceCtorEq, splice, resOf, tupOf, cellsV, AV.toV, AV.cell?, cellVal]
                refine condO_intro ?_ ?_ <;> intro hc4
                · have : findU U = (3, (i : Int), (U.blocks[i].ops.length : Int)) := by
                    rw [hval, ← hfind]
                    simp only [hc4, if_true]
                  simp only [g1, g6, g7, g8, l3, this, kB, kC, cellsOf, fillA, partsEv, zeroes, Nat.reduceSub, Int.reduceToNat, Nat.reduceMul, asInt?, asNat?, Int.reduceAdd, Int.reduceLE, Int.reduceLT, Int.reduceNeg, Nat.reduceLeDiff, VOpd.ev, Nat.reduceEqDiff, Nat.reduceAdd, reduceIte, reduceCtorEq, splice, resOf, tupOf, cellsV, AV.toV, AV.cell?, cellVal]
                  exact hgo _
                · simp only [hc4, Bool.false_eq_true, if_false] at hfind
                  have hle : U.blocks[i].ops.length ≤ 400 := by have := of_decide_eq_false hc4; omega
                  simp only [g1, g6, g7, g8, l3, kB, kC, cellsOf, fillA, partsEv, zeroes, Nat.reduceSub, Int.reduceToNat, Nat.reduceMul, asInt?, asNat?, Int.reduceAdd, Int.reduceLE, Int.reduceLT, Int.reduceNeg, Nat.reduceLeDiff, VOpd.ev, Nat.reduceEqDiff, Nat.reduceAdd, reduceIte, reduceCtorEq, splice, resOf, tupOf, cellsV, AV.toV, AV.cell?, cellVal]
                  rw [wrap_small (by omega) (by omega)]
                  refine cutLoop (mB m0) [1, 6, 7, 8] (fun _ => opsFind U i 0 U.blocks[i].ops = none) ?_ ?_
                  · refine loop_live [1, 6, 7, 8] (fun m e => ∃ k : Nat, k + m = U.blocks[i].ops.length ∧ e 9 = iA k ∧ opsFind U i k (U.blocks[i].ops.drop k) = opsFind U i 0 U.blocks[i].ops) U.blocks[i].ops.length ?_ ?_
                    · exact ⟨0, by omega, by simp only [kB, kC, cellsOf, fillA, partsEv, zeroes, Nat.reduceSub, Int.reduceToNat, Nat.reduceMul, asInt?, asNat?, Int.reduceAdd, Int.reduceLE, Int.reduceLT, Int.reduceNeg, Nat.reduceLeDiff, VOpd.ev, Nat.reduceEqDiff, Nat.reduceAdd, reduceIte, reduceCtorEq, splice, resOf, tupOf, cellsV, AV.toV, AV.cell?, cellVal], rfl⟩
                    · intro m e hL6 ⟨k, hk, h9, hof⟩
                      simp only [kB, kC, cellsOf, fillA, partsEv, zeroes, Nat.reduceSub, Int.reduceToNat, Nat.reduceMul, asInt?, asNat?, Int.reduceAdd, Int.reduceLE, Int.reduceLT, Int.reduceNeg, Nat.reduceLeDiff, VOpd.ev, Nat.reduceEqDiff, Nat.reduceAdd, reduceIte, reduceCtorEq, splice, resOf, tupOf, cellsV, AV.toV, AV.cell?, cellVal] at hL6
                      simp only [g1, g7, g8] at hL6
                      obtain ⟨q1, q6, q7, q8⟩ := hL6
                      simp only [q1, q6, q7, q8, h9, l3, kB, kC, cellsOf, fillA, partsEv, zeroes, Nat.reduceSub, Int.reduceToNat, Nat.reduceMul, asInt?, asNat?, Int.reduceAdd, Int.reduceLE, Int.reduceLT, Int.reduceNeg, Nat.reduceLeDiff, VOpd.ev, Nat.reduceEqDiff, Nat.reduceAdd, reduceIte, reduceCtorEq, splice, resOf, tupOf, cellsV, AV.toV, AV.cell?, cellVal]
                      refine condO_intro ?_ ?_ <;> intro hc6 <;> simp only [kB, kC, cellsOf, fillA, partsEv, zeroes, Nat.reduceSub, Int.reduceToNat, Nat.reduceMul, asInt?, asNat?, Int.reduceAdd, Int.reduceLE, Int.reduceLT, Int.reduceNeg, Nat.reduceLeDiff, VOpd.ev, Nat.reduceEqDiff, Nat.reduceAdd, reduceIte, reduceCtorEq, splice, resOf, tupOf, cellsV, AV.toV, AV.cell?, cellVal]
                      · have hk2 : k < U.blocks[i].ops.length := by have := of_decide_eq_true hc6; omega
                        obtain ⟨b2, o2, he2, hn2, _, _⟩ := (hbo i hi).get k (by simpa using hk2)
                        simp only [List.getElem_map, OpV.row] at hn2
                        rw [List.drop_eq_getElem_cons hk2] at hof
                        simp only [opsFind] at hof
                        simp only [q1, q6, q7, q8, h9, l3, x1, xN, he2, hn2, kB, kC, cellsOf, fillA, partsEv, zeroes, Nat.reduceSub, Int.reduceToNat, Nat.reduceMul, asInt?, asNat?, Int.reduceAdd, Int.reduceLE, Int.reduceLT, Int.reduceNeg, Nat.reduceLeDiff, VOpd.ev, Nat.reduceEqDiff, Nat.reduceAdd, reduceIte, reduceCtorEq, splice, resOf, tupOf, cellsV, AV.toV, AV.cell?, cellVal]
                        refine callO_same (j_r07_op h s _ _ bl _ _ l1 l2 _ _ _ _ _ _ _ _ _) ?_
                        simp only [q1, q6, q7, q8, h9, l3, kB, kC, cellsOf, fillA, partsEv, zeroes, Nat.reduceSub, Int.reduceToNat, Nat.reduceMul, asInt?, asNat?, Int.reduceAdd, Int.reduceLE, Int.reduceLT, Int.reduceNeg, Nat.reduceLeDiff, VOpd.ev, Nat.reduceEqDiff, Nat.reduceAdd, reduceIte, reduceCtorEq, splice, resOf, tupOf, cellsV, AV.toV, AV.cell?, cellVal]
                        refine condO_intro ?_ ?_ <;> intro hc7
                        · have hx : opsFind U i 0 U.blocks[i].ops = some (opErrU U (U.blocks[i].ops)[k], (i : Int), (k : Int)) := by
                            rw [← hof]
                            exact if_pos hc7
                          rw [hx] at hfind
                          simp only at hfind
                          have : findU U = (opErrU U (U.blocks[i].ops)[k], (i : Int), (k : Int)) := by rw [hval, ← hfind]
                          simp only [q1, q6, q7, q8, h9, this, kB, kC, cellsOf, fillA, partsEv, zeroes, Nat.reduceSub, Int.reduceToNat, Nat.reduceMul, asInt?, asNat?, Int.reduceAdd, Int.reduceLE, Int.reduceLT, Int.reduceNeg, Nat.reduceLeDiff, VOpd.ev, Nat.reduceEqDiff, Nat.reduceAdd, reduceIte, reduceCtorEq, splice, resOf, tupOf, cellsV, AV.toV, AV.cell?, cellVal]
                          first
                            | exact hgo _
                            | exact ⟨rfl, hgo _⟩
                        · have hx : opsFind U i (k + 1) ((U.blocks[i].ops).drop (k + 1)) = opsFind U i 0 U.blocks[i].ops := by
                            rw [← hof]
                            refine (if_neg ?_).symm
                            show ¬ (decide (opErrU U (U.blocks[i].ops)[k] ≠ 0) = true)
                            intro hd
                            rw [show decide (opErrU U (U.blocks[i].ops)[k] ≠ 0) = false from hc7] at hd
                            cases hd
                          simp only [q1, q6, q7, q8, g1, g7, g8, h9, kB, kC, cellsOf, fillA, partsEv, zeroes, Nat.reduceSub, Int.reduceToNat, Nat.reduceMul, asInt?, asNat?, Int.reduceAdd, Int.reduceLE, Int.reduceLT, Int.reduceNeg, Nat.reduceLeDiff, VOpd.ev, Nat.reduceEqDiff, Nat.reduceAdd, reduceIte, reduceCtorEq, splice, resOf, tupOf, cellsV, AV.toV, AV.cell?, cellVal]
                          rw [wrap_small (by omega) (by omega)]
                          exact ⟨m - 1, by omega, k + 1, by omega, by simp, hx⟩
                      · have hk2 : k = U.blocks[i].ops.length := by have := of_decide_eq_false hc6; omega
                        simp only [q1, q6, q7, q8, g1, g7, g8, kB, kC, cellsOf, fillA, partsEv, zeroes, Nat.reduceSub, Int.reduceToNat, Nat.reduceMul, asInt?, asNat?, Int.reduceAdd, Int.reduceLE, Int.reduceLT, Int.reduceNeg, Nat.reduceLeDiff, VOpd.ev, Nat.reduceEqDiff, Nat.reduceAdd, reduceIte, reduceCtorEq, splice, resOf, tupOf, cellsV, AV.toV, AV.cell?, cellVal]
                        rw [← hof, List.drop_eq_nil_of_le (by omega)]
                        rfl
                  · intro e6 hL6 hnone
                    simp only [kB, kC, cellsOf, fillA, partsEv, zeroes, Nat.reduceSub, Int.reduceToNat, Nat.reduceMul, asInt?, asNat?, Int.reduceAdd, Int.reduceLE, Int.reduceLT, Int.reduceNeg, Nat.reduceLeDiff, VOpd.ev, Nat.reduceEqDiff, Nat.reduceAdd, reduceIte, reduceCtorEq, splice, resOf, tupOf, cellsV, AV.toV, AV.cell?, cellVal] at hL6 ⊢
                    simp only [g1, g7, g8] at hL6
                    obtain ⟨q1, q6, q7, q8⟩ := hL6
                    rw [hnone] at hfind
                    simp only at hfind
                    simp only [q1, q6, q7, q8, x1, xN, kB, kC, cellsOf, fillA, partsEv, zeroes, Nat.reduceSub, Int.reduceToNat, Nat.reduceMul, asInt?, asNat?, Int.reduceAdd, Int.reduceLE, Int.reduceLT, Int.reduceNeg, Nat.reduceLeDiff, VOpd.ev, Nat.reduceEqDiff, Nat.reduceAdd, reduceIte, reduceCtorEq, splice, resOf, tupOf, cellsV, AV.toV, AV.cell?, cellVal]
                    refine callO_same (j_r07_end h s _ _ _ bl _ l2 _ _ _ _ _) ?_
                    simp only [q1, q6, q7, q8, l3, kB, kC, cellsOf, fillA, partsEv, zeroes, Nat.reduceSub, Int.reduceToNat, Nat.reduceMul, asInt?, asNat?, Int.reduceAdd, Int.reduceLE, Int.reduceLT, Int.reduceNeg, Nat.reduceLeDiff, VOpd.ev, Nat.reduceEqDiff, Nat.reduceAdd, reduceIte, reduceCtorEq, splice, resOf, tupOf, cellsV, AV.toV, AV.cell?, cellVal]
                    refine condO_intro ?_ ?_ <;> intro hc7
                    · have hd : decide (endErrU U U.blocks[i].e ≠ 0) = true := hc7
                      have : findU U = (endErrU U U.blocks[i].e, (i : Int), (U.blocks[i].ops.length : Int)) := by
                        rw [hval, ← hfind]
                        simp only [hd, if_true]
                      simp only [q1, q6, q7, q8, l3, this, kB, kC, cellsOf, fillA, partsEv, zeroes, Nat.reduceSub, Int.reduceToNat, Nat.reduceMul, asInt?, asNat?, Int.reduceAdd, Int.reduceLE, Int.reduceLT, Int.reduceNeg, Nat.reduceLeDiff, VOpd.ev, Nat.reduceEqDiff, Nat.reduceAdd, reduceIte, reduceCtorEq, splice, resOf, tupOf, cellsV, AV.toV, AV.cell?, cellVal]
                      first
                        | exact hgo _
                        | exact ⟨rfl, hgo _⟩
                    · have hd : decide (endErrU U U.blocks[i].e ≠ 0) = false := hc7
                      simp only [hd, Bool.false_eq_true, if_false] at hfind
                      simp only [q1, q6, q7, q8, hL3, kB, kC, cellsOf, fillA, partsEv, zeroes, Nat.reduceSub, Int.reduceToNat, Nat.reduceMul, asInt?, asNat?, Int.reduceAdd, Int.reduceLE, Int.reduceLT, Int.reduceNeg, Nat.reduceLeDiff, VOpd.ev, Nat.reduceEqDiff, Nat.reduceAdd, reduceIte, reduceCtorEq, splice, resOf, tupOf, cellsV, AV.toV, AV.cell?, cellVal]
                      rw [wrap_small (by omega) (by omega)]
                      have htk : total (U.blocks.take (i + 1)) = total (U.blocks.take i) + U.blocks[i].ops.length := by
                        unfold total
                        rw [List.take_succ_eq_append_getElem hi]
                        simp only [List.map_append, List.map_cons, List.map_nil, List.sum_append, List.sum_cons, List.sum_nil, Nat.add_zero]
                      exact ⟨m - 1, by omega, hE.app _, i + 1, by omega, by simp, by rw [htk]; simp, by omega, hfind⟩
            · have hi : i = U.blocks.length := by have := of_decide_eq_false hc; omega
              have h1 : U.blocks.take i = U.blocks := List.take_of_length_le (by omega)
              have h2 : U.blocks.drop i = [] := List.drop_eq_nil_of_le (by omega)
              rw [h1] at h6
              rw [h2] at hfind
              simp only [hL4, hL3, h6, kB, kC, cellsOf, fillA, partsEv, zeroes, Nat.reduceSub, Int.reduceToNat, Nat.reduceMul, asInt?, asNat?, Int.reduceAdd, Int.reduceLE, Int.reduceLT, Int.reduceNeg, Nat.reduceLeDiff, VOpd.ev, Nat.reduceEqDiff, Nat.reduceAdd, reduceIte, reduceCtorEq, splice, resOf, tupOf, cellsV, AV.toV, AV.cell?, cellVal]
              exact ⟨hE.app _, hfind.symm⟩
        · intro e s1 hE hL4 ⟨hnone, h6⟩
          rw [hnone] at hval
          simp only at hval
          have hgo : ∀ L : St, ∃ m, s1 ++ L = st ++ m := fun L => ((Ext.of st _).trans hE).app L
          simp only [h6, kB, kC, cellsOf, fillA, partsEv, zeroes, Nat.reduceSub, Int.reduceToNat, Nat.reduceMul, asInt?, asNat?, Int.reduceAdd, Int.reduceLE, Int.reduceLT, Int.reduceNeg, Nat.reduceLeDiff, VOpd.ev, Nat.reduceEqDiff, Nat.reduceAdd, reduceIte, reduceCtorEq, splice, resOf, tupOf, cellsV, AV.toV, AV.cell?, cellVal]
          refine condO_intro ?_ ?_ <;> intro hc
          · simp only [hval, hc, if_true, kB, kC, cellsOf, fillA, partsEv, zeroes, Nat.reduceSub, Int.reduceToNat, Nat.reduceMul, asInt?, asNat?, Int.reduceAdd, Int.reduceLE, Int.reduceLT, Int.reduceNeg, Nat.reduceLeDiff, VOpd.ev, Nat.reduceEqDiff, Nat.reduceAdd, reduceIte, reduceCtorEq, splice, resOf, tupOf, cellsV, AV.toV, AV.cell?, cellVal]
            first
              | exact hgo _
              | exact ⟨rfl, hgo _⟩
          · simp only [hval, hc, Bool.false_eq_true, if_false, kB, kC, cellsOf, fillA, partsEv, zeroes, Nat.reduceSub, Int.reduceToNat, Nat.reduceMul, asInt?, asNat?, Int.reduceAdd, Int.reduceLE, Int.reduceLT, Int.reduceNeg, Nat.reduceLeDiff, VOpd.ev, Nat.reduceEqDiff, Nat.reduceAdd, reduceIte, reduceCtorEq, splice, resOf, tupOf, cellsV, AV.toV, AV.cell?, cellVal]
            first
              | exact hgo _
              | exact ⟨rfl, hgo _⟩
end
end Go.VX.Seat
end
section
set_option linter.unusedVariables false
set_option linter.unusedSimpArgs false
set_option maxRecDepth 4000
namespace Go.VX.Seat
open Go.Proofs
section
variable {X : Cx} {st : St}
/-- What Check says of a unit. -/
def chkU (U : UnitV) : Int := (findU U).1
theorem j_r07_Check (h : On X) {lo hi : Nat} {v : AV} {U : UnitV} (hv : UnitAt st lo hi v U) :
    J X.P X.F X.H (.call 11 [v] st (.ret (iA (chkU U))) st) := by
  refine pure_intro (by rw [h.F]; rfl) rfl ?_
  have hm := fun L => hv.mono L
  obtain ⟨s, bl, rfl, hs, hb⟩ := hv
  simp only [v_r07_Check, kB, kC, cellsOf, fillA, partsEv, zeroes, Nat.reduceSub, Int.reduceToNat, Nat.reduceMul, asInt?, asNat?, Int.reduceAdd, Int.reduceLE, Int.reduceLT, Int.reduceNeg, Nat.reduceLeDiff, VOpd.ev, Nat.reduceEqDiff, Nat.reduceAdd, reduceIte, reduceCtorEq, splice, resOf, tupOf, cellsV, AV.toV, AV.cell?, cellVal]
  refine callO_same (j_r07_Find h (hm _)) ?_
  simp only [kB, kC, cellsOf, fillA, partsEv, zeroes, Nat.reduceSub, Int.reduceToNat, Nat.reduceMul, asInt?, asNat?, Int.reduceAdd, Int.reduceLE, Int.reduceLT, Int.reduceNeg, Nat.reduceLeDiff, VOpd.ev, Nat.reduceEqDiff, Nat.reduceAdd, reduceIte, reduceCtorEq, splice, resOf, tupOf, cellsV, AV.toV, AV.cell?, cellVal]
  exact ⟨rfl, _, rfl⟩
end
end Go.VX.Seat
end
section
set_option linter.unusedVariables false
set_option linter.unusedSimpArgs false
set_option maxRecDepth 4000
/-! The program's own checker: its small functions. -/
namespace Go.VX.Seat
open Go.Proofs
/-- How a check ends. -/
def outC (blk at_ e : Int) : CRes := if decide (e ≠ 0) then .pan (.iface 103 (.agg [iA blk, iA at_, iA e])) else .ret (.tup [])
theorem outC_flat (blk at_ e : Int) : (outC blk at_ e).flat = true := by
  unfold outC
  split <;> rfl
theorem outC_zero (blk at_ : Int) : outC blk at_ 0 = .ret (.tup []) := rfl
theorem outC_ne {blk at_ e : Int} (h : e ≠ 0) : outC blk at_ e = .pan (.iface 103 (.agg [iA blk, iA at_, iA e])) := by
  unfold outC
  simp [h]
/-- A function that leaves memory as it was, however it ends. -/
theorem out_intro {X : Cx} {st : St} {f : FuncId} {fn : VFun} {args : List AV} {r : CRes} (hF : X.F f = some fn) (hr : r.flat = true) (h : xC X fn.body (envOf args) (st ++ []) (bodK fn.res fun r' s => r' = r ∧ ∃ m, s = st ++ m)) : J X.P X.F X.H (.call f args st r st) := by
  rw [List.append_nil] at h
  obtain ⟨r', s, j, rfl, m, rfl⟩ := wpF_intro hF h
  exact .forget j hr
theorem callO_out {X : Cx} {env : Env} {st : St} {Q : Post3} {K : Env → St → Post3 → Prop} {f : FuncId} {args : List AV} {blk at_ e : Int} {dst : Option Nat} {keep : List VOpd} (h : J X.P X.F X.H (.call f args st (outC blk at_ e) st)) (h1 : e = 0 → K (env.put dst (.tup [])) st Q) (h2 : e ≠ 0 → Q (.pan (.iface 103 (.agg [iA blk, iA at_, iA e]))) env st) : callO X f args dst keep K env st Q := by
  by_cases he : e = 0
  · subst he
    exact callO_same h (h1 rfl)
  · rw [outC_ne he] at h
    exact callO_pan h (h2 he)
section
variable {X : Cx} {st : St}
theorem j_code_within (h : On X) (n size : Int) : J X.P X.F X.H (.call 67 [iA n, iA size] st (.ret (bA (regOkA size n))) st) := by
  refine pure_intro (by rw [h.F]; rfl) rfl ?_
  unfold regOkA
  simp only [v_code_within, kB, kC, cellsOf, fillA, partsEv, zeroes, Nat.reduceSub, Int.reduceToNat, Nat.reduceMul, asInt?, asNat?, Int.reduceAdd, Int.reduceLE, Int.reduceLT, Int.reduceNeg, Nat.reduceLeDiff, VOpd.ev, Nat.reduceEqDiff, Nat.reduceAdd, reduceIte, reduceCtorEq, splice, resOf, tupOf, cellsV, AV.toV, AV.cell?, cellVal]
  repeat' first | (refine gO_t ?_ ?_ <;> (intro hc; simp only [*, kB, kC, cellsOf, fillA, partsEv, zeroes, Nat.reduceSub, Int.reduceToNat, Nat.reduceMul, asInt?, asNat?, Int.reduceAdd, Int.reduceLE, Int.reduceLT, Int.reduceNeg, Nat.reduceLeDiff, VOpd.ev, Nat.reduceEqDiff, Nat.reduceAdd, reduceIte, reduceCtorEq, splice, resOf, tupOf, cellsV, AV.toV, AV.cell?, cellVal])) | (refine gO_f ?_ ?_ <;> (intro hc; simp only [*, kB, kC, cellsOf, fillA, partsEv, zeroes, Nat.reduceSub, Int.reduceToNat, Nat.reduceMul, asInt?, asNat?, Int.reduceAdd, Int.reduceLE, Int.reduceLT, Int.reduceNeg, Nat.reduceLeDiff, VOpd.ev, Nat.reduceEqDiff, Nat.reduceAdd, reduceIte, reduceCtorEq, splice, resOf, tupOf, cellsV, AV.toV, AV.cell?, cellVal])) | (refine condO_intro ?_ ?_ <;> (intro hc; simp only [*, kB, kC, cellsOf, fillA, partsEv, zeroes, Nat.reduceSub, Int.reduceToNat, Nat.reduceMul, asInt?, asNat?, Int.reduceAdd, Int.reduceLE, Int.reduceLT, Int.reduceNeg, Nat.reduceLeDiff, VOpd.ev, Nat.reduceEqDiff, Nat.reduceAdd, reduceIte, reduceCtorEq, splice, resOf, tupOf, cellsV, AV.toV, AV.cell?, cellVal]))
  all_goals first | exact ⟨_, rfl⟩ | exact ⟨rfl, _, rfl⟩ | exact ⟨trivial, _, rfl⟩ | exact ⟨[], (List.append_nil _).symm⟩
theorem j_code_must (h : On X) {cb : Nat} {s bl : AV} {p r cd sp blk at_ : Int} (hc : BoxAt st cb [s, iA p, iA r, iA cd, iA sp, bl, iA blk, iA at_]) (ok : Bool) (e : Int) (he : e ≠ 0) :
    J X.P X.F X.H (.call 108 [.ptr cb 0, bA ok, iA e] st (outC blk at_ (if ok then 0 else e)) st) := by
  refine out_intro (by rw [h.F]; rfl) (outC_flat _ _ _) ?_
  have x1 := hc.at1
  simp only [v_code_checker_must, kB, kC, cellsOf, fillA, partsEv, zeroes, Nat.reduceSub, Int.reduceToNat, Nat.reduceMul, asInt?, asNat?, Int.reduceAdd, Int.reduceLE, Int.reduceLT, Int.reduceNeg, Nat.reduceLeDiff, VOpd.ev, Nat.reduceEqDiff, Nat.reduceAdd, reduceIte, reduceCtorEq, splice, resOf, tupOf, cellsV, AV.toV, AV.cell?, cellVal]
  refine condO_intro ?_ ?_ <;> intro hq
  · have hok : ok = false := by simpa using hq
    subst hok
    simp only [x1, outC_ne he, kB, kC, cellsOf, fillA, partsEv, zeroes, Nat.reduceSub, Int.reduceToNat, Nat.reduceMul, asInt?, asNat?, Int.reduceAdd, Int.reduceLE, Int.reduceLT, Int.reduceNeg, Nat.reduceLeDiff, VOpd.ev, Nat.reduceEqDiff, Nat.reduceAdd, reduceIte, reduceCtorEq, splice, resOf, tupOf, cellsV, AV.toV, AV.cell?, cellVal]
    first | exact ⟨_, rfl⟩ | exact ⟨rfl, _, rfl⟩ | exact ⟨trivial, _, rfl⟩ | exact ⟨[], (List.append_nil _).symm⟩
  · have hok : ok = true := by simpa using hq
    subst hok
    simp only [outC_zero, kB, kC, cellsOf, fillA, partsEv, zeroes, Nat.reduceSub, Int.reduceToNat, Nat.reduceMul, asInt?, asNat?, Int.reduceAdd, Int.reduceLE, Int.reduceLT, Int.reduceNeg, Nat.reduceLeDiff, VOpd.ev, Nat.reduceEqDiff, Nat.reduceAdd, reduceIte, reduceCtorEq, splice, resOf, tupOf, cellsV, AV.toV, AV.cell?, cellVal]
    first | exact ⟨_, rfl⟩ | exact ⟨rfl, _, rfl⟩ | exact ⟨trivial, _, rfl⟩ | exact ⟨[], (List.append_nil _).symm⟩
theorem j_code_reg (h : On X) {cb : Nat} {s bl : AV} {p rg cd sp blk at_ : Int} (hc : BoxAt st cb [s, iA p, iA rg, iA cd, iA sp, bl, iA blk, iA at_]) (r : Int) (used : Bool) :
    J X.P X.F X.H (.call 128 [.ptr cb 0, iA r, bA used] st (outC blk at_ (if used && !regOkA rg r then 2 else 0)) st) := by
  refine out_intro (by rw [h.F]; rfl) (outC_flat _ _ _) ?_
  have x1 := hc.at1
  simp only [v_code_checker_reg, kB, kC, cellsOf, fillA, partsEv, zeroes, Nat.reduceSub, Int.reduceToNat, Nat.reduceMul, asInt?, asNat?, Int.reduceAdd, Int.reduceLE, Int.reduceLT, Int.reduceNeg, Nat.reduceLeDiff, VOpd.ev, Nat.reduceEqDiff, Nat.reduceAdd, reduceIte, reduceCtorEq, splice, resOf, tupOf, cellsV, AV.toV, AV.cell?, cellVal]
  refine gO_f ?_ ?_ <;> intro hq
  · have hu : used = false := by simpa using hq
    subst hu
    simp only [x1, kB, kC, cellsOf, fillA, partsEv, zeroes, Nat.reduceSub, Int.reduceToNat, Nat.reduceMul, asInt?, asNat?, Int.reduceAdd, Int.reduceLE, Int.reduceLT, Int.reduceNeg, Nat.reduceLeDiff, VOpd.ev, Nat.reduceEqDiff, Nat.reduceAdd, reduceIte, reduceCtorEq, splice, resOf, tupOf, cellsV, AV.toV, AV.cell?, cellVal]
    refine callO_out (j_code_must h (hc.ext (Ext.of _ _)) true 2 (by decide)) ?_ ?_ <;> intro he
    · simp only [outC_zero, kB, kC, cellsOf, fillA, partsEv, zeroes, Nat.reduceSub, Int.reduceToNat, Nat.reduceMul, asInt?, asNat?, Int.reduceAdd, Int.reduceLE, Int.reduceLT, Int.reduceNeg, Nat.reduceLeDiff, VOpd.ev, Nat.reduceEqDiff, Nat.reduceAdd, reduceIte, reduceCtorEq, splice, resOf, tupOf, cellsV, AV.toV, AV.cell?, cellVal]
      first | exact ⟨_, rfl⟩ | exact ⟨rfl, _, rfl⟩ | exact ⟨trivial, _, rfl⟩ | exact ⟨[], (List.append_nil _).symm⟩
    · exact absurd rfl he
  · have hu : used = true := by simpa using hq
    subst hu
    simp only [x1, kB, kC, cellsOf, fillA, partsEv, zeroes, Nat.reduceSub, Int.reduceToNat, Nat.reduceMul, asInt?, asNat?, Int.reduceAdd, Int.reduceLE, Int.reduceLT, Int.reduceNeg, Nat.reduceLeDiff, VOpd.ev, Nat.reduceEqDiff, Nat.reduceAdd, reduceIte, reduceCtorEq, splice, resOf, tupOf, cellsV, AV.toV, AV.cell?, cellVal]
    refine callO_same (j_code_within h _ _) ?_
    simp only [x1, kB, kC, cellsOf, fillA, partsEv, zeroes, Nat.reduceSub, Int.reduceToNat, Nat.reduceMul, asInt?, asNat?, Int.reduceAdd, Int.reduceLE, Int.reduceLT, Int.reduceNeg, Nat.reduceLeDiff, VOpd.ev, Nat.reduceEqDiff, Nat.reduceAdd, reduceIte, reduceCtorEq, splice, resOf, tupOf, cellsV, AV.toV, AV.cell?, cellVal]
    refine callO_out (j_code_must h (hc.ext (Ext.of _ _)) (regOkA rg r) 2 (by decide)) ?_ ?_ <;> intro he
    · have hk : regOkA rg r = true := by
        by_cases hk : regOkA rg r = true
        · exact hk
        · simp [hk] at he
      simp only [hk, outC_zero, kB, kC, cellsOf, fillA, partsEv, zeroes, Nat.reduceSub, Int.reduceToNat, Nat.reduceMul, asInt?, asNat?, Int.reduceAdd, Int.reduceLE, Int.reduceLT, Int.reduceNeg, Nat.reduceLeDiff, VOpd.ev, Nat.reduceEqDiff, Nat.reduceAdd, reduceIte, reduceCtorEq, splice, resOf, tupOf, cellsV, AV.toV, AV.cell?, cellVal]
      first | exact ⟨_, rfl⟩ | exact ⟨rfl, _, rfl⟩ | exact ⟨trivial, _, rfl⟩ | exact ⟨[], (List.append_nil _).symm⟩
    · have hk : regOkA rg r = false := by
        by_cases hk : regOkA rg r = true
        · simp [hk] at he
        · simpa using hk
      simp only [hk, outC_ne (e := 2) (by decide), kB, kC, cellsOf, fillA, partsEv, zeroes, Nat.reduceSub, Int.reduceToNat, Nat.reduceMul, asInt?, asNat?, Int.reduceAdd, Int.reduceLE, Int.reduceLT, Int.reduceNeg, Nat.reduceLeDiff, VOpd.ev, Nat.reduceEqDiff, Nat.reduceAdd, reduceIte, reduceCtorEq, splice, resOf, tupOf, cellsV, AV.toV, AV.cell?, cellVal]
      first | exact ⟨_, rfl⟩ | exact ⟨rfl, _, rfl⟩ | exact ⟨trivial, _, rfl⟩ | exact ⟨[], (List.append_nil _).symm⟩
end
end Go.VX.Seat
end
