/- A part of the proofs of the statements of one layer: L1, L2, L3, L4, L5, L6, L7, L8, L9, L10, L11, L0, S1, S2, S3, S4, S5, S6, S7, S8. No condition is added here. -/
import Derived.Test.YtmpndkhedbpmjaaGreatDoorChecked
import Derived.Test.YtmpndkhedbpmjaaGreatDoorXD7
set_option linter.unusedVariables false
set_option linter.unusedSimpArgs false
section
set_option maxRecDepth 20000
namespace Go.VX.Seat
noncomputable abbrev PR (f : Func) : Option VFun:=prepFun Go.Proofs.Tryz.prog [0,1,2] f
instance (n : Nat) : OfNat VOpd n:=⟨.tmp n⟩
abbrev zi (n : Int) : VOpd:=.con (.int .i64 n)
abbrev zm (i d s : Nat) : VOper:=⟨i,some d,.mv (.tmp s),none,[]⟩
abbrev zl (i d s : Nat) : VOper:=⟨i,some d,.load none (.tmp s),none,[]⟩
abbrev zf (i d k s : Nat) : VOper:=⟨i,some d,.fieldA k (.tmp s),none,[]⟩
abbrev zo (i d : Nat) (x : VOp) : VOper:=⟨i,some d,x,none,[]⟩
abbrev zn (i : Nat) (x : VOp) : VOper:=⟨i,none,x,none,[]⟩
abbrev zg (i d : Nat) (x : VOp) (c : Nat) (b : Bool) : VOper:=⟨i,some d,x,some (c,b),[]⟩
def v_l26_WordsNexts : VFun :=
⟨.seq (.reg [zo 0 2 (.box (.tmp 0)),
 zo 1 4 (.mv (.con (.bool false)))])
 (.seq (.reg [zo 0 20 (.load (some 6) (.tmp 2)),
 zo 1 21 (.call 10 [(.tmp 20)]),
 zo 2 5 (.alloc [(.slice none 0 0),(.int .i64 0),(.int .i64 0),(.int .i64 0),(.int .i64 0),(.slice none 0 0)]),
 zn 3 (.store 6 (.tmp 5) (.tmp 21))])
 (.seq (.reg [zo 0 23 (.load (some 6) (.tmp 2)),
 zo 1 24 (.call 10 [(.tmp 23)]),
 zm 2 25 1,
 zo 3 26 (.call 11 [(.tmp 24),(.tmp 25)]),
 zm 4 22 26,
 zo 5 27 (.ext (.tmp 22) 0),
 zo 6 28 (.ext (.tmp 22) 1),
 zm 7 6 27,
 zm 8 7 28])
 (.seq (.reg [zo 0 30 (.load (some 6) (.tmp 2)),
 zo 1 31 (.call 10 [(.tmp 30)]),
 zo 2 32 (.call 12 [(.tmp 31)]),
 zm 3 29 32,
 zo 4 33 (.ext (.tmp 29) 0),
 zo 5 34 (.ext (.tmp 29) 1),
 zm 6 8 33,
 zm 7 9 34])
 (.seq (.reg [zo 0 36 (.load (some 6) (.tmp 2)),
 zo 1 37 (.call 10 [(.tmp 36)]),
 zo 2 38 (.call 13 [(.tmp 37)]),
 zm 3 35 38,
 zo 4 39 (.ext (.tmp 35) 0),
 zo 5 40 (.ext (.tmp 35) 1),
 zo 6 41 (.ext (.tmp 35) 2),
 zm 7 10 39,
 zm 8 11 40,
 zm 9 12 41])
 (.seq (.seq (.reg [zo 0 42 (.load (some 6) (.tmp 5)),
 zo 1 43 (.call 14 [(.tmp 42)]),
 zm 2 13 43])
 (.seq (.reg [zm 0 44 13,
 zo 1 45 (.bin .neq 27 true (.tmp 44) (zi 0))])
 (.cond (.tmp 45)
 (.seq (.reg [zm 0 46 7,
 zm 1 47 13,
 zo 2 48 (.bin .eql 27 false (.tmp 46) (.tmp 47)),
 zm 3 49 48,
 zg 4 50 (.mv (.tmp 9)) 49 true,
 zg 5 51 (.mv (.tmp 13)) 49 true,
 zg 6 52 (.bin .eql 27 false (.tmp 50) (.tmp 51)) 49 true,
 zo 7 53 (.pick (.tmp 49) (.tmp 52) (.con (.bool false))),
 zm 8 54 53,
 zg 9 55 (.mv (.tmp 12)) 54 true,
 zg 10 56 (.mv (.tmp 13)) 54 true,
 zg 11 57 (.bin .eql 27 false (.tmp 55) (.tmp 56)) 54 true,
 zo 12 58 (.pick (.tmp 54) (.tmp 57) (.con (.bool false))),
 zm 13 59 58,
 zg 14 60 (.mv (.tmp 6)) 59 true,
 zg 15 61 (.len (.tmp 60)) 59 true,
 zg 16 62 (.mv (.tmp 8)) 59 true,
 zg 17 63 (.len (.tmp 62)) 59 true,
 zg 18 64 (.bin .add 3 false (.tmp 61) (.tmp 63)) 59 true,
 zg 19 65 (.bin .eql 3 true (.tmp 64) (zi 0)) 59 true,
 zo 20 66 (.pick (.tmp 59) (.tmp 65) (.con (.bool false))),
 zm 21 67 66,
 zg 22 68 (.mv (.tmp 10)) 67 true,
 zg 23 69 (.bin .eql 3 true (.tmp 68) (zi 0)) 67 true,
 zo 24 70 (.pick (.tmp 67) (.tmp 69) (.con (.bool false))),
 zm 25 71 70,
 zg 26 72 (.mv (.tmp 11)) 71 true,
 zg 27 73 (.bin .eql 3 true (.tmp 72) (zi 0)) 71 true,
 zo 28 74 (.pick (.tmp 71) (.tmp 73) (.con (.bool false))),
 zm 29 75 74,
 zg 30 76 (.call 15 []) 75 true,
 zo 31 77 (.pick (.tmp 75) (.tmp 76) (.con (.bool false))),
 zm 32 4 77])
 (.ret))
 (.skip))))
 (.seq (.reg [zo 0 79 (.load (some 6) (.tmp 5)),
 zo 1 80 (.call 16 [(.tmp 79)]),
 zm 2 78 80,
 zo 3 81 (.ext (.tmp 78) 0),
 zo 4 82 (.ext (.tmp 78) 1),
 zm 5 14 81,
 zm 6 15 82])
 (.seq (.reg [zo 0 83 (.load (some 6) (.tmp 5)),
 zo 1 84 (.call 17 [(.tmp 83)]),
 zm 2 16 84])
 (.seq (.seq (.reg [zm 0 85 9,
 zo 1 86 (.bin .neq 27 true (.tmp 85) (zi 0)),
 zm 2 87 86,
 zg 3 88 (.mv (.tmp 12)) 87 false,
 zg 4 89 (.bin .neq 27 true (.tmp 88) (zi 0)) 87 false,
 zo 5 90 (.pick (.tmp 87) (.con (.bool true)) (.tmp 89)),
 zm 6 91 90,
 zg 7 92 (.mv (.tmp 10)) 91 false,
 zg 8 93 (.mv (.tmp 14)) 91 false,
 zg 9 94 (.bin .neq 3 false (.tmp 92) (.tmp 93)) 91 false,
 zo 10 95 (.pick (.tmp 91) (.con (.bool true)) (.tmp 94)),
 zm 11 96 95,
 zg 12 97 (.mv (.tmp 11)) 96 false,
 zg 13 98 (.mv (.tmp 15)) 96 false,
 zg 14 99 (.bin .neq 3 false (.tmp 97) (.tmp 98)) 96 false,
 zo 15 100 (.pick (.tmp 96) (.con (.bool true)) (.tmp 99)),
 zm 16 101 100,
 zg 17 102 (.mv (.tmp 8)) 101 false,
 zg 18 103 (.len (.tmp 102)) 101 false,
 zg 19 104 (.mv (.tmp 16)) 101 false,
 zg 20 105 (.len (.tmp 104)) 101 false,
 zg 21 106 (.bin .neq 3 false (.tmp 103) (.tmp 105)) 101 false,
 zo 22 107 (.pick (.tmp 101) (.con (.bool true)) (.tmp 106))])
 (.cond (.tmp 107)
 (.seq (.reg [zo 0 4 (.mv (.con (.bool false)))])
 (.ret))
 (.skip)))
 (.seq (.seq (.reg [zo 0 17 (.mv (zi 0))])
 (.block 0
 (.loop
 (.seq (.seq (.reg [zm 0 108 17,
 zm 1 109 8,
 zo 2 110 (.len (.tmp 109)),
 zo 3 111 (.bin .lss 3 false (.tmp 108) (.tmp 110))])
 (.cond (.tmp 111)
 (.skip)
 (.exit 0)))
 (.seq (.block 1
 (.seq (.reg [zm 0 114 8,
 zm 1 115 17,
 zo 2 116 (.idxA none 1 (.tmp 114) (.tmp 115)),
 zl 3 117 116,
 zm 4 118 16,
 zm 5 119 17,
 zo 6 120 (.idxA none 1 (.tmp 118) (.tmp 119)),
 zl 7 121 120,
 zo 8 122 (.bin .neq 4 false (.tmp 117) (.tmp 121))])
 (.cond (.tmp 122)
 (.seq (.reg [zo 0 4 (.mv (.con (.bool false)))])
 (.ret))
 (.skip))))
 (.reg [zm 0 112 17,
 zo 1 113 (.bin .add 3 true (.tmp 112) (zi 1)),
 zm 2 17 113]))))))
 (.seq (.seq (.reg [zm 0 123 1,
 zo 1 124 (.bin .lss 3 true (.tmp 123) (zi 0)),
 zm 2 125 124,
 zg 3 126 (.mv (.tmp 1)) 125 false,
 zg 4 127 (.fieldA 5 (.tmp 5)) 125 false,
 zg 5 128 (.load none (.tmp 127)) 125 false,
 zg 6 129 (.len (.tmp 128)) 125 false,
 zg 7 130 (.bin .geq 3 false (.tmp 126) (.tmp 129)) 125 false,
 zo 8 131 (.pick (.tmp 125) (.con (.bool true)) (.tmp 130))])
 (.cond (.tmp 131)
 (.seq (.reg [zm 0 132 7,
 zo 1 133 (.bin .eql 27 true (.tmp 132) (zi 2)),
 zm 2 134 133,
 zg 3 135 (.mv (.tmp 6)) 134 true,
 zg 4 136 (.len (.tmp 135)) 134 true,
 zg 5 137 (.bin .eql 3 true (.tmp 136) (zi 0)) 134 true,
 zo 6 138 (.pick (.tmp 134) (.tmp 137) (.con (.bool false))),
 zm 7 139 138,
 zg 8 140 (.call 15 []) 139 true,
 zo 9 141 (.pick (.tmp 139) (.tmp 140) (.con (.bool false))),
 zm 10 4 141])
 (.ret))
 (.skip)))
 (.seq (.reg [zo 0 142 (.load (some 6) (.tmp 5)),
 zm 1 143 1,
 zo 2 144 (.call 18 [(.tmp 142),(.tmp 143)]),
 zm 3 18 144])
 (.seq (.seq (.reg [zm 0 145 7,
 zo 1 146 (.bin .neq 27 true (.tmp 145) (zi 0)),
 zm 2 147 146,
 zg 3 148 (.mv (.tmp 6)) 147 false,
 zg 4 149 (.len (.tmp 148)) 147 false,
 zg 5 150 (.mv (.tmp 18)) 147 false,
 zg 6 151 (.len (.tmp 150)) 147 false,
 zg 7 152 (.bin .neq 3 false (.tmp 149) (.tmp 151)) 147 false,
 zo 8 153 (.pick (.tmp 147) (.con (.bool true)) (.tmp 152))])
 (.cond (.tmp 153)
 (.seq (.reg [zo 0 4 (.mv (.con (.bool false)))])
 (.ret))
 (.skip)))
 (.seq (.seq (.reg [zo 0 19 (.mv (zi 0))])
 (.block 2
 (.loop
 (.seq (.seq (.reg [zm 0 154 19,
 zm 1 155 6,
 zo 2 156 (.len (.tmp 155)),
 zo 3 157 (.bin .lss 3 false (.tmp 154) (.tmp 156))])
 (.cond (.tmp 157)
 (.skip)
 (.exit 2)))
 (.seq (.block 3
 (.seq (.reg [zm 0 160 6,
 zm 1 161 19,
 zo 2 162 (.idxA none 1 (.tmp 160) (.tmp 161)),
 zl 3 163 162,
 zm 4 164 18,
 zm 5 165 19,
 zo 6 166 (.idxA none 1 (.tmp 164) (.tmp 165)),
 zl 7 167 166,
 zo 8 168 (.bin .neq 3 false (.tmp 163) (.tmp 167))])
 (.cond (.tmp 168)
 (.seq (.reg [zo 0 4 (.mv (.con (.bool false)))])
 (.ret))
 (.skip))))
 (.reg [zm 0 158 19,
 zo 1 159 (.bin .add 3 true (.tmp 158) (zi 1)),
 zm 2 19 159]))))))
 (.seq (.reg [zo 0 169 (.call 15 []),
 zm 1 4 169])
 (.ret))))))))))))))),
 [.tmp 4]⟩
theorem p_l26_WordsNexts : PR Go.Proofs.Tryz.f3 = some v_l26_WordsNexts:=by kernel_rfl

def v_l26_cut : VFun :=
⟨.seq (.reg [zo 0 1 (.box (.tmp 0)),
 zo 1 2 (.alloc [(.slice none 0 0),(.int .i64 0),(.int .i64 0),(.int .i64 0),(.int .i64 0),(.slice none 0 0)])])
 (.seq (.seq (.reg [zf 0 6 5 1,
 zl 1 7 6,
 zo 2 8 (.len (.tmp 7)),
 zo 3 9 (.bin .gtr 3 true (.tmp 8) (zi 40)),
 zm 4 10 9,
 zg 5 11 (.fieldA 5 (.tmp 1)) 10 true,
 zg 6 12 (.load none (.tmp 11)) 10 true,
 zg 7 13 (.len (.tmp 12)) 10 true,
 zg 8 14 (.bin .leq 3 true (.tmp 13) (zi 60000)) 10 true,
 zo 9 15 (.pick (.tmp 10) (.tmp 14) (.con (.bool false)))])
 (.cond (.tmp 15)
 (.seq (.reg [zo 0 16 (.load (some 6) (.tmp 1)),
 zo 1 17 (.call 32 [(.tmp 16),(zi 40),(zi 20)]),
 zn 2 (.store 6 (.tmp 2) (.tmp 17))])
 (.ret))
 (.skip)))
 (.seq (.reg [zo 0 18 (.load (some 6) (.tmp 1)),
 zo 1 19 (.call 32 [(.tmp 18),(zi 60001),(zi 1048576)]),
 zo 2 3 (.alloc [(.slice none 0 0),(.int .i64 0),(.int .i64 0),(.int .i64 0),(.int .i64 0),(.slice none 0 0)]),
 zn 3 (.store 6 (.tmp 3) (.tmp 19))])
 (.seq (.seq (.reg [zo 0 4 (.mv (zi 0))])
 (.block 0
 (.loop
 (.seq (.seq (.reg [zm 0 20 4,
 zf 1 21 5 3,
 zl 2 22 21,
 zo 3 23 (.len (.tmp 22)),
 zo 4 24 (.bin .lss 3 false (.tmp 20) (.tmp 23))])
 (.cond (.tmp 24)
 (.skip)
 (.exit 0)))
 (.seq (.block 1
 (.seq (.reg [zf 0 27 5 3,
 zl 1 28 27,
 zm 2 29 4,
 zo 3 30 (.idxA none 2 (.tmp 28) (.tmp 29)),
 zm 4 5 30])
 (.seq (.seq (.reg [zm 0 31 5,
 zo 1 32 (.nilck (.tmp 31)),
 zf 2 33 0 32,
 zl 3 34 33,
 zo 4 35 (.len (.tmp 34)),
 zo 5 36 (.bin .leq 3 true (.tmp 35) (zi 400))])
 (.cond (.tmp 36)
 (.reg [zm 0 37 5,
 zm 1 38 5,
 zo 2 39 (.nilck (.tmp 38)),
 zf 3 40 0 39,
 zl 4 41 40,
 zm 5 42 5,
 zo 6 43 (.nilck (.tmp 42)),
 zf 7 44 0 43,
 zl 8 45 44,
 zo 9 46 (.len (.tmp 45)),
 zo 10 47 (.bi .min [3,3] 3 [(.tmp 46),(zi 20)]),
 zo 11 48 (.slice none 7 (.tmp 41) none (some (.tmp 47)) none),
 zo 12 49 (.nilck (.tmp 37)),
 zf 13 50 0 49,
 zn 14 (.store 1 (.tmp 50) (.tmp 48))])
 (.skip)))
 (.reg [zm 0 51 5,
 zm 1 52 5,
 zo 2 53 (.nilck (.tmp 52)),
 zf 3 54 0 53,
 zl 4 55 54,
 zm 5 56 5,
 zo 6 57 (.nilck (.tmp 56)),
 zf 7 58 0 57,
 zl 8 59 58,
 zo 9 60 (.len (.tmp 59)),
 zo 10 61 (.bi .min [3,3] 3 [(.tmp 60),(zi 401)]),
 zo 11 62 (.slice none 7 (.tmp 55) none (some (.tmp 61)) none),
 zo 12 63 (.nilck (.tmp 51)),
 zf 13 64 0 63,
 zn 14 (.store 1 (.tmp 64) (.tmp 62))]))))
 (.reg [zm 0 25 4,
 zo 1 26 (.bin .add 3 true (.tmp 25) (zi 1)),
 zm 2 4 26]))))))
 (.seq (.reg [zo 0 65 (.load (some 6) (.tmp 3)),
 zn 1 (.store 6 (.tmp 2) (.tmp 65))])
 (.ret))))),
 [.cell 2 (some 6)]⟩
theorem p_l26_cut : PR Go.Proofs.Tryz.f10 = some v_l26_cut:=by kernel_rfl

def v_words_Next : VFun :=
⟨.seq (.reg [zo 0 2 (.box (.tmp 0)),
 zo 1 4 (.mv (.con (.slice none 0 0))),
 zo 2 5 (.mv (zi 0))])
 (.seq (.seq (.reg [zo 0 7 (.load (some 6) (.tmp 2)),
 zo 1 8 (.call 29 [(.tmp 7)]),
 zm 2 6 8])
 (.seq (.reg [zm 0 9 6,
 zo 1 10 (.bin .neq 27 true (.tmp 9) (zi 0))])
 (.cond (.tmp 10)
 (.seq (.reg [zm 0 11 6,
 zo 1 4 (.mv (.con (.slice none 0 0))),
 zm 2 5 11])
 (.ret))
 (.skip))))
 (.seq (.seq (.reg [zm 0 12 1,
 zf 1 13 5 2,
 zl 2 14 13,
 zo 3 15 (.len (.tmp 14)),
 zo 4 16 (.call 33 [(.tmp 12),(.tmp 15)]),
 zo 5 17 (.un .not (.tmp 16))])
 (.cond (.tmp 17)
 (.seq (.reg [zo 0 4 (.mv (.con (.slice none 0 0))),
 zo 1 5 (.mv (zi 2))])
 (.ret))
 (.skip)))
 (.seq (.reg [zo 0 18 (.load (some 6) (.tmp 2)),
 zm 1 19 1,
 zo 2 20 (.call 34 [(.tmp 18),(.tmp 19)]),
 zm 3 4 20,
 zo 4 5 (.mv (zi 0))])
 (.ret)))),
 [.tmp 4,.tmp 5]⟩
theorem p_words_Next : PR Go.Proofs.Tryz.f11 = some v_words_Next:=by kernel_rfl

def v_words_Reached : VFun :=
⟨.seq (.reg [zo 0 1 (.box (.tmp 0)),
 zo 1 2 (.mv (.con (.slice none 0 0))),
 zo 2 3 (.mv (zi 0))])
 (.seq (.seq (.reg [zo 0 5 (.load (some 6) (.tmp 1)),
 zo 1 6 (.call 29 [(.tmp 5)]),
 zm 2 4 6])
 (.seq (.reg [zm 0 7 4,
 zo 1 8 (.bin .neq 27 true (.tmp 7) (zi 0))])
 (.cond (.tmp 8)
 (.seq (.reg [zm 0 9 4,
 zo 1 2 (.mv (.con (.slice none 0 0))),
 zm 2 3 9])
 (.ret))
 (.skip))))
 (.seq (.reg [zo 0 10 (.load (some 6) (.tmp 1)),
 zo 1 11 (.call 35 [(.tmp 10)]),
 zm 2 2 11,
 zo 3 3 (.mv (zi 0))])
 (.ret))),
 [.tmp 2,.tmp 3]⟩
theorem p_words_Reached : PR Go.Proofs.Tryz.f12 = some v_words_Reached:=by kernel_rfl

def v_words_Density : VFun :=
⟨.seq (.reg [zo 0 1 (.box (.tmp 0)),
 zo 1 2 (.mv (zi 0)),
 zo 2 3 (.mv (zi 0)),
 zo 3 4 (.mv (zi 0))])
 (.seq (.seq (.reg [zo 0 10 (.load (some 6) (.tmp 1)),
 zo 1 11 (.call 29 [(.tmp 10)]),
 zm 2 5 11])
 (.seq (.reg [zm 0 12 5,
 zo 1 13 (.bin .neq 27 true (.tmp 12) (zi 0))])
 (.cond (.tmp 13)
 (.seq (.reg [zm 0 14 5,
 zo 1 2 (.mv (zi 0)),
 zo 2 3 (.mv (zi 0)),
 zm 3 4 14])
 (.ret))
 (.skip))))
 (.seq (.reg [zo 0 6 (.mv (zi 0)),
 zo 1 7 (.mv (zi 0))])
 (.seq (.seq (.reg [zf 0 15 5 1,
 zl 1 16 15,
 zo 2 17 (.len (.tmp 16)),
 zo 3 18 (.mv (zi 0))])
 (.block 0
 (.loop
 (.seq (.reg [zo 0 19 (.bin .lss 3 false (.tmp 18) (.tmp 17))])
 (.seq (.cond (.tmp 19)
 (.skip)
 (.exit 0))
 (.seq (.block 1
 (.seq (.reg [zo 0 20 (.idxA none 2 (.tmp 16) (.tmp 18)),
 zo 1 21 (.load (some 2) (.tmp 20)),
 zo 2 9 (.alloc [(.slice none 0 0),(.int .i64 0)]),
 zn 3 (.store 2 (.tmp 9) (.tmp 21))])
 (.seq (.reg [zm 0 22 6,
 zf 1 23 0 9,
 zl 2 24 23,
 zo 3 25 (.len (.tmp 24)),
 zo 4 26 (.bin .add 3 false (.tmp 22) (.tmp 25)),
 zm 5 6 26])
 (.seq (.reg [zf 0 27 0 9,
 zl 1 28 27,
 zo 2 29 (.len (.tmp 28)),
 zo 3 30 (.bin .eql 3 true (.tmp 29) (zi 0))])
 (.cond (.tmp 30)
 (.reg [zm 0 31 7,
 zo 1 32 (.bin .add 3 true (.tmp 31) (zi 1)),
 zm 2 7 32])
 (.skip))))))
 (.reg [zo 0 33 (.bin .add 3 true (.tmp 18) (zi 1)),
 zm 1 18 33])))))))
 (.seq (.reg [zm 0 34 6,
 zm 1 35 7,
 zm 2 2 34,
 zm 3 3 35,
 zo 4 4 (.mv (zi 0))])
 (.ret))))),
 [.tmp 2,.tmp 3,.tmp 4]⟩
theorem p_words_Density : PR Go.Proofs.Tryz.f13 = some v_words_Density:=by kernel_rfl

def v_r26_Check : VFun :=
⟨.seq (.reg [zo 0 1 (.box (.tmp 0)),
 zo 1 2 (.mv (zi 0))])
 (.seq (.seq (.reg [zf 0 10 0 1,
 zl 1 11 10,
 zo 2 12 (.len (.tmp 11)),
 zo 3 13 (.bin .gtr 3 true (.tmp 12) (zi 16)),
 zm 4 14 13,
 zg 5 15 (.fieldA 2 (.tmp 1)) 14 false,
 zg 6 16 (.load none (.tmp 15)) 14 false,
 zg 7 17 (.bin .gtr 3 true (.tmp 16) (zi 4096)) 14 false,
 zo 8 18 (.pick (.tmp 14) (.con (.bool true)) (.tmp 17)),
 zm 9 19 18,
 zg 10 20 (.fieldA 4 (.tmp 1)) 19 false,
 zg 11 21 (.load none (.tmp 20)) 19 false,
 zg 12 22 (.bin .gtr 3 true (.tmp 21) (zi 4096)) 19 false,
 zo 13 23 (.pick (.tmp 19) (.con (.bool true)) (.tmp 22))])
 (.cond (.tmp 23)
 (.seq (.reg [zo 0 2 (.mv (zi 3))])
 (.ret))
 (.skip)))
 (.seq (.seq (.reg [zo 0 3 (.mv (zi 0))])
 (.block 0
 (.loop
 (.seq (.seq (.reg [zm 0 24 3,
 zf 1 25 0 1,
 zl 2 26 25,
 zo 3 27 (.len (.tmp 26)),
 zo 4 28 (.bin .lss 3 false (.tmp 24) (.tmp 27))])
 (.cond (.tmp 28)
 (.skip)
 (.exit 0)))
 (.seq (.block 1
 (.seq (.reg [zf 0 31 0 1,
 zl 1 32 31,
 zm 2 33 3,
 zo 3 34 (.idxA none 1 (.tmp 32) (.tmp 33)),
 zl 4 35 34,
 zo 5 36 (.bin .lss 3 true (.tmp 35) (zi 1)),
 zm 6 37 36,
 zg 7 38 (.fieldA 0 (.tmp 1)) 37 false,
 zg 8 39 (.load none (.tmp 38)) 37 false,
 zg 9 40 (.mv (.tmp 3)) 37 false,
 zg 10 41 (.idxA none 1 (.tmp 39) (.tmp 40)) 37 false,
 zg 11 42 (.load none (.tmp 41)) 37 false,
 zg 12 43 (.bin .gtr 3 true (.tmp 42) (zi 65536)) 37 false,
 zo 13 44 (.pick (.tmp 37) (.con (.bool true)) (.tmp 43))])
 (.cond (.tmp 44)
 (.seq (.reg [zo 0 2 (.mv (zi 2))])
 (.ret))
 (.skip))))
 (.reg [zm 0 29 3,
 zo 1 30 (.bin .add 3 true (.tmp 29) (zi 1)),
 zm 2 3 30]))))))
 (.seq (.seq (.reg [zf 0 45 2 1,
 zl 1 46 45,
 zo 2 47 (.bin .lss 3 true (.tmp 46) (zi 1)),
 zm 3 48 47,
 zg 4 49 (.fieldA 4 (.tmp 1)) 48 false,
 zg 5 50 (.load none (.tmp 49)) 48 false,
 zg 6 51 (.bin .lss 3 true (.tmp 50) (zi 0)) 48 false,
 zo 7 52 (.pick (.tmp 48) (.con (.bool true)) (.tmp 51)),
 zm 8 53 52,
 zg 9 54 (.fieldA 1 (.tmp 1)) 53 false,
 zg 10 55 (.load none (.tmp 54)) 53 false,
 zg 11 56 (.bin .lss 3 true (.tmp 55) (zi 0)) 53 false,
 zo 12 57 (.pick (.tmp 53) (.con (.bool true)) (.tmp 56)),
 zm 13 58 57,
 zg 14 59 (.fieldA 1 (.tmp 1)) 58 false,
 zg 15 60 (.load none (.tmp 59)) 58 false,
 zg 16 61 (.bin .gtr 3 true (.tmp 60) (zi 8)) 58 false,
 zo 17 62 (.pick (.tmp 58) (.con (.bool true)) (.tmp 61)),
 zm 18 63 62,
 zg 19 64 (.fieldA 1 (.tmp 1)) 63 false,
 zg 20 65 (.load none (.tmp 64)) 63 false,
 zg 21 66 (.fieldA 2 (.tmp 1)) 63 false,
 zg 22 67 (.load none (.tmp 66)) 63 false,
 zg 23 68 (.bin .gtr 3 false (.tmp 65) (.tmp 67)) 63 false,
 zo 24 69 (.pick (.tmp 63) (.con (.bool true)) (.tmp 68)),
 zm 25 70 69,
 zg 26 71 (.fieldA 3 (.tmp 1)) 70 false,
 zg 27 72 (.load none (.tmp 71)) 70 false,
 zg 28 73 (.bin .lss 3 true (.tmp 72) (zi 0)) 70 false,
 zo 29 74 (.pick (.tmp 70) (.con (.bool true)) (.tmp 73)),
 zm 30 75 74,
 zg 31 76 (.fieldA 3 (.tmp 1)) 75 false,
 zg 32 77 (.load none (.tmp 76)) 75 false,
 zg 33 78 (.fieldA 2 (.tmp 1)) 75 false,
 zg 34 79 (.load none (.tmp 78)) 75 false,
 zg 35 80 (.bin .geq 3 false (.tmp 77) (.tmp 79)) 75 false,
 zo 36 81 (.pick (.tmp 75) (.con (.bool true)) (.tmp 80))])
 (.cond (.tmp 81)
 (.seq (.reg [zo 0 2 (.mv (zi 2))])
 (.ret))
 (.skip)))
 (.seq (.seq (.reg [zf 0 82 5 1,
 zl 1 83 82,
 zo 2 84 (.len (.tmp 83)),
 zo 3 85 (.bin .gtr 3 true (.tmp 84) (zi 60000)),
 zm 4 86 85,
 zg 5 87 (.fieldA 5 (.tmp 1)) 86 false,
 zg 6 88 (.load none (.tmp 87)) 86 false,
 zg 7 89 (.len (.tmp 88)) 86 false,
 zg 8 90 (.bin .eql 3 true (.tmp 89) (zi 0)) 86 false,
 zo 9 91 (.pick (.tmp 86) (.con (.bool true)) (.tmp 90))])
 (.cond (.tmp 91)
 (.seq (.reg [zo 0 2 (.mv (zi 3))])
 (.ret))
 (.skip)))
 (.seq (.reg [zo 0 4 (.mv (zi 0)),
 zo 1 5 (.mv (.con (.bool false)))])
 (.seq (.seq (.reg [zo 0 6 (.mv (zi 0))])
 (.block 2
 (.loop
 (.seq (.seq (.reg [zm 0 92 6,
 zf 1 93 5 1,
 zl 2 94 93,
 zo 3 95 (.len (.tmp 94)),
 zo 4 96 (.bin .lss 3 false (.tmp 92) (.tmp 95))])
 (.cond (.tmp 96)
 (.skip)
 (.exit 2)))
 (.seq (.block 3
 (.seq (.reg [zf 0 99 5 1,
 zl 1 100 99,
 zm 2 101 6,
 zo 3 102 (.idxA none 2 (.tmp 100) (.tmp 101)),
 zo 4 103 (.load (some 2) (.tmp 102)),
 zo 5 7 (.alloc [(.slice none 0 0),(.int .i64 0)]),
 zn 6 (.store 2 (.tmp 7) (.tmp 103))])
 (.seq (.seq (.reg [zf 0 104 1 7,
 zl 1 105 104,
 zo 2 106 (.bin .lss 3 true (.tmp 105) (zi (-1))),
 zm 3 107 106,
 zg 4 108 (.fieldA 1 (.tmp 7)) 107 false,
 zg 5 109 (.load none (.tmp 108)) 107 false,
 zg 6 110 (.fieldA 5 (.tmp 1)) 107 false,
 zg 7 111 (.load none (.tmp 110)) 107 false,
 zg 8 112 (.len (.tmp 111)) 107 false,
 zg 9 113 (.bin .geq 3 false (.tmp 109) (.tmp 112)) 107 false,
 zo 10 114 (.pick (.tmp 107) (.con (.bool true)) (.tmp 113))])
 (.cond (.tmp 114)
 (.seq (.reg [zo 0 2 (.mv (zi 2))])
 (.ret))
 (.skip)))
 (.seq (.seq (.reg [zf 0 115 0 7,
 zl 1 116 115,
 zo 2 117 (.len (.tmp 116)),
 zo 3 118 (.bin .gtr 3 true (.tmp 117) (zi 400))])
 (.cond (.tmp 118)
 (.seq (.reg [zo 0 2 (.mv (zi 3))])
 (.ret))
 (.skip)))
 (.seq (.reg [zo 0 5 (.mv (.con (.bool false)))])
 (.seq (.seq (.reg [zo 0 8 (.mv (zi 0))])
 (.block 4
 (.loop
 (.seq (.seq (.reg [zm 0 119 8,
 zf 1 120 0 7,
 zl 2 121 120,
 zo 3 122 (.len (.tmp 121)),
 zo 4 123 (.bin .lss 3 false (.tmp 119) (.tmp 122))])
 (.cond (.tmp 123)
 (.skip)
 (.exit 4)))
 (.seq (.block 5
 (.seq (.seq (.reg [zo 0 126 (.load (some 6) (.tmp 1)),
 zf 1 127 0 7,
 zl 2 128 127,
 zm 3 129 8,
 zo 4 130 (.idxA none 7 (.tmp 128) (.tmp 129)),
 zo 5 131 (.load (some 7) (.tmp 130)),
 zo 6 132 (.call 36 [(.tmp 126),(.tmp 131)]),
 zm 7 9 132])
 (.seq (.reg [zm 0 133 9,
 zo 1 134 (.bin .neq 27 true (.tmp 133) (zi 0))])
 (.cond (.tmp 134)
 (.seq (.reg [zm 0 135 9,
 zm 1 2 135])
 (.ret))
 (.skip))))
 (.reg [zm 0 136 5,
 zm 1 137 136,
 zg 2 138 (.fieldA 0 (.tmp 7)) 137 false,
 zg 3 139 (.load none (.tmp 138)) 137 false,
 zg 4 140 (.mv (.tmp 8)) 137 false,
 zg 5 141 (.idxA none 7 (.tmp 139) (.tmp 140)) 137 false,
 zg 6 142 (.load (some 7) (.tmp 141)) 137 false,
 zg 7 143 (.call 37 [(.tmp 142)]) 137 false,
 zo 8 144 (.pick (.tmp 137) (.con (.bool true)) (.tmp 143)),
 zm 9 5 144])))
 (.reg [zm 0 124 8,
 zo 1 125 (.bin .add 3 true (.tmp 124) (zi 1)),
 zm 2 8 125]))))))
 (.reg [zm 0 145 4,
 zf 1 146 0 7,
 zl 2 147 146,
 zo 3 148 (.len (.tmp 147)),
 zo 4 149 (.bin .add 3 false (.tmp 145) (.tmp 148)),
 zm 5 4 149])))))))
 (.reg [zm 0 97 6,
 zo 1 98 (.bin .add 3 true (.tmp 97) (zi 1)),
 zm 2 6 98]))))))
 (.seq (.seq (.reg [zm 0 150 5,
 zo 1 151 (.un .not (.tmp 150))])
 (.cond (.tmp 151)
 (.seq (.reg [zo 0 2 (.mv (zi 4))])
 (.ret))
 (.skip)))
 (.seq (.seq (.reg [zm 0 152 4,
 zo 1 153 (.bin .gtr 3 true (.tmp 152) (zi 80000))])
 (.cond (.tmp 153)
 (.seq (.reg [zo 0 2 (.mv (zi 3))])
 (.ret))
 (.skip)))
 (.seq (.reg [zo 0 2 (.mv (zi 0))])
 (.ret)))))))))),
 [.tmp 2]⟩
theorem p_r26_Check : PR Go.Proofs.Tryz.f14 = some v_r26_Check:=by kernel_rfl

end Go.VX.Seat
end
section
set_option maxRecDepth 20000
namespace Go.VX.Seat
def v15u : VFun :=
⟨.seq (.reg [zo 0 0 (.mv (.con (.bool false)))])
 (.seq (.reg [zo 0 18 (.call 38 []),
 zo 1 19 (.call 24 [18]),
 zm 2 17 19,
 zo 3 20 (.ext 17 0),
 zo 4 21 (.ext 17 1),
 zm 5 1 20,
 zm 6 2 21])
 (.seq (.reg [zm 0 23 1,
 zo 1 24 (.call 26 [23]),
 zm 2 22 24,
 zo 3 25 (.ext 22 0),
 zo 4 26 (.ext 22 1),
 zo 5 27 (.ext 22 2),
 zo 6 3 (.alloc [(.slice none 0 0),(.int .i64 0),(.int .i64 0),(.int .i64 0),(.int .i64 0),(.slice none 0 0)]),
 zn 7 (.store 6 3 25),
 zm 8 4 26,
 zm 9 5 27])
 (.seq (.reg [zo 0 29 (.call 38 []),
 zo 1 30 (.call 19 [29]),
 zm 2 28 30,
 zo 3 31 (.ext 28 0),
 zo 4 32 (.ext 28 1),
 zm 5 6 31,
 zm 6 7 32])
 (.seq (.reg [zm 0 34 6,
 zo 1 35 (.call 21 [34]),
 zm 2 33 35,
 zo 3 36 (.ext 33 0),
 zo 4 37 (.ext 33 1),
 zo 5 8 (.alloc [(.slice none 0 0),(.int .i64 0),(.int .i64 0),(.int .i64 0),(.int .i64 0),(.slice none 0 0)]),
 zn 6 (.store 6 8 36),
 zm 7 9 37])
 (.seq (.reg [zo 0 39 (.call 38 []),
 zo 1 40 (.call 11 [39,(zi 0)]),
 zm 2 38 40,
 zo 3 41 (.ext 38 0),
 zo 4 42 (.ext 38 1),
 zm 5 10 41,
 zm 6 11 42])
 (.seq (.reg [zo 0 44 (.call 38 []),
 zo 1 45 (.call 12 [44]),
 zm 2 43 45,
 zo 3 46 (.ext 43 0),
 zo 4 47 (.ext 43 1),
 zm 5 12 46,
 zm 6 13 47])
 (.seq (.reg [zo 0 49 (.call 38 []),
 zo 1 50 (.call 13 [49]),
 zm 2 48 50,
 zo 3 51 (.ext 48 0),
 zo 4 52 (.ext 48 1),
 zo 5 53 (.ext 48 2),
 zm 6 14 51,
 zm 7 15 52,
 zm 8 16 53])
 (.seq (.reg [zm 0 54 2,
 zo 1 55 (.bin .eql 27 true 54 (zi 0)),
 zm 2 56 55,
 zg 3 57 (.mv 1) 56 true,
 zg 4 58 (.bin .eql 9 true 57 (.con (.string ⟨#[99,111,100,101,32,48,32,49,32,48,32,48,10,119,111,114,100,32,45,49,10,32,32,48,32,61,32,99,111,110,115,116,32,55,10,119,111,114,100,32,45,49,10,32,32,114,101,116,117,114,110,32,48,10]⟩))) 56 true,
 zo 5 59 (.pick 56 58 (.con (.bool false))),
 zm 6 60 59,
 zg 7 61 (.mv 4) 60 true,
 zg 8 62 (.bin .eql 3 true 61 (zi 0)) 60 true,
 zo 9 63 (.pick 60 62 (.con (.bool false))),
 zm 10 64 63,
 zg 11 65 (.mv 5) 64 true,
 zg 12 66 (.bin .eql 27 true 65 (zi 0)) 64 true,
 zo 13 67 (.pick 64 66 (.con (.bool false))),
 zm 14 68 67,
 zg 15 69 (.load (some 6) 3) 68 true,
 ⟨16,(some 70),.call 38 [],(some (68,true)),[3]⟩,
 zg 17 71 (.call 28 [69,70]) 68 true,
 zo 18 72 (.pick 68 71 (.con (.bool false))),
 zm 19 73 72,
 zg 20 74 (.mv 7) 73 true,
 zg 21 75 (.bin .eql 27 true 74 (zi 0)) 73 true,
 zo 22 76 (.pick 73 75 (.con (.bool false))),
 zm 23 77 76,
 zg 24 78 (.mv 6) 77 true,
 zg 25 79 (.len 78) 77 true,
 zg 26 80 (.bin .gtr 3 true 79 (zi 8)) 77 true,
 zo 27 81 (.pick 77 80 (.con (.bool false))),
 zm 28 82 81,
 zg 29 83 (.mv 6) 82 true,
 zg 30 84 (.slice none 1 83 none (some (zi 4)) none) 82 true,
 zg 31 85 (.b2s 84) 82 true,
 zg 32 86 (.bin .eql 9 true 85 (.con (.string ⟨#[66,105,114,101]⟩))) 82 true,
 zo 33 87 (.pick 82 86 (.con (.bool false))),
 zm 34 88 87,
 zg 35 89 (.mv 9) 88 true,
 zg 36 90 (.bin .eql 27 true 89 (zi 0)) 88 true,
 zo 37 91 (.pick 88 90 (.con (.bool false))),
 zm 38 92 91,
 zg 39 93 (.load (some 6) 8) 92 true,
 ⟨40,(some 94),.call 38 [],(some (92,true)),[8]⟩,
 zg 41 95 (.call 28 [93,94]) 92 true,
 zo 42 96 (.pick 92 95 (.con (.bool false))),
 zm 43 97 96,
 zg 44 98 (.mv 11) 97 true,
 zg 45 99 (.bin .eql 27 true 98 (zi 0)) 97 true,
 zo 46 100 (.pick 97 99 (.con (.bool false))),
 zm 47 101 100,
 zg 48 102 (.mv 10) 101 true,
 zg 49 103 (.len 102) 101 true,
 zg 50 104 (.bin .eql 3 true 103 (zi 1)) 101 true,
 zo 51 105 (.pick 101 104 (.con (.bool false))),
 zm 52 106 105,
 zg 53 107 (.mv 10) 106 true,
 zg 54 108 (.idxA none 1 107 (zi 0)) 106 true,
 zg 55 109 (.load none 108) 106 true,
 zg 56 110 (.bin .eql 3 true 109 (zi 1)) 106 true,
 zo 57 111 (.pick 106 110 (.con (.bool false))),
 zm 58 112 111,
 zg 59 113 (.mv 13) 112 true,
 zg 60 114 (.bin .eql 27 true 113 (zi 0)) 112 true,
 zo 61 115 (.pick 112 114 (.con (.bool false))),
 zm 62 116 115,
 zg 63 117 (.mv 12) 116 true,
 zg 64 118 (.len 117) 116 true,
 zg 65 119 (.bin .eql 3 true 118 (zi 2)) 116 true,
 zo 66 120 (.pick 116 119 (.con (.bool false))),
 zm 67 121 120,
 zg 68 122 (.mv 12) 121 true,
 zg 69 123 (.idxA none 1 122 (zi 1)) 121 true,
 zg 70 124 (.load none 123) 121 true,
 zo 71 125 (.pick 121 124 (.con (.bool false))),
 zm 72 126 125,
 zg 73 127 (.mv 16) 126 true,
 zg 74 128 (.bin .eql 27 true 127 (zi 0)) 126 true,
 zo 75 129 (.pick 126 128 (.con (.bool false))),
 zm 76 130 129,
 zg 77 131 (.mv 14) 130 true,
 zg 78 132 (.bin .eql 3 true 131 (zi 2)) 130 true,
 zo 79 133 (.pick 130 132 (.con (.bool false))),
 zm 80 134 133,
 zg 81 135 (.mv 15) 134 true,
 zg 82 136 (.bin .eql 3 true 135 (zi 0)) 134 true,
 zo 83 137 (.pick 134 136 (.con (.bool false))),
 zm 84 138 137,
 zg 85 139 (.build [(.slice none 0 0),(.int .i64 0),(.int .i64 0),(.int .i64 0),(.int .i64 0),(.slice none 0 0)] []) 138 true,
 zg 86 140 (.call 29 [139]) 138 true,
 zg 87 141 (.bin .eql 27 true 140 (zi 2)) 138 true,
 zo 88 142 (.pick 138 141 (.con (.bool false))),
 zm 89 0 142])
 (.ret))))))))),
 [.tmp 0]⟩
theorem p15u : PR Go.Proofs.Tryz.f15 = some v15u:=by kernel_rfl

def v_r26_Density : VFun :=
⟨.seq (.reg [zo 0 1 (.box (.tmp 0)),
 zo 1 2 (.mv (zi 0)),
 zo 2 3 (.mv (zi 0))])
 (.seq (.reg [zo 0 4 (.mv (zi 0)),
 zo 1 5 (.mv (zi 0))])
 (.seq (.seq (.reg [zo 0 6 (.mv (zi 0))])
 (.block 0
 (.loop
 (.seq (.seq (.reg [zm 0 7 6,
 zf 1 8 5 1,
 zl 2 9 8,
 zo 3 10 (.len (.tmp 9)),
 zo 4 11 (.bin .lss 3 false (.tmp 7) (.tmp 10))])
 (.cond (.tmp 11)
 (.skip)
 (.exit 0)))
 (.seq (.block 1
 (.seq (.reg [zm 0 14 4,
 zf 1 15 5 1,
 zl 2 16 15,
 zm 3 17 6,
 zo 4 18 (.idxA none 2 (.tmp 16) (.tmp 17)),
 zf 5 19 0 18,
 zl 6 20 19,
 zo 7 21 (.len (.tmp 20)),
 zo 8 22 (.bin .add 3 false (.tmp 14) (.tmp 21)),
 zm 9 4 22])
 (.seq (.reg [zf 0 23 5 1,
 zl 1 24 23,
 zm 2 25 6,
 zo 3 26 (.idxA none 2 (.tmp 24) (.tmp 25)),
 zf 4 27 0 26,
 zl 5 28 27,
 zo 6 29 (.len (.tmp 28)),
 zo 7 30 (.bin .eql 3 true (.tmp 29) (zi 0))])
 (.cond (.tmp 30)
 (.reg [zm 0 31 5,
 zo 1 32 (.bin .add 3 true (.tmp 31) (zi 1)),
 zm 2 5 32])
 (.skip)))))
 (.reg [zm 0 12 6,
 zo 1 13 (.bin .add 3 true (.tmp 12) (zi 1)),
 zm 2 6 13]))))))
 (.seq (.reg [zm 0 33 4,
 zm 1 34 5,
 zm 2 2 33,
 zm 3 3 34])
 (.ret)))),
 [.tmp 2,.tmp 3]⟩
theorem p_r26_Density : PR Go.Proofs.Tryz.f16 = some v_r26_Density:=by kernel_rfl

def v_r26_Reached : VFun :=
⟨.seq (.reg [zo 0 1 (.box (.tmp 0)),
 zo 1 2 (.mv (.con (.slice none 0 0)))])
 (.seq (.reg [zf 0 7 5 1,
 zl 1 8 7,
 zo 2 9 (.len (.tmp 8)),
 zo 3 10 (.mksl 1 1 [(.bool false)] (.tmp 9) (.tmp 9)),
 zm 4 3 10])
 (.seq (.reg [zm 0 11 3,
 zo 1 12 (.idxA none 1 (.tmp 11) (zi 0)),
 zn 2 (.store 1 (.tmp 12) (.con (.bool true)))])
 (.seq (.reg [zo 0 13 (.bslice 1 1 [(.int .i64 0)] [(0,1,(zi 0))]),
 zm 1 4 13])
 (.seq (.block 0
 (.loop
 (.seq (.seq (.reg [zm 0 14 4,
 zo 1 15 (.len (.tmp 14)),
 zo 2 16 (.bin .gtr 3 true (.tmp 15) (zi 0))])
 (.cond (.tmp 16)
 (.skip)
 (.exit 0)))
 (.block 1
 (.seq (.reg [zo 0 17 (.load (some 6) (.tmp 1)),
 zm 1 18 4,
 zo 2 19 (.idxA none 1 (.tmp 18) (zi 0)),
 zl 3 20 19,
 zo 4 21 (.call 18 [(.tmp 17),(.tmp 20)]),
 zm 5 5 21])
 (.seq (.reg [zm 0 22 4,
 zo 1 23 (.slice none 1 (.tmp 22) (some (zi 1)) none none),
 zm 2 4 23])
 (.seq (.reg [zo 0 6 (.mv (zi 0))])
 (.block 2
 (.loop
 (.seq (.seq (.reg [zm 0 24 6,
 zm 1 25 5,
 zo 2 26 (.len (.tmp 25)),
 zo 3 27 (.bin .lss 3 false (.tmp 24) (.tmp 26))])
 (.cond (.tmp 27)
 (.skip)
 (.exit 2)))
 (.seq (.block 3
 (.seq (.reg [zm 0 30 3,
 zm 1 31 5,
 zm 2 32 6,
 zo 3 33 (.idxA none 1 (.tmp 31) (.tmp 32)),
 zl 4 34 33,
 zo 5 35 (.idxA none 1 (.tmp 30) (.tmp 34)),
 zl 6 36 35,
 zo 7 37 (.un .not (.tmp 36))])
 (.cond (.tmp 37)
 (.seq (.reg [zm 0 38 3,
 zm 1 39 5,
 zm 2 40 6,
 zo 3 41 (.idxA none 1 (.tmp 39) (.tmp 40)),
 zl 4 42 41,
 zo 5 43 (.idxA none 1 (.tmp 38) (.tmp 42)),
 zn 6 (.store 1 (.tmp 43) (.con (.bool true)))])
 (.reg [zm 0 44 4,
 zm 1 45 5,
 zm 2 46 6,
 zo 3 47 (.idxA none 1 (.tmp 45) (.tmp 46)),
 zl 4 48 47,
 zo 5 49 (.bslice 1 1 [(.int .i64 0)] [(0,1,(.tmp 48))]),
 zo 6 50 (.append 1 8 (.tmp 44) (.tmp 49)),
 zm 7 4 50]))
 (.skip))))
 (.reg [zm 0 28 6,
 zo 1 29 (.bin .add 3 true (.tmp 28) (zi 1)),
 zm 2 6 29]))))))))))))
 (.seq (.reg [zm 0 51 3,
 zm 1 2 51])
 (.ret)))))),
 [.tmp 2]⟩
theorem p_r26_Reached : PR Go.Proofs.Tryz.f17 = some v_r26_Reached:=by kernel_rfl

def v_r26_Next : VFun :=
⟨.seq (.reg [zo 0 2 (.box (.tmp 0)),
 zo 1 4 (.mv (.con (.slice none 0 0)))])
 (.seq (.reg [zo 0 5 (.mv (.con (.slice none 0 0)))])
 (.seq (.reg [zf 0 9 5 2,
 zl 1 10 9,
 zm 2 11 1,
 zo 3 12 (.idxA none 2 (.tmp 10) (.tmp 11)),
 zo 4 13 (.load (some 2) (.tmp 12)),
 zo 5 6 (.alloc [(.slice none 0 0),(.int .i64 0)]),
 zn 6 (.store 2 (.tmp 6) (.tmp 13))])
 (.seq (.seq (.reg [zo 0 7 (.mv (zi 0))])
 (.block 0
 (.loop
 (.seq (.seq (.reg [zm 0 14 7,
 zf 1 15 0 6,
 zl 2 16 15,
 zo 3 17 (.len (.tmp 16)),
 zo 4 18 (.bin .lss 3 false (.tmp 14) (.tmp 17))])
 (.cond (.tmp 18)
 (.skip)
 (.exit 0)))
 (.seq (.block 1
 (.seq (.reg [zf 0 21 0 6,
 zl 1 22 21,
 zm 2 23 7,
 zo 3 24 (.idxA none 7 (.tmp 22) (.tmp 23)),
 zo 4 25 (.load (some 7) (.tmp 24)),
 zo 5 8 (.alloc [(.int .i64 0),(.int .i64 0),(.int .i64 0),(.int .i64 0),(.int .i64 0),(.int .i64 0),(.int .i64 0)]),
 zn 6 (.store 7 (.tmp 8) (.tmp 25))])
 (.seq (.seq (.reg [zf 0 26 0 8,
 zl 1 27 26,
 zo 2 28 (.bin .eql 3 true (.tmp 27) (zi 21)),
 zm 3 29 28,
 zg 4 30 (.fieldA 0 (.tmp 8)) 29 false,
 zg 5 31 (.load none (.tmp 30)) 29 false,
 zg 6 32 (.bin .eql 3 true (.tmp 31) (zi 26)) 29 false,
 zo 7 33 (.pick (.tmp 29) (.con (.bool true)) (.tmp 32))])
 (.cond (.tmp 33)
 (.reg [zm 0 34 5,
 zf 1 35 5 8,
 zl 2 36 35,
 zo 3 37 (.call 39 [(.tmp 34),(.tmp 36)]),
 zm 4 5 37])
 (.skip)))
 (.seq (.seq (.reg [zo 0 38 (.load (some 7) (.tmp 8)),
 zo 1 39 (.call 40 [(.tmp 38)]),
 zm 2 40 39,
 zg 3 41 (.fieldA 1 (.tmp 6)) 40 true,
 zg 4 42 (.load none (.tmp 41)) 40 true,
 zg 5 43 (.bin .geq 3 true (.tmp 42) (zi 0)) 40 true,
 zo 6 44 (.pick (.tmp 40) (.tmp 43) (.con (.bool false)))])
 (.cond (.tmp 44)
 (.reg [zm 0 45 5,
 zf 1 46 1 6,
 zl 2 47 46,
 zo 3 48 (.call 39 [(.tmp 45),(.tmp 47)]),
 zm 4 5 48])
 (.skip)))
 (.seq (.reg [zo 0 49 (.load (some 7) (.tmp 8)),
 zo 1 50 (.call 37 [(.tmp 49)])])
 (.cond (.tmp 50)
 (.seq (.reg [zm 0 51 5,
 zm 1 4 51])
 (.ret))
 (.skip)))))))
 (.reg [zm 0 19 7,
 zo 1 20 (.bin .add 3 true (.tmp 19) (zi 1)),
 zm 2 7 20]))))))
 (.seq (.reg [zm 0 52 5,
 zm 1 53 1,
 zo 2 54 (.bin .add 3 true (.tmp 53) (zi 1)),
 zo 3 55 (.call 39 [(.tmp 52),(.tmp 54)]),
 zm 4 4 55])
 (.ret))))),
 [.tmp 4]⟩
theorem p_r26_Next : PR Go.Proofs.Tryz.f18 = some v_r26_Next:=by kernel_rfl

def v19u : VFun :=
⟨.seq (.reg [zo 0 1 (.box 0),
 zo 1 2 (.mv (.con (.slice none 0 0))),
 zo 2 3 (.mv (zi 0))])
 (.seq (.seq (.reg [zo 0 12 (.load (some 6) 1),
 zo 1 13 (.call 29 [12]),
 zm 2 4 13])
 (.seq (.reg [zm 0 14 4,
 zo 1 15 (.bin .neq 27 true 14 (zi 0))])
 (.cond 15
 (.seq (.reg [zm 0 16 4,
 zo 1 2 (.mv (.con (.slice none 0 0))),
 zm 2 3 16])
 (.ret))
 (.skip))))
 (.seq (.reg [zo 0 17 (.bslice 1 4 [(.int .u8 0)] [(0,1,(.con (.int .u8 66))),(1,1,(.con (.int .u8 105))),(2,1,(.con (.int .u8 114))),(3,1,(.con (.int .u8 101)))]),
 zo 1 18 (.frz 17),
 zo 2 19 (.build [(.slice none 0 0)] [(0,1,18)]),
 zo 3 20 (.box 19),
 zm 4 5 20])
 (.seq (.reg [zm 0 21 5,
 zf 1 22 0 1,
 zl 2 23 22,
 zo 3 24 (.len 23),
 zo 4 25 (.bslice 1 1 [(.int .i64 0)] [(0,1,24)]),
 zo 5 26 (.call 41 [21,25])])
 (.seq (.reg [zm 0 27 5,
 zf 1 28 0 1,
 zl 2 29 28,
 zo 3 30 (.call 41 [27,29])])
 (.seq (.reg [zm 0 31 5,
 zf 1 32 1 1,
 zl 2 33 32,
 zf 3 34 2 1,
 zl 4 35 34,
 zf 5 36 3 1,
 zl 6 37 36,
 zf 7 38 4 1,
 zl 8 39 38,
 zf 9 40 5 1,
 zl 10 41 40,
 zo 11 42 (.len 41),
 zo 12 43 (.bslice 1 5 [(.int .i64 0)] [(0,1,33),(1,1,35),(2,1,37),(3,1,39),(4,1,42)]),
 zo 13 44 (.call 41 [31,43])])
 (.seq (.seq (.reg [zf 0 45 5 1,
 zl 1 46 45,
 zo 2 47 (.len 46),
 zo 3 48 (.mv (zi 0))])
 (.block 0
 (.loop
 (.seq (.reg [zo 0 49 (.bin .lss 3 false 48 47)])
 (.seq (.cond 49
 (.skip)
 (.exit 0))
 (.seq (.block 1
 (.seq (.reg [zo 0 50 (.idxA none 2 46 48),
 zo 1 51 (.load (some 2) 50),
 zo 2 7 (.alloc [(.slice none 0 0),(.int .i64 0)]),
 zn 3 (.store 2 7 51)])
 (.seq (.reg [zm 0 52 5,
 zf 1 53 1 7,
 zl 2 54 53,
 zf 3 55 0 7,
 zl 4 56 55,
 zo 5 57 (.len 56),
 zo 6 58 (.bslice 1 2 [(.int .i64 0)] [(0,1,54),(1,1,57)]),
 zo 7 59 (.call 41 [52,58])])
 (.seq (.reg [zf 0 60 0 7,
 zl 1 61 60,
 zo 2 62 (.len 61),
 zo 3 63 (.mv (zi 0))])
 (.block 2
 (.loop
 (.seq (.reg [zo 0 64 (.bin .lss 3 false 63 62)])
 (.seq (.cond 64
 (.skip)
 (.exit 2))
 (.seq (.block 3
 (.seq (.reg [zo 0 65 (.idxA none 7 61 63),
 zo 1 66 (.load (some 7) 65),
 zo 2 9 (.alloc [(.int .i64 0),(.int .i64 0),(.int .i64 0),(.int .i64 0),(.int .i64 0),(.int .i64 0),(.int .i64 0)]),
 zn 3 (.store 7 9 66)])
 (.seq (.reg [zm 0 67 5,
 zf 1 68 0 9,
 zl 2 69 68,
 zf 3 70 6 9,
 zl 4 71 70,
 zo 5 72 (.bslice 1 2 [(.int .i64 0)] [(0,1,69),(1,1,71)]),
 zo 6 73 (.call 41 [67,72])])
 (.seq (.seq (.reg [zo 0 74 (.call 42 [9]),
 zo 1 75 (.len 74),
 zo 2 76 (.mv (zi 0))])
 (.block 4
 (.loop
 (.seq (.reg [zo 0 77 (.bin .lss 3 false 76 75)])
 (.seq (.cond 77
 (.skip)
 (.exit 4))
 (.seq (.block 5
 (.seq (.reg [zo 0 78 (.idxA none 1 74 76),
 zl 1 79 78,
 zm 2 11 79])
 (.reg [zm 0 80 5,
 zm 1 81 11,
 zo 2 82 (.nilck 81),
 zl 3 83 82,
 zo 4 84 (.bslice 1 1 [(.int .i64 0)] [(0,1,83)]),
 zo 5 85 (.call 41 [80,84])])))
 (.reg [zo 0 86 (.bin .add 3 true 76 (zi 1)),
 zm 1 76 86])))))))
 (.seq (.reg [zf 0 87 0 9,
 zl 1 88 87,
 zo 2 89 (.call 43 [88])])
 (.cond 89
 (.reg [zm 0 90 5,
 zf 1 91 5 9,
 zl 2 92 91,
 zo 3 93 (.call 44 [90,92])])
 (.skip)))))))
 (.reg [zo 0 94 (.bin .add 3 true 63 (zi 1)),
 zm 1 63 94]))))))))))
 (.reg [zo 0 95 (.bin .add 3 true 48 (zi 1)),
 zm 1 48 95])))))))
 (.seq (.reg [zm 0 96 5,
 zo 1 97 (.call 45 [96]),
 zm 2 2 97,
 zo 3 3 (.mv (zi 0))])
 (.ret)))))))),
 [.tmp 2,.tmp 3]⟩
theorem p19u : PR Go.Proofs.Tryz.f19 = some v19u:=by kernel_rfl

def v21u : VFun :=
⟨.seq (.reg [zo 0 2 (.alloc [(.slice none 0 0),(.int .i64 0),(.int .i64 0),(.int .i64 0),(.int .i64 0),(.slice none 0 0)]),
 zo 1 3 (.mv (zi 0))])
 (.seq (.reg [zm 0 7 0,
 zo 1 8 (.call 49 [7,(.con (.string ⟨#[66,105,114,101]⟩))]),
 zm 2 4 8])
 (.seq (.reg [zo 0 5 (.alloc [(.slice none 0 0),(.int .i64 0),(.int .i64 0),(.int .i64 0),(.int .i64 0),(.slice none 0 0)])])
 (.seq (.seq (.reg [zm 0 9 4,
 zo 1 10 (.call 50 [9,(zi 16)]),
 zo 2 11 (.mv (zi 0))])
 (.block 0
 (.loop
 (.seq (.reg [zo 0 12 (.bin .lss 3 false 11 10)])
 (.seq (.cond 12
 (.skip)
 (.exit 0))
 (.seq (.block 1
 (.reg [zf 0 13 0 5,
 zl 1 14 13,
 zm 2 15 4,
 ⟨3,(some 16),.call 51 [15],none,[13]⟩,
 zo 4 17 (.bslice 1 1 [(.int .i64 0)] [(0,1,16)]),
 zo 5 18 (.append 1 8 14 17),
 zf 6 19 0 5,
 zn 7 (.store 1 19 18)]))
 (.reg [zo 0 20 (.bin .add 3 true 11 (zi 1)),
 zm 1 11 20])))))))
 (.seq (.reg [zm 0 21 4,
 zo 1 22 (.call 51 [21]),
 zm 2 23 4,
 zo 3 24 (.call 51 [23]),
 zm 4 25 4,
 zo 5 26 (.call 51 [25]),
 zm 6 27 4,
 zo 7 28 (.call 51 [27]),
 zf 8 29 1 5,
 zn 9 (.store 1 29 22),
 zf 10 30 2 5,
 zn 11 (.store 1 30 24),
 zf 12 31 3 5,
 zn 13 (.store 1 31 26),
 zf 14 32 4 5,
 zn 15 (.store 1 32 28)])
 (.seq (.seq (.reg [zm 0 33 4,
 zo 1 34 (.call 50 [33,(zi 60000)]),
 zo 2 35 (.mv (zi 0))])
 (.block 2
 (.loop
 (.seq (.reg [zo 0 36 (.bin .lss 3 false 35 34)])
 (.seq (.cond 36
 (.skip)
 (.exit 2))
 (.seq (.block 3
 (.seq (.seq (.reg [zm 0 37 4,
 zo 1 38 (.nilck 37),
 zf 2 39 1 38,
 zl 3 40 39,
 zo 4 41 (.bin .neq 27 true 40 (zi 0))])
 (.cond 41
 (.exit 2)
 (.skip)))
 (.seq (.reg [zm 0 42 4,
 zo 1 43 (.call 51 [42]),
 zo 2 44 (.build [(.slice none 0 0),(.int .i64 0)] [(1,1,43)]),
 zo 3 6 (.alloc [(.slice none 0 0),(.int .i64 0)]),
 zn 4 (.store 2 6 44)])
 (.seq (.seq (.reg [zm 0 45 4,
 zo 1 46 (.call 50 [45,(zi 400)]),
 zo 2 47 (.mv (zi 0))])
 (.block 4
 (.loop
 (.seq (.reg [zo 0 48 (.bin .lss 3 false 47 46)])
 (.seq (.cond 48
 (.skip)
 (.exit 4))
 (.seq (.block 5
 (.seq (.seq (.reg [zm 0 49 4,
 zo 1 50 (.nilck 49),
 zf 2 51 1 50,
 zl 3 52 51,
 zo 4 53 (.bin .neq 27 true 52 (zi 0))])
 (.cond 53
 (.exit 4)
 (.skip)))
 (.reg [zf 0 54 0 6,
 zl 1 55 54,
 zm 2 56 4,
 ⟨3,(some 57),.call 52 [56],none,[54]⟩,
 zo 4 58 (.bslice 7 1 [(.int .i64 0),(.int .i64 0),(.int .i64 0),(.int .i64 0),(.int .i64 0),(.int .i64 0),(.int .i64 0)] [(0,7,57)]),
 zo 5 59 (.append 7 56 55 58),
 zf 6 60 0 6,
 zn 7 (.store 1 60 59)])))
 (.reg [zo 0 61 (.bin .add 3 true 47 (zi 1)),
 zm 1 47 61])))))))
 (.reg [zf 0 62 5 5,
 zl 1 63 62,
 zo 2 64 (.load (some 2) 6),
 zo 3 65 (.bslice 2 1 [(.slice none 0 0),(.int .i64 0)] [(0,2,64)]),
 zo 4 66 (.append 2 32 63 65),
 zf 5 67 5 5,
 zn 6 (.store 1 67 66)])))))
 (.reg [zo 0 68 (.bin .add 3 true 35 (zi 1)),
 zm 1 35 68])))))))
 (.seq (.reg [zm 0 69 4,
 zo 1 70 (.call 53 [69])])
 (.seq (.seq (.reg [zm 0 71 4,
 zo 1 72 (.nilck 71),
 zf 2 73 1 72,
 zl 3 74 73,
 zo 4 75 (.bin .eql 27 true 74 (zi 0))])
 (.cond 75
 (.reg [zm 0 76 4,
 zo 1 77 (.load (some 6) 5),
 zo 2 78 (.call 29 [77]),
 zo 3 79 (.nilck 76),
 zf 4 80 1 79,
 zn 5 (.store 1 80 78)])
 (.skip)))
 (.seq (.seq (.reg [zm 0 81 4,
 zo 1 82 (.nilck 81),
 zf 2 83 1 82,
 zl 3 84 83,
 zo 4 85 (.bin .neq 27 true 84 (zi 0))])
 (.cond 85
 (.seq (.reg [zo 0 86 (.build [(.slice none 0 0),(.int .i64 0),(.int .i64 0),(.int .i64 0),(.int .i64 0),(.slice none 0 0)] []),
 zm 1 87 4,
 zo 2 88 (.nilck 87),
 zf 3 89 1 88,
 zl 4 90 89,
 ⟨5,none,.store 6 2 86,none,[89]⟩,
 zm 6 3 90])
 (.ret))
 (.skip)))
 (.seq (.reg [zo 0 91 (.load (some 6) 5),
 zn 1 (.store 6 2 91),
 zo 2 3 (.mv (zi 0))])
 (.ret)))))))))),
 [.cell 2 (some 6),.tmp 3]⟩
theorem p21u : PR Go.Proofs.Tryz.f21 = some v21u:=by kernel_rfl

end Go.VX.Seat
end
section
set_option maxRecDepth 20000
namespace Go.VX.Seat
def v24u : VFun :=
⟨.seq (.reg [zo 0 1 (.box 0),
 zo 1 2 (.mv (.con (.string ⟨#[]⟩))),
 zo 2 3 (.mv (zi 0))])
 (.seq (.seq (.reg [zo 0 14 (.load (some 6) 1),
 zo 1 15 (.call 29 [14]),
 zm 2 4 15])
 (.seq (.reg [zm 0 16 4,
 zo 1 17 (.bin .neq 27 true 16 (zi 0))])
 (.cond 17
 (.seq (.reg [zm 0 18 4,
 zo 1 2 (.mv (.con (.string ⟨#[]⟩))),
 zm 2 3 18])
 (.ret))
 (.skip))))
 (.seq (.reg [zo 0 5 (.allocF [(.int .i64 1),(.int .i64 105),(.int .i64 5),(.string ⟨#[]⟩)])])
 (.seq (.reg [zo 0 19 (.call 59 [5,(.con (.string ⟨#[99,111,100,101]⟩))])])
 (.seq (.seq (.reg [zf 0 20 1 1,
 zl 1 21 20,
 zf 2 22 2 1,
 zl 3 23 22,
 zf 4 24 3 1,
 zl 5 25 24,
 zf 6 26 4 1,
 zl 7 27 26,
 zo 8 28 (.bslice 1 4 [(.int .i64 0)] [(0,1,21),(1,1,23),(2,1,25),(3,1,27)]),
 zo 9 29 (.len 28),
 zo 10 30 (.mv (zi 0))])
 (.block 0
 (.loop
 (.seq (.reg [zo 0 31 (.bin .lss 3 false 30 29)])
 (.seq (.cond 31
 (.skip)
 (.exit 0))
 (.seq (.block 1
 (.seq (.reg [zo 0 32 (.idxA none 1 28 30),
 zl 1 33 32,
 zm 2 7 33])
 (.reg [zm 0 34 7,
 zo 1 35 (.call 60 [34]),
 zo 2 36 (.bin .add 9 true (.con (.string ⟨#[32]⟩)) 35),
 zo 3 37 (.call 59 [5,36])])))
 (.reg [zo 0 38 (.bin .add 3 true 30 (zi 1)),
 zm 1 30 38])))))))
 (.seq (.reg [zo 0 39 (.call 59 [5,(.con (.string ⟨#[10]⟩))])])
 (.seq (.seq (.reg [zf 0 40 0 1,
 zl 1 41 40,
 zo 2 42 (.len 41),
 zo 3 43 (.mv (zi 0))])
 (.block 2
 (.loop
 (.seq (.reg [zo 0 44 (.bin .lss 3 false 43 42)])
 (.seq (.cond 44
 (.skip)
 (.exit 2))
 (.seq (.block 3
 (.seq (.reg [zo 0 45 (.idxA none 1 41 43),
 zl 1 46 45,
 zm 2 9 46])
 (.reg [zm 0 47 9,
 zo 1 48 (.call 60 [47]),
 zo 2 49 (.bin .add 9 true (.con (.string ⟨#[97,114,114,97,121,32]⟩)) 48),
 zo 3 50 (.bin .add 9 true 49 (.con (.string ⟨#[10]⟩))),
 zo 4 51 (.call 59 [5,50])])))
 (.reg [zo 0 52 (.bin .add 3 true 43 (zi 1)),
 zm 1 43 52])))))))
 (.seq (.seq (.reg [zf 0 53 5 1,
 zl 1 54 53,
 zo 2 55 (.len 54),
 zo 3 56 (.mv (zi 0))])
 (.block 4
 (.loop
 (.seq (.reg [zo 0 57 (.bin .lss 3 false 56 55)])
 (.seq (.cond 57
 (.skip)
 (.exit 4))
 (.seq (.block 5
 (.seq (.reg [zo 0 58 (.idxA none 2 54 56),
 zo 1 59 (.load (some 2) 58),
 zo 2 11 (.alloc [(.slice none 0 0),(.int .i64 0)]),
 zn 3 (.store 2 11 59)])
 (.seq (.reg [zf 0 60 1 11,
 zl 1 61 60,
 zo 2 62 (.call 60 [61]),
 zo 3 63 (.bin .add 9 true (.con (.string ⟨#[119,111,114,100,32]⟩)) 62),
 zo 4 64 (.bin .add 9 true 63 (.con (.string ⟨#[10]⟩))),
 zo 5 65 (.call 59 [5,64])])
 (.seq (.reg [zf 0 66 0 11,
 zl 1 67 66,
 zo 2 68 (.len 67),
 zo 3 69 (.mv (zi 0))])
 (.block 6
 (.loop
 (.seq (.reg [zo 0 70 (.bin .lss 3 false 69 68)])
 (.seq (.cond 70
 (.skip)
 (.exit 6))
 (.seq (.block 7
 (.seq (.reg [zo 0 71 (.idxA none 7 67 69),
 zo 1 72 (.load (some 7) 71),
 zo 2 13 (.alloc [(.int .i64 0),(.int .i64 0),(.int .i64 0),(.int .i64 0),(.int .i64 0),(.int .i64 0),(.int .i64 0)]),
 zn 3 (.store 7 13 72)])
 (.reg [zo 0 73 (.load (some 7) 13),
 zo 1 74 (.call 61 [73]),
 zo 2 75 (.bin .add 9 true (.con (.string ⟨#[32,32]⟩)) 74),
 zo 3 76 (.bin .add 9 true 75 (.con (.string ⟨#[10]⟩))),
 zo 4 77 (.call 59 [5,76])])))
 (.reg [zo 0 78 (.bin .add 3 true 69 (zi 1)),
 zm 1 69 78]))))))))))
 (.reg [zo 0 79 (.bin .add 3 true 56 (zi 1)),
 zm 1 56 79])))))))
 (.seq (.reg [zo 0 80 (.call 62 [5]),
 zm 1 2 80,
 zo 2 3 (.mv (zi 0))])
 (.ret))))))))),
 [.tmp 2,.tmp 3]⟩
theorem p24u : PR Go.Proofs.Tryz.f24 = some v24u:=by kernel_rfl

def v26u : VFun :=
⟨.seq (.reg [zo 0 2 (.alloc [(.slice none 0 0),(.int .i64 0),(.int .i64 0),(.int .i64 0),(.int .i64 0),(.slice none 0 0)]),
 zo 1 3 (.mv (zi 0)),
 zo 2 4 (.mv (zi 0))])
 (.seq (.seq (.reg [zm 0 9 0,
 zo 1 10 (.bi .len [9] 3 [9]),
 zo 2 11 (.bin .gtr 3 true 10 (zi 2000000))])
 (.cond 11
 (.seq (.reg [zo 0 12 (.build [(.slice none 0 0),(.int .i64 0),(.int .i64 0),(.int .i64 0),(.int .i64 0),(.slice none 0 0)] []),
 zn 1 (.store 6 2 12),
 zo 2 3 (.mv (zi 0)),
 zo 3 4 (.mv (zi 3))])
 (.ret))
 (.skip)))
 (.seq (.reg [zm 0 13 0,
 zo 1 14 (.build [(.string ⟨#[]⟩),(.int .i64 0)] [(0,1,13),(1,1,(zi 1))]),
 zo 2 15 (.box 14),
 zm 3 5 15])
 (.seq (.reg [zm 0 17 5,
 zo 1 18 (.call 65 [17]),
 zm 2 16 18,
 zo 3 19 (.ext 16 0),
 zo 4 20 (.ext 16 1),
 zo 5 6 (.alloc [(.slice none 0 0),(.int .i64 0),(.int .i64 0),(.int .i64 0),(.int .i64 0),(.slice none 0 0)]),
 zn 6 (.store 6 6 19),
 zm 7 7 20])
 (.seq (.seq (.reg [zm 0 21 7,
 zo 1 22 (.un .not 21)])
 (.cond 22
 (.seq (.reg [zo 0 23 (.build [(.slice none 0 0),(.int .i64 0),(.int .i64 0),(.int .i64 0),(.int .i64 0),(.slice none 0 0)] []),
 zm 1 24 5,
 zo 2 25 (.nilck 24),
 zf 3 26 1 25,
 zl 4 27 26,
 ⟨5,none,.store 6 2 23,none,[26]⟩,
 zm 6 3 27,
 zo 7 4 (.mv (zi 4))])
 (.ret))
 (.skip)))
 (.seq (.seq (.reg [zo 0 28 (.load (some 6) 6),
 zo 1 29 (.call 29 [28]),
 zm 2 8 29])
 (.seq (.reg [zm 0 30 8,
 zo 1 31 (.bin .neq 27 true 30 (zi 0))])
 (.cond 31
 (.seq (.reg [zo 0 32 (.build [(.slice none 0 0),(.int .i64 0),(.int .i64 0),(.int .i64 0),(.int .i64 0),(.slice none 0 0)] []),
 zm 1 33 8,
 zn 2 (.store 6 2 32),
 zo 3 3 (.mv (zi 0)),
 zm 4 4 33])
 (.ret))
 (.skip))))
 (.seq (.reg [zf 0 34 0 6,
 zl 1 35 34,
 zo 2 36 (.call 66 [35]),
 zf 3 37 0 6,
 zn 4 (.store 1 37 36)])
 (.seq (.reg [zo 0 38 (.load (some 6) 6),
 zn 1 (.store 6 2 38),
 zo 2 3 (.mv (zi 0)),
 zo 3 4 (.mv (zi 0))])
 (.ret)))))))),
 [.cell 2 (some 6),.tmp 3,.tmp 4]⟩
theorem p26u : PR Go.Proofs.Tryz.f26 = some v26u:=by kernel_rfl

def v28u : VFun :=
⟨.seq (.reg [zo 0 2 (.box 0),
 zo 1 3 (.box 1),
 zo 2 4 (.mv (.con (.bool false)))])
 (.seq (.reg [zf 0 5 0 2,
 zl 1 6 5,
 zf 2 7 0 3,
 zl 3 8 7,
 zo 4 9 (.call 68 [6,8]),
 zm 5 10 9,
 zg 6 11 (.fieldA 1 2) 10 true,
 zg 7 12 (.load none 11) 10 true,
 zg 8 13 (.fieldA 1 3) 10 true,
 zg 9 14 (.load none 13) 10 true,
 zg 10 15 (.bin .eql 3 false 12 14) 10 true,
 zo 11 16 (.pick 10 15 (.con (.bool false))),
 zm 12 17 16,
 zg 13 18 (.fieldA 2 2) 17 true,
 zg 14 19 (.load none 18) 17 true,
 zg 15 20 (.fieldA 2 3) 17 true,
 zg 16 21 (.load none 20) 17 true,
 zg 17 22 (.bin .eql 3 false 19 21) 17 true,
 zo 18 23 (.pick 17 22 (.con (.bool false))),
 zm 19 24 23,
 zg 20 25 (.fieldA 3 2) 24 true,
 zg 21 26 (.load none 25) 24 true,
 zg 22 27 (.fieldA 3 3) 24 true,
 zg 23 28 (.load none 27) 24 true,
 zg 24 29 (.bin .eql 3 false 26 28) 24 true,
 zo 25 30 (.pick 24 29 (.con (.bool false))),
 zm 26 31 30,
 zg 27 32 (.fieldA 4 2) 31 true,
 zg 28 33 (.load none 32) 31 true,
 zg 29 34 (.fieldA 4 3) 31 true,
 zg 30 35 (.load none 34) 31 true,
 zg 31 36 (.bin .eql 3 false 33 35) 31 true,
 zo 32 37 (.pick 31 36 (.con (.bool false))),
 zm 33 38 37,
 zg 34 39 (.fieldA 5 2) 38 true,
 zg 35 40 (.load none 39) 38 true,
 zg 36 41 (.fieldA 5 3) 38 true,
 zg 37 42 (.load none 41) 38 true,
 zg 38 43 (.call 69 [40,42,(.fn 70)]) 38 true,
 zo 39 44 (.pick 38 43 (.con (.bool false))),
 zm 40 4 44])
 (.ret)),
 [.tmp 4]⟩
theorem p28u : PR Go.Proofs.Tryz.f28 = some v28u:=by kernel_rfl

def v_words_Check : VFun :=
⟨.seq (.reg [zo 0 1 (.box (.tmp 0)),
 zo 1 2 (.mv (zi 0))])
 (.seq (.seq (.reg [zo 0 10 (.load (some 6) (.tmp 1)),
 zo 1 11 (.call 73 [(.tmp 10),(zi 1)]),
 zo 2 12 (.call 72 [(.tmp 11)]),
 zm 3 3 12])
 (.seq (.reg [zm 0 13 3,
 zo 1 14 (.bin .neq 27 true (.tmp 13) (zi 0))])
 (.cond (.tmp 14)
 (.seq (.reg [zm 0 15 3,
 zm 1 2 15])
 (.ret))
 (.skip))))
 (.seq (.seq (.reg [zf 0 16 5 1,
 zl 1 17 16,
 zo 2 18 (.len (.tmp 17)),
 zo 3 19 (.bin .eql 3 true (.tmp 18) (zi 0)),
 zm 4 20 19,
 zg 5 21 (.fieldA 5 (.tmp 1)) 20 false,
 zg 6 22 (.load none (.tmp 21)) 20 false,
 zg 7 23 (.len (.tmp 22)) 20 false,
 zg 8 24 (.bin .gtr 3 true (.tmp 23) (zi 60000)) 20 false,
 zo 9 25 (.pick (.tmp 20) (.con (.bool true)) (.tmp 24))])
 (.cond (.tmp 25)
 (.seq (.reg [zo 0 2 (.mv (zi 3))])
 (.ret))
 (.skip)))
 (.seq (.reg [zo 0 4 (.mv (zi 0))])
 (.seq (.seq (.reg [zf 0 26 5 1,
 zl 1 27 26,
 zo 2 28 (.len (.tmp 27)),
 zo 3 29 (.mv (zi 0))])
 (.block 0
 (.loop
 (.seq (.reg [zo 0 30 (.bin .lss 3 false (.tmp 29) (.tmp 28))])
 (.seq (.cond (.tmp 30)
 (.skip)
 (.exit 0))
 (.seq (.block 1
 (.seq (.reg [zo 0 31 (.idxA none 2 (.tmp 27) (.tmp 29)),
 zo 1 32 (.load (some 2) (.tmp 31)),
 zo 2 6 (.alloc [(.slice none 0 0),(.int .i64 0)]),
 zn 3 (.store 2 (.tmp 6) (.tmp 32))])
 (.seq (.seq (.reg [zf 0 33 1 6,
 zl 1 34 33,
 zo 2 35 (.bin .neq 3 true (.tmp 34) (zi (-1))),
 zm 3 36 35,
 zg 4 37 (.fieldA 1 (.tmp 6)) 36 true,
 zg 5 38 (.load none (.tmp 37)) 36 true,
 zg 6 39 (.fieldA 5 (.tmp 1)) 36 true,
 zg 7 40 (.load none (.tmp 39)) 36 true,
 zg 8 41 (.len (.tmp 40)) 36 true,
 zg 9 42 (.call 33 [(.tmp 38),(.tmp 41)]) 36 true,
 zg 10 43 (.un .not (.tmp 42)) 36 true,
 zo 11 44 (.pick (.tmp 36) (.tmp 43) (.con (.bool false)))])
 (.cond (.tmp 44)
 (.seq (.reg [zo 0 2 (.mv (zi 2))])
 (.ret))
 (.skip)))
 (.seq (.seq (.reg [zf 0 45 0 6,
 zl 1 46 45,
 zo 2 47 (.len (.tmp 46)),
 zo 3 48 (.bin .gtr 3 true (.tmp 47) (zi 400))])
 (.cond (.tmp 48)
 (.seq (.reg [zo 0 2 (.mv (zi 3))])
 (.ret))
 (.skip)))
 (.seq (.seq (.reg [zf 0 49 0 6,
 zl 1 50 49,
 zo 2 51 (.len (.tmp 50)),
 zo 3 52 (.mv (zi 0))])
 (.block 2
 (.loop
 (.seq (.reg [zo 0 53 (.bin .lss 3 false (.tmp 52) (.tmp 51))])
 (.seq (.cond (.tmp 53)
 (.skip)
 (.exit 2))
 (.seq (.block 3
 (.seq (.reg [zo 0 54 (.idxA none 7 (.tmp 50) (.tmp 52)),
 zo 1 55 (.load (some 7) (.tmp 54)),
 zo 2 8 (.alloc [(.int .i64 0),(.int .i64 0),(.int .i64 0),(.int .i64 0),(.int .i64 0),(.int .i64 0),(.int .i64 0)]),
 zn 3 (.store 7 (.tmp 8) (.tmp 55))])
 (.seq (.reg [zo 0 56 (.load (some 6) (.tmp 1)),
 zo 1 57 (.load (some 7) (.tmp 8)),
 zo 2 58 (.call 74 [(.tmp 56),(.tmp 57)]),
 zm 3 9 58])
 (.seq (.reg [zm 0 59 9,
 zo 1 60 (.bin .neq 27 true (.tmp 59) (zi 0))])
 (.cond (.tmp 60)
 (.seq (.reg [zm 0 61 9,
 zm 1 2 61])
 (.ret))
 (.skip))))))
 (.reg [zo 0 62 (.bin .add 3 true (.tmp 52) (zi 1)),
 zm 1 52 62])))))))
 (.reg [zm 0 63 4,
 zf 1 64 0 6,
 zl 2 65 64,
 zo 3 66 (.len (.tmp 65)),
 zo 4 67 (.bin .add 3 false (.tmp 63) (.tmp 66)),
 zm 5 4 67]))))))
 (.reg [zo 0 68 (.bin .add 3 true (.tmp 29) (zi 1)),
 zm 1 29 68])))))))
 (.seq (.seq (.reg [zf 0 69 5 1,
 zl 1 70 69,
 zf 2 71 5 1,
 zl 3 72 71,
 zo 4 73 (.len (.tmp 72)),
 zo 5 74 (.bin .sub 3 true (.tmp 73) (zi 1)),
 zo 6 75 (.idxA none 2 (.tmp 70) (.tmp 74)),
 zf 7 76 0 75,
 zl 8 77 76,
 zo 9 78 (.call 75 [(.tmp 77),(.fn 76)]),
 zo 10 79 (.un .not (.tmp 78))])
 (.cond (.tmp 79)
 (.seq (.reg [zo 0 2 (.mv (zi 4))])
 (.ret))
 (.skip)))
 (.seq (.seq (.reg [zm 0 80 4,
 zo 1 81 (.bin .gtr 3 true (.tmp 80) (zi 80000))])
 (.cond (.tmp 81)
 (.seq (.reg [zo 0 2 (.mv (zi 3))])
 (.ret))
 (.skip)))
 (.seq (.reg [zo 0 2 (.mv (zi 0))])
 (.ret)))))))),
 [.tmp 2]⟩
theorem p_words_Check : PR Go.Proofs.Tryz.f29 = some v_words_Check:=by kernel_rfl

def v_r26_Cut : VFun :=
⟨.seq (.reg [zo 0 3 (.box (.tmp 0)),
 zo 1 6 (.alloc [(.slice none 0 0),(.int .i64 0),(.int .i64 0),(.int .i64 0),(.int .i64 0),(.slice none 0 0)])])
 (.seq (.reg [zf 0 9 1 3,
 zl 1 10 9,
 zf 2 11 2 3,
 zl 3 12 11,
 zf 4 13 3 3,
 zl 5 14 13,
 zf 6 15 4 3,
 zl 7 16 15,
 zo 8 17 (.bslice 1 0 [(.int .i64 0)] []),
 zf 9 18 0 3,
 zl 10 19 18,
 zf 11 20 0 3,
 zl 12 21 20,
 zo 13 22 (.len (.tmp 21)),
 zo 14 23 (.bi .min [3,3] 3 [(.tmp 22),(zi 17)]),
 zo 15 24 (.slice none 1 (.tmp 19) none (some (.tmp 23)) none),
 zo 18 7 (.alloc [(.slice none 0 0),(.int .i64 0),(.int .i64 0),(.int .i64 0),(.int .i64 0),(.slice none 0 0)]),
 ⟨16,(some 25),.append 1 8 (.tmp 17) (.tmp 24),none,[(.tmp 9),(.tmp 11),(.tmp 13),(.tmp 15)]⟩,
 zo 17 26 (.build [(.slice none 0 0),(.int .i64 0),(.int .i64 0),(.int .i64 0),(.int .i64 0),(.slice none 0 0)] [(1,1,(.tmp 10)),(2,1,(.tmp 12)),(3,1,(.tmp 14)),(4,1,(.tmp 16)),(0,1,(.tmp 25))]),
 zn 19 (.store 6 (.tmp 7) (.tmp 26))])
 (.seq (.seq (.reg [zo 0 8 (.mv (zi 0))])
 (.block 0
 (.loop
 (.seq (.seq (.reg [zm 0 27 8,
 zf 1 28 5 3,
 zl 2 29 28,
 zo 3 30 (.len (.tmp 29)),
 zo 4 31 (.bin .lss 3 false (.tmp 27) (.tmp 30)),
 zm 5 32 31,
 zg 6 33 (.mv (.tmp 8)) 32 true,
 zg 7 34 (.mv (.tmp 1)) 32 true,
 zg 8 35 (.bin .lss 3 false (.tmp 33) (.tmp 34)) 32 true,
 zo 9 36 (.pick (.tmp 32) (.tmp 35) (.con (.bool false)))])
 (.cond (.tmp 36)
 (.skip)
 (.exit 0)))
 (.seq (.block 1
 (.reg [zf 0 39 5 7,
 zl 1 40 39,
 zf 2 41 5 3,
 zl 3 42 41,
 zm 4 43 8,
 zo 5 44 (.idxA none 2 (.tmp 42) (.tmp 43)),
 zf 6 45 1 44,
 zl 7 46 45,
 zo 8 47 (.bslice 7 0 [(.int .i64 0),(.int .i64 0),(.int .i64 0),(.int .i64 0),(.int .i64 0),(.int .i64 0),(.int .i64 0)] []),
 zf 9 48 5 3,
 zl 10 49 48,
 zm 11 50 8,
 zo 12 51 (.idxA none 2 (.tmp 49) (.tmp 50)),
 zf 13 52 0 51,
 zl 14 53 52,
 zf 15 54 5 3,
 zl 16 55 54,
 zm 17 56 8,
 zo 18 57 (.idxA none 2 (.tmp 55) (.tmp 56)),
 zf 19 58 0 57,
 zl 20 59 58,
 zo 21 60 (.len (.tmp 59)),
 zm 22 61 2,
 zo 23 62 (.bi .min [3,3] 3 [(.tmp 60),(.tmp 61)]),
 zo 24 63 (.slice none 7 (.tmp 53) none (some (.tmp 62)) none),
 ⟨25,(some 64),.append 7 56 (.tmp 47) (.tmp 63),none,[(.tmp 39),(.tmp 41),(.tmp 45)]⟩,
 zo 26 65 (.build [(.slice none 0 0),(.int .i64 0)] [(1,1,(.tmp 46)),(0,1,(.tmp 64))]),
 zo 27 66 (.bslice 2 1 [(.slice none 0 0),(.int .i64 0)] [(0,2,(.tmp 65))]),
 zo 28 67 (.append 2 32 (.tmp 40) (.tmp 66)),
 zf 29 68 5 7,
 zn 30 (.store 1 (.tmp 68) (.tmp 67))]))
 (.reg [zm 0 37 8,
 zo 1 38 (.bin .add 3 true (.tmp 37) (zi 1)),
 zm 2 8 38]))))))
 (.seq (.reg [zo 0 69 (.load (some 6) (.tmp 7)),
 zn 1 (.store 6 (.tmp 6) (.tmp 69))])
 (.ret)))),
 [.cell 6 (some 6)]⟩
theorem p_r26_Cut : PR Go.Proofs.Tryz.f32 = some v_r26_Cut:=by kernel_rfl

def v_words_within : VFun :=
⟨.seq (.reg [zo 0 4 (.mv (.con (.bool false)))])
 (.seq (.reg [zm 0 5 0,
 zo 1 6 (.bin .geq 3 true (.tmp 5) (zi 0)),
 zm 2 7 6,
 zg 3 8 (.mv (.tmp 0)) 7 true,
 zg 4 9 (.mv (.tmp 1)) 7 true,
 zg 5 10 (.bin .lss 3 false (.tmp 8) (.tmp 9)) 7 true,
 zo 6 11 (.pick (.tmp 7) (.tmp 10) (.con (.bool false))),
 zm 7 4 11])
 (.ret)),
 [.tmp 4]⟩
theorem p_words_within : PR Go.Proofs.Tryz.f33 = some v_words_within:=by kernel_rfl

def v_words_next : VFun :=
⟨.seq (.reg [zo 0 2 (.box (.tmp 0)),
 zo 1 4 (.mv (.con (.slice none 0 0)))])
 (.seq (.reg [zo 0 5 (.alloc [(.slice none 0 0)])])
 (.seq (.reg [zo 0 6 (.load (some 6) (.tmp 2)),
 zm 1 7 1,
 zo 2 8 (.mkfn 84 [] [(.tmp 5)]),
 zo 3 9 (.call 83 [(.tmp 6),(.tmp 7),(.tmp 8)])])
 (.seq (.reg [zl 0 10 5,
 zo 1 11 (.call 85 [(.tmp 10)])])
 (.seq (.reg [zl 0 12 5,
 zo 1 13 (.call 86 [(.tmp 12)]),
 zm 2 4 13])
 (.ret))))),
 [.tmp 4]⟩
theorem p_words_next : PR Go.Proofs.Tryz.f34 = some v_words_next:=by kernel_rfl

def v_words_Met : VFun :=
⟨.seq (.reg [zo 0 1 (.box (.tmp 0)),
 zo 1 2 (.mv (.con (.slice none 0 0)))])
 (.seq (.reg [zf 0 8 5 1,
 zl 1 9 8,
 zo 2 10 (.len (.tmp 9)),
 zo 3 11 (.mksl 1 1 [(.bool false)] (.tmp 10) (.tmp 10)),
 zm 4 3 11])
 (.seq (.reg [zm 0 12 3,
 zo 1 13 (.idxA none 1 (.tmp 12) (zi 0)),
 zn 2 (.store 1 (.tmp 13) (.con (.bool true)))])
 (.seq (.seq (.reg [zo 0 14 (.bslice 1 1 [(.int .i64 0)] [(0,1,(zi 0))]),
 zm 1 4 14])
 (.block 0
 (.loop
 (.seq (.seq (.reg [zm 0 15 4,
 zo 1 16 (.len (.tmp 15)),
 zo 2 17 (.bin .gtr 3 true (.tmp 16) (zi 0))])
 (.cond (.tmp 17)
 (.skip)
 (.exit 0)))
 (.block 1
 (.seq (.reg [zm 0 18 4,
 zm 1 19 4,
 zo 2 20 (.len (.tmp 19)),
 zo 3 21 (.bin .sub 3 true (.tmp 20) (zi 1)),
 zo 4 22 (.idxA none 1 (.tmp 18) (.tmp 21)),
 zl 5 23 22,
 zm 6 5 23])
 (.seq (.reg [zm 0 24 4,
 zm 1 25 4,
 zo 2 26 (.len (.tmp 25)),
 zo 3 27 (.bin .sub 3 true (.tmp 26) (zi 1)),
 zo 4 28 (.slice none 1 (.tmp 24) none (some (.tmp 27)) none),
 zm 5 4 28])
 (.seq (.reg [zo 0 29 (.load (some 6) (.tmp 1)),
 zm 1 30 5,
 zo 2 31 (.call 34 [(.tmp 29),(.tmp 30)]),
 zo 3 32 (.len (.tmp 31)),
 zo 4 33 (.mv (zi 0))])
 (.block 2
 (.loop
 (.seq (.reg [zo 0 34 (.bin .lss 3 false (.tmp 33) (.tmp 32))])
 (.seq (.cond (.tmp 34)
 (.skip)
 (.exit 2))
 (.seq (.block 3
 (.seq (.reg [zo 0 35 (.idxA none 1 (.tmp 31) (.tmp 33)),
 zl 1 36 35,
 zm 2 7 36])
 (.seq (.reg [zm 0 37 3,
 zm 1 38 7,
 zo 2 39 (.idxA none 1 (.tmp 37) (.tmp 38)),
 zl 3 40 39,
 zo 4 41 (.un .not (.tmp 40))])
 (.cond (.tmp 41)
 (.seq (.reg [zm 0 42 3,
 zm 1 43 7,
 zo 2 44 (.idxA none 1 (.tmp 42) (.tmp 43)),
 zn 3 (.store 1 (.tmp 44) (.con (.bool true)))])
 (.reg [zm 0 45 4,
 zm 1 46 7,
 zo 2 47 (.bslice 1 1 [(.int .i64 0)] [(0,1,(.tmp 46))]),
 zo 3 48 (.append 1 8 (.tmp 45) (.tmp 47)),
 zm 4 4 48]))
 (.skip)))))
 (.reg [zo 0 49 (.bin .add 3 true (.tmp 33) (zi 1)),
 zm 1 33 49]))))))))))))))
 (.seq (.reg [zm 0 50 3,
 zm 1 2 50])
 (.ret))))),
 [.tmp 2]⟩
theorem p_words_Met : PR Go.Proofs.Tryz.f35 = some v_words_Met:=by kernel_rfl

def v_r26_wrong : VFun :=
⟨.seq (.reg [zo 0 2 (.box (.tmp 0)),
 zo 1 3 (.box (.tmp 1)),
 zo 2 4 (.mv (zi 0))])
 (.seq (.reg [zf 0 7 0 3,
 zl 1 8 7,
 zo 2 9 (.call 87 [(.tmp 8)]),
 zo 3 5 (.alloc [(.bool false),(.bool false),(.bool false),(.bool false),(.bool false)]),
 zn 4 (.store 5 (.tmp 5) (.tmp 9))])
 (.seq (.seq (.reg [zf 0 10 0 3,
 zl 1 11 10,
 zo 2 12 (.bin .lss 3 true (.tmp 11) (zi 1)),
 zm 3 13 12,
 zg 4 14 (.fieldA 0 (.tmp 3)) 13 false,
 zg 5 15 (.load none (.tmp 14)) 13 false,
 zg 6 16 (.bin .gtr 3 true (.tmp 15) (zi 28)) 13 false,
 zo 7 17 (.pick (.tmp 13) (.con (.bool true)) (.tmp 16))])
 (.cond (.tmp 17)
 (.seq (.reg [zo 0 4 (.mv (zi 4))])
 (.ret))
 (.skip)))
 (.seq (.seq (.reg [zf 0 18 0 5,
 zl 1 19 18,
 zm 2 20 19,
 zg 3 21 (.load (some 6) (.tmp 2)) 20 true,
 zg 4 22 (.fieldA 1 (.tmp 3)) 20 true,
 zg 5 23 (.load none (.tmp 22)) 20 true,
 zg 6 24 (.call 88 [(.tmp 21),(.tmp 23)]) 20 true,
 zo 7 25 (.pick (.tmp 20) (.tmp 24) (.con (.bool false))),
 zm 8 26 25,
 zg 9 27 (.fieldA 1 (.tmp 5)) 26 false,
 zg 10 28 (.load none (.tmp 27)) 26 false,
 zg 11 29 (.mv (.tmp 28)) 26 false,
 zg 12 30 (.load (some 6) (.tmp 2)) 29 true,
 zg 13 31 (.fieldA 2 (.tmp 3)) 29 true,
 zg 14 32 (.load none (.tmp 31)) 29 true,
 zg 15 33 (.call 88 [(.tmp 30),(.tmp 32)]) 29 true,
 zg 16 34 (.pick (.tmp 29) (.tmp 33) (.con (.bool false))) 26 false,
 zo 17 35 (.pick (.tmp 26) (.con (.bool true)) (.tmp 34)),
 zm 18 36 35,
 zg 19 37 (.fieldA 2 (.tmp 5)) 36 false,
 zg 20 38 (.load none (.tmp 37)) 36 false,
 zg 21 39 (.mv (.tmp 38)) 36 false,
 zg 22 40 (.load (some 6) (.tmp 2)) 39 true,
 zg 23 41 (.fieldA 3 (.tmp 3)) 39 true,
 zg 24 42 (.load none (.tmp 41)) 39 true,
 zg 25 43 (.call 88 [(.tmp 40),(.tmp 42)]) 39 true,
 zg 26 44 (.pick (.tmp 39) (.tmp 43) (.con (.bool false))) 36 false,
 zo 27 45 (.pick (.tmp 36) (.con (.bool true)) (.tmp 44)),
 zm 28 46 45,
 zg 29 47 (.fieldA 3 (.tmp 5)) 46 false,
 zg 30 48 (.load none (.tmp 47)) 46 false,
 zg 31 49 (.mv (.tmp 48)) 46 false,
 zg 32 50 (.load (some 6) (.tmp 2)) 49 true,
 zg 33 51 (.fieldA 4 (.tmp 3)) 49 true,
 zg 34 52 (.load none (.tmp 51)) 49 true,
 zg 35 53 (.call 88 [(.tmp 50),(.tmp 52)]) 49 true,
 zg 36 54 (.pick (.tmp 49) (.tmp 53) (.con (.bool false))) 46 false,
 zo 37 55 (.pick (.tmp 46) (.con (.bool true)) (.tmp 54)),
 zm 38 56 55,
 zg 39 57 (.fieldA 6 (.tmp 3)) 56 false,
 zg 40 58 (.load none (.tmp 57)) 56 false,
 zg 41 59 (.bin .neq 3 true (.tmp 58) (zi (-1))) 56 false,
 zg 42 60 (.mv (.tmp 59)) 56 false,
 zg 43 61 (.load (some 6) (.tmp 2)) 60 true,
 zg 44 62 (.fieldA 6 (.tmp 3)) 60 true,
 zg 45 63 (.load none (.tmp 62)) 60 true,
 zg 46 64 (.call 88 [(.tmp 61),(.tmp 63)]) 60 true,
 zg 47 65 (.pick (.tmp 60) (.tmp 64) (.con (.bool false))) 56 false,
 zo 48 66 (.pick (.tmp 56) (.con (.bool true)) (.tmp 65))])
 (.cond (.tmp 66)
 (.seq (.reg [zo 0 4 (.mv (zi 2))])
 (.ret))
 (.skip)))
 (.seq (.reg [zo 0 6 (.mv (zi 0))])
 (.seq (.seq (.reg [zf 0 67 0 3,
 zl 1 68 67])
 (.block 0
 (.seq (.seq (.reg [zo 0 70 (.bin .eql 3 true (.tmp 68) (zi 16)),
 zm 1 69 70])
 (.cond (.tmp 69)
 (.skip)
 (.seq (.reg [zo 0 71 (.bin .eql 3 true (.tmp 68) (zi 17)),
 zm 1 69 71])
 (.cond (.tmp 69)
 (.skip)
 (.reg [zo 0 72 (.bin .eql 3 true (.tmp 68) (zi 25)),
 zm 1 69 72])))))
 (.cond (.tmp 69)
 (.reg [zf 0 73 0 2,
 zl 1 74 73,
 zo 2 75 (.len (.tmp 74)),
 zm 3 6 75])
 (.seq (.seq (.reg [zo 0 77 (.bin .eql 3 true (.tmp 68) (zi 18)),
 zm 1 76 77])
 (.cond (.tmp 76)
 (.skip)
 (.reg [zo 0 78 (.bin .eql 3 true (.tmp 68) (zi 19)),
 zm 1 76 78])))
 (.cond (.tmp 76)
 (.reg [zf 0 79 4 2,
 zl 1 80 79,
 zm 2 6 80])
 (.seq (.seq (.reg [zo 0 82 (.bin .eql 3 true (.tmp 68) (zi 21)),
 zm 1 81 82])
 (.cond (.tmp 81)
 (.skip)
 (.reg [zo 0 83 (.bin .eql 3 true (.tmp 68) (zi 26)),
 zm 1 81 83])))
 (.cond (.tmp 81)
 (.reg [zf 0 84 5 2,
 zl 1 85 84,
 zo 2 86 (.len (.tmp 85)),
 zm 3 6 86])
 (.skip)))))))))
 (.seq (.seq (.reg [zf 0 87 4 5,
 zl 1 88 87,
 zm 2 89 88,
 zg 3 90 (.fieldA 0 (.tmp 3)) 89 true,
 zg 4 91 (.load none (.tmp 90)) 89 true,
 zg 5 92 (.bin .neq 3 true (.tmp 91) (zi 1)) 89 true,
 zo 6 93 (.pick (.tmp 89) (.tmp 92) (.con (.bool false))),
 zm 7 94 93,
 zg 8 95 (.fieldA 5 (.tmp 3)) 94 true,
 zg 9 96 (.load none (.tmp 95)) 94 true,
 zg 10 97 (.bin .lss 2 true (.tmp 96) (zi 0)) 94 true,
 zg 11 98 (.mv (.tmp 97)) 94 true,
 zg 12 99 (.fieldA 5 (.tmp 3)) 98 false,
 zg 13 100 (.load none (.tmp 99)) 98 false,
 zg 14 101 (.mv (.tmp 6)) 98 false,
 zg 15 102 (.bin .geq 2 false (.tmp 100) (.tmp 101)) 98 false,
 zg 16 103 (.pick (.tmp 98) (.con (.bool true)) (.tmp 102)) 94 true,
 zo 17 104 (.pick (.tmp 94) (.tmp 103) (.con (.bool false)))])
 (.cond (.tmp 104)
 (.seq (.reg [zo 0 4 (.mv (zi 5))])
 (.ret))
 (.skip)))
 (.seq (.seq (.reg [zf 0 105 0 5,
 zl 1 106 105,
 zo 2 107 (.un .not (.tmp 106)),
 zm 3 108 107,
 zg 4 109 (.fieldA 1 (.tmp 3)) 108 true,
 zg 5 110 (.load none (.tmp 109)) 108 true,
 zg 6 111 (.bin .neq 3 true (.tmp 110) (zi 0)) 108 true,
 zo 7 112 (.pick (.tmp 108) (.tmp 111) (.con (.bool false))),
 zm 8 113 112,
 zg 9 114 (.fieldA 1 (.tmp 5)) 113 false,
 zg 10 115 (.load none (.tmp 114)) 113 false,
 zg 11 116 (.un .not (.tmp 115)) 113 false,
 zg 12 117 (.mv (.tmp 116)) 113 false,
 zg 13 118 (.fieldA 2 (.tmp 3)) 117 true,
 zg 14 119 (.load none (.tmp 118)) 117 true,
 zg 15 120 (.bin .neq 3 true (.tmp 119) (zi 0)) 117 true,
 zg 16 121 (.pick (.tmp 117) (.tmp 120) (.con (.bool false))) 113 false,
 zo 17 122 (.pick (.tmp 113) (.con (.bool true)) (.tmp 121)),
 zm 18 123 122,
 zg 19 124 (.fieldA 2 (.tmp 5)) 123 false,
 zg 20 125 (.load none (.tmp 124)) 123 false,
 zg 21 126 (.un .not (.tmp 125)) 123 false,
 zg 22 127 (.mv (.tmp 126)) 123 false,
 zg 23 128 (.fieldA 3 (.tmp 3)) 127 true,
 zg 24 129 (.load none (.tmp 128)) 127 true,
 zg 25 130 (.bin .neq 3 true (.tmp 129) (zi 0)) 127 true,
 zg 26 131 (.pick (.tmp 127) (.tmp 130) (.con (.bool false))) 123 false,
 zo 27 132 (.pick (.tmp 123) (.con (.bool true)) (.tmp 131)),
 zm 28 133 132,
 zg 29 134 (.fieldA 3 (.tmp 5)) 133 false,
 zg 30 135 (.load none (.tmp 134)) 133 false,
 zg 31 136 (.un .not (.tmp 135)) 133 false,
 zg 32 137 (.mv (.tmp 136)) 133 false,
 zg 33 138 (.fieldA 4 (.tmp 3)) 137 true,
 zg 34 139 (.load none (.tmp 138)) 137 true,
 zg 35 140 (.bin .neq 3 true (.tmp 139) (zi 0)) 137 true,
 zg 36 141 (.pick (.tmp 137) (.tmp 140) (.con (.bool false))) 133 false,
 zo 37 142 (.pick (.tmp 133) (.con (.bool true)) (.tmp 141)),
 zm 38 143 142,
 zg 39 144 (.fieldA 4 (.tmp 5)) 143 false,
 zg 40 145 (.load none (.tmp 144)) 143 false,
 zg 41 146 (.un .not (.tmp 145)) 143 false,
 zg 42 147 (.mv (.tmp 146)) 143 false,
 zg 43 148 (.fieldA 5 (.tmp 3)) 147 true,
 zg 44 149 (.load none (.tmp 148)) 147 true,
 zg 45 150 (.bin .neq 2 true (.tmp 149) (zi 0)) 147 true,
 zg 46 151 (.pick (.tmp 147) (.tmp 150) (.con (.bool false))) 143 false,
 zo 47 152 (.pick (.tmp 143) (.con (.bool true)) (.tmp 151))])
 (.cond (.tmp 152)
 (.seq (.reg [zo 0 4 (.mv (zi 4))])
 (.ret))
 (.skip)))
 (.seq (.reg [zo 0 4 (.mv (zi 0))])
 (.ret))))))))),
 [.tmp 4]⟩
theorem p_r26_wrong : PR Go.Proofs.Tryz.f36 = some v_r26_wrong:=by kernel_rfl

end Go.VX.Seat
end
section
set_option maxRecDepth 20000
namespace Go.VX.Seat
def v_r26_Leaves : VFun :=
⟨.seq (.reg [zo 0 1 (.box (.tmp 0)),
 zo 1 2 (.mv (.con (.bool false)))])
 (.seq (.reg [zf 0 3 6 1,
 zl 1 4 3,
 zo 2 5 (.bin .eql 3 true (.tmp 4) (zi (-1))),
 zm 3 6 5,
 zg 4 7 (.fieldA 0 (.tmp 1)) 6 true,
 zg 5 8 (.load none (.tmp 7)) 6 true,
 zg 6 9 (.bin .eql 3 true (.tmp 8) (zi 26)) 6 true,
 zg 7 10 (.mv (.tmp 9)) 6 true,
 zg 8 11 (.fieldA 0 (.tmp 1)) 10 false,
 zg 9 12 (.load none (.tmp 11)) 10 false,
 zg 10 13 (.bin .eql 3 true (.tmp 12) (zi 27)) 10 false,
 zg 11 14 (.pick (.tmp 10) (.con (.bool true)) (.tmp 13)) 6 true,
 zg 12 15 (.mv (.tmp 14)) 6 true,
 zg 13 16 (.fieldA 0 (.tmp 1)) 15 false,
 zg 14 17 (.load none (.tmp 16)) 15 false,
 zg 15 18 (.bin .eql 3 true (.tmp 17) (zi 28)) 15 false,
 zg 16 19 (.pick (.tmp 15) (.con (.bool true)) (.tmp 18)) 6 true,
 zo 17 20 (.pick (.tmp 6) (.tmp 19) (.con (.bool false))),
 zm 18 2 20])
 (.ret)),
 [.tmp 2]⟩
theorem p_r26_Leaves : PR Go.Proofs.Tryz.f37 = some v_r26_Leaves:=by kernel_rfl

def v38u : VFun :=
⟨.seq (.reg [zo 0 0 (.alloc [(.slice none 0 0),(.int .i64 0),(.int .i64 0),(.int .i64 0),(.int .i64 0),(.slice none 0 0)])])
 (.seq (.reg [zo 0 1 (.build [(.int .i64 0),(.int .i64 0),(.int .i64 0),(.int .i64 0),(.int .i64 0),(.int .i64 0),(.int .i64 0)] [(0,1,(zi 1)),(5,1,(zi 7)),(6,1,(zi (-1)))]),
 zo 1 2 (.bslice 7 1 [(.int .i64 0),(.int .i64 0),(.int .i64 0),(.int .i64 0),(.int .i64 0),(.int .i64 0),(.int .i64 0)] [(0,7,1)]),
 zo 2 3 (.build [(.slice none 0 0),(.int .i64 0)] [(0,1,2),(1,1,(zi (-1)))]),
 zo 3 4 (.build [(.int .i64 0),(.int .i64 0),(.int .i64 0),(.int .i64 0),(.int .i64 0),(.int .i64 0),(.int .i64 0)] [(0,1,(zi 27)),(6,1,(zi (-1)))]),
 zo 4 5 (.bslice 7 1 [(.int .i64 0),(.int .i64 0),(.int .i64 0),(.int .i64 0),(.int .i64 0),(.int .i64 0),(.int .i64 0)] [(0,7,4)]),
 zo 5 6 (.build [(.slice none 0 0),(.int .i64 0)] [(0,1,5),(1,1,(zi (-1)))]),
 zo 6 7 (.bslice 2 2 [(.slice none 0 0),(.int .i64 0)] [(0,2,3),(2,2,6)]),
 zo 7 8 (.build [(.slice none 0 0),(.int .i64 0),(.int .i64 0),(.int .i64 0),(.int .i64 0),(.slice none 0 0)] [(2,1,(zi 1)),(5,1,7)]),
 zn 8 (.store 6 0 8)])
 (.ret)),
 [.cell 0 (some 6)]⟩
theorem p38u : PR Go.Proofs.Tryz.f38 = some v38u:=by kernel_rfl

def v_r26_put : VFun :=
⟨.seq (.reg [zo 0 4 (.mv (.con (.slice none 0 0)))])
 (.seq (.reg [zo 0 5 (.mv (zi 0))])
 (.seq (.block 0
 (.loop
 (.seq (.seq (.reg [zm 0 6 5,
 zm 1 7 0,
 zo 2 8 (.len (.tmp 7)),
 zo 3 9 (.bin .lss 3 false (.tmp 6) (.tmp 8)),
 zm 4 10 9,
 zg 5 11 (.mv (.tmp 0)) 10 true,
 zg 6 12 (.mv (.tmp 5)) 10 true,
 zg 7 13 (.idxA none 1 (.tmp 11) (.tmp 12)) 10 true,
 zg 8 14 (.load none (.tmp 13)) 10 true,
 zg 9 15 (.mv (.tmp 1)) 10 true,
 zg 10 16 (.bin .lss 3 false (.tmp 14) (.tmp 15)) 10 true,
 zo 11 17 (.pick (.tmp 10) (.tmp 16) (.con (.bool false)))])
 (.cond (.tmp 17)
 (.skip)
 (.exit 0)))
 (.block 1
 (.reg [zm 0 18 5,
 zo 1 19 (.bin .add 3 true (.tmp 18) (zi 1)),
 zm 2 5 19])))))
 (.seq (.seq (.reg [zm 0 20 5,
 zm 1 21 0,
 zo 2 22 (.len (.tmp 21)),
 zo 3 23 (.bin .lss 3 false (.tmp 20) (.tmp 22)),
 zm 4 24 23,
 zg 5 25 (.mv (.tmp 0)) 24 true,
 zg 6 26 (.mv (.tmp 5)) 24 true,
 zg 7 27 (.idxA none 1 (.tmp 25) (.tmp 26)) 24 true,
 zg 8 28 (.load none (.tmp 27)) 24 true,
 zg 9 29 (.mv (.tmp 1)) 24 true,
 zg 10 30 (.bin .eql 3 false (.tmp 28) (.tmp 29)) 24 true,
 zo 11 31 (.pick (.tmp 24) (.tmp 30) (.con (.bool false)))])
 (.cond (.tmp 31)
 (.seq (.reg [zm 0 32 0,
 zm 1 4 32])
 (.ret))
 (.skip)))
 (.seq (.reg [zo 0 33 (.bslice 1 0 [(.int .i64 0)] []),
 zm 1 34 0,
 zm 2 35 5,
 zo 3 36 (.slice none 1 (.tmp 34) none (some (.tmp 35)) none),
 zm 5 38 1,
 zo 6 39 (.bslice 1 1 [(.int .i64 0)] [(0,1,(.tmp 38))]),
 zm 8 41 0,
 zm 9 42 5,
 zo 10 43 (.slice none 1 (.tmp 41) (some (.tmp 42)) none none),
 zo 4 37 (.append 1 8 (.tmp 33) (.tmp 36)),
 zo 7 40 (.append 1 8 (.tmp 37) (.tmp 39)),
 zo 11 44 (.append 1 8 (.tmp 40) (.tmp 43)),
 zm 12 4 44])
 (.ret))))),
 [.tmp 4]⟩
theorem p_r26_put : PR Go.Proofs.Tryz.f39 = some v_r26_put:=by kernel_rfl

def v_r26_Traps : VFun :=
⟨.seq (.reg [zo 0 1 (.box (.tmp 0)),
 zo 1 2 (.mv (.con (.bool false)))])
 (.seq (.seq (.reg [zf 0 3 0 1,
 zl 1 4 3])
 (.block 0
 (.seq (.seq (.reg [zo 0 6 (.bin .eql 3 true (.tmp 4) (zi 14)),
 zm 1 5 6])
 (.cond (.tmp 5)
 (.skip)
 (.seq (.reg [zo 0 7 (.bin .eql 3 true (.tmp 4) (zi 15)),
 zm 1 5 7])
 (.cond (.tmp 5)
 (.skip)
 (.seq (.reg [zo 0 8 (.bin .eql 3 true (.tmp 4) (zi 16)),
 zm 1 5 8])
 (.cond (.tmp 5)
 (.skip)
 (.seq (.reg [zo 0 9 (.bin .eql 3 true (.tmp 4) (zi 17)),
 zm 1 5 9])
 (.cond (.tmp 5)
 (.skip)
 (.seq (.reg [zo 0 10 (.bin .eql 3 true (.tmp 4) (zi 20)),
 zm 1 5 10])
 (.cond (.tmp 5)
 (.skip)
 (.seq (.reg [zo 0 11 (.bin .eql 3 true (.tmp 4) (zi 21)),
 zm 1 5 11])
 (.cond (.tmp 5)
 (.skip)
 (.seq (.reg [zo 0 12 (.bin .eql 3 true (.tmp 4) (zi 22)),
 zm 1 5 12])
 (.cond (.tmp 5)
 (.skip)
 (.seq (.reg [zo 0 13 (.bin .eql 3 true (.tmp 4) (zi 27)),
 zm 1 5 13])
 (.cond (.tmp 5)
 (.skip)
 (.reg [zo 0 14 (.bin .eql 3 true (.tmp 4) (zi 28)),
 zm 1 5 14])))))))))))))))))
 (.cond (.tmp 5)
 (.seq (.reg [zo 0 2 (.mv (.con (.bool true)))])
 (.ret))
 (.skip)))))
 (.seq (.reg [zf 0 15 6 1,
 zl 1 16 15,
 zo 2 17 (.bin .neq 3 true (.tmp 16) (zi (-1))),
 zm 3 2 17])
 (.ret))),
 [.tmp 2]⟩
theorem p_r26_Traps : PR Go.Proofs.Tryz.f40 = some v_r26_Traps:=by kernel_rfl

def v41u : VFun :=
⟨.seq (.reg [zm 0 6 1,
 zo 1 7 (.len 6),
 zo 2 8 (.mv (zi 0))])
 (.block 0
 (.loop
 (.seq (.reg [zo 0 9 (.bin .lss 3 false 8 7)])
 (.seq (.cond 9
 (.skip)
 (.exit 0))
 (.seq (.block 1
 (.seq (.reg [zo 0 10 (.idxA none 1 6 8),
 zl 1 11 10,
 zm 2 5 11])
 (.reg [zm 0 12 0,
 zm 1 13 5,
 zo 2 14 (.call 44 [12,13])])))
 (.reg [zo 0 15 (.bin .add 3 true 8 (zi 1)),
 zm 1 8 15])))))),
 []⟩
theorem p41u : PR Go.Proofs.Tryz.f41 = some v41u:=by kernel_rfl

def v42u : VFun :=
⟨.seq (.reg [zo 0 2 (.mv (.con (.slice none 0 0)))])
 (.seq (.reg [zo 0 3 (.mv (.con (.slice none 0 0)))])
 (.seq (.seq (.reg [zm 0 5 0,
 zo 1 6 (.nilck 5),
 zf 2 7 0 6,
 zl 3 8 7,
 zo 4 9 (.call 89 [8]),
 zo 5 10 (.un .not 9),
 zm 6 11 10,
 zg 7 12 (.mv 0) 11 true,
 zg 8 13 (.nilck 12) 11 true,
 zg 9 14 (.fieldA 0 13) 11 true,
 zg 10 15 (.load none 14) 11 true,
 zg 11 16 (.build [(.int .i64 0),(.int .i64 0),(.int .i64 0),(.int .i64 0),(.int .i64 0),(.int .i64 0),(.int .i64 0)] [(0,1,15)]) 11 true,
 zg 12 17 (.call 90 [16]) 11 true,
 zg 13 18 (.bin .eql 3 true 17 (zi 0)) 11 true,
 zo 14 19 (.pick 11 18 (.con (.bool false)))])
 (.cond 19
 (.reg [zm 0 20 3,
 zm 1 21 0,
 zo 2 22 (.nilck 21),
 zf 3 23 1 22,
 zo 4 24 (.bslice 1 1 [(.pointer none)] [(0,1,23)]),
 zo 5 25 (.append 1 8 20 24),
 zm 6 3 25])
 (.skip)))
 (.seq (.reg [zo 0 4 (.mv (zi 0))])
 (.seq (.seq (.reg [zm 0 26 0,
 zo 1 27 (.nilck 26),
 zf 2 28 0 27,
 zl 3 29 28])
 (.block 0
 (.seq (.seq (.reg [zo 0 36 (.bin .eql 3 true 29 (zi 27)),
 zm 1 35 36])
 (.cond 35
 (.skip)
 (.reg [zo 0 37 (.bin .eql 3 true 29 (zi 28)),
 zm 1 35 37])))
 (.cond 35
 (.reg [zo 0 4 (.mv (zi 1))])
 (.seq (.reg [zo 0 39 (.bin .eql 3 true 29 (zi 26)),
 zm 1 38 39])
 (.cond 38
 (.skip)
 (.reg [zm 0 30 0,
 zo 1 31 (.nilck 30),
 zo 2 32 (.load (some 7) 31),
 zo 3 33 (.call 91 [32]),
 zo 4 34 (.len 33),
 zm 5 4 34])))))))
 (.seq (.reg [zm 0 40 3,
 zm 1 41 0,
 zo 2 42 (.nilck 41),
 zf 3 43 2 42,
 zm 4 44 0,
 zo 5 45 (.nilck 44),
 zf 6 46 3 45,
 zm 7 47 0,
 zo 8 48 (.nilck 47),
 zf 9 49 4 48,
 zo 10 50 (.bslice 1 3 [(.pointer none)] [(0,1,43),(1,1,46),(2,1,49)]),
 zm 11 51 4,
 zo 12 52 (.slice none 1 50 none (some 51) none),
 zo 13 53 (.append 1 8 40 52),
 zm 14 2 53])
 (.ret)))))),
 [.tmp 2]⟩
theorem p42u : PR Go.Proofs.Tryz.f42 = some v42u:=by kernel_rfl

def v43u : VFun :=
⟨.seq (.reg [zo 0 2 (.mv (.con (.bool false)))])
 (.seq (.seq (.reg [zm 0 3 0])
 (.block 0
 (.seq (.seq (.reg [zo 0 5 (.bin .eql 3 true 3 (zi 1)),
 zm 1 4 5])
 (.cond 4
 (.skip)
 (.seq (.reg [zo 0 6 (.bin .eql 3 true 3 (zi 16)),
 zm 1 4 6])
 (.cond 4
 (.skip)
 (.seq (.reg [zo 0 7 (.bin .eql 3 true 3 (zi 25)),
 zm 1 4 7])
 (.cond 4
 (.skip)
 (.seq (.reg [zo 0 8 (.bin .eql 3 true 3 (zi 17)),
 zm 1 4 8])
 (.cond 4
 (.skip)
 (.seq (.reg [zo 0 9 (.bin .eql 3 true 3 (zi 18)),
 zm 1 4 9])
 (.cond 4
 (.skip)
 (.seq (.reg [zo 0 10 (.bin .eql 3 true 3 (zi 19)),
 zm 1 4 10])
 (.cond 4
 (.skip)
 (.seq (.reg [zo 0 11 (.bin .eql 3 true 3 (zi 21)),
 zm 1 4 11])
 (.cond 4
 (.skip)
 (.reg [zo 0 12 (.bin .eql 3 true 3 (zi 26)),
 zm 1 4 12])))))))))))))))
 (.cond 4
 (.seq (.reg [zo 0 2 (.mv (.con (.bool true)))])
 (.ret))
 (.skip)))))
 (.seq (.reg [zo 0 2 (.mv (.con (.bool false)))])
 (.ret))),
 [.tmp 2]⟩
theorem p43u : PR Go.Proofs.Tryz.f43 = some v43u:=by kernel_rfl

def v44u : VFun :=
⟨.seq (.reg [zm 0 5 1,
 zo 1 6 (.conv 2 146 5),
 zo 2 7 (.bin .shl 146 true 6 (.con (.int .u64 1))),
 zm 3 4 7])
 (.seq (.seq (.reg [zm 0 8 1,
 zo 1 9 (.bin .lss 2 true 8 (zi 0))])
 (.cond 9
 (.reg [zm 0 10 4,
 zo 1 11 (.un .xor 10),
 zm 2 4 11])
 (.skip)))
 (.seq (.block 0
 (.loop
 (.seq (.seq (.reg [zm 0 12 4,
 zo 1 13 (.bin .geq 146 true 12 (.con (.int .u64 128)))])
 (.cond 13
 (.skip)
 (.exit 0)))
 (.seq (.block 1
 (.reg [zm 0 16 0,
 zm 1 17 0,
 zo 2 18 (.nilck 17),
 zf 3 19 0 18,
 zl 4 20 19,
 zm 5 21 4,
 zo 6 22 (.conv 146 5 21),
 zo 7 23 (.bin .or 5 true 22 (.con (.int .u8 128))),
 zo 8 24 (.bslice 1 1 [(.int .u8 0)] [(0,1,23)]),
 zo 9 25 (.append 1 1 20 24),
 zo 10 26 (.nilck 16),
 zf 11 27 0 26,
 zn 12 (.store 1 27 25)]))
 (.reg [zm 0 14 4,
 zo 1 15 (.bin .shr 146 true 14 (.con (.int .u64 7))),
 zm 2 4 15])))))
 (.reg [zm 0 28 0,
 zm 1 29 0,
 zo 2 30 (.nilck 29),
 zf 3 31 0 30,
 zl 4 32 31,
 zm 5 33 4,
 zo 6 34 (.conv 146 5 33),
 zo 7 35 (.bslice 1 1 [(.int .u8 0)] [(0,1,34)]),
 zo 8 36 (.append 1 1 32 35),
 zo 9 37 (.nilck 28),
 zf 10 38 0 37,
 zn 11 (.store 1 38 36)]))),
 []⟩
theorem p44u : PR Go.Proofs.Tryz.f44 = some v44u:=by kernel_rfl

def v45u : VFun :=
⟨.seq (.reg [zo 0 2 (.mv (.con (.slice none 0 0)))])
 (.seq (.reg [zm 0 4 0,
 zo 1 5 (.nilck 4),
 zf 2 6 0 5,
 zl 3 7 6,
 zo 4 8 (.call 92 [7]),
 zm 5 3 8])
 (.seq (.reg [zm 0 9 0,
 zo 1 10 (.nilck 9),
 zf 2 11 0 10,
 zl 3 12 11,
 zm 4 13 3,
 zo 5 14 (.conv 148 5 13),
 zm 6 15 3,
 zo 7 16 (.bin .shr 148 true 15 (.con (.int .u64 8))),
 zo 8 17 (.conv 148 5 16),
 zm 9 18 3,
 zo 10 19 (.bin .shr 148 true 18 (.con (.int .u64 16))),
 zo 11 20 (.conv 148 5 19),
 zm 12 21 3,
 zo 13 22 (.bin .shr 148 true 21 (.con (.int .u64 24))),
 zo 14 23 (.conv 148 5 22),
 zo 15 24 (.bslice 1 4 [(.int .u8 0)] [(0,1,14),(1,1,17),(2,1,20),(3,1,23)]),
 zo 16 25 (.append 1 1 12 24),
 zm 17 2 25])
 (.ret))),
 [.tmp 2]⟩
theorem p45u : PR Go.Proofs.Tryz.f45 = some v45u:=by kernel_rfl

def v49u : VFun :=
⟨.seq (.reg [zo 0 4 (.mv (.con (.pointer none)))])
 (.seq (.reg [zo 0 8 (.build [(.slice none 0 0),(.int .i64 0)] []),
 zo 1 9 (.box 8),
 zm 2 5 9])
 (.seq (.reg [zm 0 10 0,
 zo 1 11 (.len 10),
 zo 2 12 (.bin .sub 3 true 11 (zi 4)),
 zm 3 6 12])
 (.seq (.seq (.reg [zm 0 13 6,
 zo 1 14 (.bin .lss 3 true 13 (zi 4))])
 (.cond 14
 (.seq (.reg [zm 0 15 5,
 zo 1 16 (.call 94 [15,(zi 9)])])
 (.seq (.reg [zm 0 17 5,
 zm 1 4 17])
 (.ret)))
 (.skip)))
 (.seq (.reg [zm 0 18 0,
 zm 1 19 6,
 zo 2 20 (.slice none 1 18 none (some 19) none),
 zo 3 21 (.call 92 [20]),
 zm 4 7 21])
 (.seq (.seq (.reg [zm 0 22 0,
 zm 1 23 6,
 zo 2 24 (.slice none 1 22 (some 23) none none),
 zo 3 25 (.b2s 24),
 zm 4 26 7,
 zo 5 27 (.conv 148 5 26),
 zm 6 28 7,
 zo 7 29 (.bin .shr 148 true 28 (.con (.int .u64 8))),
 zo 8 30 (.conv 148 5 29),
 zm 9 31 7,
 zo 10 32 (.bin .shr 148 true 31 (.con (.int .u64 16))),
 zo 11 33 (.conv 148 5 32),
 zm 12 34 7,
 zo 13 35 (.bin .shr 148 true 34 (.con (.int .u64 24))),
 zo 14 36 (.conv 148 5 35),
 zo 15 37 (.bslice 1 4 [(.int .u8 0)] [(0,1,27),(1,1,30),(2,1,33),(3,1,36)]),
 zo 16 38 (.b2s 37),
 zo 17 39 (.bin .neq 9 false 25 38)])
 (.cond 39
 (.seq (.reg [zm 0 40 5,
 zo 1 41 (.call 94 [40,(zi 9)])])
 (.seq (.reg [zm 0 42 5,
 zm 1 4 42])
 (.ret)))
 (.skip)))
 (.seq (.seq (.reg [zm 0 43 0,
 zo 1 44 (.slice none 1 43 none (some (zi 4)) none),
 zo 2 45 (.b2s 44),
 zm 3 46 1,
 zo 4 47 (.bin .neq 9 false 45 46)])
 (.cond 47
 (.reg [zm 0 48 5,
 zo 1 49 (.call 94 [48,(zi 4)])])
 (.skip)))
 (.seq (.reg [zm 0 50 5,
 zm 1 51 0,
 zm 2 52 6,
 zo 3 53 (.slice none 1 51 (some (zi 4)) (some 52) none),
 zo 4 54 (.nilck 50),
 zf 5 55 0 54,
 zn 6 (.store 1 55 53)])
 (.seq (.reg [zm 0 56 5,
 zm 1 4 56])
 (.ret))))))))),
 [.tmp 4]⟩
theorem p49u : PR Go.Proofs.Tryz.f49 = some v49u:=by kernel_rfl

def v50u : VFun :=
⟨.seq (.reg [zo 0 4 (.mv (zi 0))])
 (.seq (.reg [zm 0 6 0,
 zo 1 7 (.call 95 [6]),
 zm 2 5 7])
 (.seq (.seq (.reg [zm 0 8 0,
 zo 1 9 (.nilck 8),
 zf 2 10 1 9,
 zl 3 11 10,
 zo 4 12 (.bin .eql 27 true 11 (zi 0)),
 zm 5 13 12,
 zg 6 14 (.mv 5) 13 true,
 zg 7 15 (.bin .lss 2 true 14 (zi 0)) 13 true,
 zo 8 16 (.pick 13 15 (.con (.bool false)))])
 (.cond 16
 (.reg [zm 0 17 0,
 zo 1 18 (.call 94 [17,(zi 4)])])
 (.skip)))
 (.seq (.seq (.reg [zm 0 19 0,
 zo 1 20 (.nilck 19),
 zf 2 21 1 20,
 zl 3 22 21,
 zo 4 23 (.bin .eql 27 true 22 (zi 0)),
 zm 5 24 23,
 zg 6 25 (.mv 5) 24 true,
 zg 7 26 (.mv 1) 24 true,
 zg 8 27 (.bin .gtr 2 false 25 26) 24 true,
 zo 9 28 (.pick 24 27 (.con (.bool false)))])
 (.cond 28
 (.reg [zm 0 29 0,
 zo 1 30 (.call 94 [29,(zi 3)])])
 (.skip)))
 (.seq (.seq (.reg [zm 0 31 0,
 zo 1 32 (.nilck 31),
 zf 2 33 1 32,
 zl 3 34 33,
 zo 4 35 (.bin .neq 27 true 34 (zi 0))])
 (.cond 35
 (.seq (.reg [zo 0 4 (.mv (zi 0))])
 (.ret))
 (.skip)))
 (.seq (.reg [zm 0 36 5,
 zm 1 4 36])
 (.ret)))))),
 [.tmp 4]⟩
theorem p50u : PR Go.Proofs.Tryz.f50 = some v50u:=by kernel_rfl

def v51u : VFun :=
⟨.seq (.reg [zo 0 2 (.mv (zi 0))])
 (.seq (.reg [zm 0 3 0,
 zo 1 4 (.call 95 [3]),
 zm 2 2 4])
 (.ret)),
 [.tmp 2]⟩
theorem p51u : PR Go.Proofs.Tryz.f51 = some v51u:=by kernel_rfl

def v52u : VFun :=
⟨.seq (.reg [zo 0 2 (.alloc [(.int .i64 0),(.int .i64 0),(.int .i64 0),(.int .i64 0),(.int .i64 0),(.int .i64 0),(.int .i64 0)])])
 (.seq (.reg [zm 0 6 0,
 zo 1 7 (.call 51 [6]),
 zo 2 8 (.build [(.int .i64 0),(.int .i64 0),(.int .i64 0),(.int .i64 0),(.int .i64 0),(.int .i64 0),(.int .i64 0)] [(0,1,7)]),
 zo 3 3 (.alloc [(.int .i64 0),(.int .i64 0),(.int .i64 0),(.int .i64 0),(.int .i64 0),(.int .i64 0),(.int .i64 0)]),
 zn 4 (.store 7 3 8)])
 (.seq (.seq (.reg [zm 0 9 0,
 zo 1 10 (.nilck 9),
 zf 2 11 1 10,
 zl 3 12 11,
 zo 4 13 (.bin .eql 27 true 12 (zi 0)),
 zm 5 14 13,
 zg 6 15 (.fieldA 0 3) 14 true,
 zg 7 16 (.load none 15) 14 true,
 zg 8 17 (.bin .lss 3 true 16 (zi 1)) 14 true,
 zg 9 18 (.mv 17) 14 true,
 zg 10 19 (.fieldA 0 3) 18 false,
 zg 11 20 (.load none 19) 18 false,
 zg 12 21 (.bin .gtr 3 true 20 (zi 28)) 18 false,
 zg 13 22 (.pick 18 (.con (.bool true)) 21) 14 true,
 zo 14 23 (.pick 14 22 (.con (.bool false)))])
 (.cond 23
 (.reg [zm 0 24 0,
 zo 1 25 (.call 94 [24,(zi 4)])])
 (.skip)))
 (.seq (.seq (.reg [zm 0 26 0,
 zo 1 27 (.nilck 26),
 zf 2 28 1 27,
 zl 3 29 28,
 zo 4 30 (.bin .neq 27 true 29 (zi 0))])
 (.cond 30
 (.seq (.reg [zo 0 31 (.build [(.int .i64 0),(.int .i64 0),(.int .i64 0),(.int .i64 0),(.int .i64 0),(.int .i64 0),(.int .i64 0)] []),
 zn 1 (.store 7 2 31)])
 (.ret))
 (.skip)))
 (.seq (.reg [zm 0 32 0,
 zo 1 33 (.call 51 [32]),
 zf 2 34 6 3,
 zn 3 (.store 1 34 33)])
 (.seq (.seq (.reg [zo 0 35 (.call 42 [3]),
 zo 1 36 (.len 35),
 zo 2 37 (.mv (zi 0))])
 (.block 0
 (.loop
 (.seq (.reg [zo 0 38 (.bin .lss 3 false 37 36)])
 (.seq (.cond 38
 (.skip)
 (.exit 0))
 (.seq (.block 1
 (.seq (.reg [zo 0 39 (.idxA none 1 35 37),
 zl 1 40 39,
 zm 2 5 40])
 (.reg [zm 0 41 5,
 zm 1 42 0,
 zo 2 43 (.call 51 [42]),
 zo 3 44 (.nilck 41),
 zn 4 (.store 1 44 43)])))
 (.reg [zo 0 45 (.bin .add 3 true 37 (zi 1)),
 zm 1 37 45])))))))
 (.seq (.seq (.reg [zf 0 46 0 3,
 zl 1 47 46,
 zo 2 48 (.call 43 [47])])
 (.cond 48
 (.reg [zm 0 49 0,
 zo 1 50 (.call 95 [49]),
 zf 2 51 5 3,
 zn 3 (.store 1 51 50)])
 (.skip)))
 (.seq (.reg [zo 0 52 (.load (some 7) 3),
 zn 1 (.store 7 2 52)])
 (.ret)))))))),
 [.cell 2 (some 7)]⟩
theorem p52u : PR Go.Proofs.Tryz.f52 = some v52u:=by kernel_rfl

def v53u : VFun :=
⟨.seq (.reg [zm 0 2 0,
 zo 1 3 (.nilck 2),
 zf 2 4 0 3,
 zl 3 5 4,
 zo 4 6 (.len 5),
 zo 5 7 (.bin .gtr 3 true 6 (zi 0))])
 (.cond 7
 (.reg [zm 0 8 0,
 zo 1 9 (.call 94 [8,(zi 4)])])
 (.skip)),
 []⟩
theorem p53u : PR Go.Proofs.Tryz.f53 = some v53u:=by kernel_rfl

def v59u : VFun :=
⟨.seq (.reg [zo 0 4 (.mv (zi 0)),
 zo 1 5 (.mv (.con .nilIface))])
 (.seq (.reg [zm 0 6 0,
 zo 1 7 (.call 96 [6])])
 (.seq (.reg [zm 0 8 0,
 zm 1 9 0,
 zo 2 10 (.nilck 9),
 zf 3 11 1 10,
 zl 4 12 11,
 zm 5 13 1,
 zo 6 14 (.append 1 1 12 13),
 zo 7 15 (.nilck 8),
 zf 8 16 1 15,
 zn 9 (.store 1 16 14)])
 (.seq (.reg [zm 0 17 1,
 zo 1 18 (.bi .len [9] 3 [17]),
 zm 2 4 18,
 zo 3 5 (.mv (.con .nilIface))])
 (.ret)))),
 [.tmp 4,.tmp 5]⟩
theorem p59u : PR Go.Proofs.Tryz.f59 = some v59u:=by kernel_rfl

def v60u : VFun :=
⟨.seq (.reg [zo 0 2 (.mv (.con (.string ⟨#[]⟩)))])
 (.seq (.reg [zm 0 3 0,
 zo 1 4 (.call 97 [3]),
 zm 2 2 4])
 (.ret)),
 [.tmp 2]⟩
theorem p60u : PR Go.Proofs.Tryz.f60 = some v60u:=by kernel_rfl

def v61u : VFun :=
⟨.seq (.reg [zo 0 1 (.box 0),
 zo 1 2 (.mv (.con (.string ⟨#[]⟩)))])
 (.seq (.reg [zo 0 3 (.mv (.con (.slice none 0 0)))])
 (.seq (.seq (.reg [zf 0 7 6 1,
 zl 1 8 7,
 zo 2 9 (.bin .neq 3 true 8 (zi (-1)))])
 (.cond 9
 (.reg [zm 0 10 3,
 zf 1 11 6 1,
 zl 2 12 11,
 zo 3 13 (.call 60 [12]),
 zo 4 14 (.bslice 1 2 [(.string ⟨#[]⟩)] [(0,1,(.con (.string ⟨#[63]⟩))),(1,1,13)]),
 zo 5 15 (.append 1 16 10 14),
 zm 6 3 15])
 (.skip)))
 (.seq (.reg [zo 0 16 (.call 42 [1]),
 zm 1 4 16])
 (.seq (.seq (.reg [zm 0 17 4,
 zo 1 18 (.len 17),
 zo 2 19 (.bin .gtr 3 true 18 (zi 0)),
 zm 3 20 19,
 zg 4 21 (.mv 4) 20 true,
 zg 5 22 (.idxA none 1 21 (zi 0)) 20 true,
 zg 6 23 (.load none 22) 20 true,
 zg 7 24 (.fieldA 1 1) 20 true,
 zg 8 25 (.peq false 23 24) 20 true,
 zo 9 26 (.pick 20 25 (.con (.bool false)))])
 (.cond 26
 (.seq (.reg [zm 0 27 3,
 zf 1 28 1 1,
 zl 2 29 28,
 zo 3 30 (.call 60 [29]),
 zo 4 31 (.bslice 1 2 [(.string ⟨#[]⟩)] [(0,1,30),(1,1,(.con (.string ⟨#[61]⟩)))]),
 zo 5 32 (.append 1 16 27 31),
 zm 6 3 32])
 (.reg [zm 0 33 4,
 zo 1 34 (.slice none 1 33 (some (zi 1)) none none),
 zm 2 4 34]))
 (.skip)))
 (.seq (.reg [zm 0 35 3,
 zf 1 36 0 1,
 zl 2 37 36,
 zo 3 38 (.call 98 [37]),
 zo 4 39 (.bslice 1 1 [(.string ⟨#[]⟩)] [(0,1,38)]),
 zo 5 40 (.append 1 16 35 39),
 zm 6 3 40])
 (.seq (.seq (.reg [zm 0 41 4,
 zo 1 42 (.len 41),
 zo 2 43 (.mv (zi 0))])
 (.block 0
 (.loop
 (.seq (.reg [zo 0 44 (.bin .lss 3 false 43 42)])
 (.seq (.cond 44
 (.skip)
 (.exit 0))
 (.seq (.block 1
 (.seq (.reg [zo 0 45 (.idxA none 1 41 43),
 zl 1 46 45,
 zm 2 6 46])
 (.reg [zm 0 47 3,
 zm 1 48 6,
 zo 2 49 (.nilck 48),
 zl 3 50 49,
 zo 4 51 (.call 60 [50]),
 zo 5 52 (.bslice 1 1 [(.string ⟨#[]⟩)] [(0,1,51)]),
 zo 6 53 (.append 1 16 47 52),
 zm 7 3 53])))
 (.reg [zo 0 54 (.bin .add 3 true 43 (zi 1)),
 zm 1 43 54])))))))
 (.seq (.seq (.reg [zf 0 55 0 1,
 zl 1 56 55,
 zo 2 57 (.call 43 [56])])
 (.cond 57
 (.reg [zm 0 58 3,
 zf 1 59 5 1,
 zl 2 60 59,
 zo 3 61 (.call 99 [60]),
 zo 4 62 (.bslice 1 1 [(.string ⟨#[]⟩)] [(0,1,61)]),
 zo 5 63 (.append 1 16 58 62),
 zm 6 3 63])
 (.skip)))
 (.seq (.reg [zm 0 64 3,
 zo 1 65 (.call 100 [64,(.con (.string ⟨#[32]⟩))]),
 zm 2 2 65])
 (.ret))))))))),
 [.tmp 2]⟩
theorem p61u : PR Go.Proofs.Tryz.f61 = some v61u:=by kernel_rfl

end Go.VX.Seat
end
section
set_option maxRecDepth 20000
namespace Go.VX.Seat
def v65u : VFun :=
⟨.seq (.reg [zo 0 2 (.alloc [(.slice none 0 0),(.int .i64 0),(.int .i64 0),(.int .i64 0),(.int .i64 0),(.slice none 0 0)]),
 zo 1 3 (.mv (.con (.bool false)))])
 (.seq (.reg [zo 0 4 (.alloc [(.slice none 0 0),(.int .i64 0),(.int .i64 0),(.int .i64 0),(.int .i64 0),(.slice none 0 0)])])
 (.seq (.reg [zo 0 5 (.alloc [(.int .i64 0),(.int .i64 0),(.int .i64 0),(.int .i64 0)])])
 (.seq (.seq (.reg [zm 0 9 0,
 zo 1 10 (.idxA (some 4) 1 5 (zi 0)),
 zo 2 11 (.idxA (some 4) 1 5 (zi 1)),
 zo 3 12 (.idxA (some 4) 1 5 (zi 2)),
 zo 4 13 (.idxA (some 4) 1 5 (zi 3)),
 zo 5 14 (.bslice 1 4 [(.pointer none)] [(0,1,10),(1,1,11),(2,1,12),(3,1,13)]),
 zo 6 15 (.call 103 [9,(.con (.string ⟨#[99,111,100,101]⟩)),14]),
 zo 7 16 (.un .not 15)])
 (.cond 16
 (.seq (.reg [zo 0 17 (.load (some 6) 4),
 zn 1 (.store 6 2 17),
 zo 2 3 (.mv (.con (.bool false)))])
 (.ret))
 (.skip)))
 (.seq (.reg [zo 0 18 (.idxA (some 4) 1 5 (zi 0)),
 zl 1 19 18,
 zo 2 20 (.idxA (some 4) 1 5 (zi 1)),
 zl 3 21 20,
 zo 4 22 (.idxA (some 4) 1 5 (zi 2)),
 zl 5 23 22,
 zo 6 24 (.idxA (some 4) 1 5 (zi 3)),
 zl 7 25 24,
 zf 8 26 1 4,
 ⟨9,none,.store 1 26 19,none,[20,22,24]⟩,
 zf 10 27 2 4,
 ⟨11,none,.store 1 27 21,none,[22,24]⟩,
 zf 12 28 3 4,
 ⟨13,none,.store 1 28 23,none,[24]⟩,
 zf 14 29 4 4,
 zn 15 (.store 1 29 25)])
 (.seq (.block 0
 (.loop
 (.seq (.seq (.reg [zm 0 30 0,
 zo 1 31 (.idxA (some 4) 1 5 (zi 0)),
 zo 2 32 (.bslice 1 1 [(.pointer none)] [(0,1,31)]),
 zo 3 33 (.call 103 [30,(.con (.string ⟨#[97,114,114,97,121]⟩)),32])])
 (.cond 33
 (.skip)
 (.exit 0)))
 (.block 1
 (.reg [zf 0 34 0 4,
 zl 1 35 34,
 zo 2 36 (.idxA (some 4) 1 5 (zi 0)),
 zl 3 37 36,
 zo 4 38 (.bslice 1 1 [(.int .i64 0)] [(0,1,37)]),
 zo 5 39 (.append 1 8 35 38),
 zf 6 40 0 4,
 zn 7 (.store 1 40 39)])))))
 (.seq (.block 2
 (.loop
 (.seq (.seq (.reg [zm 0 41 0,
 zo 1 42 (.idxA (some 4) 1 5 (zi 0)),
 zo 2 43 (.bslice 1 1 [(.pointer none)] [(0,1,42)]),
 zo 3 44 (.call 103 [41,(.con (.string ⟨#[119,111,114,100]⟩)),43])])
 (.cond 44
 (.skip)
 (.exit 2)))
 (.block 3
 (.seq (.reg [zo 0 45 (.idxA (some 4) 1 5 (zi 0)),
 zl 1 46 45,
 zo 2 47 (.build [(.slice none 0 0),(.int .i64 0)] [(1,1,46)]),
 zo 3 6 (.alloc [(.slice none 0 0),(.int .i64 0)]),
 zn 4 (.store 2 6 47)])
 (.seq (.block 4
 (.loop
 (.block 5
 (.seq (.reg [zm 0 49 0,
 zo 1 50 (.call 104 [49]),
 zm 2 48 50,
 zo 3 51 (.ext 48 0),
 zo 4 52 (.ext 48 1),
 zo 5 7 (.alloc [(.int .i64 0),(.int .i64 0),(.int .i64 0),(.int .i64 0),(.int .i64 0),(.int .i64 0),(.int .i64 0)]),
 zn 6 (.store 7 7 51),
 zm 7 8 52])
 (.seq (.seq (.reg [zm 0 53 8,
 zo 1 54 (.un .not 53)])
 (.cond 54
 (.exit 4)
 (.skip)))
 (.reg [zf 0 55 0 6,
 zl 1 56 55,
 zo 2 57 (.load (some 7) 7),
 zo 3 58 (.bslice 7 1 [(.int .i64 0),(.int .i64 0),(.int .i64 0),(.int .i64 0),(.int .i64 0),(.int .i64 0),(.int .i64 0)] [(0,7,57)]),
 zo 4 59 (.append 7 56 56 58),
 zf 5 60 0 6,
 zn 6 (.store 1 60 59)]))))))
 (.reg [zf 0 61 5 4,
 zl 1 62 61,
 zo 2 63 (.load (some 2) 6),
 zo 3 64 (.bslice 2 1 [(.slice none 0 0),(.int .i64 0)] [(0,2,63)]),
 zo 4 65 (.append 2 32 62 64),
 zf 5 66 5 4,
 zn 6 (.store 1 66 65)])))))))
 (.seq (.reg [zo 0 67 (.load (some 6) 4),
 zm 1 68 0,
 zo 2 69 (.nilck 68),
 zf 3 70 0 69,
 zl 4 71 70,
 zo 5 72 (.bin .eql 9 true 71 (.con (.string ⟨#[]⟩))),
 ⟨6,none,.store 6 2 67,none,[70]⟩,
 zm 7 3 72])
 (.ret)))))))),
 [.cell 2 (some 6),.tmp 3]⟩
theorem p65u : PR Go.Proofs.Tryz.f65 = some v65u:=by kernel_rfl

def v66u : VFun :=
⟨.seq (.reg [zo 0 2 (.mv (.con (.slice none 0 0)))])
 (.seq (.reg [zm 0 3 0,
 zm 1 4 0,
 zo 2 5 (.len 4),
 zm 3 6 0,
 zo 4 7 (.len 6),
 zo 5 8 (.slice none 1 3 none (some 5) (some 7)),
 zm 6 2 8])
 (.ret)),
 [.tmp 2]⟩
theorem p66u : PR Go.Proofs.Tryz.f66 = some v66u:=by kernel_rfl

def v68u : VFun :=
⟨.seq (.reg [zo 0 4 (.mv (.con (.bool false)))])
 (.seq (.seq (.reg [zm 0 6 0,
 zo 1 7 (.len 6),
 zm 2 8 1,
 zo 3 9 (.len 8),
 zo 4 10 (.bin .neq 3 false 7 9)])
 (.cond 10
 (.seq (.reg [zo 0 4 (.mv (.con (.bool false)))])
 (.ret))
 (.skip)))
 (.seq (.seq (.reg [zm 0 11 0,
 zo 1 12 (.len 11),
 zo 2 13 (.mv (zi 0))])
 (.block 0
 (.loop
 (.seq (.reg [zo 0 14 (.bin .lss 3 false 13 12)])
 (.seq (.cond 14
 (.skip)
 (.exit 0))
 (.seq (.block 1
 (.seq (.reg [zm 0 15 13,
 zm 1 5 15])
 (.seq (.reg [zm 0 16 0,
 zm 1 17 5,
 zo 2 18 (.idxA none 1 16 17),
 zl 3 19 18,
 zm 4 20 1,
 zm 5 21 5,
 zo 6 22 (.idxA none 1 20 21),
 zl 7 23 22,
 zo 8 24 (.bin .neq 3 false 19 23)])
 (.cond 24
 (.seq (.reg [zo 0 4 (.mv (.con (.bool false)))])
 (.ret))
 (.skip)))))
 (.reg [zo 0 25 (.bin .add 3 true 13 (zi 1)),
 zm 1 13 25])))))))
 (.seq (.reg [zo 0 4 (.mv (.con (.bool true)))])
 (.ret)))),
 [.tmp 4]⟩
theorem p68u : PR Go.Proofs.Tryz.f68 = some v68u:=by kernel_rfl

def v69u : VFun :=
⟨.seq (.reg [zo 0 6 (.mv (.con (.bool false)))])
 (.seq (.seq (.reg [zm 0 10 0,
 zo 1 11 (.len 10),
 zm 2 12 1,
 zo 3 13 (.len 12),
 zo 4 14 (.bin .neq 3 false 11 13)])
 (.cond 14
 (.seq (.reg [zo 0 6 (.mv (.con (.bool false)))])
 (.ret))
 (.skip)))
 (.seq (.seq (.reg [zm 0 15 0,
 zo 1 16 (.len 15),
 zo 2 17 (.mv (zi 0))])
 (.block 0
 (.loop
 (.seq (.reg [zo 0 18 (.bin .lss 3 false 17 16)])
 (.seq (.cond 18
 (.skip)
 (.exit 0))
 (.seq (.block 1
 (.seq (.reg [zm 0 19 17,
 zo 1 20 (.idxA none 2 15 17),
 zo 2 21 (.load (some 2) 20),
 zo 3 8 (.alloc [(.slice none 0 0),(.int .i64 0)]),
 zm 4 7 19,
 zn 5 (.store 2 8 21)])
 (.seq (.reg [zm 0 22 1,
 zm 1 23 7,
 zo 2 24 (.idxA none 2 22 23),
 zo 3 25 (.load (some 2) 24),
 zo 4 9 (.alloc [(.slice none 0 0),(.int .i64 0)]),
 zn 5 (.store 2 9 25)])
 (.seq (.reg [zm 0 26 2,
 zo 1 27 (.load (some 2) 8),
 zo 2 28 (.load (some 2) 9),
 zo 3 29 (.callv 26 [27,28]),
 zo 4 30 (.un .not 29)])
 (.cond 30
 (.seq (.reg [zo 0 6 (.mv (.con (.bool false)))])
 (.ret))
 (.skip))))))
 (.reg [zo 0 31 (.bin .add 3 true 17 (zi 1)),
 zm 1 17 31])))))))
 (.seq (.reg [zo 0 6 (.mv (.con (.bool true)))])
 (.ret)))),
 [.tmp 6]⟩
theorem p69u : PR Go.Proofs.Tryz.f69 = some v69u:=by kernel_rfl

def v70u : VFun :=
⟨.seq (.reg [zo 0 2 (.box 0),
 zo 1 3 (.box 1),
 zo 2 4 (.mv (.con (.bool false)))])
 (.seq (.reg [zf 0 5 1 2,
 zl 1 6 5,
 zf 2 7 1 3,
 zl 3 8 7,
 zo 4 9 (.bin .eql 3 false 6 8),
 zm 5 10 9,
 zg 6 11 (.fieldA 0 2) 10 true,
 zg 7 12 (.load none 11) 10 true,
 zg 8 13 (.fieldA 0 3) 10 true,
 zg 9 14 (.load none 13) 10 true,
 zg 10 15 (.call 71 [12,14]) 10 true,
 zo 11 16 (.pick 10 15 (.con (.bool false))),
 zm 12 4 16])
 (.ret)),
 [.tmp 4]⟩
theorem p70u : PR Go.Proofs.Tryz.f70 = some v70u:=by kernel_rfl

def v71u : VFun :=
⟨.seq (.reg [zo 0 4 (.mv (.con (.bool false)))])
 (.seq (.seq (.reg [zm 0 6 0,
 zo 1 7 (.len 6),
 zm 2 8 1,
 zo 3 9 (.len 8),
 zo 4 10 (.bin .neq 3 false 7 9)])
 (.cond 10
 (.seq (.reg [zo 0 4 (.mv (.con (.bool false)))])
 (.ret))
 (.skip)))
 (.seq (.seq (.reg [zm 0 11 0,
 zo 1 12 (.len 11),
 zo 2 13 (.mv (zi 0))])
 (.block 0
 (.loop
 (.seq (.reg [zo 0 14 (.bin .lss 3 false 13 12)])
 (.seq (.cond 14
 (.skip)
 (.exit 0))
 (.seq (.block 1
 (.seq (.reg [zm 0 15 13,
 zm 1 5 15])
 (.seq (.reg [zm 0 16 0,
 zm 1 17 5,
 zo 2 18 (.idxA none 7 16 17),
 zo 3 19 (.load (some 7) 18),
 zm 4 20 1,
 zm 5 21 5,
 zo 6 22 (.idxA none 7 20 21),
 zo 7 23 (.load (some 7) 22),
 zo 8 24 (.bin .neq 72 false 19 23)])
 (.cond 24
 (.seq (.reg [zo 0 4 (.mv (.con (.bool false)))])
 (.ret))
 (.skip)))))
 (.reg [zo 0 25 (.bin .add 3 true 13 (zi 1)),
 zm 1 13 25])))))))
 (.seq (.reg [zo 0 4 (.mv (.con (.bool true)))])
 (.ret)))),
 [.tmp 4]⟩
theorem p71u : PR Go.Proofs.Tryz.f71 = some v71u:=by kernel_rfl

def v_code_Check : VFun :=
⟨.seq (.reg [zo 0 1 (.box (.tmp 0)),
 zo 1 2 (.mv (zi 0))])
 (.seq (.reg [zo 0 3 (.load (some 6) (.tmp 1)),
 zo 1 4 (.call 107 [(.tmp 3)]),
 zo 2 5 (.field 2 none (.tmp 4)),
 zm 3 2 5])
 (.ret)),
 [.tmp 2]⟩
theorem p_code_Check : PR Go.Proofs.Tryz.f72 = some v_code_Check:=by kernel_rfl

def v_words_head : VFun :=
⟨.seq (.reg [zo 0 2 (.box (.tmp 0)),
 zo 1 4 (.alloc [(.slice none 0 0),(.int .i64 0),(.int .i64 0),(.int .i64 0),(.int .i64 0),(.slice none 0 0)])])
 (.seq (.reg [zf 0 6 0 2,
 zl 1 7 6,
 zf 2 8 1 2,
 zl 3 9 8,
 zf 4 10 2 2,
 zl 5 11 10,
 zf 6 12 3 2,
 zl 7 13 12,
 zf 8 14 4 2,
 zl 9 15 14,
 zo 10 16 (.build [(.slice none 0 0),(.int .i64 0),(.int .i64 0),(.int .i64 0),(.int .i64 0),(.slice none 0 0)] [(0,1,(.tmp 7)),(1,1,(.tmp 9)),(2,1,(.tmp 11)),(3,1,(.tmp 13)),(4,1,(.tmp 15))]),
 zo 11 5 (.alloc [(.slice none 0 0),(.int .i64 0),(.int .i64 0),(.int .i64 0),(.int .i64 0),(.slice none 0 0)]),
 zn 12 (.store 6 (.tmp 5) (.tmp 16))])
 (.seq (.reg [zo 0 17 (.build [(.int .i64 0),(.int .i64 0),(.int .i64 0),(.int .i64 0)] [(0,1,(zi 1))]),
 zo 1 18 (.build [(.slice none 0 0),(.int .i64 0),(.int .i64 0),(.int .i64 0),(.int .i64 0),(.int .i64 0)] [(1,4,(.tmp 17)),(5,1,(zi (-1)))]),
 zo 2 19 (.bslice 6 1 [(.slice none 0 0),(.int .i64 0),(.int .i64 0),(.int .i64 0),(.int .i64 0),(.int .i64 0)] [(0,6,(.tmp 18))]),
 zm 3 20 1,
 zo 4 21 (.call 108 [(.tmp 19),(.tmp 20)]),
 zf 5 22 5 5,
 zn 6 (.store 1 (.tmp 22) (.tmp 21))])
 (.seq (.reg [zo 0 23 (.load (some 6) (.tmp 5)),
 zn 1 (.store 6 (.tmp 4) (.tmp 23))])
 (.ret)))),
 [.cell 4 (some 6)]⟩
theorem p_words_head : PR Go.Proofs.Tryz.f73 = some v_words_head:=by kernel_rfl

def v_words_op : VFun :=
⟨.seq (.reg [zo 0 2 (.box (.tmp 0)),
 zo 1 3 (.box (.tmp 1)),
 zo 2 4 (.mv (zi 0))])
 (.seq (.seq (.reg [zf 0 7 0 3,
 zl 1 8 7,
 zo 2 9 (.call 89 [(.tmp 8)])])
 (.cond (.tmp 9)
 (.seq (.reg [zo 0 10 (.load (some 6) (.tmp 2)),
 zo 1 11 (.load (some 7) (.tmp 3)),
 zo 2 12 (.call 109 [(.tmp 10),(.tmp 11)]),
 zm 3 4 12])
 (.ret))
 (.skip)))
 (.seq (.reg [zo 0 13 (.load (some 6) (.tmp 2)),
 zo 1 14 (.call 73 [(.tmp 13),(zi 1)]),
 zo 2 5 (.alloc [(.slice none 0 0),(.int .i64 0),(.int .i64 0),(.int .i64 0),(.int .i64 0),(.slice none 0 0)]),
 zn 3 (.store 6 (.tmp 5) (.tmp 14))])
 (.seq (.seq (.reg [zf 0 15 0 3,
 zl 1 16 15,
 zo 2 17 (.bin .eql 3 true (.tmp 16) (zi 21))])
 (.cond (.tmp 17)
 (.seq (.reg [zf 0 18 5 3,
 zl 1 19 18,
 zm 2 6 19])
 (.seq (.reg [zm 0 20 6,
 zo 1 21 (.bin .lss 2 true (.tmp 20) (zi 0)),
 zm 2 22 21,
 zg 3 23 (.mv (.tmp 6)) 22 false,
 zg 4 24 (.fieldA 5 (.tmp 2)) 22 false,
 zg 5 25 (.load none (.tmp 24)) 22 false,
 zg 6 26 (.len (.tmp 25)) 22 false,
 zg 7 27 (.bin .geq 2 false (.tmp 23) (.tmp 26)) 22 false,
 zo 8 28 (.pick (.tmp 22) (.con (.bool true)) (.tmp 27))])
 (.cond (.tmp 28)
 (.reg [zf 0 29 5 3,
 zn 1 (.store 1 (.tmp 29) (zi 1))])
 (.reg [zf 0 30 5 3,
 zn 1 (.store 1 (.tmp 30) (zi 0))]))))
 (.skip)))
 (.seq (.reg [zf 0 31 5 5,
 zl 1 32 31,
 zo 2 33 (.load (some 7) (.tmp 3)),
 zo 3 34 (.bslice 7 1 [(.int .i64 0),(.int .i64 0),(.int .i64 0),(.int .i64 0),(.int .i64 0),(.int .i64 0),(.int .i64 0)] [(0,7,(.tmp 33))]),
 zo 4 35 (.idxA none 6 (.tmp 32) (zi 0)),
 zf 5 36 0 35,
 zn 6 (.store 1 (.tmp 36) (.tmp 34))])
 (.seq (.reg [zo 0 37 (.load (some 6) (.tmp 5)),
 zo 1 38 (.call 72 [(.tmp 37)]),
 zm 2 4 38])
 (.ret)))))),
 [.tmp 4]⟩
theorem p_words_op : PR Go.Proofs.Tryz.f74 = some v_words_op:=by kernel_rfl

def v_slices_ContainsFunc_Op : VFun :=
⟨.seq (.reg [zo 0 4 (.mv (.con (.bool false)))])
 (.seq (.reg [zm 0 5 0,
 zm 1 6 1,
 zo 2 7 (.call 110 [(.tmp 5),(.tmp 6)]),
 zo 3 8 (.bin .geq 3 true (.tmp 7) (zi 0)),
 zm 4 4 8])
 (.ret)),
 [.tmp 4]⟩
theorem p_slices_ContainsFunc_Op : PR Go.Proofs.Tryz.f75 = some v_slices_ContainsFunc_Op:=by kernel_rfl

def v_words_Leaves : VFun :=
⟨.seq (.reg [zo 0 1 (.box (.tmp 0)),
 zo 1 2 (.mv (.con (.bool false)))])
 (.seq (.reg [zf 0 3 0 1,
 zl 1 4 3,
 zo 2 5 (.call 89 [(.tmp 4)]),
 zm 3 6 5,
 zg 4 7 (.fieldA 6 (.tmp 1)) 6 true,
 zg 5 8 (.load none (.tmp 7)) 6 true,
 zg 6 9 (.bin .eql 3 true (.tmp 8) (zi (-1))) 6 true,
 zo 7 10 (.pick (.tmp 6) (.tmp 9) (.con (.bool false))),
 zm 8 2 10])
 (.ret)),
 [.tmp 2]⟩
theorem p_words_Leaves : PR Go.Proofs.Tryz.f76 = some v_words_Leaves:=by kernel_rfl

def v_words_Ways : VFun :=
⟨.seq (.reg [zo 0 3 (.box (.tmp 0))])
 (.seq (.reg [zf 0 9 5 3,
 zl 1 10 9,
 zm 2 11 1,
 zo 3 12 (.idxA none 2 (.tmp 10) (.tmp 11)),
 zo 4 13 (.load (some 2) (.tmp 12)),
 zo 5 6 (.alloc [(.slice none 0 0),(.int .i64 0)]),
 zn 6 (.store 2 (.tmp 6) (.tmp 13))])
 (.seq (.seq (.reg [zf 0 14 0 6,
 zl 1 15 14,
 zo 2 16 (.len (.tmp 15)),
 zo 3 17 (.mv (zi 0))])
 (.block 0
 (.loop
 (.seq (.reg [zo 0 18 (.bin .lss 3 false (.tmp 17) (.tmp 16))])
 (.seq (.cond (.tmp 18)
 (.skip)
 (.exit 0))
 (.seq (.block 1
 (.seq (.reg [zm 0 19 17,
 zo 1 20 (.idxA none 7 (.tmp 15) (.tmp 17)),
 zo 2 21 (.load (some 7) (.tmp 20)),
 zo 3 8 (.alloc [(.int .i64 0),(.int .i64 0),(.int .i64 0),(.int .i64 0),(.int .i64 0),(.int .i64 0),(.int .i64 0)]),
 zm 4 7 19,
 zn 5 (.store 7 (.tmp 8) (.tmp 21))])
 (.seq (.seq (.reg [zf 0 22 0 8,
 zl 1 23 22,
 zo 2 24 (.bin .eql 3 true (.tmp 23) (zi 21)),
 zm 3 25 24,
 zg 4 26 (.fieldA 0 (.tmp 8)) 25 false,
 zg 5 27 (.load none (.tmp 26)) 25 false,
 zg 6 28 (.bin .eql 3 true (.tmp 27) (zi 26)) 25 false,
 zo 7 29 (.pick (.tmp 25) (.con (.bool true)) (.tmp 28))])
 (.cond (.tmp 29)
 (.reg [zm 0 30 2,
 zf 1 31 5 8,
 zl 2 32 31,
 zm 3 33 7,
 zo 4 34 (.callv (.tmp 30) [(.tmp 32),(.tmp 33),(.con (.bool false))])])
 (.skip)))
 (.seq (.seq (.reg [zo 0 35 (.load (some 7) (.tmp 8)),
 zo 1 36 (.call 116 [(.tmp 35)]),
 zm 2 37 36,
 zg 3 38 (.fieldA 1 (.tmp 6)) 37 true,
 zg 4 39 (.load none (.tmp 38)) 37 true,
 zg 5 40 (.bin .geq 3 true (.tmp 39) (zi 0)) 37 true,
 zo 6 41 (.pick (.tmp 37) (.tmp 40) (.con (.bool false)))])
 (.cond (.tmp 41)
 (.reg [zm 0 42 2,
 zf 1 43 1 6,
 zl 2 44 43,
 zm 3 45 7,
 zo 4 46 (.callv (.tmp 42) [(.tmp 44),(.tmp 45),(.con (.bool true))])])
 (.skip)))
 (.seq (.reg [zo 0 47 (.load (some 7) (.tmp 8)),
 zo 1 48 (.call 76 [(.tmp 47)])])
 (.cond (.tmp 48)
 (.ret)
 (.skip)))))))
 (.reg [zo 0 49 (.bin .add 3 true (.tmp 17) (zi 1)),
 zm 1 17 49])))))))
 (.reg [zm 0 50 2,
 zm 1 51 1,
 zo 2 52 (.bin .add 3 true (.tmp 51) (zi 1)),
 zf 3 53 0 6,
 zl 4 54 53,
 zo 5 55 (.len (.tmp 54)),
 zo 6 56 (.callv (.tmp 50) [(.tmp 52),(.tmp 55),(.con (.bool false))])]))),
 []⟩
theorem p_words_Ways : PR Go.Proofs.Tryz.f83 = some v_words_Ways:=by kernel_rfl

def v_words_next_c1 : VFun :=
⟨.reg [zl 0 7 3,
 zm 1 8 0,
 zo 2 9 (.bslice 1 1 [(.int .i64 0)] [(0,1,(.tmp 8))]),
 zo 3 10 (.append 1 8 (.tmp 7) (.tmp 9)),
 zn 4 (.store 1 (.tmp 3) (.tmp 10))],
 []⟩
theorem p_words_next_c1 : PR Go.Proofs.Tryz.f84 = some v_words_next_c1:=by kernel_rfl

def v85u : VFun :=
⟨.seq (.reg [zm 0 3 0,
 zo 1 4 (.len 3),
 zm 2 2 4])
 (.reg [zm 0 5 0,
 zm 1 6 2,
 zm 2 7 2,
 zo 3 8 (.conv 3 147 7),
 zo 4 9 (.call 118 [8]),
 zo 5 10 (.call 117 [5,(zi 0),6,9])]),
 []⟩
theorem p85u : PR Go.Proofs.Tryz.f85 = some v85u:=by kernel_rfl

def v86u : VFun :=
⟨.seq (.reg [zo 0 2 (.mv (.con (.slice none 0 0)))])
 (.seq (.seq (.reg [zm 0 6 0,
 zo 1 7 (.len 6),
 zo 2 8 (.bin .lss 3 true 7 (zi 2))])
 (.cond 8
 (.seq (.reg [zm 0 9 0,
 zm 1 2 9])
 (.ret))
 (.skip)))
 (.seq (.seq (.reg [zo 0 3 (.mv (zi 1))])
 (.block 0
 (.loop
 (.seq (.seq (.reg [zm 0 10 3,
 zm 1 11 0,
 zo 2 12 (.len 11),
 zo 3 13 (.bin .lss 3 false 10 12)])
 (.cond 13
 (.skip)
 (.exit 0)))
 (.seq (.block 1
 (.seq (.reg [zm 0 16 0,
 zm 1 17 3,
 zo 2 18 (.idxA none 1 16 17),
 zl 3 19 18,
 zm 4 20 0,
 zm 5 21 3,
 zo 6 22 (.bin .sub 3 true 21 (zi 1)),
 zo 7 23 (.idxA none 1 20 22),
 zl 8 24 23,
 zo 9 25 (.bin .eql 3 false 19 24)])
 (.cond 25
 (.seq (.reg [zm 0 26 0,
 zm 1 27 3,
 zo 2 28 (.slice none 1 26 (some 27) none none),
 zm 3 4 28])
 (.seq (.seq (.reg [zo 0 5 (.mv (zi 1))])
 (.block 2
 (.loop
 (.seq (.seq (.reg [zm 0 29 5,
 zm 1 30 4,
 zo 2 31 (.len 30),
 zo 3 32 (.bin .lss 3 false 29 31)])
 (.cond 32
 (.skip)
 (.exit 2)))
 (.seq (.block 3
 (.seq (.reg [zm 0 35 4,
 zm 1 36 5,
 zo 2 37 (.idxA none 1 35 36),
 zl 3 38 37,
 zm 4 39 4,
 zm 5 40 5,
 zo 6 41 (.bin .sub 3 true 40 (zi 1)),
 zo 7 42 (.idxA none 1 39 41),
 zl 8 43 42,
 zo 9 44 (.bin .neq 3 false 38 43)])
 (.cond 44
 (.seq (.reg [zm 0 45 0,
 zm 1 46 3,
 zm 2 47 4,
 zm 3 48 5,
 zo 4 49 (.idxA none 1 47 48),
 zl 5 50 49,
 zo 6 51 (.idxA none 1 45 46),
 zn 7 (.store 1 51 50)])
 (.reg [zm 0 52 3,
 zo 1 53 (.bin .add 3 true 52 (zi 1)),
 zm 2 3 53]))
 (.skip))))
 (.reg [zm 0 33 5,
 zo 1 34 (.bin .add 3 true 33 (zi 1)),
 zm 2 5 34]))))))
 (.seq (.reg [zm 0 54 0,
 zm 1 55 3,
 zo 2 56 (.slice none 1 54 (some 55) none none),
 zn 3 (.ext (zi 0) 0)])
 (.seq (.reg [zm 0 57 0,
 zm 1 58 3,
 zo 2 59 (.slice none 1 57 none (some 58) none),
 zm 3 2 59])
 (.ret)))))
 (.skip))))
 (.reg [zm 0 14 3,
 zo 1 15 (.bin .add 3 true 14 (zi 1)),
 zm 2 3 15]))))))
 (.seq (.reg [zm 0 60 0,
 zm 1 2 60])
 (.ret)))),
 [.tmp 2]⟩
theorem p86u : PR Go.Proofs.Tryz.f86 = some v86u:=by kernel_rfl

end Go.VX.Seat
end
section
set_option maxRecDepth 20000
namespace Go.VX.Seat
def v_r26_Uses : VFun :=
⟨.seq (.reg [zo 0 2 (.alloc [(.bool false),(.bool false),(.bool false),(.bool false),(.bool false)])])
 (.seq (.reg [zo 0 4 (.build [(.bool false),(.bool false),(.bool false),(.bool false),(.bool false)] [(0,1,(.con (.bool true))),(1,1,(.con (.bool true)))]),
 zo 1 3 (.alloc [(.bool false),(.bool false),(.bool false),(.bool false),(.bool false)]),
 zn 2 (.store 5 (.tmp 3) (.tmp 4))])
 (.seq (.seq (.reg [zm 0 5 0])
 (.block 0
 (.seq (.seq (.reg [zo 0 7 (.bin .eql 3 true (.tmp 5) (zi 17)),
 zm 1 6 7])
 (.cond (.tmp 6)
 (.skip)
 (.seq (.reg [zo 0 8 (.bin .eql 3 true (.tmp 5) (zi 19)),
 zm 1 6 8])
 (.cond (.tmp 6)
 (.skip)
 (.seq (.reg [zo 0 9 (.bin .eql 3 true (.tmp 5) (zi 20)),
 zm 1 6 9])
 (.cond (.tmp 6)
 (.skip)
 (.seq (.reg [zo 0 10 (.bin .eql 3 true (.tmp 5) (zi 21)),
 zm 1 6 10])
 (.cond (.tmp 6)
 (.skip)
 (.seq (.reg [zo 0 11 (.bin .eql 3 true (.tmp 5) (zi 22)),
 zm 1 6 11])
 (.cond (.tmp 6)
 (.skip)
 (.seq (.reg [zo 0 12 (.bin .eql 3 true (.tmp 5) (zi 26)),
 zm 1 6 12])
 (.cond (.tmp 6)
 (.skip)
 (.seq (.reg [zo 0 13 (.bin .eql 3 true (.tmp 5) (zi 27)),
 zm 1 6 13])
 (.cond (.tmp 6)
 (.skip)
 (.reg [zo 0 14 (.bin .eql 3 true (.tmp 5) (zi 28)),
 zm 1 6 14])))))))))))))))
 (.cond (.tmp 6)
 (.reg [zf 0 15 0 3,
 zn 1 (.store 1 (.tmp 15) (.con (.bool false)))])
 (.skip)))))
 (.seq (.seq (.reg [zm 0 16 0])
 (.block 1
 (.seq (.seq (.reg [zo 0 18 (.bin .eql 3 true (.tmp 16) (zi 1)),
 zm 1 17 18])
 (.cond (.tmp 17)
 (.skip)
 (.seq (.reg [zo 0 19 (.bin .eql 3 true (.tmp 16) (zi 18)),
 zm 1 17 19])
 (.cond (.tmp 17)
 (.skip)
 (.reg [zo 0 20 (.bin .eql 3 true (.tmp 16) (zi 26)),
 zm 1 17 20])))))
 (.cond (.tmp 17)
 (.reg [zf 0 21 1 3,
 zn 1 (.store 1 (.tmp 21) (.con (.bool false)))])
 (.skip)))))
 (.seq (.reg [zm 0 22 0,
 zo 1 23 (.bin .geq 3 true (.tmp 22) (zi 3)),
 zm 2 24 23,
 zg 3 25 (.mv (.tmp 0)) 24 true,
 zg 4 26 (.bin .leq 3 true (.tmp 25) (zi 15)) 24 true,
 zo 5 27 (.pick (.tmp 24) (.tmp 26) (.con (.bool false))),
 zm 6 28 27,
 zg 7 29 (.mv (.tmp 0)) 28 false,
 zg 8 30 (.bin .eql 3 true (.tmp 29) (zi 17)) 28 false,
 zo 9 31 (.pick (.tmp 28) (.con (.bool true)) (.tmp 30)),
 zm 10 32 31,
 zg 11 33 (.mv (.tmp 0)) 32 false,
 zg 12 34 (.bin .eql 3 true (.tmp 33) (zi 23)) 32 false,
 zo 13 35 (.pick (.tmp 32) (.con (.bool true)) (.tmp 34)),
 zm 14 36 35,
 zg 15 37 (.mv (.tmp 0)) 36 false,
 zg 16 38 (.bin .eql 3 true (.tmp 37) (zi 24)) 36 false,
 zo 17 39 (.pick (.tmp 36) (.con (.bool true)) (.tmp 38)),
 zf 18 40 2 3,
 zn 19 (.store 1 (.tmp 40) (.tmp 39))])
 (.seq (.reg [zm 0 41 0,
 zo 1 42 (.bin .eql 3 true (.tmp 41) (zi 12)),
 zf 2 43 3 3,
 zn 3 (.store 1 (.tmp 43) (.tmp 42))])
 (.seq (.seq (.reg [zm 0 44 0])
 (.block 2
 (.seq (.seq (.reg [zo 0 46 (.bin .eql 3 true (.tmp 44) (zi 1)),
 zm 1 45 46])
 (.cond (.tmp 45)
 (.skip)
 (.seq (.reg [zo 0 47 (.bin .eql 3 true (.tmp 44) (zi 16)),
 zm 1 45 47])
 (.cond (.tmp 45)
 (.skip)
 (.seq (.reg [zo 0 48 (.bin .eql 3 true (.tmp 44) (zi 17)),
 zm 1 45 48])
 (.cond (.tmp 45)
 (.skip)
 (.seq (.reg [zo 0 49 (.bin .eql 3 true (.tmp 44) (zi 18)),
 zm 1 45 49])
 (.cond (.tmp 45)
 (.skip)
 (.seq (.reg [zo 0 50 (.bin .eql 3 true (.tmp 44) (zi 19)),
 zm 1 45 50])
 (.cond (.tmp 45)
 (.skip)
 (.seq (.reg [zo 0 51 (.bin .eql 3 true (.tmp 44) (zi 21)),
 zm 1 45 51])
 (.cond (.tmp 45)
 (.skip)
 (.seq (.reg [zo 0 52 (.bin .eql 3 true (.tmp 44) (zi 25)),
 zm 1 45 52])
 (.cond (.tmp 45)
 (.skip)
 (.reg [zo 0 53 (.bin .eql 3 true (.tmp 44) (zi 26)),
 zm 1 45 53])))))))))))))))
 (.cond (.tmp 45)
 (.reg [zf 0 54 4 3,
 zn 1 (.store 1 (.tmp 54) (.con (.bool true)))])
 (.skip)))))
 (.seq (.reg [zo 0 55 (.load (some 5) (.tmp 3)),
 zn 1 (.store 5 (.tmp 2) (.tmp 55))])
 (.ret)))))))),
 [.cell 2 (some 5)]⟩
theorem p_r26_Uses : PR Go.Proofs.Tryz.f87 = some v_r26_Uses:=by kernel_rfl

def v_r26_none : VFun :=
⟨.seq (.reg [zo 0 2 (.box (.tmp 0)),
 zo 1 4 (.mv (.con (.bool false)))])
 (.seq (.reg [zm 0 5 1,
 zo 1 6 (.bin .lss 3 true (.tmp 5) (zi 0)),
 zm 2 7 6,
 zg 3 8 (.mv (.tmp 1)) 7 false,
 zg 4 9 (.fieldA 2 (.tmp 2)) 7 false,
 zg 5 10 (.load none (.tmp 9)) 7 false,
 zg 6 11 (.bin .geq 3 false (.tmp 8) (.tmp 10)) 7 false,
 zo 7 12 (.pick (.tmp 7) (.con (.bool true)) (.tmp 11)),
 zm 8 4 12])
 (.ret)),
 [.tmp 4]⟩
theorem p_r26_none : PR Go.Proofs.Tryz.f88 = some v_r26_none:=by kernel_rfl

def v_words_isOwn : VFun :=
⟨.seq (.reg [zo 0 2 (.mv (.con (.bool false)))])
 (.seq (.reg [zm 0 3 0,
 zo 1 4 (.bin .geq 3 true (.tmp 3) (zi 26)),
 zm 2 5 4,
 zg 3 6 (.mv (.tmp 0)) 5 true,
 zg 4 7 (.bin .leq 3 true (.tmp 6) (zi 28)) 5 true,
 zo 5 8 (.pick (.tmp 5) (.tmp 7) (.con (.bool false))),
 zm 6 2 8])
 (.ret)),
 [.tmp 2]⟩
theorem p_words_isOwn : PR Go.Proofs.Tryz.f89 = some v_words_isOwn:=by kernel_rfl

def v90u : VFun :=
⟨.seq (.reg [zo 0 1 (.box 0),
 zo 1 2 (.mv (zi 0))])
 (.seq (.seq (.reg [zf 0 6 0 1,
 zl 1 7 6,
 zo 2 8 (.call 119 [7]),
 zm 3 5 8,
 zo 4 9 (.ext 5 0),
 zo 5 10 (.ext 5 1),
 zo 6 3 (.alloc [(.int .i64 0),(.int .i64 0),(.string ⟨#[]⟩)]),
 zn 7 (.store 3 3 9),
 zm 8 4 10])
 (.seq (.reg [zf 0 11 0 3,
 zl 1 12 11,
 zo 2 13 (.bin .and 3 true 12 (zi 1)),
 zo 3 14 (.bin .neq 3 true 13 (zi 0))])
 (.cond 14
 (.seq (.reg [zf 0 15 1 1,
 zl 1 16 15,
 zm 2 2 16])
 (.ret))
 (.skip))))
 (.seq (.reg [zo 0 2 (.mv (zi (-1)))])
 (.ret))),
 [.tmp 2]⟩
theorem p90u : PR Go.Proofs.Tryz.f90 = some v90u:=by kernel_rfl

def v91u : VFun :=
⟨.seq (.reg [zo 0 1 (.box 0),
 zo 1 2 (.mv (.con (.slice none 0 0)))])
 (.seq (.reg [zf 0 9 0 1,
 zl 1 10 9,
 zo 2 11 (.call 119 [10]),
 zm 3 8 11,
 zo 4 12 (.ext 8 0),
 zo 5 13 (.ext 8 1),
 zo 6 3 (.alloc [(.int .i64 0),(.int .i64 0),(.string ⟨#[]⟩)]),
 zn 7 (.store 3 3 12),
 zm 8 4 13])
 (.seq (.reg [zo 0 5 (.mv (.con (.slice none 0 0)))])
 (.seq (.seq (.reg [zf 0 14 2 1,
 zl 1 15 14,
 zf 2 16 3 1,
 zl 3 17 16,
 zf 4 18 4 1,
 zl 5 19 18,
 zo 6 20 (.build [(.int .i64 0),(.int .i64 0),(.int .i64 0)] [(0,1,15),(1,1,17),(2,1,19)]),
 zo 7 21 (.mv (zi 0))])
 (.block 0
 (.loop
 (.seq (.reg [zo 0 22 (.bin .lss 3 true 21 (zi 3))])
 (.seq (.cond 22
 (.skip)
 (.exit 0))
 (.seq (.block 1
 (.seq (.reg [zm 0 23 21,
 zo 1 24 (.idx 3 none 1 20 21),
 zm 2 6 23,
 zm 3 7 24])
 (.seq (.reg [zf 0 25 0 3,
 zl 1 26 25,
 zm 2 27 6,
 zo 3 28 (.bin .shl 3 true (zi 2) 27),
 zo 4 29 (.bin .and 3 false 26 28),
 zo 5 30 (.bin .neq 3 true 29 (zi 0))])
 (.cond 30
 (.reg [zm 0 31 5,
 zm 1 32 7,
 zo 2 33 (.bslice 1 1 [(.int .i64 0)] [(0,1,32)]),
 zo 3 34 (.append 1 8 31 33),
 zm 4 5 34])
 (.skip)))))
 (.reg [zo 0 35 (.bin .add 3 true 21 (zi 1)),
 zm 1 21 35])))))))
 (.seq (.reg [zm 0 36 5,
 zm 1 2 36])
 (.ret))))),
 [.tmp 2]⟩
theorem p91u : PR Go.Proofs.Tryz.f91 = some v91u:=by kernel_rfl

def v92u : VFun :=
⟨.seq (.reg [zo 0 2 (.mv (.con (.int .u32 0)))])
 (.seq (.reg [zo 0 3 (.mv (.con (.int .u32 1)))])
 (.seq (.seq (.reg [zm 0 6 0,
 zo 1 7 (.len 6),
 zo 2 8 (.mv (zi 0))])
 (.block 0
 (.loop
 (.seq (.reg [zo 0 9 (.bin .lss 3 false 8 7)])
 (.seq (.cond 9
 (.skip)
 (.exit 0))
 (.seq (.block 1
 (.seq (.reg [zo 0 10 (.idxA none 1 6 8),
 zl 1 11 10,
 zm 2 5 11])
 (.reg [zm 0 12 3,
 zo 1 13 (.bin .mul 148 true 12 (.con (.int .u32 16777619))),
 zm 2 14 5,
 zo 3 15 (.conv 5 148 14),
 zo 4 16 (.bin .add 148 false 13 15),
 zm 5 3 16])))
 (.reg [zo 0 17 (.bin .add 3 true 8 (zi 1)),
 zm 1 8 17])))))))
 (.seq (.reg [zm 0 18 3,
 zm 1 2 18])
 (.ret)))),
 [.tmp 2]⟩
theorem p92u : PR Go.Proofs.Tryz.f92 = some v92u:=by kernel_rfl

def v94u : VFun :=
⟨.seq (.reg [zm 0 4 0,
 zo 1 5 (.nilck 4),
 zf 2 6 1 5,
 zl 3 7 6,
 zo 4 8 (.bin .eql 27 true 7 (zi 0))])
 (.cond 8
 (.reg [zm 0 9 0,
 zm 1 10 1,
 zo 2 11 (.nilck 9),
 zf 3 12 1 11,
 zn 4 (.store 1 12 10)])
 (.skip)),
 []⟩
theorem p94u : PR Go.Proofs.Tryz.f94 = some v94u:=by kernel_rfl

def v95u : VFun :=
⟨.seq (.reg [zo 0 2 (.mv (zi 0))])
 (.seq (.reg [zo 0 3 (.mv (.con (.int .u64 0))),
 zo 1 4 (.mv (zi 0))])
 (.seq (.seq (.reg [zm 0 8 0,
 zo 1 9 (.nilck 8),
 zf 2 10 0 9,
 zl 3 11 10,
 zo 4 12 (.len 11),
 zo 5 13 (.mv (zi 0))])
 (.block 0
 (.loop
 (.seq (.reg [zo 0 14 (.bin .lss 3 false 13 12)])
 (.seq (.cond 14
 (.skip)
 (.exit 0))
 (.seq (.block 1
 (.seq (.reg [zm 0 15 13,
 zo 1 16 (.idxA none 1 11 13),
 zl 2 17 16,
 zm 3 5 15,
 zm 4 6 17])
 (.seq (.seq (.reg [zm 0 18 4,
 zo 1 19 (.bin .eql 3 true 18 (zi 63)),
 zm 2 20 19,
 zg 3 21 (.mv 6) 20 true,
 zg 4 22 (.bin .gtr 5 true 21 (.con (.int .u8 1))) 20 true,
 zo 5 23 (.pick 20 22 (.con (.bool false))),
 zm 6 24 23,
 zg 7 25 (.mv 5) 24 false,
 zg 8 26 (.bin .gtr 3 true 25 (zi 0)) 24 false,
 zg 9 27 (.mv 26) 24 false,
 zg 10 28 (.mv 6) 27 true,
 zg 11 29 (.bin .eql 5 true 28 (.con (.int .u8 0))) 27 true,
 zg 12 30 (.pick 27 29 (.con (.bool false))) 24 false,
 zo 13 31 (.pick 24 (.con (.bool true)) 30)])
 (.cond 31
 (.exit 0)
 (.skip)))
 (.seq (.reg [zm 0 32 3,
 zm 1 33 6,
 zo 2 34 (.bin .and 5 true 33 (.con (.int .u8 127))),
 zo 3 35 (.conv 5 146 34),
 zm 4 36 4,
 zo 5 37 (.bin .shl 146 false 35 36),
 zo 6 38 (.bin .or 146 false 32 37),
 zm 7 3 38])
 (.seq (.reg [zm 0 39 4,
 zo 1 40 (.bin .add 3 true 39 (zi 7)),
 zm 2 4 40])
 (.seq (.reg [zm 0 41 6,
 zo 1 42 (.bin .lss 5 true 41 (.con (.int .u8 128)))])
 (.cond 42
 (.seq (.reg [zm 0 43 0,
 zm 1 44 0,
 zo 2 45 (.nilck 44),
 zf 3 46 0 45,
 zl 4 47 46,
 zm 5 48 5,
 zo 6 49 (.bin .add 3 true 48 (zi 1)),
 zo 7 50 (.slice none 1 47 (some 49) none none),
 zo 8 51 (.nilck 43),
 zf 9 52 0 51,
 zn 10 (.store 1 52 50)])
 (.seq (.reg [zm 0 53 3,
 zo 1 54 (.bin .shr 146 true 53 (.con (.int .u64 1))),
 zo 2 55 (.conv 146 2 54),
 zm 3 7 55])
 (.seq (.seq (.reg [zm 0 56 3,
 zo 1 57 (.bin .and 146 true 56 (.con (.int .u64 1))),
 zo 2 58 (.bin .eql 146 true 57 (.con (.int .u64 1)))])
 (.cond 58
 (.reg [zm 0 59 7,
 zo 1 60 (.un .xor 59),
 zm 2 7 60])
 (.skip)))
 (.seq (.reg [zm 0 61 7,
 zm 1 2 61])
 (.ret)))))
 (.skip))))))))
 (.reg [zo 0 62 (.bin .add 3 true 13 (zi 1)),
 zm 1 13 62])))))))
 (.seq (.reg [zm 0 63 0,
 zo 1 64 (.call 94 [63,(zi 4)])])
 (.seq (.reg [zo 0 2 (.mv (zi 0))])
 (.ret))))),
 [.tmp 2]⟩
theorem p95u : PR Go.Proofs.Tryz.f95 = some v95u:=by kernel_rfl

def v97u : VFun :=
⟨.seq (.reg [zo 0 2 (.mv (.con (.string ⟨#[]⟩)))])
 (.seq (.reg [zm 0 3 0,
 zo 1 4 (.call 121 [3,(zi 10)]),
 zm 2 2 4])
 (.ret)),
 [.tmp 2]⟩
theorem p97u : PR Go.Proofs.Tryz.f97 = some v97u:=by kernel_rfl

def v98u : VFun :=
⟨.seq (.reg [zo 0 2 (.mv (.con (.string ⟨#[]⟩)))])
 (.seq (.seq (.reg [zm 0 5 0,
 zo 1 6 (.call 89 [5])])
 (.cond 6
 (.seq (.reg [zo 0 7 (.bslice 1 3 [(.string ⟨#[]⟩)] [(0,1,(.con (.string ⟨#[106,117,109,112]⟩))),(1,1,(.con (.string ⟨#[114,101,116,117,114,110]⟩))),(2,1,(.con (.string ⟨#[116,104,114,111,119]⟩)))]),
 zm 1 8 0,
 zo 2 9 (.bin .sub 3 true 8 (zi 26)),
 zo 3 10 (.idxA none 1 7 9),
 zl 4 11 10,
 zm 5 2 11])
 (.ret))
 (.skip)))
 (.seq (.reg [zm 0 13 0,
 zo 1 14 (.call 122 [13]),
 zm 2 12 14,
 zo 3 15 (.ext 12 0),
 zo 4 16 (.ext 12 1),
 zm 5 3 15,
 zm 6 4 16])
 (.seq (.reg [zm 0 17 3,
 zm 1 2 17])
 (.ret)))),
 [.tmp 2]⟩
theorem p98u : PR Go.Proofs.Tryz.f98 = some v98u:=by kernel_rfl

def v99u : VFun :=
⟨.seq (.reg [zo 0 2 (.mv (.con (.string ⟨#[]⟩)))])
 (.seq (.reg [zm 0 3 0,
 zo 1 4 (.call 123 [3,(zi 10)]),
 zm 2 2 4])
 (.ret)),
 [.tmp 2]⟩
theorem p99u : PR Go.Proofs.Tryz.f99 = some v99u:=by kernel_rfl

def v100u : VFun :=
⟨.seq (.reg [zo 0 4 (.mv (.con (.string ⟨#[]⟩)))])
 (.seq (.seq (.reg [zm 0 11 0,
 zo 1 12 (.len 11)])
 (.block 0
 (.seq (.reg [zo 0 14 (.bin .eql 3 true 12 (zi 0)),
 zm 1 13 14])
 (.cond 13
 (.seq (.reg [zo 0 4 (.mv (.con (.string ⟨#[]⟩)))])
 (.ret))
 (.seq (.reg [zo 0 16 (.bin .eql 3 true 12 (zi 1)),
 zm 1 15 16])
 (.cond 15
 (.seq (.reg [zm 0 17 0,
 zo 1 18 (.idxA none 1 17 (zi 0)),
 zl 2 19 18,
 zm 3 4 19])
 (.ret))
 (.skip)))))))
 (.seq (.reg [zo 0 5 (.mv (zi 0))])
 (.seq (.seq (.reg [zm 0 20 1,
 zo 1 21 (.bi .len [9] 3 [20]),
 zo 2 22 (.bin .gtr 3 true 21 (zi 0))])
 (.cond 22
 (.seq (.seq (.reg [zm 0 23 1,
 zo 1 24 (.bi .len [9] 3 [23]),
 zm 2 25 0,
 zo 3 26 (.len 25),
 zo 4 27 (.bin .sub 3 true 26 (zi 1)),
 zo 5 28 (.bin .quo 3 true (zi 9223372036854775807) 27),
 zo 6 29 (.bin .geq 3 false 24 28)])
 (.cond 29
 (.reg [zo 0 30 (.mkif 9 (.con (.string ⟨#[115,116,114,105,110,103,115,58,32,74,111,105,110,32,111,117,116,112,117,116,32,108,101,110,103,116,104,32,111,118,101,114,102,108,111,119]⟩))),
 zn 1 (.panic 30)])
 (.skip)))
 (.reg [zm 0 31 5,
 zm 1 32 1,
 zo 2 33 (.bi .len [9] 3 [32]),
 zm 3 34 0,
 zo 4 35 (.len 34),
 zo 5 36 (.bin .sub 3 true 35 (zi 1)),
 zo 6 37 (.bin .mul 3 false 33 36),
 zo 7 38 (.bin .add 3 false 31 37),
 zm 8 5 38]))
 (.skip)))
 (.seq (.seq (.reg [zm 0 39 0,
 zo 1 40 (.len 39),
 zo 2 41 (.mv (zi 0))])
 (.block 1
 (.loop
 (.seq (.reg [zo 0 42 (.bin .lss 3 false 41 40)])
 (.seq (.cond 42
 (.skip)
 (.exit 1))
 (.seq (.block 2
 (.seq (.reg [zo 0 43 (.idxA none 1 39 41),
 zl 1 44 43,
 zm 2 7 44])
 (.seq (.seq (.reg [zm 0 45 7,
 zo 1 46 (.bi .len [9] 3 [45]),
 zm 2 47 5,
 zo 3 48 (.bin .sub 3 true (zi 9223372036854775807) 47),
 zo 4 49 (.bin .gtr 3 false 46 48)])
 (.cond 49
 (.reg [zo 0 50 (.mkif 9 (.con (.string ⟨#[115,116,114,105,110,103,115,58,32,74,111,105,110,32,111,117,116,112,117,116,32,108,101,110,103,116,104,32,111,118,101,114,102,108,111,119]⟩))),
 zn 1 (.panic 50)])
 (.skip)))
 (.reg [zm 0 51 5,
 zm 1 52 7,
 zo 2 53 (.bi .len [9] 3 [52]),
 zo 3 54 (.bin .add 3 false 51 53),
 zm 4 5 54]))))
 (.reg [zo 0 55 (.bin .add 3 true 41 (zi 1)),
 zm 1 41 55])))))))
 (.seq (.reg [zo 0 8 (.allocF [(.int .i64 1),(.int .i64 105),(.int .i64 5),(.string ⟨#[]⟩)])])
 (.seq (.reg [zm 0 56 5,
 zo 1 57 (.call 124 [8,56])])
 (.seq (.reg [zm 0 58 0,
 zo 1 59 (.idxA none 1 58 (zi 0)),
 zl 2 60 59,
 zo 3 61 (.call 59 [8,60])])
 (.seq (.seq (.reg [zm 0 62 0,
 zo 1 63 (.slice none 1 62 (some (zi 1)) none none),
 zo 2 64 (.len 63),
 zo 3 65 (.mv (zi 0))])
 (.block 3
 (.loop
 (.seq (.reg [zo 0 66 (.bin .lss 3 false 65 64)])
 (.seq (.cond 66
 (.skip)
 (.exit 3))
 (.seq (.block 4
 (.seq (.reg [zo 0 67 (.idxA none 1 63 65),
 zl 1 68 67,
 zm 2 10 68])
 (.seq (.reg [zm 0 69 1,
 zo 1 70 (.call 59 [8,69])])
 (.reg [zm 0 71 10,
 zo 1 72 (.call 59 [8,71])]))))
 (.reg [zo 0 73 (.bin .add 3 true 65 (zi 1)),
 zm 1 65 73])))))))
 (.seq (.reg [zo 0 74 (.call 62 [8]),
 zm 1 4 74])
 (.ret)))))))))),
 [.tmp 4]⟩
theorem p100u : PR Go.Proofs.Tryz.f100 = some v100u:=by kernel_rfl

def v103u : VFun :=
⟨.seq (.reg [zo 0 6 (.mv (.con (.bool false)))])
 (.seq (.reg [zm 0 12 0,
 zo 1 13 (.nilck 12),
 zf 2 14 0 13,
 zl 3 15 14,
 zo 4 16 (.call 125 [15,(.con (.string ⟨#[10]⟩))]),
 zm 5 11 16,
 zo 6 17 (.ext 11 0),
 zo 7 18 (.ext 11 1),
 zo 8 19 (.ext 11 2),
 zm 9 7 17,
 zm 10 8 18,
 zm 11 9 19])
 (.seq (.reg [zm 0 20 7,
 zo 1 21 (.call 126 [20,(.con (.string ⟨#[32]⟩))]),
 zm 2 10 21])
 (.seq (.seq (.reg [zm 0 22 9,
 zo 1 23 (.un .not 22),
 zm 2 24 23,
 zg 3 25 (.mv 10) 24 false,
 zg 4 26 (.idxA none 1 25 (zi 0)) 24 false,
 zg 5 27 (.load none 26) 24 false,
 zg 6 28 (.mv 1) 24 false,
 zg 7 29 (.bin .neq 9 false 27 28) 24 false,
 zo 8 30 (.pick 24 (.con (.bool true)) 29),
 zm 9 31 30,
 zg 10 32 (.mv 10) 31 false,
 zg 11 33 (.slice none 1 32 (some (zi 1)) none none) 31 false,
 zg 12 34 (.mv 2) 31 false,
 zg 13 35 (.call 127 [33,34]) 31 false,
 zg 14 36 (.un .not 35) 31 false,
 zo 15 37 (.pick 31 (.con (.bool true)) 36)])
 (.cond 37
 (.seq (.reg [zo 0 6 (.mv (.con (.bool false)))])
 (.ret))
 (.skip)))
 (.seq (.reg [zm 0 38 0,
 zm 1 39 0,
 zm 2 40 8,
 zm 3 41 0,
 zo 4 42 (.nilck 41),
 zf 5 43 1 42,
 zl 6 44 43,
 zo 7 45 (.bin .add 3 true 44 (zi 1)),
 zo 8 46 (.nilck 38),
 zf 9 47 0 46,
 zn 10 (.store 1 47 40),
 zo 11 48 (.nilck 39),
 zf 12 49 1 48,
 zn 13 (.store 1 49 45)])
 (.seq (.reg [zo 0 6 (.mv (.con (.bool true)))])
 (.ret)))))),
 [.tmp 6]⟩
theorem p103u : PR Go.Proofs.Tryz.f103 = some v103u:=by kernel_rfl

def v104u : VFun :=
⟨.seq (.reg [zo 0 2 (.alloc [(.int .i64 0),(.int .i64 0),(.int .i64 0),(.int .i64 0),(.int .i64 0),(.int .i64 0),(.int .i64 0)]),
 zo 1 3 (.mv (.con (.bool false)))])
 (.seq (.reg [zm 0 10 0,
 zo 1 11 (.nilck 10),
 zf 2 12 0 11,
 zl 3 13 12,
 zo 4 14 (.call 125 [13,(.con (.string ⟨#[10]⟩))]),
 zm 5 9 14,
 zo 6 15 (.ext 9 0),
 zo 7 16 (.ext 9 1),
 zo 8 17 (.ext 9 2),
 zm 9 4 15,
 zm 10 5 16,
 zm 11 6 17])
 (.seq (.reg [zm 0 19 4,
 zo 1 20 (.call 128 [19,(.con (.string ⟨#[32,32]⟩))]),
 zm 2 18 20,
 zo 3 21 (.ext 18 0),
 zo 4 22 (.ext 18 1),
 zm 5 4 21,
 zm 6 7 22])
 (.seq (.seq (.reg [zm 0 23 6,
 zo 1 24 (.un .not 23),
 zm 2 25 24,
 zg 3 26 (.mv 7) 25 false,
 zg 4 27 (.un .not 26) 25 false,
 zo 5 28 (.pick 25 (.con (.bool true)) 27)])
 (.cond 28
 (.seq (.reg [zo 0 29 (.build [(.int .i64 0),(.int .i64 0),(.int .i64 0),(.int .i64 0),(.int .i64 0),(.int .i64 0),(.int .i64 0)] []),
 zn 1 (.store 7 2 29),
 zo 2 3 (.mv (.con (.bool false)))])
 (.ret))
 (.skip)))
 (.seq (.reg [zm 0 31 4,
 zo 1 32 (.call 129 [31]),
 zm 2 30 32,
 zo 3 33 (.ext 30 0),
 zo 4 34 (.ext 30 1),
 zo 5 8 (.alloc [(.int .i64 0),(.int .i64 0),(.int .i64 0),(.int .i64 0),(.int .i64 0),(.int .i64 0),(.int .i64 0)]),
 zn 6 (.store 7 8 33),
 zm 7 6 34])
 (.seq (.seq (.reg [zm 0 35 6])
 (.cond 35
 (.reg [zm 0 36 0,
 zm 1 37 0,
 zm 2 38 5,
 zm 3 39 0,
 zo 4 40 (.nilck 39),
 zf 5 41 1 40,
 zl 6 42 41,
 zo 7 43 (.bin .add 3 true 42 (zi 1)),
 zo 8 44 (.nilck 36),
 zf 9 45 0 44,
 zn 10 (.store 1 45 38),
 zo 11 46 (.nilck 37),
 zf 12 47 1 46,
 zn 13 (.store 1 47 43)])
 (.skip)))
 (.seq (.reg [zo 0 48 (.load (some 7) 8),
 zm 1 49 6,
 zn 2 (.store 7 2 48),
 zm 3 3 49])
 (.ret))))))),
 [.cell 2 (some 7),.tmp 3]⟩
theorem p104u : PR Go.Proofs.Tryz.f104 = some v104u:=by kernel_rfl

def v_slices_Repeat_Block : VFun :=
⟨.seq (.reg [zo 0 4 (.mv (.con (.slice none 0 0)))])
 (.seq (.seq (.reg [zm 0 9 1,
 zo 1 10 (.bin .lss 3 true (.tmp 9) (zi 0))])
 (.cond (.tmp 10)
 (.reg [zo 0 11 (.mkif 9 (.con (.string ⟨#[99,97,110,110,111,116,32,98,101,32,110,101,103,97,116,105,118,101]⟩))),
 zn 1 (.panic (.tmp 11))])
 (.skip)))
 (.seq (.reg [zm 0 13 0,
 zo 1 14 (.len (.tmp 13)),
 zo 2 15 (.conv 3 147 (.tmp 14)),
 zm 3 16 1,
 zo 4 17 (.conv 3 147 (.tmp 16)),
 zo 5 18 (.call 134 [(.tmp 15),(.tmp 17)]),
 zm 6 12 18,
 zo 7 19 (.ext (.tmp 12) 0),
 zo 8 20 (.ext (.tmp 12) 1),
 zm 9 5 19,
 zm 10 6 20])
 (.seq (.seq (.reg [zm 0 21 5,
 zo 1 22 (.bin .gtr 147 true (.tmp 21) (.con (.int .u64 0))),
 zm 2 23 22,
 zg 3 24 (.mv (.tmp 6)) 23 false,
 zg 4 25 (.bin .gtr 147 true (.tmp 24) (.con (.int .u64 9223372036854775807))) 23 false,
 zo 5 26 (.pick (.tmp 23) (.con (.bool true)) (.tmp 25))])
 (.cond (.tmp 26)
 (.reg [zo 0 27 (.mkif 9 (.con (.string ⟨#[116,104,101,32,114,101,115,117,108,116,32,111,102,32,40,108,101,110,40,120,41,32,42,32,99,111,117,110,116,41,32,111,118,101,114,102,108,111,119,115]⟩))),
 zn 1 (.panic (.tmp 27))])
 (.skip)))
 (.seq (.reg [zm 0 28 6,
 zo 1 29 (.conv 147 3 (.tmp 28)),
 zo 2 30 (.mksl 6 64 [(.slice none 0 0),(.int .i64 0),(.int .i64 0),(.int .i64 0),(.int .i64 0),(.int .i64 0)] (.tmp 29) (.tmp 29)),
 zm 3 7 30])
 (.seq (.reg [zm 0 31 7,
 zm 1 32 0,
 zo 2 33 (.copy 6 (.tmp 31) (.tmp 32)),
 zm 3 8 33])
 (.seq (.block 0
 (.loop
 (.seq (.seq (.reg [zm 0 34 8,
 zm 1 35 7,
 zo 2 36 (.len (.tmp 35)),
 zo 3 37 (.bin .lss 3 false (.tmp 34) (.tmp 36))])
 (.cond (.tmp 37)
 (.skip)
 (.exit 0)))
 (.block 1
 (.reg [zm 0 38 8,
 zm 1 39 7,
 zm 2 40 8,
 zo 3 41 (.slice none 6 (.tmp 39) (some (.tmp 40)) none none),
 zm 4 42 7,
 zm 5 43 8,
 zo 6 44 (.slice none 6 (.tmp 42) none (some (.tmp 43)) none),
 zo 7 45 (.copy 6 (.tmp 41) (.tmp 44)),
 zo 8 46 (.bin .add 3 false (.tmp 38) (.tmp 45)),
 zm 9 8 46])))))
 (.seq (.reg [zm 0 47 7,
 zm 1 4 47])
 (.ret)))))))),
 [.tmp 4]⟩
theorem p_slices_Repeat_Block : PR Go.Proofs.Tryz.f108 = some v_slices_Repeat_Block:=by kernel_rfl

def v_words_own : VFun :=
⟨.seq (.reg [zo 0 2 (.box (.tmp 0)),
 zo 1 3 (.box (.tmp 1)),
 zo 2 4 (.mv (zi 0))])
 (.seq (.reg [zo 0 6 (.bslice 1 0 [(.int .i64 0)] []),
 zm 1 5 6])
 (.seq (.seq (.reg [zf 0 7 6 3,
 zl 1 8 7,
 zo 2 9 (.bin .neq 3 true (.tmp 8) (zi (-1)))])
 (.cond (.tmp 9)
 (.reg [zm 0 10 5,
 zf 1 11 6 3,
 zl 2 12 11,
 zo 3 13 (.bslice 1 1 [(.int .i64 0)] [(0,1,(.tmp 12))]),
 zo 4 14 (.append 1 8 (.tmp 10) (.tmp 13)),
 zm 5 5 14])
 (.skip)))
 (.seq (.seq (.reg [zf 0 15 0 3,
 zl 1 16 15,
 zo 2 17 (.bin .neq 3 true (.tmp 16) (zi 26))])
 (.cond (.tmp 17)
 (.reg [zm 0 18 5,
 zf 1 19 2 3,
 zl 2 20 19,
 zo 3 21 (.bslice 1 1 [(.int .i64 0)] [(0,1,(.tmp 20))]),
 zo 4 22 (.append 1 8 (.tmp 18) (.tmp 21)),
 zm 5 5 22])
 (.skip)))
 (.seq (.seq (.reg [zm 0 23 5,
 zo 1 24 (.mkfn 136 [] [(.tmp 2)]),
 zo 2 25 (.call 135 [(.tmp 23),(.tmp 24)])])
 (.cond (.tmp 25)
 (.seq (.reg [zo 0 4 (.mv (zi 2))])
 (.ret))
 (.skip)))
 (.seq (.seq (.reg [zf 0 26 0 3,
 zl 1 27 26,
 zo 2 28 (.bin .eql 3 true (.tmp 27) (zi 26)),
 zm 3 29 28,
 zg 4 30 (.fieldA 5 (.tmp 3)) 29 true,
 zg 5 31 (.load none (.tmp 30)) 29 true,
 zg 6 32 (.bin .lss 2 true (.tmp 31) (zi 0)) 29 true,
 zg 7 33 (.mv (.tmp 32)) 29 true,
 zg 8 34 (.fieldA 5 (.tmp 3)) 33 false,
 zg 9 35 (.load none (.tmp 34)) 33 false,
 zg 10 36 (.fieldA 5 (.tmp 2)) 33 false,
 zg 11 37 (.load none (.tmp 36)) 33 false,
 zg 12 38 (.len (.tmp 37)) 33 false,
 zg 13 39 (.bin .geq 2 false (.tmp 35) (.tmp 38)) 33 false,
 zg 14 40 (.pick (.tmp 33) (.con (.bool true)) (.tmp 39)) 29 true,
 zo 15 41 (.pick (.tmp 29) (.tmp 40) (.con (.bool false)))])
 (.cond (.tmp 41)
 (.seq (.reg [zo 0 4 (.mv (zi 5))])
 (.ret))
 (.skip)))
 (.seq (.seq (.reg [zf 0 42 1 3,
 zl 1 43 42,
 zo 2 44 (.bin .neq 3 true (.tmp 43) (zi 0)),
 zm 3 45 44,
 zg 4 46 (.fieldA 3 (.tmp 3)) 45 false,
 zg 5 47 (.load none (.tmp 46)) 45 false,
 zg 6 48 (.bin .neq 3 true (.tmp 47) (zi 0)) 45 false,
 zo 7 49 (.pick (.tmp 45) (.con (.bool true)) (.tmp 48)),
 zm 8 50 49,
 zg 9 51 (.fieldA 4 (.tmp 3)) 50 false,
 zg 10 52 (.load none (.tmp 51)) 50 false,
 zg 11 53 (.bin .neq 3 true (.tmp 52) (zi 0)) 50 false,
 zo 12 54 (.pick (.tmp 50) (.con (.bool true)) (.tmp 53)),
 zm 13 55 54,
 zg 14 56 (.fieldA 0 (.tmp 3)) 55 false,
 zg 15 57 (.load none (.tmp 56)) 55 false,
 zg 16 58 (.bin .eql 3 true (.tmp 57) (zi 26)) 55 false,
 zg 17 59 (.mv (.tmp 58)) 55 false,
 zg 18 60 (.fieldA 2 (.tmp 3)) 59 true,
 zg 19 61 (.load none (.tmp 60)) 59 true,
 zg 20 62 (.bin .neq 3 true (.tmp 61) (zi 0)) 59 true,
 zg 21 63 (.pick (.tmp 59) (.tmp 62) (.con (.bool false))) 55 false,
 zo 22 64 (.pick (.tmp 55) (.con (.bool true)) (.tmp 63)),
 zm 23 65 64,
 zg 24 66 (.fieldA 0 (.tmp 3)) 65 false,
 zg 25 67 (.load none (.tmp 66)) 65 false,
 zg 26 68 (.bin .neq 3 true (.tmp 67) (zi 26)) 65 false,
 zg 27 69 (.mv (.tmp 68)) 65 false,
 zg 28 70 (.fieldA 5 (.tmp 3)) 69 true,
 zg 29 71 (.load none (.tmp 70)) 69 true,
 zg 30 72 (.bin .neq 2 true (.tmp 71) (zi 0)) 69 true,
 zg 31 73 (.pick (.tmp 69) (.tmp 72) (.con (.bool false))) 65 false,
 zo 32 74 (.pick (.tmp 65) (.con (.bool true)) (.tmp 73))])
 (.cond (.tmp 74)
 (.seq (.reg [zo 0 4 (.mv (zi 4))])
 (.ret))
 (.skip)))
 (.seq (.reg [zo 0 4 (.mv (zi 0))])
 (.ret)))))))),
 [.tmp 4]⟩
theorem p_words_own : PR Go.Proofs.Tryz.f109 = some v_words_own:=by kernel_rfl

end Go.VX.Seat
end
section
set_option maxRecDepth 20000
namespace Go.VX.Seat
def v_slices_IndexFunc_Op : VFun :=
⟨.seq (.reg [zo 0 4 (.mv (zi 0))])
 (.seq (.seq (.reg [zm 0 6 0,
 zo 1 7 (.len (.tmp 6)),
 zo 2 8 (.mv (zi 0))])
 (.block 0
 (.loop
 (.seq (.reg [zo 0 9 (.bin .lss 3 false (.tmp 8) (.tmp 7))])
 (.seq (.cond (.tmp 9)
 (.skip)
 (.exit 0))
 (.seq (.block 1
 (.seq (.reg [zm 0 10 8,
 zm 1 5 10])
 (.seq (.reg [zm 0 11 1,
 zm 1 12 0,
 zm 2 13 5,
 zo 3 14 (.idxA none 7 (.tmp 12) (.tmp 13)),
 zo 4 15 (.load (some 7) (.tmp 14)),
 zo 5 16 (.callv (.tmp 11) [(.tmp 15)])])
 (.cond (.tmp 16)
 (.seq (.reg [zm 0 17 5,
 zm 1 4 17])
 (.ret))
 (.skip)))))
 (.reg [zo 0 18 (.bin .add 3 true (.tmp 8) (zi 1)),
 zm 1 8 18])))))))
 (.seq (.reg [zo 0 4 (.mv (zi (-1)))])
 (.ret))),
 [.tmp 4]⟩
theorem p_slices_IndexFunc_Op : PR Go.Proofs.Tryz.f110 = some v_slices_IndexFunc_Op:=by kernel_rfl

def v_words_MayTrap : VFun :=
⟨.seq (.reg [zo 0 1 (.box (.tmp 0)),
 zo 1 2 (.mv (.con (.bool false)))])
 (.seq (.seq (.reg [zf 0 3 0 1,
 zl 1 4 3])
 (.block 0
 (.seq (.seq (.reg [zo 0 6 (.bin .eql 3 true (.tmp 4) (zi 14)),
 zm 1 5 6])
 (.cond (.tmp 5)
 (.skip)
 (.seq (.reg [zo 0 7 (.bin .eql 3 true (.tmp 4) (zi 15)),
 zm 1 5 7])
 (.cond (.tmp 5)
 (.skip)
 (.seq (.reg [zo 0 8 (.bin .eql 3 true (.tmp 4) (zi 16)),
 zm 1 5 8])
 (.cond (.tmp 5)
 (.skip)
 (.seq (.reg [zo 0 9 (.bin .eql 3 true (.tmp 4) (zi 17)),
 zm 1 5 9])
 (.cond (.tmp 5)
 (.skip)
 (.seq (.reg [zo 0 10 (.bin .eql 3 true (.tmp 4) (zi 20)),
 zm 1 5 10])
 (.cond (.tmp 5)
 (.skip)
 (.seq (.reg [zo 0 11 (.bin .eql 3 true (.tmp 4) (zi 21)),
 zm 1 5 11])
 (.cond (.tmp 5)
 (.skip)
 (.seq (.reg [zo 0 12 (.bin .eql 3 true (.tmp 4) (zi 22)),
 zm 1 5 12])
 (.cond (.tmp 5)
 (.skip)
 (.seq (.reg [zo 0 13 (.bin .eql 3 true (.tmp 4) (zi 27)),
 zm 1 5 13])
 (.cond (.tmp 5)
 (.skip)
 (.reg [zo 0 14 (.bin .eql 3 true (.tmp 4) (zi 28)),
 zm 1 5 14])))))))))))))))))
 (.cond (.tmp 5)
 (.seq (.reg [zo 0 2 (.mv (.con (.bool true)))])
 (.ret))
 (.skip)))))
 (.seq (.reg [zf 0 15 6 1,
 zl 1 16 15,
 zo 2 17 (.bin .neq 3 true (.tmp 16) (zi (-1))),
 zm 3 2 17])
 (.ret))),
 [.tmp 2]⟩
theorem p_words_MayTrap : PR Go.Proofs.Tryz.f116 = some v_words_MayTrap:=by kernel_rfl

def v117u : VFun :=
⟨.seq (.reg [zo 0 8 (.mv (.con (.bool true)))])
 (.seq (.reg [zo 0 9 (.mv (.con (.bool true)))])
 (.block 0
 (.loop
 (.block 1
 (.seq (.reg [zm 0 19 2,
 zm 1 20 1,
 zo 2 21 (.bin .sub 3 false 19 20),
 zm 3 10 21])
 (.seq (.seq (.reg [zm 0 22 10,
 zo 1 23 (.bin .leq 3 true 22 (zi 12))])
 (.cond 23
 (.seq (.reg [zm 0 24 0,
 zm 1 25 1,
 zm 2 26 2,
 zo 3 27 (.call 141 [24,25,26])])
 (.ret))
 (.skip)))
 (.seq (.seq (.reg [zm 0 28 3,
 zo 1 29 (.bin .eql 3 true 28 (zi 0))])
 (.cond 29
 (.seq (.reg [zm 0 30 0,
 zm 1 31 1,
 zm 2 32 2,
 zo 3 33 (.call 142 [30,31,32])])
 (.ret))
 (.skip)))
 (.seq (.seq (.reg [zm 0 34 8,
 zo 1 35 (.un .not 34)])
 (.cond 35
 (.seq (.reg [zm 0 36 0,
 zm 1 37 1,
 zm 2 38 2,
 zo 3 39 (.call 143 [36,37,38])])
 (.reg [zm 0 40 3,
 zo 1 41 (.bin .sub 3 true 40 (zi 1)),
 zm 2 3 41]))
 (.skip)))
 (.seq (.reg [zm 0 43 0,
 zm 1 44 1,
 zm 2 45 2,
 zo 3 46 (.call 144 [43,44,45]),
 zm 4 42 46,
 zo 5 47 (.ext 42 0),
 zo 6 48 (.ext 42 1),
 zm 7 11 47,
 zm 8 12 48])
 (.seq (.seq (.reg [zm 0 49 12,
 zo 1 50 (.bin .eql 214 true 49 (zi 2))])
 (.cond 50
 (.seq (.reg [zm 0 51 0,
 zm 1 52 1,
 zm 2 53 2,
 zo 3 54 (.call 145 [51,52,53])])
 (.seq (.reg [zm 0 55 2,
 zo 1 56 (.bin .sub 3 true 55 (zi 1)),
 zm 2 57 11,
 zm 3 58 1,
 zo 4 59 (.bin .sub 3 false 57 58),
 zo 5 60 (.bin .sub 3 false 56 59),
 zm 6 11 60])
 (.reg [zo 0 12 (.mv (zi 1))])))
 (.skip)))
 (.seq (.seq (.reg [zm 0 61 8,
 zm 1 62 61,
 zg 2 63 (.mv 9) 62 true,
 zo 3 64 (.pick 62 63 (.con (.bool false))),
 zm 4 65 64,
 zg 5 66 (.mv 12) 65 true,
 zg 6 67 (.bin .eql 214 true 66 (zi 1)) 65 true,
 zo 7 68 (.pick 65 67 (.con (.bool false)))])
 (.cond 68
 (.seq (.reg [zm 0 69 0,
 zm 1 70 1,
 zm 2 71 2,
 zo 3 72 (.call 146 [69,70,71])])
 (.cond 72
 (.ret)
 (.skip)))
 (.skip)))
 (.seq (.seq (.reg [zm 0 73 1,
 zo 1 74 (.bin .gtr 3 true 73 (zi 0)),
 zm 2 75 74,
 zg 3 76 (.mv 0) 75 true,
 zg 4 77 (.mv 1) 75 true,
 zg 5 78 (.bin .sub 3 true 77 (zi 1)) 75 true,
 zg 6 79 (.idxA none 1 76 78) 75 true,
 zg 7 80 (.load none 79) 75 true,
 zg 8 81 (.mv 0) 75 true,
 zg 9 82 (.mv 11) 75 true,
 zg 10 83 (.idxA none 1 81 82) 75 true,
 zg 11 84 (.load none 83) 75 true,
 zg 12 85 (.call 147 [80,84]) 75 true,
 zg 13 86 (.un .not 85) 75 true,
 zo 14 87 (.pick 75 86 (.con (.bool false)))])
 (.cond 87
 (.seq (.reg [zm 0 88 0,
 zm 1 89 1,
 zm 2 90 2,
 zm 3 91 11,
 zo 4 92 (.call 148 [88,89,90,91]),
 zm 5 13 92])
 (.seq (.reg [zm 0 93 13,
 zm 1 1 93])
 (.exit 1)))
 (.skip)))
 (.seq (.reg [zm 0 95 0,
 zm 1 96 1,
 zm 2 97 2,
 zm 3 98 11,
 zo 4 99 (.call 149 [95,96,97,98]),
 zm 5 94 99,
 zo 6 100 (.ext 94 0),
 zo 7 101 (.ext 94 1),
 zm 8 14 100,
 zm 9 15 101])
 (.seq (.reg [zm 0 102 15,
 zm 1 9 102])
 (.seq (.reg [zm 0 103 14,
 zm 1 104 1,
 zo 2 105 (.bin .sub 3 false 103 104),
 zm 3 106 2,
 zm 4 107 14,
 zo 5 108 (.bin .sub 3 false 106 107),
 zm 6 16 105,
 zm 7 17 108])
 (.seq (.reg [zm 0 109 10,
 zo 1 110 (.bin .quo 3 true 109 (zi 8)),
 zm 2 18 110])
 (.seq (.reg [zm 0 111 16,
 zm 1 112 17,
 zo 2 113 (.bin .lss 3 false 111 112)])
 (.cond 113
 (.seq (.reg [zm 0 114 16,
 zm 1 115 18,
 zo 2 116 (.bin .geq 3 false 114 115),
 zm 3 8 116])
 (.seq (.reg [zm 0 117 0,
 zm 1 118 1,
 zm 2 119 14,
 zm 3 120 3,
 zo 4 121 (.call 117 [117,118,119,120])])
 (.reg [zm 0 122 14,
 zo 1 123 (.bin .add 3 true 122 (zi 1)),
 zm 2 1 123])))
 (.seq (.reg [zm 0 124 17,
 zm 1 125 18,
 zo 2 126 (.bin .geq 3 false 124 125),
 zm 3 8 126])
 (.seq (.reg [zm 0 127 0,
 zm 1 128 14,
 zo 2 129 (.bin .add 3 true 128 (zi 1)),
 zm 3 130 2,
 zm 4 131 3,
 zo 5 132 (.call 117 [127,129,130,131])])
 (.reg [zm 0 133 14,
 zm 1 2 133]))))))))))))))))))))),
 []⟩
theorem p117u : PR Go.Proofs.Tryz.f117 = some v117u:=by kernel_rfl

def v118u : VFun :=
⟨.seq (.reg [zo 0 2 (.mv (zi 0))])
 (.seq (.cond (.con (.bool false))
 (.seq (.reg [zm 0 3 0,
 zo 1 4 (.conv 147 148 3),
 zo 2 5 (.call 150 [4]),
 zm 3 2 5])
 (.ret))
 (.skip))
 (.seq (.reg [zm 0 6 0,
 zo 1 7 (.call 151 [6]),
 zm 2 2 7])
 (.ret))),
 [.tmp 2]⟩
theorem p118u : PR Go.Proofs.Tryz.f118 = some v118u:=by kernel_rfl

def v_code_of : VFun :=
⟨.seq (.reg [zo 0 2 (.alloc [(.int .i64 0),(.int .i64 0),(.string ⟨#[]⟩)]),
 zo 1 3 (.mv (.con (.bool false)))])
 (.seq (.seq (.reg [zm 0 4 0,
 zo 1 5 (.bin .lss 3 true (.tmp 4) (zi 1)),
 zm 2 6 5,
 zg 3 7 (.mv (.tmp 0)) 6 false,
 zg 4 8 (.bin .gtr 3 true (.tmp 7) (zi 25)) 6 false,
 zo 5 9 (.pick (.tmp 6) (.con (.bool true)) (.tmp 8))])
 (.cond (.tmp 9)
 (.seq (.reg [zo 0 10 (.build [(.int .i64 0),(.int .i64 0),(.string ⟨#[]⟩)] []),
 zn 1 (.store 3 (.tmp 2) (.tmp 10)),
 zo 2 3 (.mv (.con (.bool false)))])
 (.ret))
 (.skip)))
 (.seq (.reg [zm 0 11 0,
 zo 1 12 (.bin .sub 3 true (.tmp 11) (zi 1)),
 zo 2 13 (.idxA (some 25) 3 (.glo 0) (.tmp 12)),
 zo 3 14 (.load (some 3) (.tmp 13)),
 zn 4 (.store 3 (.tmp 2) (.tmp 14)),
 zo 5 3 (.mv (.con (.bool true)))])
 (.ret))),
 [.cell 2 (some 3),.tmp 3]⟩
theorem p_code_of : PR Go.Proofs.Tryz.f119 = some v_code_of:=by kernel_rfl

def v121u : VFun :=
⟨.seq (.reg [zo 0 4 (.mv (.con (.string ⟨#[]⟩)))])
 (.seq (.seq (.reg [zm 0 10 1,
 zo 1 11 (.bin .eql 3 true 10 (zi 10))])
 (.cond 11
 (.seq (.seq (.reg [zm 0 12 0,
 zo 1 13 (.bin .leq 2 true (zi 0) 12),
 zm 2 14 13,
 zg 3 15 (.mv 0) 14 true,
 zg 4 16 (.bin .lss 2 true 15 (zi 100)) 14 true,
 zo 5 17 (.pick 14 16 (.con (.bool false)))])
 (.cond 17
 (.seq (.reg [zm 0 18 0,
 zo 1 19 (.call 152 [18]),
 zm 2 4 19])
 (.ret))
 (.skip)))
 (.seq (.reg [zo 0 5 (.alloc [(.int .u8 0),(.int .u8 0),(.int .u8 0),(.int .u8 0),(.int .u8 0),(.int .u8 0),(.int .u8 0),(.int .u8 0),(.int .u8 0),(.int .u8 0),(.int .u8 0),(.int .u8 0),(.int .u8 0),(.int .u8 0),(.int .u8 0),(.int .u8 0),(.int .u8 0),(.int .u8 0),(.int .u8 0),(.int .u8 0),(.int .u8 0),(.int .u8 0),(.int .u8 0),(.int .u8 0)])])
 (.seq (.reg [zm 0 20 0,
 zo 1 21 (.conv 2 146 20),
 zm 2 6 21])
 (.seq (.seq (.reg [zm 0 22 0,
 zo 1 23 (.bin .lss 2 true 22 (zi 0))])
 (.cond 23
 (.reg [zm 0 24 6,
 zo 1 25 (.un .neg 24),
 zm 2 6 25])
 (.skip)))
 (.seq (.reg [zm 0 26 6,
 zo 1 27 (.call 153 [26]),
 zm 2 7 27])
 (.seq (.reg [zm 0 28 7,
 zo 1 29 (.bin .add 3 true (zi 1) 28),
 zo 2 30 (.slice (some 24) 1 5 (some (zi 1)) (some 29) none),
 zm 3 31 6,
 zo 4 32 (.call 154 [30,31])])
 (.seq (.seq (.reg [zm 0 33 0,
 zo 1 34 (.bin .lss 2 true 33 (zi 0))])
 (.cond 34
 (.seq (.reg [zo 0 35 (.idxA (some 24) 1 5 (zi 0)),
 zn 1 (.store 1 35 (.con (.int .u8 45)))])
 (.seq (.reg [zm 0 36 7,
 zo 1 37 (.bin .add 3 true (zi 1) 36),
 zo 2 38 (.slice (some 24) 1 5 none (some 37) none),
 zo 3 39 (.b2s 38),
 zm 4 4 39])
 (.ret)))
 (.skip)))
 (.seq (.reg [zm 0 40 7,
 zo 1 41 (.bin .add 3 true (zi 1) 40),
 zo 2 42 (.slice (some 24) 1 5 (some (zi 1)) (some 41) none),
 zo 3 43 (.b2s 42),
 zm 4 4 43])
 (.ret)))))))))
 (.skip)))
 (.seq (.reg [zm 0 45 0,
 zo 1 46 (.conv 2 146 45),
 zm 2 47 1,
 zm 3 48 0,
 zo 4 49 (.bin .lss 2 true 48 (zi 0)),
 zo 5 50 (.call 155 [(.con (.slice none 0 0)),46,47,49,(.con (.bool false))]),
 zm 6 44 50,
 zo 7 51 (.ext 44 0),
 zo 8 52 (.ext 44 1),
 zm 9 8 51,
 zm 10 9 52])
 (.seq (.reg [zm 0 53 9,
 zm 1 4 53])
 (.ret)))),
 [.tmp 4]⟩
theorem p121u : PR Go.Proofs.Tryz.f121 = some v121u:=by kernel_rfl

def v122u : VFun :=
⟨.seq (.reg [zo 0 2 (.mv (.con (.string ⟨#[]⟩))),
 zo 1 3 (.mv (zi 0))])
 (.seq (.reg [zm 0 7 0,
 zo 1 8 (.call 119 [7]),
 zm 2 6 8,
 zo 3 9 (.ext 6 0),
 zo 4 10 (.ext 6 1),
 zo 5 4 (.alloc [(.int .i64 0),(.int .i64 0),(.string ⟨#[]⟩)]),
 zn 6 (.store 3 4 9),
 zm 7 5 10])
 (.seq (.seq (.reg [zm 0 11 5,
 zo 1 12 (.un .not 11)])
 (.cond 12
 (.seq (.reg [zo 0 2 (.mv (.con (.string ⟨#[]⟩))),
 zo 1 3 (.mv (zi 4))])
 (.ret))
 (.skip)))
 (.seq (.reg [zf 0 13 2 4,
 zl 1 14 13,
 zm 2 2 14,
 zo 3 3 (.mv (zi 0))])
 (.ret)))),
 [.tmp 2,.tmp 3]⟩
theorem p122u : PR Go.Proofs.Tryz.f122 = some v122u:=by kernel_rfl

def v123u : VFun :=
⟨.seq (.reg [zo 0 4 (.mv (.con (.string ⟨#[]⟩)))])
 (.seq (.reg [zm 0 5 0,
 zm 1 6 1,
 zo 2 7 (.call 121 [5,6]),
 zm 3 4 7])
 (.ret)),
 [.tmp 4]⟩
theorem p123u : PR Go.Proofs.Tryz.f123 = some v123u:=by kernel_rfl

def v125u : VFun :=
⟨.seq (.reg [zo 0 4 (.mv (.con (.string ⟨#[]⟩))),
 zo 1 5 (.mv (.con (.string ⟨#[]⟩))),
 zo 2 6 (.mv (.con (.bool false)))])
 (.seq (.reg [zm 0 7 0,
 zm 1 8 1,
 zo 2 9 (.call 157 [7,8]),
 zo 3 10 (.ext 9 0),
 zo 4 11 (.ext 9 1),
 zo 5 12 (.ext 9 2),
 zm 6 4 10,
 zm 7 5 11,
 zm 8 6 12])
 (.ret)),
 [.tmp 4,.tmp 5,.tmp 6]⟩
theorem p125u : PR Go.Proofs.Tryz.f125 = some v125u:=by kernel_rfl

def v126u : VFun :=
⟨.seq (.reg [zo 0 4 (.mv (.con (.slice none 0 0)))])
 (.seq (.reg [zm 0 5 0,
 zm 1 6 1,
 zo 2 7 (.call 158 [5,6,(zi 0),(zi (-1))]),
 zm 3 4 7])
 (.ret)),
 [.tmp 4]⟩
theorem p126u : PR Go.Proofs.Tryz.f126 = some v126u:=by kernel_rfl

def v127u : VFun :=
⟨.seq (.reg [zo 0 4 (.mv (.con (.bool false)))])
 (.seq (.seq (.reg [zm 0 9 0,
 zo 1 10 (.len 9),
 zm 2 11 1,
 zo 3 12 (.len 11),
 zo 4 13 (.bin .neq 3 false 10 12)])
 (.cond 13
 (.seq (.reg [zo 0 4 (.mv (.con (.bool false)))])
 (.ret))
 (.skip)))
 (.seq (.seq (.reg [zm 0 14 0,
 zo 1 15 (.len 14),
 zo 2 16 (.mv (zi 0))])
 (.block 0
 (.loop
 (.seq (.reg [zo 0 17 (.bin .lss 3 false 16 15)])
 (.seq (.cond 17
 (.skip)
 (.exit 0))
 (.seq (.block 1
 (.seq (.reg [zm 0 18 16,
 zo 1 19 (.idxA none 1 14 16),
 zl 2 20 19,
 zm 3 5 18,
 zm 4 6 20])
 (.seq (.reg [zm 0 22 6,
 zo 1 23 (.call 159 [22]),
 zm 2 21 23,
 zo 3 24 (.ext 21 0),
 zo 4 25 (.ext 21 1),
 zm 5 7 24,
 zm 6 8 25])
 (.seq (.seq (.reg [zm 0 26 8,
 zo 1 27 (.bin .neq 27 true 26 (zi 0))])
 (.cond 27
 (.seq (.reg [zo 0 4 (.mv (.con (.bool false)))])
 (.ret))
 (.skip)))
 (.reg [zm 0 28 1,
 zm 1 29 5,
 zo 2 30 (.idxA none 1 28 29),
 zl 3 31 30,
 zm 4 32 7,
 zo 5 33 (.nilck 31),
 zn 6 (.store 1 33 32)])))))
 (.reg [zo 0 34 (.bin .add 3 true 16 (zi 1)),
 zm 1 16 34])))))))
 (.seq (.reg [zo 0 4 (.mv (.con (.bool true)))])
 (.ret)))),
 [.tmp 4]⟩
theorem p127u : PR Go.Proofs.Tryz.f127 = some v127u:=by kernel_rfl

def v128u : VFun :=
⟨.seq (.reg [zo 0 4 (.mv (.con (.string ⟨#[]⟩))),
 zo 1 5 (.mv (.con (.bool false)))])
 (.seq (.reg [zm 0 6 0,
 zm 1 7 1,
 zo 2 8 (.call 160 [6,7]),
 zo 3 9 (.ext 8 0),
 zo 4 10 (.ext 8 1),
 zm 5 4 9,
 zm 6 5 10])
 (.ret)),
 [.tmp 4,.tmp 5]⟩
theorem p128u : PR Go.Proofs.Tryz.f128 = some v128u:=by kernel_rfl

def v129u : VFun :=
⟨.seq (.reg [zo 0 2 (.alloc [(.int .i64 0),(.int .i64 0),(.int .i64 0),(.int .i64 0),(.int .i64 0),(.int .i64 0),(.int .i64 0)]),
 zo 1 3 (.mv (.con (.bool false)))])
 (.seq (.reg [zm 0 19 0,
 zo 1 20 (.call 126 [19,(.con (.string ⟨#[32]⟩))]),
 zm 2 4 20])
 (.seq (.reg [zo 0 5 (.mv (zi 0))])
 (.seq (.seq (.reg [zm 0 21 4,
 zo 1 22 (.idxA none 1 21 (zi 0)),
 zl 2 23 22,
 zo 3 24 (.bin .eql 9 true 23 (.con (.string ⟨#[63]⟩)))])
 (.cond 24
 (.reg [zo 0 5 (.mv (zi 2))])
 (.skip)))
 (.seq (.seq (.reg [zm 0 25 4,
 zo 1 26 (.len 25),
 zm 2 27 5,
 zo 3 28 (.bin .add 3 true 27 (zi 1)),
 zo 4 29 (.bin .gtr 3 false 26 28),
 zm 5 30 29,
 zg 6 31 (.mv 4) 30 true,
 zg 7 32 (.mv 5) 30 true,
 zg 8 33 (.bin .add 3 true 32 (zi 1)) 30 true,
 zg 9 34 (.idxA none 1 31 33) 30 true,
 zg 10 35 (.load none 34) 30 true,
 zg 11 36 (.bin .eql 9 true 35 (.con (.string ⟨#[61]⟩))) 30 true,
 zo 12 37 (.pick 30 36 (.con (.bool false)))])
 (.cond 37
 (.reg [zm 0 38 5,
 zo 1 39 (.bin .add 3 true 38 (zi 2)),
 zm 2 5 39])
 (.skip)))
 (.seq (.seq (.reg [zm 0 40 5,
 zm 1 41 4,
 zo 2 42 (.len 41),
 zo 3 43 (.bin .geq 3 false 40 42)])
 (.cond 43
 (.seq (.reg [zo 0 44 (.build [(.int .i64 0),(.int .i64 0),(.int .i64 0),(.int .i64 0),(.int .i64 0),(.int .i64 0),(.int .i64 0)] []),
 zn 1 (.store 7 2 44),
 zo 2 3 (.mv (.con (.bool false)))])
 (.ret))
 (.skip)))
 (.seq (.reg [zo 0 45 (.build [(.int .i64 0),(.int .i64 0),(.int .i64 0),(.int .i64 0),(.int .i64 0),(.int .i64 0),(.int .i64 0)] [(6,1,(zi (-1)))]),
 zo 1 6 (.alloc [(.int .i64 0),(.int .i64 0),(.int .i64 0),(.int .i64 0),(.int .i64 0),(.int .i64 0),(.int .i64 0)]),
 zn 2 (.store 7 6 45)])
 (.seq (.seq (.reg [zo 0 7 (.mv (zi 1))])
 (.block 0
 (.loop
 (.seq (.seq (.reg [zm 0 46 7,
 zo 1 47 (.bin .leq 3 true 46 (zi 28))])
 (.cond 47
 (.skip)
 (.exit 0)))
 (.seq (.block 1
 (.seq (.reg [zm 0 50 7,
 zm 2 52 4,
 zm 3 53 5,
 zo 4 54 (.idxA none 1 52 53),
 zl 5 55 54,
 ⟨1,(some 51),.call 98 [50],none,[54]⟩,
 zo 6 56 (.bin .eql 9 false 51 55)])
 (.cond 56
 (.reg [zm 0 57 7,
 zf 1 58 0 6,
 zn 2 (.store 1 58 57)])
 (.skip))))
 (.reg [zm 0 48 7,
 zo 1 49 (.bin .add 3 true 48 (zi 1)),
 zm 2 7 49]))))))
 (.seq (.seq (.reg [zf 0 59 0 6,
 zl 1 60 59,
 zo 2 61 (.bin .eql 3 true 60 (zi 0))])
 (.cond 61
 (.seq (.reg [zo 0 62 (.build [(.int .i64 0),(.int .i64 0),(.int .i64 0),(.int .i64 0),(.int .i64 0),(.int .i64 0),(.int .i64 0)] []),
 zn 1 (.store 7 2 62),
 zo 2 3 (.mv (.con (.bool false)))])
 (.ret))
 (.skip)))
 (.seq (.reg [zo 0 8 (.alloc [(.int .i64 0)]),
 zo 1 9 (.alloc [(.int .i64 0)]),
 zo 2 10 (.alloc [(.int .i64 0)])])
 (.seq (.seq (.reg [zm 0 63 4,
 zo 1 64 (.idxA none 1 63 (zi 0)),
 zl 2 65 64,
 zo 3 66 (.bin .eql 9 true 65 (.con (.string ⟨#[63]⟩)))])
 (.cond 66
 (.seq (.seq (.reg [zm 0 67 4,
 zo 1 68 (.slice none 1 67 (some (zi 1)) (some (zi 2)) none),
 zo 2 69 (.bslice 1 1 [(.pointer none)] [(0,1,8)]),
 zo 3 70 (.call 127 [68,69]),
 zo 4 71 (.un .not 70),
 zm 5 72 71,
 zg 6 73 (.load none 8) 72 false,
 zg 7 74 (.bin .eql 2 true 73 (zi (-1))) 72 false,
 zo 8 75 (.pick 72 (.con (.bool true)) 74)])
 (.cond 75
 (.seq (.reg [zo 0 76 (.build [(.int .i64 0),(.int .i64 0),(.int .i64 0),(.int .i64 0),(.int .i64 0),(.int .i64 0),(.int .i64 0)] []),
 zn 1 (.store 7 2 76),
 zo 2 3 (.mv (.con (.bool false)))])
 (.ret))
 (.skip)))
 (.reg [zl 0 77 8,
 zf 1 78 6 6,
 zn 2 (.store 1 78 77)]))
 (.skip)))
 (.seq (.reg [zo 0 79 (.call 42 [6]),
 zm 1 11 79])
 (.seq (.reg [zm 0 80 11,
 zo 1 81 (.len 80),
 zo 2 82 (.bin .gtr 3 true 81 (zi 0)),
 zm 3 83 82,
 zg 4 84 (.mv 11) 83 true,
 zg 5 85 (.idxA none 1 84 (zi 0)) 83 true,
 zg 6 86 (.load none 85) 83 true,
 zg 7 87 (.fieldA 1 6) 83 true,
 zg 8 88 (.peq false 86 87) 83 true,
 zo 9 89 (.pick 83 88 (.con (.bool false))),
 zm 10 12 89])
 (.seq (.seq (.reg [zm 0 90 5,
 zo 1 91 (.bin .gtr 3 true 90 (zi 0)),
 zm 2 92 91,
 zg 3 93 (.mv 4) 92 true,
 zg 4 94 (.mv 5) 92 true,
 zg 5 95 (.bin .sub 3 true 94 (zi 1)) 92 true,
 zg 6 96 (.idxA none 1 93 95) 92 true,
 zg 7 97 (.load none 96) 92 true,
 zg 8 98 (.bin .eql 9 true 97 (.con (.string ⟨#[61]⟩))) 92 true,
 zo 9 99 (.pick 92 98 (.con (.bool false))),
 zm 10 13 99])
 (.seq (.reg [zm 0 100 13,
 zm 1 101 12,
 zo 2 102 (.bin .neq 4 false 100 101)])
 (.cond 102
 (.seq (.reg [zo 0 103 (.build [(.int .i64 0),(.int .i64 0),(.int .i64 0),(.int .i64 0),(.int .i64 0),(.int .i64 0),(.int .i64 0)] []),
 zn 1 (.store 7 2 103),
 zo 2 3 (.mv (.con (.bool false)))])
 (.ret))
 (.skip))))
 (.seq (.seq (.reg [zm 0 104 12])
 (.cond 104
 (.seq (.seq (.reg [zm 0 105 4,
 zm 1 106 5,
 zo 2 107 (.bin .sub 3 true 106 (zi 2)),
 zm 3 108 5,
 zo 4 109 (.bin .sub 3 true 108 (zi 1)),
 zo 5 110 (.slice none 1 105 (some 107) (some 109) none),
 zo 6 111 (.bslice 1 1 [(.pointer none)] [(0,1,9)]),
 zo 7 112 (.call 127 [110,111]),
 zo 8 113 (.un .not 112)])
 (.cond 113
 (.seq (.reg [zo 0 114 (.build [(.int .i64 0),(.int .i64 0),(.int .i64 0),(.int .i64 0),(.int .i64 0),(.int .i64 0),(.int .i64 0)] []),
 zn 1 (.store 7 2 114),
 zo 2 3 (.mv (.con (.bool false)))])
 (.ret))
 (.skip)))
 (.seq (.reg [zl 0 115 9,
 zf 1 116 1 6,
 zn 2 (.store 1 116 115)])
 (.reg [zm 0 117 11,
 zo 1 118 (.slice none 1 117 (some (zi 1)) none none),
 zm 2 11 118])))
 (.skip)))
 (.seq (.reg [zm 0 119 11,
 zo 1 120 (.len 119),
 zo 2 121 (.mksl 1 8 [(.int .i64 0)] 120 120),
 zm 3 14 121])
 (.seq (.reg [zo 0 15 (.mv (.con (.slice none 0 0)))])
 (.seq (.seq (.reg [zm 0 122 14,
 zo 1 123 (.len 122),
 zo 2 124 (.mv (zi 0))])
 (.block 2
 (.loop
 (.seq (.reg [zo 0 125 (.bin .lss 3 false 124 123)])
 (.seq (.cond 125
 (.skip)
 (.exit 2))
 (.seq (.block 3
 (.seq (.reg [zm 0 126 124,
 zm 1 16 126])
 (.reg [zm 0 127 15,
 zm 1 128 14,
 zm 2 129 16,
 zo 3 130 (.idxA none 1 128 129),
 zo 4 131 (.bslice 1 1 [(.pointer none)] [(0,1,130)]),
 zo 5 132 (.append 1 8 127 131),
 zm 6 15 132])))
 (.reg [zo 0 133 (.bin .add 3 true 124 (zi 1)),
 zm 1 124 133])))))))
 (.seq (.seq (.reg [zf 0 134 0 6,
 zl 1 135 134,
 zo 2 136 (.call 43 [135])])
 (.cond 136
 (.reg [zm 0 137 15,
 zo 1 138 (.bslice 1 1 [(.pointer none)] [(0,1,10)]),
 zo 2 139 (.append 1 8 137 138),
 zm 3 15 139])
 (.skip)))
 (.seq (.seq (.reg [zm 0 140 4,
 zm 1 141 5,
 zo 2 142 (.bin .add 3 true 141 (zi 1)),
 zo 3 143 (.slice none 1 140 (some 142) none none),
 zm 4 144 15,
 zo 5 145 (.call 127 [143,144]),
 zo 6 146 (.un .not 145)])
 (.cond 146
 (.seq (.reg [zo 0 147 (.build [(.int .i64 0),(.int .i64 0),(.int .i64 0),(.int .i64 0),(.int .i64 0),(.int .i64 0),(.int .i64 0)] []),
 zn 1 (.store 7 2 147),
 zo 2 3 (.mv (.con (.bool false)))])
 (.ret))
 (.skip)))
 (.seq (.seq (.reg [zm 0 148 11,
 zo 1 149 (.len 148),
 zo 2 150 (.mv (zi 0))])
 (.block 4
 (.loop
 (.seq (.reg [zo 0 151 (.bin .lss 3 false 150 149)])
 (.seq (.cond 151
 (.skip)
 (.exit 4))
 (.seq (.block 5
 (.seq (.reg [zm 0 152 150,
 zo 1 153 (.idxA none 1 148 150),
 zl 2 154 153,
 zm 3 17 152,
 zm 4 18 154])
 (.reg [zm 0 155 18,
 zm 1 156 14,
 zm 2 157 17,
 zo 3 158 (.idxA none 1 156 157),
 zl 4 159 158,
 zo 5 160 (.nilck 155),
 zn 6 (.store 1 160 159)])))
 (.reg [zo 0 161 (.bin .add 3 true 150 (zi 1)),
 zm 1 150 161])))))))
 (.seq (.reg [zl 0 162 10,
 zf 1 163 5 6,
 zn 2 (.store 1 163 162)])
 (.seq (.reg [zo 0 164 (.load (some 7) 6),
 zn 1 (.store 7 2 164),
 zo 2 3 (.mv (.con (.bool true)))])
 (.ret))))))))))))))))))))))),
 [.cell 2 (some 7),.tmp 3]⟩
theorem p129u : PR Go.Proofs.Tryz.f129 = some v129u:=by kernel_rfl

end Go.VX.Seat
end
section
set_option maxRecDepth 20000
namespace Go.VX.Seat
def v_code_checker_unit : VFun :=
⟨.seq (.reg [zm 0 8 0,
 zo 1 9 (.nilck (.tmp 8)),
 zf 2 10 0 9,
 zo 3 11 (.load (some 6) (.tmp 10)),
 zo 4 2 (.alloc [(.slice none 0 0),(.int .i64 0),(.int .i64 0),(.int .i64 0),(.int .i64 0),(.slice none 0 0)]),
 zn 5 (.store 6 (.tmp 2) (.tmp 11))])
 (.seq (.reg [zm 0 12 0,
 zf 1 13 0 2,
 zl 2 14 13,
 zo 3 15 (.len (.tmp 14)),
 zo 4 16 (.bin .leq 3 true (.tmp 15) (zi 16)),
 zm 5 17 16,
 zg 6 18 (.fieldA 5 (.tmp 2)) 17 true,
 zg 7 19 (.load none (.tmp 18)) 17 true,
 zg 8 20 (.len (.tmp 19)) 17 true,
 zg 9 21 (.bin .geq 3 true (.tmp 20) (zi 1)) 17 true,
 zo 10 22 (.pick (.tmp 17) (.tmp 21) (.con (.bool false))),
 zm 11 23 22,
 zg 12 24 (.fieldA 5 (.tmp 2)) 23 true,
 zg 13 25 (.load none (.tmp 24)) 23 true,
 zg 14 26 (.len (.tmp 25)) 23 true,
 zg 15 27 (.bin .leq 3 true (.tmp 26) (zi 2000)) 23 true,
 zo 16 28 (.pick (.tmp 23) (.tmp 27) (.con (.bool false))),
 zm 17 29 28,
 zg 18 30 (.fieldA 2 (.tmp 2)) 29 true,
 zg 19 31 (.load none (.tmp 30)) 29 true,
 zg 20 32 (.bin .leq 3 true (.tmp 31) (zi 4096)) 29 true,
 zo 21 33 (.pick (.tmp 29) (.tmp 32) (.con (.bool false))),
 zm 22 34 33,
 zg 23 35 (.fieldA 4 (.tmp 2)) 34 true,
 zg 24 36 (.load none (.tmp 35)) 34 true,
 zg 25 37 (.bin .leq 3 true (.tmp 36) (zi 4096)) 34 true,
 zo 26 38 (.pick (.tmp 34) (.tmp 37) (.con (.bool false))),
 zo 27 39 (.call 161 [(.tmp 12),(.tmp 38),(zi 3)])])
 (.seq (.reg [zm 0 40 0,
 zf 1 41 0 2,
 zl 2 42 41,
 zo 3 43 (.call 135 [(.tmp 42),(.fn 162)]),
 zo 4 44 (.un .not (.tmp 43)),
 zo 5 45 (.call 161 [(.tmp 40),(.tmp 44),(zi 2)])])
 (.seq (.reg [zm 0 46 0,
 zf 1 47 2 2,
 zl 2 48 47,
 zo 3 49 (.bin .geq 3 true (.tmp 48) (zi 1)),
 zm 4 50 49,
 zg 5 51 (.fieldA 4 (.tmp 2)) 50 true,
 zg 6 52 (.load none (.tmp 51)) 50 true,
 zg 7 53 (.bin .geq 3 true (.tmp 52) (zi 0)) 50 true,
 zo 8 54 (.pick (.tmp 50) (.tmp 53) (.con (.bool false))),
 zm 9 55 54,
 zg 10 56 (.fieldA 1 (.tmp 2)) 55 true,
 zg 11 57 (.load none (.tmp 56)) 55 true,
 zg 12 58 (.bin .geq 3 true (.tmp 57) (zi 0)) 55 true,
 zo 13 59 (.pick (.tmp 55) (.tmp 58) (.con (.bool false))),
 zm 14 60 59,
 zg 15 61 (.fieldA 1 (.tmp 2)) 60 true,
 zg 16 62 (.load none (.tmp 61)) 60 true,
 zg 17 63 (.bin .leq 3 true (.tmp 62) (zi 8)) 60 true,
 zo 18 64 (.pick (.tmp 60) (.tmp 63) (.con (.bool false))),
 zm 19 65 64,
 zg 20 66 (.fieldA 1 (.tmp 2)) 65 true,
 zg 21 67 (.load none (.tmp 66)) 65 true,
 zg 22 68 (.fieldA 2 (.tmp 2)) 65 true,
 zg 23 69 (.load none (.tmp 68)) 65 true,
 zg 24 70 (.bin .leq 3 false (.tmp 67) (.tmp 69)) 65 true,
 zo 25 71 (.pick (.tmp 65) (.tmp 70) (.con (.bool false))),
 zm 26 72 71,
 zg 27 73 (.fieldA 3 (.tmp 2)) 72 true,
 zg 28 74 (.load none (.tmp 73)) 72 true,
 zg 29 75 (.fieldA 2 (.tmp 2)) 72 true,
 zg 30 76 (.load none (.tmp 75)) 72 true,
 zg 31 77 (.call 163 [(.tmp 74),(.tmp 76)]) 72 true,
 zo 32 78 (.pick (.tmp 72) (.tmp 77) (.con (.bool false))),
 zo 33 79 (.call 161 [(.tmp 46),(.tmp 78),(zi 2)])])
 (.seq (.reg [zo 0 3 (.mv (zi 0))])
 (.seq (.seq (.reg [zf 0 80 5 2,
 zl 1 81 80,
 zo 2 82 (.len (.tmp 81)),
 zo 3 83 (.mv (zi 0))])
 (.block 0
 (.loop
 (.seq (.reg [zo 0 84 (.bin .lss 3 false (.tmp 83) (.tmp 82))])
 (.seq (.cond (.tmp 84)
 (.skip)
 (.exit 0))
 (.seq (.block 1
 (.seq (.reg [zm 0 85 83,
 zo 1 86 (.idxA none 6 (.tmp 81) (.tmp 83)),
 zo 2 87 (.load (some 6) (.tmp 86)),
 zo 3 5 (.alloc [(.slice none 0 0),(.int .i64 0),(.int .i64 0),(.int .i64 0),(.int .i64 0),(.int .i64 0)]),
 zm 4 4 85,
 zn 5 (.store 6 (.tmp 5) (.tmp 87))])
 (.seq (.reg [zm 0 88 0,
 zm 1 89 0,
 zm 2 90 4,
 zf 3 91 0 5,
 zl 4 92 91,
 zo 5 93 (.len (.tmp 92)),
 zo 6 94 (.nilck (.tmp 88)),
 zf 7 95 6 94,
 ⟨8,none,.store 1 (.tmp 95) (.tmp 90),none,[(.tmp 91)]⟩,
 zo 9 96 (.nilck (.tmp 89)),
 zf 10 97 7 96,
 zn 11 (.store 1 (.tmp 97) (.tmp 93))])
 (.seq (.reg [zm 0 98 0,
 zf 1 99 5 5,
 zl 2 100 99,
 zo 3 101 (.bin .eql 3 true (.tmp 100) (zi (-1))),
 zm 4 102 101,
 zg 5 103 (.fieldA 5 (.tmp 5)) 102 false,
 zg 6 104 (.load none (.tmp 103)) 102 false,
 zg 7 105 (.fieldA 5 (.tmp 2)) 102 false,
 zg 8 106 (.load none (.tmp 105)) 102 false,
 zg 9 107 (.len (.tmp 106)) 102 false,
 zg 10 108 (.call 163 [(.tmp 104),(.tmp 107)]) 102 false,
 zo 11 109 (.pick (.tmp 102) (.con (.bool true)) (.tmp 108)),
 zo 12 110 (.call 161 [(.tmp 98),(.tmp 109),(zi 2)])])
 (.seq (.reg [zm 0 111 0,
 zf 1 112 0 5,
 zl 2 113 112,
 zo 3 114 (.len (.tmp 113)),
 zo 4 115 (.bin .leq 3 true (.tmp 114) (zi 400)),
 zo 5 116 (.call 161 [(.tmp 111),(.tmp 115),(zi 3)])])
 (.seq (.seq (.reg [zf 0 117 0 5,
 zl 1 118 117,
 zo 2 119 (.len (.tmp 118)),
 zo 3 120 (.mv (zi 0))])
 (.block 2
 (.loop
 (.seq (.reg [zo 0 121 (.bin .lss 3 false (.tmp 120) (.tmp 119))])
 (.seq (.cond (.tmp 121)
 (.skip)
 (.exit 2))
 (.seq (.block 3
 (.seq (.reg [zm 0 122 120,
 zo 1 123 (.idxA none 7 (.tmp 118) (.tmp 120)),
 zo 2 124 (.load (some 7) (.tmp 123)),
 zo 3 7 (.alloc [(.int .i64 0),(.int .i64 0),(.int .i64 0),(.int .i64 0),(.int .i64 0),(.int .i64 0),(.int .i64 0)]),
 zm 4 6 122,
 zn 5 (.store 7 (.tmp 7) (.tmp 124))])
 (.seq (.reg [zm 0 125 0,
 zm 1 126 6,
 zo 2 127 (.nilck (.tmp 125)),
 zf 3 128 7 127,
 zn 4 (.store 1 (.tmp 128) (.tmp 126))])
 (.reg [zm 0 129 0,
 zo 1 130 (.load (some 7) (.tmp 7)),
 zo 2 131 (.call 164 [(.tmp 129),(.tmp 130)])]))))
 (.reg [zo 0 132 (.bin .add 3 true (.tmp 120) (zi 1)),
 zm 1 120 132])))))))
 (.seq (.reg [zm 0 133 0,
 zf 1 134 0 5,
 zl 2 135 134,
 zo 3 136 (.len (.tmp 135)),
 zo 4 137 (.nilck (.tmp 133)),
 zf 5 138 7 137,
 zn 6 (.store 1 (.tmp 138) (.tmp 136))])
 (.seq (.reg [zm 0 139 0,
 zf 1 140 1 5,
 zo 2 141 (.load (some 4) (.tmp 140)),
 zo 3 142 (.call 165 [(.tmp 139),(.tmp 141)])])
 (.reg [zm 0 143 3,
 zf 1 144 0 5,
 zl 2 145 144,
 zo 3 146 (.len (.tmp 145)),
 zo 4 147 (.bin .add 3 false (.tmp 143) (.tmp 146)),
 zm 5 3 147])))))))))
 (.reg [zo 0 148 (.bin .add 3 true (.tmp 83) (zi 1)),
 zm 1 83 148])))))))
 (.seq (.reg [zm 0 149 0,
 zm 1 150 0,
 zo 2 151 (.nilck (.tmp 149)),
 zf 3 152 6 151,
 zn 4 (.store 1 (.tmp 152) (zi 0)),
 zo 5 153 (.nilck (.tmp 150)),
 zf 6 154 7 153,
 zn 7 (.store 1 (.tmp 154) (zi 0))])
 (.reg [zm 0 155 0,
 zm 1 156 3,
 zo 2 157 (.bin .leq 3 true (.tmp 156) (zi 20000)),
 zo 3 158 (.call 161 [(.tmp 155),(.tmp 157),(zi 3)])]))))))),
 []⟩
theorem p_code_checker_unit : PR Go.Proofs.Tryz.f133 = some v_code_checker_unit:=by kernel_rfl

def v_math_bits_Mul : VFun :=
⟨.seq (.reg [zo 0 4 (.mv (.con (.int .u64 0))),
 zo 1 5 (.mv (.con (.int .u64 0)))])
 (.seq (.cond (.con (.bool false))
 (.seq (.reg [zm 0 11 0,
 zo 1 12 (.conv 147 148 (.tmp 11)),
 zm 2 13 1,
 zo 3 14 (.conv 147 148 (.tmp 13)),
 zo 4 15 (.call 166 [(.tmp 12),(.tmp 14)]),
 zm 5 10 15,
 zo 6 16 (.ext (.tmp 10) 0),
 zo 7 17 (.ext (.tmp 10) 1),
 zm 8 6 16,
 zm 9 7 17])
 (.seq (.reg [zm 0 18 6,
 zo 1 19 (.conv 148 147 (.tmp 18)),
 zm 2 20 7,
 zo 3 21 (.conv 148 147 (.tmp 20)),
 zm 4 4 19,
 zm 5 5 21])
 (.ret)))
 (.skip))
 (.seq (.reg [zm 0 23 0,
 zm 1 24 1,
 zo 2 25 (.call 167 [(.tmp 23),(.tmp 24)]),
 zm 3 22 25,
 zo 4 26 (.ext (.tmp 22) 0),
 zo 5 27 (.ext (.tmp 22) 1),
 zm 6 8 26,
 zm 7 9 27])
 (.seq (.reg [zm 0 28 8,
 zm 1 29 9,
 zm 2 4 28,
 zm 3 5 29])
 (.ret)))),
 [.tmp 4,.tmp 5]⟩
theorem p_math_bits_Mul : PR Go.Proofs.Tryz.f134 = some v_math_bits_Mul:=by kernel_rfl

def v_slices_ContainsFunc_int : VFun :=
⟨.seq (.reg [zo 0 4 (.mv (.con (.bool false)))])
 (.seq (.reg [zm 0 5 0,
 zm 1 6 1,
 zo 2 7 (.call 168 [(.tmp 5),(.tmp 6)]),
 zo 3 8 (.bin .geq 3 true (.tmp 7) (zi 0)),
 zm 4 4 8])
 (.ret)),
 [.tmp 4]⟩
theorem p_slices_ContainsFunc_int : PR Go.Proofs.Tryz.f135 = some v_slices_ContainsFunc_int:=by kernel_rfl

def v_words_own_c1 : VFun :=
⟨.seq (.reg [zo 0 3 (.mv (.con (.bool false)))])
 (.seq (.reg [zm 0 4 0,
 zf 1 5 2 1,
 zl 2 6 5,
 zo 3 7 (.call 33 [(.tmp 4),(.tmp 6)]),
 zo 4 8 (.un .not (.tmp 7)),
 zm 5 3 8])
 (.ret)),
 [.tmp 3]⟩
theorem p_words_own_c1 : PR Go.Proofs.Tryz.f136 = some v_words_own_c1:=by kernel_rfl

def v141u : VFun :=
⟨.seq (.reg [zm 0 8 1,
 zo 1 9 (.bin .add 3 true 8 (zi 1)),
 zm 2 6 9])
 (.block 0
 (.loop
 (.seq (.seq (.reg [zm 0 10 6,
 zm 1 11 2,
 zo 2 12 (.bin .lss 3 false 10 11)])
 (.cond 12
 (.skip)
 (.exit 0)))
 (.seq (.block 1
 (.seq (.reg [zm 0 15 6,
 zm 1 7 15])
 (.block 2
 (.loop
 (.seq (.seq (.reg [zm 0 16 7,
 zm 1 17 1,
 zo 2 18 (.bin .gtr 3 false 16 17),
 zm 3 19 18,
 zg 4 20 (.mv 0) 19 true,
 zg 5 21 (.mv 7) 19 true,
 zg 6 22 (.idxA none 1 20 21) 19 true,
 zg 7 23 (.load none 22) 19 true,
 zg 8 24 (.mv 0) 19 true,
 zg 9 25 (.mv 7) 19 true,
 zg 10 26 (.bin .sub 3 true 25 (zi 1)) 19 true,
 zg 11 27 (.idxA none 1 24 26) 19 true,
 zg 12 28 (.load none 27) 19 true,
 zg 13 29 (.call 147 [23,28]) 19 true,
 zo 14 30 (.pick 19 29 (.con (.bool false)))])
 (.cond 30
 (.skip)
 (.exit 2)))
 (.seq (.block 3
 (.reg [zm 0 33 0,
 zm 1 34 7,
 zm 2 35 0,
 zm 3 36 7,
 zo 4 37 (.bin .sub 3 true 36 (zi 1)),
 zm 5 38 0,
 zm 6 39 7,
 zo 7 40 (.bin .sub 3 true 39 (zi 1)),
 zo 8 41 (.idxA none 1 38 40),
 zl 9 42 41,
 zm 10 43 0,
 zm 11 44 7,
 zo 12 45 (.idxA none 1 43 44),
 zl 13 46 45,
 zo 14 47 (.idxA none 1 33 34),
 zn 15 (.store 1 47 42),
 zo 16 48 (.idxA none 1 35 37),
 zn 17 (.store 1 48 46)]))
 (.reg [zm 0 31 7,
 zo 1 32 (.bin .sub 3 true 31 (zi 1)),
 zm 2 7 32])))))))
 (.reg [zm 0 13 6,
 zo 1 14 (.bin .add 3 true 13 (zi 1)),
 zm 2 6 14]))))),
 []⟩
theorem p141u : PR Go.Proofs.Tryz.f141 = some v141u:=by kernel_rfl

def v142u : VFun :=
⟨.seq (.reg [zm 0 11 1,
 zm 1 6 11])
 (.seq (.reg [zo 0 7 (.mv (zi 0))])
 (.seq (.reg [zm 0 12 2,
 zm 1 13 1,
 zo 2 14 (.bin .sub 3 false 12 13),
 zm 3 8 14])
 (.seq (.seq (.reg [zm 0 15 8,
 zo 1 16 (.bin .sub 3 true 15 (zi 1)),
 zo 2 17 (.bin .quo 3 true 16 (zi 2)),
 zm 3 9 17])
 (.block 0
 (.loop
 (.seq (.seq (.reg [zm 0 18 9,
 zo 1 19 (.bin .geq 3 true 18 (zi 0))])
 (.cond 19
 (.skip)
 (.exit 0)))
 (.seq (.block 1
 (.reg [zm 0 22 0,
 zm 1 23 9,
 zm 2 24 8,
 zm 3 25 6,
 zo 4 26 (.call 172 [22,23,24,25])]))
 (.reg [zm 0 20 9,
 zo 1 21 (.bin .sub 3 true 20 (zi 1)),
 zm 2 9 21]))))))
 (.seq (.reg [zm 0 27 8,
 zo 1 28 (.bin .sub 3 true 27 (zi 1)),
 zm 2 10 28])
 (.block 2
 (.loop
 (.seq (.seq (.reg [zm 0 29 10,
 zo 1 30 (.bin .geq 3 true 29 (zi 0))])
 (.cond 30
 (.skip)
 (.exit 2)))
 (.seq (.block 3
 (.seq (.reg [zm 0 33 0,
 zm 1 34 6,
 zm 2 35 0,
 zm 3 36 6,
 zm 4 37 10,
 zo 5 38 (.bin .add 3 false 36 37),
 zm 6 39 0,
 zm 7 40 6,
 zm 8 41 10,
 zo 9 42 (.bin .add 3 false 40 41),
 zo 10 43 (.idxA none 1 39 42),
 zl 11 44 43,
 zm 12 45 0,
 zm 13 46 6,
 zo 14 47 (.idxA none 1 45 46),
 zl 15 48 47,
 zo 16 49 (.idxA none 1 33 34),
 zn 17 (.store 1 49 44),
 zo 18 50 (.idxA none 1 35 38),
 zn 19 (.store 1 50 48)])
 (.reg [zm 0 51 0,
 zm 1 52 7,
 zm 2 53 10,
 zm 3 54 6,
 zo 4 55 (.call 172 [51,52,53,54])])))
 (.reg [zm 0 31 10,
 zo 1 32 (.bin .sub 3 true 31 (zi 1)),
 zm 2 10 32]))))))))),
 []⟩
theorem p142u : PR Go.Proofs.Tryz.f142 = some v142u:=by kernel_rfl

def v143u : VFun :=
⟨.seq (.reg [zm 0 11 2,
 zm 1 12 1,
 zo 2 13 (.bin .sub 3 false 11 12),
 zm 3 6 13])
 (.seq (.reg [zm 0 14 6,
 zo 1 15 (.bin .geq 3 true 14 (zi 8))])
 (.cond 15
 (.seq (.reg [zm 0 16 6,
 zo 1 17 (.conv 3 239 16),
 zo 2 7 (.alloc [(.int .u64 0)]),
 zn 3 (.store 1 7 17)])
 (.seq (.reg [zm 0 18 6,
 zo 1 19 (.call 173 [18]),
 zm 2 8 19])
 (.seq (.reg [zm 0 20 1,
 zm 1 21 6,
 zo 2 22 (.bin .quo 3 true 21 (zi 4)),
 zo 3 23 (.bin .mul 3 true 22 (zi 2)),
 zo 4 24 (.bin .add 3 false 20 23),
 zo 5 25 (.bin .sub 3 true 24 (zi 1)),
 zm 6 9 25])
 (.block 0
 (.loop
 (.seq (.seq (.reg [zm 0 26 9,
 zm 1 27 1,
 zm 2 28 6,
 zo 3 29 (.bin .quo 3 true 28 (zi 4)),
 zo 4 30 (.bin .mul 3 true 29 (zi 2)),
 zo 5 31 (.bin .add 3 false 27 30),
 zo 6 32 (.bin .add 3 true 31 (zi 1)),
 zo 7 33 (.bin .leq 3 false 26 32)])
 (.cond 33
 (.skip)
 (.exit 0)))
 (.seq (.block 1
 (.seq (.reg [zo 0 36 (.call 174 [7]),
 zm 1 37 8,
 zo 2 38 (.bin .sub 147 true 37 (.con (.int .u64 1))),
 zo 3 39 (.bin .and 147 false 36 38),
 zo 4 40 (.conv 147 3 39),
 zm 5 10 40])
 (.seq (.seq (.reg [zm 0 41 10,
 zm 1 42 6,
 zo 2 43 (.bin .geq 3 false 41 42)])
 (.cond 43
 (.reg [zm 0 44 10,
 zm 1 45 6,
 zo 2 46 (.bin .sub 3 false 44 45),
 zm 3 10 46])
 (.skip)))
 (.reg [zm 0 47 0,
 zm 1 48 9,
 zm 2 49 0,
 zm 3 50 1,
 zm 4 51 10,
 zo 5 52 (.bin .add 3 false 50 51),
 zm 6 53 0,
 zm 7 54 1,
 zm 8 55 10,
 zo 9 56 (.bin .add 3 false 54 55),
 zo 10 57 (.idxA none 1 53 56),
 zl 11 58 57,
 zm 12 59 0,
 zm 13 60 9,
 zo 14 61 (.idxA none 1 59 60),
 zl 15 62 61,
 zo 16 63 (.idxA none 1 47 48),
 zn 17 (.store 1 63 58),
 zo 18 64 (.idxA none 1 49 52),
 zn 19 (.store 1 64 62)]))))
 (.reg [zm 0 34 9,
 zo 1 35 (.bin .add 3 true 34 (zi 1)),
 zm 2 9 35]))))))))
 (.skip))),
 []⟩
theorem p143u : PR Go.Proofs.Tryz.f143 = some v143u:=by kernel_rfl

def v144u : VFun :=
⟨.seq (.reg [zo 0 6 (.mv (zi 0)),
 zo 1 7 (.mv (zi 0))])
 (.seq (.reg [zm 0 13 2,
 zm 1 14 1,
 zo 2 15 (.bin .sub 3 false 13 14),
 zm 3 8 15])
 (.seq (.reg [zo 0 9 (.alloc [(.int .i64 0)])])
 (.seq (.reg [zm 0 16 1,
 zm 1 17 8,
 zo 2 18 (.bin .quo 3 true 17 (zi 4)),
 zo 3 19 (.bin .mul 3 true 18 (zi 1)),
 zo 4 20 (.bin .add 3 false 16 19),
 zm 5 10 20])
 (.seq (.reg [zm 0 21 1,
 zm 1 22 8,
 zo 2 23 (.bin .quo 3 true 22 (zi 4)),
 zo 3 24 (.bin .mul 3 true 23 (zi 2)),
 zo 4 25 (.bin .add 3 false 21 24),
 zm 5 11 25])
 (.seq (.reg [zm 0 26 1,
 zm 1 27 8,
 zo 2 28 (.bin .quo 3 true 27 (zi 4)),
 zo 3 29 (.bin .mul 3 true 28 (zi 3)),
 zo 4 30 (.bin .add 3 false 26 29),
 zm 5 12 30])
 (.seq (.seq (.reg [zm 0 31 8,
 zo 1 32 (.bin .geq 3 true 31 (zi 8))])
 (.cond 32
 (.seq (.seq (.reg [zm 0 33 8,
 zo 1 34 (.bin .geq 3 true 33 (zi 50))])
 (.cond 34
 (.seq (.reg [zm 0 35 0,
 zm 1 36 10,
 zo 2 37 (.call 175 [35,36,9]),
 zm 3 10 37])
 (.seq (.reg [zm 0 38 0,
 zm 1 39 11,
 zo 2 40 (.call 175 [38,39,9]),
 zm 3 11 40])
 (.reg [zm 0 41 0,
 zm 1 42 12,
 zo 2 43 (.call 175 [41,42,9]),
 zm 3 12 43])))
 (.skip)))
 (.reg [zm 0 44 0,
 zm 1 45 10,
 zm 2 46 11,
 zm 3 47 12,
 zo 4 48 (.call 176 [44,45,46,47,9]),
 zm 5 11 48]))
 (.skip)))
 (.seq (.reg [zl 0 49 9])
 (.block 0
 (.seq (.reg [zo 0 52 (.bin .eql 3 true 49 (zi 0)),
 zm 1 51 52])
 (.cond 51
 (.seq (.reg [zm 0 53 11,
 zm 1 6 53,
 zo 2 7 (.mv (zi 1))])
 (.ret))
 (.seq (.reg [zo 0 55 (.bin .eql 3 true 49 (zi 12)),
 zm 1 54 55])
 (.cond 54
 (.seq (.reg [zm 0 56 11,
 zm 1 6 56,
 zo 2 7 (.mv (zi 2))])
 (.ret))
 (.seq (.reg [zm 0 50 11,
 zm 1 6 50,
 zo 2 7 (.mv (zi 0))])
 (.ret)))))))))))))),
 [.tmp 6,.tmp 7]⟩
theorem p144u : PR Go.Proofs.Tryz.f144 = some v144u:=by kernel_rfl

def v145u : VFun :=
⟨.seq (.reg [zm 0 8 1,
 zm 1 6 8])
 (.seq (.reg [zm 0 9 2,
 zo 1 10 (.bin .sub 3 true 9 (zi 1)),
 zm 2 7 10])
 (.block 0
 (.loop
 (.seq (.seq (.reg [zm 0 11 6,
 zm 1 12 7,
 zo 2 13 (.bin .lss 3 false 11 12)])
 (.cond 13
 (.skip)
 (.exit 0)))
 (.block 1
 (.seq (.reg [zm 0 14 0,
 zm 1 15 6,
 zm 2 16 0,
 zm 3 17 7,
 zm 4 18 0,
 zm 5 19 7,
 zo 6 20 (.idxA none 1 18 19),
 zl 7 21 20,
 zm 8 22 0,
 zm 9 23 6,
 zo 10 24 (.idxA none 1 22 23),
 zl 11 25 24,
 zo 12 26 (.idxA none 1 14 15),
 zn 13 (.store 1 26 21),
 zo 14 27 (.idxA none 1 16 17),
 zn 15 (.store 1 27 25)])
 (.seq (.reg [zm 0 28 6,
 zo 1 29 (.bin .add 3 true 28 (zi 1)),
 zm 2 6 29])
 (.reg [zm 0 30 7,
 zo 1 31 (.bin .sub 3 true 30 (zi 1)),
 zm 2 7 31])))))))),
 []⟩
theorem p145u : PR Go.Proofs.Tryz.f145 = some v145u:=by kernel_rfl

def v146u : VFun :=
⟨.seq (.reg [zo 0 6 (.mv (.con (.bool false)))])
 (.seq (.reg [zm 0 11 1,
 zo 1 12 (.bin .add 3 true 11 (zi 1)),
 zm 2 7 12])
 (.seq (.seq (.reg [zo 0 8 (.mv (zi 0))])
 (.block 0
 (.loop
 (.seq (.seq (.reg [zm 0 13 8,
 zo 1 14 (.bin .lss 3 true 13 (zi 5))])
 (.cond 14
 (.skip)
 (.exit 0)))
 (.seq (.block 1
 (.seq (.block 2
 (.loop
 (.seq (.seq (.reg [zm 0 17 7,
 zm 1 18 2,
 zo 2 19 (.bin .lss 3 false 17 18),
 zm 3 20 19,
 zg 4 21 (.mv 0) 20 true,
 zg 5 22 (.mv 7) 20 true,
 zg 6 23 (.idxA none 1 21 22) 20 true,
 zg 7 24 (.load none 23) 20 true,
 zg 8 25 (.mv 0) 20 true,
 zg 9 26 (.mv 7) 20 true,
 zg 10 27 (.bin .sub 3 true 26 (zi 1)) 20 true,
 zg 11 28 (.idxA none 1 25 27) 20 true,
 zg 12 29 (.load none 28) 20 true,
 zg 13 30 (.call 147 [24,29]) 20 true,
 zg 14 31 (.un .not 30) 20 true,
 zo 15 32 (.pick 20 31 (.con (.bool false)))])
 (.cond 32
 (.skip)
 (.exit 2)))
 (.block 3
 (.reg [zm 0 33 7,
 zo 1 34 (.bin .add 3 true 33 (zi 1)),
 zm 2 7 34])))))
 (.seq (.seq (.reg [zm 0 35 7,
 zm 1 36 2,
 zo 2 37 (.bin .eql 3 false 35 36)])
 (.cond 37
 (.seq (.reg [zo 0 6 (.mv (.con (.bool true)))])
 (.ret))
 (.skip)))
 (.seq (.seq (.reg [zm 0 38 2,
 zm 1 39 1,
 zo 2 40 (.bin .sub 3 false 38 39),
 zo 3 41 (.bin .lss 3 true 40 (zi 50))])
 (.cond 41
 (.seq (.reg [zo 0 6 (.mv (.con (.bool false)))])
 (.ret))
 (.skip)))
 (.seq (.reg [zm 0 42 0,
 zm 1 43 7,
 zm 2 44 0,
 zm 3 45 7,
 zo 4 46 (.bin .sub 3 true 45 (zi 1)),
 zm 5 47 0,
 zm 6 48 7,
 zo 7 49 (.bin .sub 3 true 48 (zi 1)),
 zo 8 50 (.idxA none 1 47 49),
 zl 9 51 50,
 zm 10 52 0,
 zm 11 53 7,
 zo 12 54 (.idxA none 1 52 53),
 zl 13 55 54,
 zo 14 56 (.idxA none 1 42 43),
 zn 15 (.store 1 56 51),
 zo 16 57 (.idxA none 1 44 46),
 zn 17 (.store 1 57 55)])
 (.seq (.seq (.reg [zm 0 58 7,
 zm 1 59 1,
 zo 2 60 (.bin .sub 3 false 58 59),
 zo 3 61 (.bin .geq 3 true 60 (zi 2))])
 (.cond 61
 (.seq (.reg [zm 0 62 7,
 zo 1 63 (.bin .sub 3 true 62 (zi 1)),
 zm 2 9 63])
 (.block 4
 (.loop
 (.seq (.seq (.reg [zm 0 64 9,
 zo 1 65 (.bin .geq 3 true 64 (zi 1))])
 (.cond 65
 (.skip)
 (.exit 4)))
 (.seq (.block 5
 (.seq (.seq (.reg [zm 0 68 0,
 zm 1 69 9,
 zo 2 70 (.idxA none 1 68 69),
 zl 3 71 70,
 zm 4 72 0,
 zm 5 73 9,
 zo 6 74 (.bin .sub 3 true 73 (zi 1)),
 zo 7 75 (.idxA none 1 72 74),
 zl 8 76 75,
 zo 9 77 (.call 147 [71,76]),
 zo 10 78 (.un .not 77)])
 (.cond 78
 (.exit 4)
 (.skip)))
 (.reg [zm 0 79 0,
 zm 1 80 9,
 zm 2 81 0,
 zm 3 82 9,
 zo 4 83 (.bin .sub 3 true 82 (zi 1)),
 zm 5 84 0,
 zm 6 85 9,
 zo 7 86 (.bin .sub 3 true 85 (zi 1)),
 zo 8 87 (.idxA none 1 84 86),
 zl 9 88 87,
 zm 10 89 0,
 zm 11 90 9,
 zo 12 91 (.idxA none 1 89 90),
 zl 13 92 91,
 zo 14 93 (.idxA none 1 79 80),
 zn 15 (.store 1 93 88),
 zo 16 94 (.idxA none 1 81 83),
 zn 17 (.store 1 94 92)])))
 (.reg [zm 0 66 9,
 zo 1 67 (.bin .sub 3 true 66 (zi 1)),
 zm 2 9 67]))))))
 (.skip)))
 (.seq (.reg [zm 0 95 2,
 zm 1 96 7,
 zo 2 97 (.bin .sub 3 false 95 96),
 zo 3 98 (.bin .geq 3 true 97 (zi 2))])
 (.cond 98
 (.seq (.reg [zm 0 99 7,
 zo 1 100 (.bin .add 3 true 99 (zi 1)),
 zm 2 10 100])
 (.block 6
 (.loop
 (.seq (.seq (.reg [zm 0 101 10,
 zm 1 102 2,
 zo 2 103 (.bin .lss 3 false 101 102)])
 (.cond 103
 (.skip)
 (.exit 6)))
 (.seq (.block 7
 (.seq (.seq (.reg [zm 0 106 0,
 zm 1 107 10,
 zo 2 108 (.idxA none 1 106 107),
 zl 3 109 108,
 zm 4 110 0,
 zm 5 111 10,
 zo 6 112 (.bin .sub 3 true 111 (zi 1)),
 zo 7 113 (.idxA none 1 110 112),
 zl 8 114 113,
 zo 9 115 (.call 147 [109,114]),
 zo 10 116 (.un .not 115)])
 (.cond 116
 (.exit 6)
 (.skip)))
 (.reg [zm 0 117 0,
 zm 1 118 10,
 zm 2 119 0,
 zm 3 120 10,
 zo 4 121 (.bin .sub 3 true 120 (zi 1)),
 zm 5 122 0,
 zm 6 123 10,
 zo 7 124 (.bin .sub 3 true 123 (zi 1)),
 zo 8 125 (.idxA none 1 122 124),
 zl 9 126 125,
 zm 10 127 0,
 zm 11 128 10,
 zo 12 129 (.idxA none 1 127 128),
 zl 13 130 129,
 zo 14 131 (.idxA none 1 117 118),
 zn 15 (.store 1 131 126),
 zo 16 132 (.idxA none 1 119 121),
 zn 17 (.store 1 132 130)])))
 (.reg [zm 0 104 10,
 zo 1 105 (.bin .add 3 true 104 (zi 1)),
 zm 2 10 105]))))))
 (.skip)))))))))
 (.reg [zm 0 15 8,
 zo 1 16 (.bin .add 3 true 15 (zi 1)),
 zm 2 8 16]))))))
 (.seq (.reg [zo 0 6 (.mv (.con (.bool false)))])
 (.ret)))),
 [.tmp 6]⟩
theorem p146u : PR Go.Proofs.Tryz.f146 = some v146u:=by kernel_rfl

def v147u : VFun :=
⟨.seq (.reg [zo 0 4 (.mv (.con (.bool false)))])
 (.seq (.reg [zm 0 5 0,
 zo 1 6 (.call 177 [5]),
 zm 2 7 6,
 zg 3 8 (.mv 1) 7 true,
 zg 4 9 (.call 177 [8]) 7 true,
 zg 5 10 (.un .not 9) 7 true,
 zo 6 11 (.pick 7 10 (.con (.bool false))),
 zm 7 12 11,
 zg 8 13 (.mv 0) 12 false,
 zg 9 14 (.mv 1) 12 false,
 zg 10 15 (.bin .lss 3 false 13 14) 12 false,
 zo 11 16 (.pick 12 (.con (.bool true)) 15),
 zm 12 4 16])
 (.ret)),
 [.tmp 4]⟩
theorem p147u : PR Go.Proofs.Tryz.f147 = some v147u:=by kernel_rfl

def v148u : VFun :=
⟨.seq (.reg [zo 0 8 (.mv (zi 0))])
 (.seq (.reg [zm 0 11 0,
 zm 1 12 1,
 zm 2 13 0,
 zm 3 14 3,
 zm 4 15 0,
 zm 5 16 3,
 zo 6 17 (.idxA none 1 15 16),
 zl 7 18 17,
 zm 8 19 0,
 zm 9 20 1,
 zo 10 21 (.idxA none 1 19 20),
 zl 11 22 21,
 zo 12 23 (.idxA none 1 11 12),
 zn 13 (.store 1 23 18),
 zo 14 24 (.idxA none 1 13 14),
 zn 15 (.store 1 24 22)])
 (.seq (.reg [zm 0 25 1,
 zo 1 26 (.bin .add 3 true 25 (zi 1)),
 zm 2 27 2,
 zo 3 28 (.bin .sub 3 true 27 (zi 1)),
 zm 4 9 26,
 zm 5 10 28])
 (.seq (.block 0
 (.loop
 (.block 1
 (.seq (.block 2
 (.loop
 (.seq (.seq (.reg [zm 0 29 9,
 zm 1 30 10,
 zo 2 31 (.bin .leq 3 false 29 30),
 zm 3 32 31,
 zg 4 33 (.mv 0) 32 true,
 zg 5 34 (.mv 1) 32 true,
 zg 6 35 (.idxA none 1 33 34) 32 true,
 zg 7 36 (.load none 35) 32 true,
 zg 8 37 (.mv 0) 32 true,
 zg 9 38 (.mv 9) 32 true,
 zg 10 39 (.idxA none 1 37 38) 32 true,
 zg 11 40 (.load none 39) 32 true,
 zg 12 41 (.call 147 [36,40]) 32 true,
 zg 13 42 (.un .not 41) 32 true,
 zo 14 43 (.pick 32 42 (.con (.bool false)))])
 (.cond 43
 (.skip)
 (.exit 2)))
 (.block 3
 (.reg [zm 0 44 9,
 zo 1 45 (.bin .add 3 true 44 (zi 1)),
 zm 2 9 45])))))
 (.seq (.block 4
 (.loop
 (.seq (.seq (.reg [zm 0 46 9,
 zm 1 47 10,
 zo 2 48 (.bin .leq 3 false 46 47),
 zm 3 49 48,
 zg 4 50 (.mv 0) 49 true,
 zg 5 51 (.mv 1) 49 true,
 zg 6 52 (.idxA none 1 50 51) 49 true,
 zg 7 53 (.load none 52) 49 true,
 zg 8 54 (.mv 0) 49 true,
 zg 9 55 (.mv 10) 49 true,
 zg 10 56 (.idxA none 1 54 55) 49 true,
 zg 11 57 (.load none 56) 49 true,
 zg 12 58 (.call 147 [53,57]) 49 true,
 zo 13 59 (.pick 49 58 (.con (.bool false)))])
 (.cond 59
 (.skip)
 (.exit 4)))
 (.block 5
 (.reg [zm 0 60 10,
 zo 1 61 (.bin .sub 3 true 60 (zi 1)),
 zm 2 10 61])))))
 (.seq (.seq (.reg [zm 0 62 9,
 zm 1 63 10,
 zo 2 64 (.bin .gtr 3 false 62 63)])
 (.cond 64
 (.exit 0)
 (.skip)))
 (.seq (.reg [zm 0 65 0,
 zm 1 66 9,
 zm 2 67 0,
 zm 3 68 10,
 zm 4 69 0,
 zm 5 70 10,
 zo 6 71 (.idxA none 1 69 70),
 zl 7 72 71,
 zm 8 73 0,
 zm 9 74 9,
 zo 10 75 (.idxA none 1 73 74),
 zl 11 76 75,
 zo 12 77 (.idxA none 1 65 66),
 zn 13 (.store 1 77 72),
 zo 14 78 (.idxA none 1 67 68),
 zn 15 (.store 1 78 76)])
 (.seq (.reg [zm 0 79 9,
 zo 1 80 (.bin .add 3 true 79 (zi 1)),
 zm 2 9 80])
 (.reg [zm 0 81 10,
 zo 1 82 (.bin .sub 3 true 81 (zi 1)),
 zm 2 10 82])))))))))
 (.seq (.reg [zm 0 83 9,
 zm 1 8 83])
 (.ret))))),
 [.tmp 8]⟩
theorem p148u : PR Go.Proofs.Tryz.f148 = some v148u:=by kernel_rfl

def v149u : VFun :=
⟨.seq (.reg [zo 0 8 (.mv (zi 0)),
 zo 1 9 (.mv (.con (.bool false)))])
 (.seq (.reg [zm 0 12 0,
 zm 1 13 1,
 zm 2 14 0,
 zm 3 15 3,
 zm 4 16 0,
 zm 5 17 3,
 zo 6 18 (.idxA none 1 16 17),
 zl 7 19 18,
 zm 8 20 0,
 zm 9 21 1,
 zo 10 22 (.idxA none 1 20 21),
 zl 11 23 22,
 zo 12 24 (.idxA none 1 12 13),
 zn 13 (.store 1 24 19),
 zo 14 25 (.idxA none 1 14 15),
 zn 15 (.store 1 25 23)])
 (.seq (.reg [zm 0 26 1,
 zo 1 27 (.bin .add 3 true 26 (zi 1)),
 zm 2 28 2,
 zo 3 29 (.bin .sub 3 true 28 (zi 1)),
 zm 4 10 27,
 zm 5 11 29])
 (.seq (.block 0
 (.loop
 (.seq (.seq (.reg [zm 0 30 10,
 zm 1 31 11,
 zo 2 32 (.bin .leq 3 false 30 31),
 zm 3 33 32,
 zg 4 34 (.mv 0) 33 true,
 zg 5 35 (.mv 10) 33 true,
 zg 6 36 (.idxA none 1 34 35) 33 true,
 zg 7 37 (.load none 36) 33 true,
 zg 8 38 (.mv 0) 33 true,
 zg 9 39 (.mv 1) 33 true,
 zg 10 40 (.idxA none 1 38 39) 33 true,
 zg 11 41 (.load none 40) 33 true,
 zg 12 42 (.call 147 [37,41]) 33 true,
 zo 13 43 (.pick 33 42 (.con (.bool false)))])
 (.cond 43
 (.skip)
 (.exit 0)))
 (.block 1
 (.reg [zm 0 44 10,
 zo 1 45 (.bin .add 3 true 44 (zi 1)),
 zm 2 10 45])))))
 (.seq (.block 2
 (.loop
 (.seq (.seq (.reg [zm 0 46 10,
 zm 1 47 11,
 zo 2 48 (.bin .leq 3 false 46 47),
 zm 3 49 48,
 zg 4 50 (.mv 0) 49 true,
 zg 5 51 (.mv 11) 49 true,
 zg 6 52 (.idxA none 1 50 51) 49 true,
 zg 7 53 (.load none 52) 49 true,
 zg 8 54 (.mv 0) 49 true,
 zg 9 55 (.mv 1) 49 true,
 zg 10 56 (.idxA none 1 54 55) 49 true,
 zg 11 57 (.load none 56) 49 true,
 zg 12 58 (.call 147 [53,57]) 49 true,
 zg 13 59 (.un .not 58) 49 true,
 zo 14 60 (.pick 49 59 (.con (.bool false)))])
 (.cond 60
 (.skip)
 (.exit 2)))
 (.block 3
 (.reg [zm 0 61 11,
 zo 1 62 (.bin .sub 3 true 61 (zi 1)),
 zm 2 11 62])))))
 (.seq (.seq (.reg [zm 0 63 10,
 zm 1 64 11,
 zo 2 65 (.bin .gtr 3 false 63 64)])
 (.cond 65
 (.seq (.reg [zm 0 66 0,
 zm 1 67 11,
 zm 2 68 0,
 zm 3 69 1,
 zm 4 70 0,
 zm 5 71 1,
 zo 6 72 (.idxA none 1 70 71),
 zl 7 73 72,
 zm 8 74 0,
 zm 9 75 11,
 zo 10 76 (.idxA none 1 74 75),
 zl 11 77 76,
 zo 12 78 (.idxA none 1 66 67),
 zn 13 (.store 1 78 73),
 zo 14 79 (.idxA none 1 68 69),
 zn 15 (.store 1 79 77)])
 (.seq (.reg [zm 0 80 11,
 zm 1 8 80,
 zo 2 9 (.mv (.con (.bool true)))])
 (.ret)))
 (.skip)))
 (.seq (.reg [zm 0 81 0,
 zm 1 82 10,
 zm 2 83 0,
 zm 3 84 11,
 zm 4 85 0,
 zm 5 86 11,
 zo 6 87 (.idxA none 1 85 86),
 zl 7 88 87,
 zm 8 89 0,
 zm 9 90 10,
 zo 10 91 (.idxA none 1 89 90),
 zl 11 92 91,
 zo 12 93 (.idxA none 1 81 82),
 zn 13 (.store 1 93 88),
 zo 14 94 (.idxA none 1 83 84),
 zn 15 (.store 1 94 92)])
 (.seq (.reg [zm 0 95 10,
 zo 1 96 (.bin .add 3 true 95 (zi 1)),
 zm 2 10 96])
 (.seq (.reg [zm 0 97 11,
 zo 1 98 (.bin .sub 3 true 97 (zi 1)),
 zm 2 11 98])
 (.seq (.block 4
 (.loop
 (.block 5
 (.seq (.block 6
 (.loop
 (.seq (.seq (.reg [zm 0 99 10,
 zm 1 100 11,
 zo 2 101 (.bin .leq 3 false 99 100),
 zm 3 102 101,
 zg 4 103 (.mv 0) 102 true,
 zg 5 104 (.mv 10) 102 true,
 zg 6 105 (.idxA none 1 103 104) 102 true,
 zg 7 106 (.load none 105) 102 true,
 zg 8 107 (.mv 0) 102 true,
 zg 9 108 (.mv 1) 102 true,
 zg 10 109 (.idxA none 1 107 108) 102 true,
 zg 11 110 (.load none 109) 102 true,
 zg 12 111 (.call 147 [106,110]) 102 true,
 zo 13 112 (.pick 102 111 (.con (.bool false)))])
 (.cond 112
 (.skip)
 (.exit 6)))
 (.block 7
 (.reg [zm 0 113 10,
 zo 1 114 (.bin .add 3 true 113 (zi 1)),
 zm 2 10 114])))))
 (.seq (.block 8
 (.loop
 (.seq (.seq (.reg [zm 0 115 10,
 zm 1 116 11,
 zo 2 117 (.bin .leq 3 false 115 116),
 zm 3 118 117,
 zg 4 119 (.mv 0) 118 true,
 zg 5 120 (.mv 11) 118 true,
 zg 6 121 (.idxA none 1 119 120) 118 true,
 zg 7 122 (.load none 121) 118 true,
 zg 8 123 (.mv 0) 118 true,
 zg 9 124 (.mv 1) 118 true,
 zg 10 125 (.idxA none 1 123 124) 118 true,
 zg 11 126 (.load none 125) 118 true,
 zg 12 127 (.call 147 [122,126]) 118 true,
 zg 13 128 (.un .not 127) 118 true,
 zo 14 129 (.pick 118 128 (.con (.bool false)))])
 (.cond 129
 (.skip)
 (.exit 8)))
 (.block 9
 (.reg [zm 0 130 11,
 zo 1 131 (.bin .sub 3 true 130 (zi 1)),
 zm 2 11 131])))))
 (.seq (.seq (.reg [zm 0 132 10,
 zm 1 133 11,
 zo 2 134 (.bin .gtr 3 false 132 133)])
 (.cond 134
 (.exit 4)
 (.skip)))
 (.seq (.reg [zm 0 135 0,
 zm 1 136 10,
 zm 2 137 0,
 zm 3 138 11,
 zm 4 139 0,
 zm 5 140 11,
 zo 6 141 (.idxA none 1 139 140),
 zl 7 142 141,
 zm 8 143 0,
 zm 9 144 10,
 zo 10 145 (.idxA none 1 143 144),
 zl 11 146 145,
 zo 12 147 (.idxA none 1 135 136),
 zn 13 (.store 1 147 142),
 zo 14 148 (.idxA none 1 137 138),
 zn 15 (.store 1 148 146)])
 (.seq (.reg [zm 0 149 10,
 zo 1 150 (.bin .add 3 true 149 (zi 1)),
 zm 2 10 150])
 (.reg [zm 0 151 11,
 zo 1 152 (.bin .sub 3 true 151 (zi 1)),
 zm 2 11 152])))))))))
 (.seq (.reg [zm 0 153 0,
 zm 1 154 11,
 zm 2 155 0,
 zm 3 156 1,
 zm 4 157 0,
 zm 5 158 1,
 zo 6 159 (.idxA none 1 157 158),
 zl 7 160 159,
 zm 8 161 0,
 zm 9 162 11,
 zo 10 163 (.idxA none 1 161 162),
 zl 11 164 163,
 zo 12 165 (.idxA none 1 153 154),
 zn 13 (.store 1 165 160),
 zo 14 166 (.idxA none 1 155 156),
 zn 15 (.store 1 166 164)])
 (.seq (.reg [zm 0 167 11,
 zm 1 8 167,
 zo 2 9 (.mv (.con (.bool false)))])
 (.ret)))))))))))),
 [.tmp 8,.tmp 9]⟩
theorem p149u : PR Go.Proofs.Tryz.f149 = some v149u:=by kernel_rfl

end Go.VX.Seat
end
section
set_option maxRecDepth 20000
namespace Go.VX.Seat
def v150u : VFun :=
⟨.seq (.reg [zo 0 2 (.mv (zi 0))])
 (.seq (.seq (.reg [zm 0 3 0,
 zo 1 4 (.bin .geq 148 true 3 (.con (.int .u32 65536)))])
 (.cond 4
 (.seq (.reg [zm 0 5 0,
 zo 1 6 (.bin .shr 148 true 5 (.con (.int .u64 16))),
 zm 2 0 6])
 (.reg [zo 0 2 (.mv (zi 16))]))
 (.skip)))
 (.seq (.seq (.reg [zm 0 7 0,
 zo 1 8 (.bin .geq 148 true 7 (.con (.int .u32 256)))])
 (.cond 8
 (.seq (.reg [zm 0 9 0,
 zo 1 10 (.bin .shr 148 true 9 (.con (.int .u64 8))),
 zm 2 0 10])
 (.reg [zm 0 11 2,
 zo 1 12 (.bin .add 3 true 11 (zi 8)),
 zm 2 2 12]))
 (.skip)))
 (.seq (.reg [zm 0 13 2,
 zm 1 14 0,
 zo 2 15 (.conv 148 5 14),
 zo 3 16 (.idxS 9 (.con (.string ⟨#[0,1,2,2,3,3,3,3,4,4,4,4,4,4,4,4,5,5,5,5,5,5,5,5,5,5,5,5,5,5,5,5,6,6,6,6,6,6,6,6,6,6,6,6,6,6,6,6,6,6,6,6,6,6,6,6,6,6,6,6,6,6,6,6,7,7,7,7,7,7,7,7,7,7,7,7,7,7,7,7,7,7,7,7,7,7,7,7,7,7,7,7,7,7,7,7,7,7,7,7,7,7,7,7,7,7,7,7,7,7,7,7,7,7,7,7,7,7,7,7,7,7,7,7,7,7,7,7,8,8,8,8,8,8,8,8,8,8,8,8,8,8,8,8,8,8,8,8,8,8,8,8,8,8,8,8,8,8,8,8,8,8,8,8,8,8,8,8,8,8,8,8,8,8,8,8,8,8,8,8,8,8,8,8,8,8,8,8,8,8,8,8,8,8,8,8,8,8,8,8,8,8,8,8,8,8,8,8,8,8,8,8,8,8,8,8,8,8,8,8,8,8,8,8,8,8,8,8,8,8,8,8,8,8,8,8,8,8,8,8,8,8,8,8,8,8,8,8,8,8,8,8,8,8,8,8]⟩)) 15),
 zo 4 17 (.conv 5 3 16),
 zo 5 18 (.bin .add 3 false 13 17),
 zm 6 2 18])
 (.ret)))),
 [.tmp 2]⟩
theorem p150u : PR Go.Proofs.Tryz.f150 = some v150u:=by kernel_rfl

def v151u : VFun :=
⟨.seq (.reg [zo 0 2 (.mv (zi 0))])
 (.seq (.seq (.reg [zm 0 3 0,
 zo 1 4 (.bin .geq 146 true 3 (.con (.int .u64 4294967296)))])
 (.cond 4
 (.seq (.reg [zm 0 5 0,
 zo 1 6 (.bin .shr 146 true 5 (.con (.int .u64 32))),
 zm 2 0 6])
 (.reg [zo 0 2 (.mv (zi 32))]))
 (.skip)))
 (.seq (.seq (.reg [zm 0 7 0,
 zo 1 8 (.bin .geq 146 true 7 (.con (.int .u64 65536)))])
 (.cond 8
 (.seq (.reg [zm 0 9 0,
 zo 1 10 (.bin .shr 146 true 9 (.con (.int .u64 16))),
 zm 2 0 10])
 (.reg [zm 0 11 2,
 zo 1 12 (.bin .add 3 true 11 (zi 16)),
 zm 2 2 12]))
 (.skip)))
 (.seq (.seq (.reg [zm 0 13 0,
 zo 1 14 (.bin .geq 146 true 13 (.con (.int .u64 256)))])
 (.cond 14
 (.seq (.reg [zm 0 15 0,
 zo 1 16 (.bin .shr 146 true 15 (.con (.int .u64 8))),
 zm 2 0 16])
 (.reg [zm 0 17 2,
 zo 1 18 (.bin .add 3 true 17 (zi 8)),
 zm 2 2 18]))
 (.skip)))
 (.seq (.reg [zm 0 19 2,
 zm 1 20 0,
 zo 2 21 (.conv 146 5 20),
 zo 3 22 (.idxS 9 (.con (.string ⟨#[0,1,2,2,3,3,3,3,4,4,4,4,4,4,4,4,5,5,5,5,5,5,5,5,5,5,5,5,5,5,5,5,6,6,6,6,6,6,6,6,6,6,6,6,6,6,6,6,6,6,6,6,6,6,6,6,6,6,6,6,6,6,6,6,7,7,7,7,7,7,7,7,7,7,7,7,7,7,7,7,7,7,7,7,7,7,7,7,7,7,7,7,7,7,7,7,7,7,7,7,7,7,7,7,7,7,7,7,7,7,7,7,7,7,7,7,7,7,7,7,7,7,7,7,7,7,7,7,8,8,8,8,8,8,8,8,8,8,8,8,8,8,8,8,8,8,8,8,8,8,8,8,8,8,8,8,8,8,8,8,8,8,8,8,8,8,8,8,8,8,8,8,8,8,8,8,8,8,8,8,8,8,8,8,8,8,8,8,8,8,8,8,8,8,8,8,8,8,8,8,8,8,8,8,8,8,8,8,8,8,8,8,8,8,8,8,8,8,8,8,8,8,8,8,8,8,8,8,8,8,8,8,8,8,8,8,8,8,8,8,8,8,8,8,8,8,8,8,8,8,8,8,8,8,8,8]⟩)) 21),
 zo 4 23 (.conv 5 3 22),
 zo 5 24 (.bin .add 3 false 19 23),
 zm 6 2 24])
 (.ret))))),
 [.tmp 2]⟩
theorem p151u : PR Go.Proofs.Tryz.f151 = some v151u:=by kernel_rfl

def v152u : VFun :=
⟨.seq (.reg [zo 0 2 (.mv (.con (.string ⟨#[]⟩)))])
 (.seq (.seq (.reg [zm 0 3 0,
 zo 1 4 (.bin .lss 3 true 3 (zi 10))])
 (.cond 4
 (.seq (.reg [zm 0 5 0,
 zm 1 6 0,
 zo 2 7 (.bin .add 3 true 6 (zi 1)),
 zo 3 8 (.slS 9 (.con (.string ⟨#[48,49,50,51,52,53,54,55,56,57,97,98,99,100,101,102,103,104,105,106,107,108,109,110,111,112,113,114,115,116,117,118,119,120,121,122]⟩)) (some 5) (some 7)),
 zm 4 2 8])
 (.ret))
 (.skip)))
 (.seq (.reg [zm 0 9 0,
 zo 1 10 (.bin .mul 3 true 9 (zi 2)),
 zm 2 11 0,
 zo 3 12 (.bin .mul 3 true 11 (zi 2)),
 zo 4 13 (.bin .add 3 true 12 (zi 2)),
 zo 5 14 (.slS 9 (.con (.string ⟨#[48,48,48,49,48,50,48,51,48,52,48,53,48,54,48,55,48,56,48,57,49,48,49,49,49,50,49,51,49,52,49,53,49,54,49,55,49,56,49,57,50,48,50,49,50,50,50,51,50,52,50,53,50,54,50,55,50,56,50,57,51,48,51,49,51,50,51,51,51,52,51,53,51,54,51,55,51,56,51,57,52,48,52,49,52,50,52,51,52,52,52,53,52,54,52,55,52,56,52,57,53,48,53,49,53,50,53,51,53,52,53,53,53,54,53,55,53,56,53,57,54,48,54,49,54,50,54,51,54,52,54,53,54,54,54,55,54,56,54,57,55,48,55,49,55,50,55,51,55,52,55,53,55,54,55,55,55,56,55,57,56,48,56,49,56,50,56,51,56,52,56,53,56,54,56,55,56,56,56,57,57,48,57,49,57,50,57,51,57,52,57,53,57,54,57,55,57,56,57,57]⟩)) (some 10) (some 13)),
 zm 6 2 14])
 (.ret))),
 [.tmp 2]⟩
theorem p152u : PR Go.Proofs.Tryz.f152 = some v152u:=by kernel_rfl

def v153u : VFun :=
⟨.seq (.reg [zo 0 2 (.mv (zi 0))])
 (.seq (.reg [zm 0 4 0,
 zo 1 5 (.call 151 [4]),
 zo 2 6 (.call 178 [5]),
 zm 3 3 6])
 (.seq (.reg [zm 0 7 3,
 zm 1 8 0,
 zm 2 9 3,
 zo 3 10 (.idxA (some 20) 1 (.glo 1) 9),
 zl 4 11 10,
 zo 5 12 (.bin .geq 146 false 8 11),
 zo 6 13 (.call 179 [12]),
 zo 7 14 (.bin .add 3 false 7 13),
 zm 8 2 14])
 (.ret))),
 [.tmp 2]⟩
theorem p153u : PR Go.Proofs.Tryz.f153 = some v153u:=by kernel_rfl

def v154u : VFun :=
⟨.seq (.reg [zm 0 17 0,
 zo 1 18 (.len 17),
 zm 2 4 18])
 (.seq (.block 0
 (.loop
 (.seq (.seq (.reg [zm 0 19 4,
 zo 1 20 (.bin .geq 3 true 19 (zi 8))])
 (.cond 20
 (.skip)
 (.exit 0)))
 (.block 1
 (.seq (.reg [zm 0 21 1,
 zo 1 22 (.bin .rem 146 true 21 (.con (.int .u64 100000000))),
 zo 2 23 (.conv 146 148 22),
 zm 3 5 23])
 (.seq (.reg [zm 0 24 1,
 zo 1 25 (.bin .quo 146 true 24 (.con (.int .u64 100000000))),
 zm 2 1 25])
 (.seq (.reg [zm 0 26 5,
 zo 1 27 (.bin .quo 148 true 26 (.con (.int .u32 10000))),
 zm 2 28 5,
 zo 3 29 (.bin .rem 148 true 28 (.con (.int .u32 10000))),
 zm 4 6 27,
 zm 5 7 29])
 (.seq (.reg [zm 0 30 7,
 zo 1 31 (.bin .quo 148 true 30 (.con (.int .u32 100))),
 zo 2 32 (.bin .mul 148 true 31 (.con (.int .u32 2))),
 zm 3 33 7,
 zo 4 34 (.bin .rem 148 true 33 (.con (.int .u32 100))),
 zo 5 35 (.bin .mul 148 true 34 (.con (.int .u32 2))),
 zm 6 8 32,
 zm 7 9 35])
 (.seq (.reg [zm 0 36 6,
 zo 1 37 (.bin .quo 148 true 36 (.con (.int .u32 100))),
 zo 2 38 (.bin .mul 148 true 37 (.con (.int .u32 2))),
 zm 3 39 6,
 zo 4 40 (.bin .rem 148 true 39 (.con (.int .u32 100))),
 zo 5 41 (.bin .mul 148 true 40 (.con (.int .u32 2))),
 zm 6 10 38,
 zm 7 11 41])
 (.seq (.reg [zm 0 42 0,
 zm 1 43 4,
 zo 2 44 (.bin .sub 3 true 43 (zi 1)),
 zm 3 45 0,
 zm 4 46 4,
 zo 5 47 (.bin .sub 3 true 46 (zi 2)),
 zm 6 48 9,
 zo 7 49 (.bin .add 148 true 48 (.con (.int .u32 1))),
 zo 8 50 (.idxS 9 (.con (.string ⟨#[48,48,48,49,48,50,48,51,48,52,48,53,48,54,48,55,48,56,48,57,49,48,49,49,49,50,49,51,49,52,49,53,49,54,49,55,49,56,49,57,50,48,50,49,50,50,50,51,50,52,50,53,50,54,50,55,50,56,50,57,51,48,51,49,51,50,51,51,51,52,51,53,51,54,51,55,51,56,51,57,52,48,52,49,52,50,52,51,52,52,52,53,52,54,52,55,52,56,52,57,53,48,53,49,53,50,53,51,53,52,53,53,53,54,53,55,53,56,53,57,54,48,54,49,54,50,54,51,54,52,54,53,54,54,54,55,54,56,54,57,55,48,55,49,55,50,55,51,55,52,55,53,55,54,55,55,55,56,55,57,56,48,56,49,56,50,56,51,56,52,56,53,56,54,56,55,56,56,56,57,57,48,57,49,57,50,57,51,57,52,57,53,57,54,57,55,57,56,57,57]⟩)) 49),
 zm 9 51 9,
 zo 10 52 (.idxS 9 (.con (.string ⟨#[48,48,48,49,48,50,48,51,48,52,48,53,48,54,48,55,48,56,48,57,49,48,49,49,49,50,49,51,49,52,49,53,49,54,49,55,49,56,49,57,50,48,50,49,50,50,50,51,50,52,50,53,50,54,50,55,50,56,50,57,51,48,51,49,51,50,51,51,51,52,51,53,51,54,51,55,51,56,51,57,52,48,52,49,52,50,52,51,52,52,52,53,52,54,52,55,52,56,52,57,53,48,53,49,53,50,53,51,53,52,53,53,53,54,53,55,53,56,53,57,54,48,54,49,54,50,54,51,54,52,54,53,54,54,54,55,54,56,54,57,55,48,55,49,55,50,55,51,55,52,55,53,55,54,55,55,55,56,55,57,56,48,56,49,56,50,56,51,56,52,56,53,56,54,56,55,56,56,56,57,57,48,57,49,57,50,57,51,57,52,57,53,57,54,57,55,57,56,57,57]⟩)) 51),
 zo 11 53 (.idxA none 1 42 44),
 zn 12 (.store 1 53 50),
 zo 13 54 (.idxA none 1 45 47),
 zn 14 (.store 1 54 52)])
 (.seq (.reg [zm 0 55 0,
 zm 1 56 4,
 zo 2 57 (.bin .sub 3 true 56 (zi 3)),
 zm 3 58 0,
 zm 4 59 4,
 zo 5 60 (.bin .sub 3 true 59 (zi 4)),
 zm 6 61 8,
 zo 7 62 (.bin .add 148 true 61 (.con (.int .u32 1))),
 zo 8 63 (.idxS 9 (.con (.string ⟨#[48,48,48,49,48,50,48,51,48,52,48,53,48,54,48,55,48,56,48,57,49,48,49,49,49,50,49,51,49,52,49,53,49,54,49,55,49,56,49,57,50,48,50,49,50,50,50,51,50,52,50,53,50,54,50,55,50,56,50,57,51,48,51,49,51,50,51,51,51,52,51,53,51,54,51,55,51,56,51,57,52,48,52,49,52,50,52,51,52,52,52,53,52,54,52,55,52,56,52,57,53,48,53,49,53,50,53,51,53,52,53,53,53,54,53,55,53,56,53,57,54,48,54,49,54,50,54,51,54,52,54,53,54,54,54,55,54,56,54,57,55,48,55,49,55,50,55,51,55,52,55,53,55,54,55,55,55,56,55,57,56,48,56,49,56,50,56,51,56,52,56,53,56,54,56,55,56,56,56,57,57,48,57,49,57,50,57,51,57,52,57,53,57,54,57,55,57,56,57,57]⟩)) 62),
 zm 9 64 8,
 zo 10 65 (.idxS 9 (.con (.string ⟨#[48,48,48,49,48,50,48,51,48,52,48,53,48,54,48,55,48,56,48,57,49,48,49,49,49,50,49,51,49,52,49,53,49,54,49,55,49,56,49,57,50,48,50,49,50,50,50,51,50,52,50,53,50,54,50,55,50,56,50,57,51,48,51,49,51,50,51,51,51,52,51,53,51,54,51,55,51,56,51,57,52,48,52,49,52,50,52,51,52,52,52,53,52,54,52,55,52,56,52,57,53,48,53,49,53,50,53,51,53,52,53,53,53,54,53,55,53,56,53,57,54,48,54,49,54,50,54,51,54,52,54,53,54,54,54,55,54,56,54,57,55,48,55,49,55,50,55,51,55,52,55,53,55,54,55,55,55,56,55,57,56,48,56,49,56,50,56,51,56,52,56,53,56,54,56,55,56,56,56,57,57,48,57,49,57,50,57,51,57,52,57,53,57,54,57,55,57,56,57,57]⟩)) 64),
 zo 11 66 (.idxA none 1 55 57),
 zn 12 (.store 1 66 63),
 zo 13 67 (.idxA none 1 58 60),
 zn 14 (.store 1 67 65)])
 (.seq (.reg [zm 0 68 0,
 zm 1 69 4,
 zo 2 70 (.bin .sub 3 true 69 (zi 5)),
 zm 3 71 0,
 zm 4 72 4,
 zo 5 73 (.bin .sub 3 true 72 (zi 6)),
 zm 6 74 11,
 zo 7 75 (.bin .add 148 true 74 (.con (.int .u32 1))),
 zo 8 76 (.idxS 9 (.con (.string ⟨#[48,48,48,49,48,50,48,51,48,52,48,53,48,54,48,55,48,56,48,57,49,48,49,49,49,50,49,51,49,52,49,53,49,54,49,55,49,56,49,57,50,48,50,49,50,50,50,51,50,52,50,53,50,54,50,55,50,56,50,57,51,48,51,49,51,50,51,51,51,52,51,53,51,54,51,55,51,56,51,57,52,48,52,49,52,50,52,51,52,52,52,53,52,54,52,55,52,56,52,57,53,48,53,49,53,50,53,51,53,52,53,53,53,54,53,55,53,56,53,57,54,48,54,49,54,50,54,51,54,52,54,53,54,54,54,55,54,56,54,57,55,48,55,49,55,50,55,51,55,52,55,53,55,54,55,55,55,56,55,57,56,48,56,49,56,50,56,51,56,52,56,53,56,54,56,55,56,56,56,57,57,48,57,49,57,50,57,51,57,52,57,53,57,54,57,55,57,56,57,57]⟩)) 75),
 zm 9 77 11,
 zo 10 78 (.idxS 9 (.con (.string ⟨#[48,48,48,49,48,50,48,51,48,52,48,53,48,54,48,55,48,56,48,57,49,48,49,49,49,50,49,51,49,52,49,53,49,54,49,55,49,56,49,57,50,48,50,49,50,50,50,51,50,52,50,53,50,54,50,55,50,56,50,57,51,48,51,49,51,50,51,51,51,52,51,53,51,54,51,55,51,56,51,57,52,48,52,49,52,50,52,51,52,52,52,53,52,54,52,55,52,56,52,57,53,48,53,49,53,50,53,51,53,52,53,53,53,54,53,55,53,56,53,57,54,48,54,49,54,50,54,51,54,52,54,53,54,54,54,55,54,56,54,57,55,48,55,49,55,50,55,51,55,52,55,53,55,54,55,55,55,56,55,57,56,48,56,49,56,50,56,51,56,52,56,53,56,54,56,55,56,56,56,57,57,48,57,49,57,50,57,51,57,52,57,53,57,54,57,55,57,56,57,57]⟩)) 77),
 zo 11 79 (.idxA none 1 68 70),
 zn 12 (.store 1 79 76),
 zo 13 80 (.idxA none 1 71 73),
 zn 14 (.store 1 80 78)])
 (.seq (.reg [zm 0 81 0,
 zm 1 82 4,
 zo 2 83 (.bin .sub 3 true 82 (zi 7)),
 zm 3 84 0,
 zm 4 85 4,
 zo 5 86 (.bin .sub 3 true 85 (zi 8)),
 zm 6 87 10,
 zo 7 88 (.bin .add 148 true 87 (.con (.int .u32 1))),
 zo 8 89 (.idxS 9 (.con (.string ⟨#[48,48,48,49,48,50,48,51,48,52,48,53,48,54,48,55,48,56,48,57,49,48,49,49,49,50,49,51,49,52,49,53,49,54,49,55,49,56,49,57,50,48,50,49,50,50,50,51,50,52,50,53,50,54,50,55,50,56,50,57,51,48,51,49,51,50,51,51,51,52,51,53,51,54,51,55,51,56,51,57,52,48,52,49,52,50,52,51,52,52,52,53,52,54,52,55,52,56,52,57,53,48,53,49,53,50,53,51,53,52,53,53,53,54,53,55,53,56,53,57,54,48,54,49,54,50,54,51,54,52,54,53,54,54,54,55,54,56,54,57,55,48,55,49,55,50,55,51,55,52,55,53,55,54,55,55,55,56,55,57,56,48,56,49,56,50,56,51,56,52,56,53,56,54,56,55,56,56,56,57,57,48,57,49,57,50,57,51,57,52,57,53,57,54,57,55,57,56,57,57]⟩)) 88),
 zm 9 90 10,
 zo 10 91 (.idxS 9 (.con (.string ⟨#[48,48,48,49,48,50,48,51,48,52,48,53,48,54,48,55,48,56,48,57,49,48,49,49,49,50,49,51,49,52,49,53,49,54,49,55,49,56,49,57,50,48,50,49,50,50,50,51,50,52,50,53,50,54,50,55,50,56,50,57,51,48,51,49,51,50,51,51,51,52,51,53,51,54,51,55,51,56,51,57,52,48,52,49,52,50,52,51,52,52,52,53,52,54,52,55,52,56,52,57,53,48,53,49,53,50,53,51,53,52,53,53,53,54,53,55,53,56,53,57,54,48,54,49,54,50,54,51,54,52,54,53,54,54,54,55,54,56,54,57,55,48,55,49,55,50,55,51,55,52,55,53,55,54,55,55,55,56,55,57,56,48,56,49,56,50,56,51,56,52,56,53,56,54,56,55,56,56,56,57,57,48,57,49,57,50,57,51,57,52,57,53,57,54,57,55,57,56,57,57]⟩)) 90),
 zo 11 92 (.idxA none 1 81 83),
 zn 12 (.store 1 92 89),
 zo 13 93 (.idxA none 1 84 86),
 zn 14 (.store 1 93 91)])
 (.reg [zm 0 94 4,
 zo 1 95 (.bin .sub 3 true 94 (zi 8)),
 zm 2 4 95]))))))))))))))
 (.seq (.reg [zm 0 96 1,
 zo 1 97 (.conv 146 148 96),
 zm 2 12 97])
 (.seq (.seq (.reg [zm 0 98 4,
 zo 1 99 (.bin .geq 3 true 98 (zi 4))])
 (.cond 99
 (.seq (.reg [zm 0 100 12,
 zo 1 101 (.bin .rem 148 true 100 (.con (.int .u32 10000))),
 zm 2 13 101])
 (.seq (.reg [zm 0 102 12,
 zo 1 103 (.bin .quo 148 true 102 (.con (.int .u32 10000))),
 zm 2 12 103])
 (.seq (.reg [zm 0 104 13,
 zo 1 105 (.bin .quo 148 true 104 (.con (.int .u32 100))),
 zo 2 106 (.bin .mul 148 true 105 (.con (.int .u32 2))),
 zm 3 107 13,
 zo 4 108 (.bin .rem 148 true 107 (.con (.int .u32 100))),
 zo 5 109 (.bin .mul 148 true 108 (.con (.int .u32 2))),
 zm 6 14 106,
 zm 7 15 109])
 (.seq (.reg [zm 0 110 0,
 zm 1 111 4,
 zo 2 112 (.bin .sub 3 true 111 (zi 1)),
 zm 3 113 0,
 zm 4 114 4,
 zo 5 115 (.bin .sub 3 true 114 (zi 2)),
 zm 6 116 15,
 zo 7 117 (.bin .add 148 true 116 (.con (.int .u32 1))),
 zo 8 118 (.idxS 9 (.con (.string ⟨#[48,48,48,49,48,50,48,51,48,52,48,53,48,54,48,55,48,56,48,57,49,48,49,49,49,50,49,51,49,52,49,53,49,54,49,55,49,56,49,57,50,48,50,49,50,50,50,51,50,52,50,53,50,54,50,55,50,56,50,57,51,48,51,49,51,50,51,51,51,52,51,53,51,54,51,55,51,56,51,57,52,48,52,49,52,50,52,51,52,52,52,53,52,54,52,55,52,56,52,57,53,48,53,49,53,50,53,51,53,52,53,53,53,54,53,55,53,56,53,57,54,48,54,49,54,50,54,51,54,52,54,53,54,54,54,55,54,56,54,57,55,48,55,49,55,50,55,51,55,52,55,53,55,54,55,55,55,56,55,57,56,48,56,49,56,50,56,51,56,52,56,53,56,54,56,55,56,56,56,57,57,48,57,49,57,50,57,51,57,52,57,53,57,54,57,55,57,56,57,57]⟩)) 117),
 zm 9 119 15,
 zo 10 120 (.idxS 9 (.con (.string ⟨#[48,48,48,49,48,50,48,51,48,52,48,53,48,54,48,55,48,56,48,57,49,48,49,49,49,50,49,51,49,52,49,53,49,54,49,55,49,56,49,57,50,48,50,49,50,50,50,51,50,52,50,53,50,54,50,55,50,56,50,57,51,48,51,49,51,50,51,51,51,52,51,53,51,54,51,55,51,56,51,57,52,48,52,49,52,50,52,51,52,52,52,53,52,54,52,55,52,56,52,57,53,48,53,49,53,50,53,51,53,52,53,53,53,54,53,55,53,56,53,57,54,48,54,49,54,50,54,51,54,52,54,53,54,54,54,55,54,56,54,57,55,48,55,49,55,50,55,51,55,52,55,53,55,54,55,55,55,56,55,57,56,48,56,49,56,50,56,51,56,52,56,53,56,54,56,55,56,56,56,57,57,48,57,49,57,50,57,51,57,52,57,53,57,54,57,55,57,56,57,57]⟩)) 119),
 zo 11 121 (.idxA none 1 110 112),
 zn 12 (.store 1 121 118),
 zo 13 122 (.idxA none 1 113 115),
 zn 14 (.store 1 122 120)])
 (.seq (.reg [zm 0 123 0,
 zm 1 124 4,
 zo 2 125 (.bin .sub 3 true 124 (zi 3)),
 zm 3 126 0,
 zm 4 127 4,
 zo 5 128 (.bin .sub 3 true 127 (zi 4)),
 zm 6 129 14,
 zo 7 130 (.bin .add 148 true 129 (.con (.int .u32 1))),
 zo 8 131 (.idxS 9 (.con (.string ⟨#[48,48,48,49,48,50,48,51,48,52,48,53,48,54,48,55,48,56,48,57,49,48,49,49,49,50,49,51,49,52,49,53,49,54,49,55,49,56,49,57,50,48,50,49,50,50,50,51,50,52,50,53,50,54,50,55,50,56,50,57,51,48,51,49,51,50,51,51,51,52,51,53,51,54,51,55,51,56,51,57,52,48,52,49,52,50,52,51,52,52,52,53,52,54,52,55,52,56,52,57,53,48,53,49,53,50,53,51,53,52,53,53,53,54,53,55,53,56,53,57,54,48,54,49,54,50,54,51,54,52,54,53,54,54,54,55,54,56,54,57,55,48,55,49,55,50,55,51,55,52,55,53,55,54,55,55,55,56,55,57,56,48,56,49,56,50,56,51,56,52,56,53,56,54,56,55,56,56,56,57,57,48,57,49,57,50,57,51,57,52,57,53,57,54,57,55,57,56,57,57]⟩)) 130),
 zm 9 132 14,
 zo 10 133 (.idxS 9 (.con (.string ⟨#[48,48,48,49,48,50,48,51,48,52,48,53,48,54,48,55,48,56,48,57,49,48,49,49,49,50,49,51,49,52,49,53,49,54,49,55,49,56,49,57,50,48,50,49,50,50,50,51,50,52,50,53,50,54,50,55,50,56,50,57,51,48,51,49,51,50,51,51,51,52,51,53,51,54,51,55,51,56,51,57,52,48,52,49,52,50,52,51,52,52,52,53,52,54,52,55,52,56,52,57,53,48,53,49,53,50,53,51,53,52,53,53,53,54,53,55,53,56,53,57,54,48,54,49,54,50,54,51,54,52,54,53,54,54,54,55,54,56,54,57,55,48,55,49,55,50,55,51,55,52,55,53,55,54,55,55,55,56,55,57,56,48,56,49,56,50,56,51,56,52,56,53,56,54,56,55,56,56,56,57,57,48,57,49,57,50,57,51,57,52,57,53,57,54,57,55,57,56,57,57]⟩)) 132),
 zo 11 134 (.idxA none 1 123 125),
 zn 12 (.store 1 134 131),
 zo 13 135 (.idxA none 1 126 128),
 zn 14 (.store 1 135 133)])
 (.reg [zm 0 136 4,
 zo 1 137 (.bin .sub 3 true 136 (zi 4)),
 zm 2 4 137]))))))
 (.skip)))
 (.seq (.seq (.reg [zm 0 138 4,
 zo 1 139 (.bin .geq 3 true 138 (zi 2))])
 (.cond 139
 (.seq (.reg [zm 0 140 12,
 zo 1 141 (.bin .rem 148 true 140 (.con (.int .u32 100))),
 zo 2 142 (.bin .mul 148 true 141 (.con (.int .u32 2))),
 zm 3 16 142])
 (.seq (.reg [zm 0 143 12,
 zo 1 144 (.bin .quo 148 true 143 (.con (.int .u32 100))),
 zm 2 12 144])
 (.seq (.reg [zm 0 145 0,
 zm 1 146 4,
 zo 2 147 (.bin .sub 3 true 146 (zi 1)),
 zm 3 148 0,
 zm 4 149 4,
 zo 5 150 (.bin .sub 3 true 149 (zi 2)),
 zm 6 151 16,
 zo 7 152 (.bin .add 148 true 151 (.con (.int .u32 1))),
 zo 8 153 (.idxS 9 (.con (.string ⟨#[48,48,48,49,48,50,48,51,48,52,48,53,48,54,48,55,48,56,48,57,49,48,49,49,49,50,49,51,49,52,49,53,49,54,49,55,49,56,49,57,50,48,50,49,50,50,50,51,50,52,50,53,50,54,50,55,50,56,50,57,51,48,51,49,51,50,51,51,51,52,51,53,51,54,51,55,51,56,51,57,52,48,52,49,52,50,52,51,52,52,52,53,52,54,52,55,52,56,52,57,53,48,53,49,53,50,53,51,53,52,53,53,53,54,53,55,53,56,53,57,54,48,54,49,54,50,54,51,54,52,54,53,54,54,54,55,54,56,54,57,55,48,55,49,55,50,55,51,55,52,55,53,55,54,55,55,55,56,55,57,56,48,56,49,56,50,56,51,56,52,56,53,56,54,56,55,56,56,56,57,57,48,57,49,57,50,57,51,57,52,57,53,57,54,57,55,57,56,57,57]⟩)) 152),
 zm 9 154 16,
 zo 10 155 (.idxS 9 (.con (.string ⟨#[48,48,48,49,48,50,48,51,48,52,48,53,48,54,48,55,48,56,48,57,49,48,49,49,49,50,49,51,49,52,49,53,49,54,49,55,49,56,49,57,50,48,50,49,50,50,50,51,50,52,50,53,50,54,50,55,50,56,50,57,51,48,51,49,51,50,51,51,51,52,51,53,51,54,51,55,51,56,51,57,52,48,52,49,52,50,52,51,52,52,52,53,52,54,52,55,52,56,52,57,53,48,53,49,53,50,53,51,53,52,53,53,53,54,53,55,53,56,53,57,54,48,54,49,54,50,54,51,54,52,54,53,54,54,54,55,54,56,54,57,55,48,55,49,55,50,55,51,55,52,55,53,55,54,55,55,55,56,55,57,56,48,56,49,56,50,56,51,56,52,56,53,56,54,56,55,56,56,56,57,57,48,57,49,57,50,57,51,57,52,57,53,57,54,57,55,57,56,57,57]⟩)) 154),
 zo 11 156 (.idxA none 1 145 147),
 zn 12 (.store 1 156 153),
 zo 13 157 (.idxA none 1 148 150),
 zn 14 (.store 1 157 155)])
 (.reg [zm 0 158 4,
 zo 1 159 (.bin .sub 3 true 158 (zi 2)),
 zm 2 4 159]))))
 (.skip)))
 (.seq (.reg [zm 0 160 4,
 zo 1 161 (.bin .gtr 3 true 160 (zi 0))])
 (.cond 161
 (.reg [zm 0 162 0,
 zm 1 163 12,
 zo 2 164 (.bin .add 148 true (.con (.int .u32 48)) 163),
 zo 3 165 (.conv 148 5 164),
 zo 4 166 (.idxA none 1 162 (zi 0)),
 zn 5 (.store 1 166 165)])
 (.skip))))))),
 []⟩
theorem p154u : PR Go.Proofs.Tryz.f154 = some v154u:=by kernel_rfl

def v155u : VFun :=
⟨.seq (.reg [zo 0 10 (.mv (.con (.slice none 0 0))),
 zo 1 11 (.mv (.con (.string ⟨#[]⟩)))])
 (.seq (.seq (.reg [zm 0 19 2,
 zo 1 20 (.bin .lss 3 true 19 (zi 2)),
 zm 2 21 20,
 zg 3 22 (.mv 2) 21 false,
 zg 4 23 (.bin .eql 3 true 22 (zi 10)) 21 false,
 zo 5 24 (.pick 21 (.con (.bool true)) 23),
 zm 6 25 24,
 zg 7 26 (.mv 2) 25 false,
 zg 8 27 (.bin .gtr 3 true 26 (zi 36)) 25 false,
 zo 9 28 (.pick 25 (.con (.bool true)) 27)])
 (.cond 28
 (.reg [zo 0 29 (.mkif 9 (.con (.string ⟨#[115,116,114,99,111,110,118,58,32,105,108,108,101,103,97,108,32,65,112,112,101,110,100,73,110,116,47,70,111,114,109,97,116,73,110,116,32,98,97,115,101]⟩))),
 zn 1 (.panic 29)])
 (.skip)))
 (.seq (.reg [zo 0 12 (.alloc [(.int .u8 0),(.int .u8 0),(.int .u8 0),(.int .u8 0),(.int .u8 0),(.int .u8 0),(.int .u8 0),(.int .u8 0),(.int .u8 0),(.int .u8 0),(.int .u8 0),(.int .u8 0),(.int .u8 0),(.int .u8 0),(.int .u8 0),(.int .u8 0),(.int .u8 0),(.int .u8 0),(.int .u8 0),(.int .u8 0),(.int .u8 0),(.int .u8 0),(.int .u8 0),(.int .u8 0),(.int .u8 0),(.int .u8 0),(.int .u8 0),(.int .u8 0),(.int .u8 0),(.int .u8 0),(.int .u8 0),(.int .u8 0),(.int .u8 0),(.int .u8 0),(.int .u8 0),(.int .u8 0),(.int .u8 0),(.int .u8 0),(.int .u8 0),(.int .u8 0),(.int .u8 0),(.int .u8 0),(.int .u8 0),(.int .u8 0),(.int .u8 0),(.int .u8 0),(.int .u8 0),(.int .u8 0),(.int .u8 0),(.int .u8 0),(.int .u8 0),(.int .u8 0),(.int .u8 0),(.int .u8 0),(.int .u8 0),(.int .u8 0),(.int .u8 0),(.int .u8 0),(.int .u8 0),(.int .u8 0),(.int .u8 0),(.int .u8 0),(.int .u8 0),(.int .u8 0),(.int .u8 0)])])
 (.seq (.reg [zo 0 13 (.mv (zi 65))])
 (.seq (.seq (.reg [zm 0 30 3])
 (.cond 30
 (.reg [zm 0 31 1,
 zo 1 32 (.un .neg 31),
 zm 2 1 32])
 (.skip)))
 (.seq (.seq (.reg [zm 0 33 2,
 zo 1 34 (.call 180 [33])])
 (.cond 34
 (.seq (.reg [zm 0 35 2,
 zo 1 36 (.conv 3 147 35),
 zo 2 37 (.call 181 [36]),
 zo 3 38 (.conv 3 147 37),
 zm 4 14 38])
 (.seq (.reg [zm 0 39 2,
 zo 1 40 (.conv 3 146 39),
 zm 2 15 40])
 (.seq (.reg [zm 0 41 2,
 zo 1 42 (.conv 3 147 41),
 zo 2 43 (.bin .sub 147 true 42 (.con (.int .u64 1))),
 zm 3 16 43])
 (.seq (.block 0
 (.loop
 (.seq (.seq (.reg [zm 0 44 1,
 zm 1 45 15,
 zo 2 46 (.bin .geq 146 false 44 45)])
 (.cond 46
 (.skip)
 (.exit 0)))
 (.block 1
 (.seq (.reg [zm 0 47 13,
 zo 1 48 (.bin .sub 3 true 47 (zi 1)),
 zm 2 13 48])
 (.seq (.reg [zm 0 49 13,
 zm 1 50 1,
 zm 2 51 16,
 zo 3 52 (.bin .and 147 false 50 51),
 zo 4 53 (.idxS 9 (.con (.string ⟨#[48,49,50,51,52,53,54,55,56,57,97,98,99,100,101,102,103,104,105,106,107,108,109,110,111,112,113,114,115,116,117,118,119,120,121,122]⟩)) 52),
 zo 5 54 (.idxA (some 65) 1 12 49),
 zn 6 (.store 1 54 53)])
 (.reg [zm 0 55 1,
 zm 1 56 14,
 zo 2 57 (.bin .shr 146 false 55 56),
 zm 3 1 57])))))))
 (.seq (.reg [zm 0 58 13,
 zo 1 59 (.bin .sub 3 true 58 (zi 1)),
 zm 2 13 59])
 (.reg [zm 0 60 13,
 zm 1 61 1,
 zo 2 62 (.idxS 9 (.con (.string ⟨#[48,49,50,51,52,53,54,55,56,57,97,98,99,100,101,102,103,104,105,106,107,108,109,110,111,112,113,114,115,116,117,118,119,120,121,122]⟩)) 61),
 zo 3 63 (.idxA (some 65) 1 12 60),
 zn 4 (.store 1 63 62)]))))))
 (.seq (.reg [zm 0 64 2,
 zo 1 65 (.conv 3 146 64),
 zm 2 17 65])
 (.seq (.block 2
 (.loop
 (.seq (.seq (.reg [zm 0 66 1,
 zm 1 67 17,
 zo 2 68 (.bin .geq 146 false 66 67)])
 (.cond 68
 (.skip)
 (.exit 2)))
 (.block 3
 (.seq (.reg [zm 0 69 13,
 zo 1 70 (.bin .sub 3 true 69 (zi 1)),
 zm 2 13 70])
 (.seq (.reg [zm 0 71 1,
 zm 1 72 17,
 zo 2 73 (.bin .quo 146 false 71 72),
 zm 3 18 73])
 (.seq (.reg [zm 0 74 13,
 zm 1 75 1,
 zm 2 76 18,
 zm 3 77 17,
 zo 4 78 (.bin .mul 146 false 76 77),
 zo 5 79 (.bin .sub 146 false 75 78),
 zo 6 80 (.idxS 9 (.con (.string ⟨#[48,49,50,51,52,53,54,55,56,57,97,98,99,100,101,102,103,104,105,106,107,108,109,110,111,112,113,114,115,116,117,118,119,120,121,122]⟩)) 79),
 zo 7 81 (.idxA (some 65) 1 12 74),
 zn 8 (.store 1 81 80)])
 (.reg [zm 0 82 18,
 zm 1 1 82]))))))))
 (.seq (.reg [zm 0 83 13,
 zo 1 84 (.bin .sub 3 true 83 (zi 1)),
 zm 2 13 84])
 (.reg [zm 0 85 13,
 zm 1 86 1,
 zo 2 87 (.idxS 9 (.con (.string ⟨#[48,49,50,51,52,53,54,55,56,57,97,98,99,100,101,102,103,104,105,106,107,108,109,110,111,112,113,114,115,116,117,118,119,120,121,122]⟩)) 86),
 zo 3 88 (.idxA (some 65) 1 12 85),
 zn 4 (.store 1 88 87)]))))))
 (.seq (.seq (.reg [zm 0 89 3])
 (.cond 89
 (.seq (.reg [zm 0 90 13,
 zo 1 91 (.bin .sub 3 true 90 (zi 1)),
 zm 2 13 91])
 (.reg [zm 0 92 13,
 zo 1 93 (.idxA (some 65) 1 12 92),
 zn 2 (.store 1 93 (.con (.int .u8 45)))]))
 (.skip)))
 (.seq (.seq (.reg [zm 0 94 4])
 (.cond 94
 (.seq (.reg [zm 0 95 0,
 zm 1 96 13,
 zo 2 97 (.slice (some 65) 1 12 (some 96) none none),
 zo 3 98 (.append 1 1 95 97),
 zm 4 10 98])
 (.ret))
 (.skip)))
 (.seq (.reg [zm 0 99 13,
 zo 1 100 (.slice (some 65) 1 12 (some 99) none none),
 zo 2 101 (.b2s 100),
 zm 3 11 101])
 (.ret))))))))),
 [.tmp 10,.tmp 11]⟩
theorem p155u : PR Go.Proofs.Tryz.f155 = some v155u:=by kernel_rfl

def v157u : VFun :=
⟨.seq (.reg [zo 0 4 (.mv (.con (.string ⟨#[]⟩))),
 zo 1 5 (.mv (.con (.string ⟨#[]⟩))),
 zo 2 6 (.mv (.con (.bool false)))])
 (.seq (.seq (.reg [zm 0 8 0,
 zm 1 9 1,
 zo 2 10 (.call 183 [8,9]),
 zm 3 7 10])
 (.seq (.reg [zm 0 11 7,
 zo 1 12 (.bin .geq 3 true 11 (zi 0))])
 (.cond 12
 (.seq (.reg [zm 0 13 0,
 zm 1 14 7,
 zo 2 15 (.slS 9 13 none (some 14)),
 zm 3 16 0,
 zm 4 17 7,
 zm 5 18 1,
 zo 6 19 (.bi .len [9] 3 [18]),
 zo 7 20 (.bin .add 3 false 17 19),
 zo 8 21 (.slS 9 16 (some 20) none),
 zm 9 4 15,
 zm 10 5 21,
 zo 11 6 (.mv (.con (.bool true)))])
 (.ret))
 (.skip))))
 (.seq (.reg [zm 0 22 0,
 zm 1 4 22,
 zo 2 5 (.mv (.con (.string ⟨#[]⟩))),
 zo 3 6 (.mv (.con (.bool false)))])
 (.ret))),
 [.tmp 4,.tmp 5,.tmp 6]⟩
theorem p157u : PR Go.Proofs.Tryz.f157 = some v157u:=by kernel_rfl

def v158u : VFun :=
⟨.seq (.reg [zo 0 8 (.mv (.con (.slice none 0 0)))])
 (.seq (.seq (.reg [zm 0 12 3,
 zo 1 13 (.bin .eql 3 true 12 (zi 0))])
 (.cond 13
 (.seq (.reg [zo 0 8 (.mv (.con (.slice none 0 0)))])
 (.ret))
 (.skip)))
 (.seq (.seq (.reg [zm 0 14 1,
 zo 1 15 (.bin .eql 9 true 14 (.con (.string ⟨#[]⟩)))])
 (.cond 15
 (.seq (.reg [zm 0 16 0,
 zm 1 17 3,
 zo 2 18 (.call 184 [16,17]),
 zm 3 8 18])
 (.ret))
 (.skip)))
 (.seq (.seq (.reg [zm 0 19 3,
 zo 1 20 (.bin .lss 3 true 19 (zi 0))])
 (.cond 20
 (.reg [zm 0 21 0,
 zm 1 22 1,
 zo 2 23 (.call 185 [21,22]),
 zo 3 24 (.bin .add 3 true 23 (zi 1)),
 zm 4 3 24])
 (.skip)))
 (.seq (.reg [zm 0 25 3,
 zm 1 26 0,
 zo 2 27 (.bi .len [9] 3 [26]),
 zo 3 28 (.bin .add 3 true 27 (zi 1)),
 zo 4 29 (.bi .min [3,3] 3 [25,28]),
 zm 5 3 29])
 (.seq (.reg [zm 0 30 3,
 zo 1 31 (.mksl 1 16 [(.string ⟨#[]⟩)] 30 30),
 zm 2 9 31])
 (.seq (.reg [zm 0 32 3,
 zo 1 33 (.bin .sub 3 true 32 (zi 1)),
 zm 2 3 33])
 (.seq (.reg [zo 0 10 (.mv (zi 0))])
 (.seq (.block 0
 (.loop
 (.seq (.seq (.reg [zm 0 34 10,
 zm 1 35 3,
 zo 2 36 (.bin .lss 3 false 34 35)])
 (.cond 36
 (.skip)
 (.exit 0)))
 (.block 1
 (.seq (.reg [zm 0 37 0,
 zm 1 38 1,
 zo 2 39 (.call 186 [37,38]),
 zm 3 11 39])
 (.seq (.seq (.reg [zm 0 40 11,
 zo 1 41 (.bin .lss 3 true 40 (zi 0))])
 (.cond 41
 (.exit 0)
 (.skip)))
 (.seq (.reg [zm 0 42 9,
 zm 1 43 10,
 zm 2 44 0,
 zm 3 45 11,
 zm 4 46 2,
 zo 5 47 (.bin .add 3 false 45 46),
 zo 6 48 (.slS 9 44 none (some 47)),
 zo 7 49 (.idxA none 1 42 43),
 zn 8 (.store 1 49 48)])
 (.seq (.reg [zm 0 50 0,
 zm 1 51 11,
 zm 2 52 1,
 zo 3 53 (.bi .len [9] 3 [52]),
 zo 4 54 (.bin .add 3 false 51 53),
 zo 5 55 (.slS 9 50 (some 54) none),
 zm 6 0 55])
 (.reg [zm 0 56 10,
 zo 1 57 (.bin .add 3 true 56 (zi 1)),
 zm 2 10 57])))))))))
 (.seq (.reg [zm 0 58 9,
 zm 1 59 10,
 zm 2 60 0,
 zo 3 61 (.idxA none 1 58 59),
 zn 4 (.store 1 61 60)])
 (.seq (.reg [zm 0 62 9,
 zm 1 63 10,
 zo 2 64 (.bin .add 3 true 63 (zi 1)),
 zo 3 65 (.slice none 1 62 none (some 64) none),
 zm 4 8 65])
 (.ret))))))))))),
 [.tmp 8]⟩
theorem p158u : PR Go.Proofs.Tryz.f158 = some v158u:=by kernel_rfl

def v159u : VFun :=
⟨.seq (.reg [zo 0 2 (.mv (zi 0)),
 zo 1 3 (.mv (zi 0))])
 (.seq (.reg [zm 0 7 0,
 zo 1 8 (.call 187 [7,(zi 10),(zi 64)]),
 zm 2 6 8,
 zo 3 9 (.ext 6 0),
 zo 4 10 (.ext 6 1),
 zm 5 4 9,
 zm 6 5 10])
 (.seq (.seq (.reg [zm 0 11 5,
 zo 1 12 (.bin .neq 107 true 11 (.con .nilIface)),
 zm 2 13 12,
 zg 3 14 (.mv 4) 13 false,
 zg 4 15 (.call 99 [14]) 13 false,
 zg 5 16 (.mv 0) 13 false,
 zg 6 17 (.bin .neq 9 false 15 16) 13 false,
 zo 7 18 (.pick 13 (.con (.bool true)) 17)])
 (.cond 18
 (.seq (.reg [zo 0 2 (.mv (zi 0)),
 zo 1 3 (.mv (zi 4))])
 (.ret))
 (.skip)))
 (.seq (.reg [zm 0 19 4,
 zm 1 2 19,
 zo 2 3 (.mv (zi 0))])
 (.ret)))),
 [.tmp 2,.tmp 3]⟩
theorem p159u : PR Go.Proofs.Tryz.f159 = some v159u:=by kernel_rfl

def v160u : VFun :=
⟨.seq (.reg [zo 0 4 (.mv (.con (.string ⟨#[]⟩))),
 zo 1 5 (.mv (.con (.bool false)))])
 (.seq (.seq (.reg [zm 0 6 0,
 zm 1 7 1,
 zo 2 8 (.call 188 [6,7]),
 zo 3 9 (.un .not 8)])
 (.cond 9
 (.seq (.reg [zm 0 10 0,
 zm 1 4 10,
 zo 2 5 (.mv (.con (.bool false)))])
 (.ret))
 (.skip)))
 (.seq (.reg [zm 0 11 0,
 zm 1 12 1,
 zo 2 13 (.bi .len [9] 3 [12]),
 zo 3 14 (.slS 9 11 (some 13) none),
 zm 4 4 14,
 zo 5 5 (.mv (.con (.bool true)))])
 (.ret))),
 [.tmp 4,.tmp 5]⟩
theorem p160u : PR Go.Proofs.Tryz.f160 = some v160u:=by kernel_rfl

def v_code_checker_must : VFun :=
⟨.seq (.reg [zm 0 6 1,
 zo 1 7 (.un .not (.tmp 6))])
 (.cond (.tmp 7)
 (.reg [zm 0 8 0,
 zo 1 9 (.nilck (.tmp 8)),
 zf 2 10 6 9,
 zl 3 11 10,
 zm 4 12 0,
 zo 5 13 (.nilck (.tmp 12)),
 zf 6 14 7 13,
 zl 7 15 14,
 zm 8 16 2,
 zo 9 17 (.build [(.int .i64 0),(.int .i64 0),(.int .i64 0)] [(0,1,(.tmp 11)),(1,1,(.tmp 15)),(2,1,(.tmp 16))]),
 zo 10 18 (.mkif 164 (.tmp 17)),
 zn 11 (.panic (.tmp 18))])
 (.skip)),
 []⟩
theorem p_code_checker_must : PR Go.Proofs.Tryz.f161 = some v_code_checker_must:=by kernel_rfl

def v_code_checker_unit_c1 : VFun :=
⟨.seq (.reg [zo 0 2 (.mv (.con (.bool false)))])
 (.seq (.reg [zm 0 3 0,
 zo 1 4 (.bin .lss 3 true (.tmp 3) (zi 1)),
 zm 2 5 4,
 zg 3 6 (.mv (.tmp 0)) 5 false,
 zg 4 7 (.bin .gtr 3 true (.tmp 6) (zi 65536)) 5 false,
 zo 5 8 (.pick (.tmp 5) (.con (.bool true)) (.tmp 7)),
 zm 6 2 8])
 (.ret)),
 [.tmp 2]⟩
theorem p_code_checker_unit_c1 : PR Go.Proofs.Tryz.f162 = some v_code_checker_unit_c1:=by kernel_rfl

def v_code_within : VFun :=
⟨.seq (.reg [zo 0 4 (.mv (.con (.bool false)))])
 (.seq (.reg [zm 0 5 0,
 zo 1 6 (.bin .geq 3 true (.tmp 5) (zi 0)),
 zm 2 7 6,
 zg 3 8 (.mv (.tmp 0)) 7 true,
 zg 4 9 (.mv (.tmp 1)) 7 true,
 zg 5 10 (.bin .lss 3 false (.tmp 8) (.tmp 9)) 7 true,
 zo 6 11 (.pick (.tmp 7) (.tmp 10) (.con (.bool false))),
 zm 7 4 11])
 (.ret)),
 [.tmp 4]⟩
theorem p_code_within : PR Go.Proofs.Tryz.f163 = some v_code_within:=by kernel_rfl

def v_code_checker_op : VFun :=
⟨.seq (.reg [zo 0 3 (.box (.tmp 1))])
 (.seq (.reg [zf 0 9 0 3,
 zl 1 10 9,
 zo 2 11 (.call 119 [(.tmp 10)]),
 zm 3 8 11,
 zo 4 12 (.ext (.tmp 8) 0),
 zo 5 13 (.ext (.tmp 8) 1),
 zo 6 4 (.alloc [(.int .i64 0),(.int .i64 0),(.string ⟨#[]⟩)]),
 zn 7 (.store 3 (.tmp 4) (.tmp 12)),
 zm 8 5 13])
 (.seq (.reg [zm 0 14 0,
 zm 1 15 5,
 zo 2 16 (.call 161 [(.tmp 14),(.tmp 15),(zi 4)])])
 (.seq (.reg [zm 0 17 0,
 zf 1 18 1 3,
 zl 2 19 18,
 zf 3 20 0 4,
 zl 4 21 20,
 zo 5 22 (.bin .and 3 true (.tmp 21) (zi 1)),
 zo 6 23 (.bin .neq 3 true (.tmp 22) (zi 0)),
 zo 7 24 (.call 189 [(.tmp 17),(.tmp 19),(.tmp 23)])])
 (.seq (.reg [zm 0 25 0,
 zf 1 26 2 3,
 zl 2 27 26,
 zf 3 28 0 4,
 zl 4 29 28,
 zo 5 30 (.bin .and 3 true (.tmp 29) (zi 2)),
 zo 6 31 (.bin .neq 3 true (.tmp 30) (zi 0)),
 zo 7 32 (.call 189 [(.tmp 25),(.tmp 27),(.tmp 31)])])
 (.seq (.reg [zm 0 33 0,
 zf 1 34 3 3,
 zl 2 35 34,
 zf 3 36 0 4,
 zl 4 37 36,
 zo 5 38 (.bin .and 3 true (.tmp 37) (zi 4)),
 zo 6 39 (.bin .neq 3 true (.tmp 38) (zi 0)),
 zo 7 40 (.call 189 [(.tmp 33),(.tmp 35),(.tmp 39)])])
 (.seq (.reg [zm 0 41 0,
 zf 1 42 4 3,
 zl 2 43 42,
 zf 3 44 0 4,
 zl 4 45 44,
 zo 5 46 (.bin .and 3 true (.tmp 45) (zi 8)),
 zo 6 47 (.bin .neq 3 true (.tmp 46) (zi 0)),
 zo 7 48 (.call 189 [(.tmp 41),(.tmp 43),(.tmp 47)])])
 (.seq (.reg [zm 0 49 0,
 zf 1 50 6 3,
 zl 2 51 50,
 zf 3 52 6 3,
 zl 4 53 52,
 zo 5 54 (.bin .neq 3 true (.tmp 53) (zi (-1))),
 zo 6 55 (.call 189 [(.tmp 49),(.tmp 51),(.tmp 54)])])
 (.seq (.reg [zo 0 6 (.mv (zi 0))])
 (.seq (.block 0
 (.seq (.reg [zf 0 57 0 4,
 zl 1 58 57,
 zo 2 59 (.bin .and 3 true (.tmp 58) (zi 32)),
 zo 3 60 (.bin .neq 3 true (.tmp 59) (zi 0)),
 zm 4 56 60])
 (.cond (.tmp 56)
 (.reg [zm 0 61 0,
 zo 1 62 (.nilck (.tmp 61)),
 zf 2 63 0 62,
 zf 3 64 0 63,
 zl 4 65 64,
 zo 5 66 (.len (.tmp 65)),
 zm 6 6 66])
 (.seq (.reg [zf 0 68 0 4,
 zl 1 69 68,
 zo 2 70 (.bin .and 3 true (.tmp 69) (zi 64)),
 zo 3 71 (.bin .neq 3 true (.tmp 70) (zi 0)),
 zm 4 67 71])
 (.cond (.tmp 67)
 (.reg [zm 0 72 0,
 zo 1 73 (.nilck (.tmp 72)),
 zf 2 74 0 73,
 zf 3 75 4 74,
 zl 4 76 75,
 zm 5 6 76])
 (.seq (.reg [zf 0 78 0 4,
 zl 1 79 78,
 zo 2 80 (.bin .and 3 true (.tmp 79) (zi 128)),
 zo 3 81 (.bin .neq 3 true (.tmp 80) (zi 0)),
 zm 4 77 81])
 (.cond (.tmp 77)
 (.reg [zm 0 82 0,
 zo 1 83 (.nilck (.tmp 82)),
 zf 2 84 0 83,
 zf 3 85 5 84,
 zl 4 86 85,
 zo 5 87 (.len (.tmp 86)),
 zm 6 6 87])
 (.reg [zo 0 6 (.mv (zi (-1)))]))))))))
 (.seq (.reg [zm 0 88 0,
 zm 1 89 6,
 zo 2 90 (.bin .lss 2 true (.tmp 89) (zi 0)),
 zm 3 91 90,
 zg 4 92 (.fieldA 5 (.tmp 3)) 91 false,
 zg 5 93 (.load none (.tmp 92)) 91 false,
 zg 6 94 (.bin .geq 2 true (.tmp 93) (zi 0)) 91 false,
 zg 7 95 (.mv (.tmp 94)) 91 false,
 zg 8 96 (.fieldA 5 (.tmp 3)) 95 true,
 zg 9 97 (.load none (.tmp 96)) 95 true,
 zg 10 98 (.mv (.tmp 6)) 95 true,
 zg 11 99 (.bin .lss 2 false (.tmp 97) (.tmp 98)) 95 true,
 zg 12 100 (.pick (.tmp 95) (.tmp 99) (.con (.bool false))) 91 false,
 zo 13 101 (.pick (.tmp 91) (.con (.bool true)) (.tmp 100)),
 zo 14 102 (.call 161 [(.tmp 88),(.tmp 101),(zi 5)])])
 (.seq (.reg [zf 0 103 0 4,
 zl 1 104 103,
 zo 2 105 (.bin .and 3 true (.tmp 104) (zi 1)),
 zo 3 106 (.bin .eql 3 true (.tmp 105) (zi 0)),
 zm 4 107 106,
 zg 5 108 (.fieldA 1 (.tmp 3)) 107 true,
 zg 6 109 (.load none (.tmp 108)) 107 true,
 zg 7 110 (.bin .neq 3 true (.tmp 109) (zi 0)) 107 true,
 zo 8 111 (.pick (.tmp 107) (.tmp 110) (.con (.bool false))),
 zm 9 112 111,
 zg 10 113 (.fieldA 0 (.tmp 4)) 112 false,
 zg 11 114 (.load none (.tmp 113)) 112 false,
 zg 12 115 (.bin .and 3 true (.tmp 114) (zi 2)) 112 false,
 zg 13 116 (.bin .eql 3 true (.tmp 115) (zi 0)) 112 false,
 zg 14 117 (.mv (.tmp 116)) 112 false,
 zg 15 118 (.fieldA 2 (.tmp 3)) 117 true,
 zg 16 119 (.load none (.tmp 118)) 117 true,
 zg 17 120 (.bin .neq 3 true (.tmp 119) (zi 0)) 117 true,
 zg 18 121 (.pick (.tmp 117) (.tmp 120) (.con (.bool false))) 112 false,
 zo 19 122 (.pick (.tmp 112) (.con (.bool true)) (.tmp 121)),
 zm 20 123 122,
 zg 21 124 (.fieldA 0 (.tmp 4)) 123 false,
 zg 22 125 (.load none (.tmp 124)) 123 false,
 zg 23 126 (.bin .and 3 true (.tmp 125) (zi 4)) 123 false,
 zg 24 127 (.bin .eql 3 true (.tmp 126) (zi 0)) 123 false,
 zg 25 128 (.mv (.tmp 127)) 123 false,
 zg 26 129 (.fieldA 3 (.tmp 3)) 128 true,
 zg 27 130 (.load none (.tmp 129)) 128 true,
 zg 28 131 (.bin .neq 3 true (.tmp 130) (zi 0)) 128 true,
 zg 29 132 (.pick (.tmp 128) (.tmp 131) (.con (.bool false))) 123 false,
 zo 30 133 (.pick (.tmp 123) (.con (.bool true)) (.tmp 132)),
 zm 31 134 133,
 zg 32 135 (.fieldA 0 (.tmp 4)) 134 false,
 zg 33 136 (.load none (.tmp 135)) 134 false,
 zg 34 137 (.bin .and 3 true (.tmp 136) (zi 8)) 134 false,
 zg 35 138 (.bin .eql 3 true (.tmp 137) (zi 0)) 134 false,
 zg 36 139 (.mv (.tmp 138)) 134 false,
 zg 37 140 (.fieldA 4 (.tmp 3)) 139 true,
 zg 38 141 (.load none (.tmp 140)) 139 true,
 zg 39 142 (.bin .neq 3 true (.tmp 141) (zi 0)) 139 true,
 zg 40 143 (.pick (.tmp 139) (.tmp 142) (.con (.bool false))) 134 false,
 zo 41 144 (.pick (.tmp 134) (.con (.bool true)) (.tmp 143)),
 zm 42 145 144,
 zg 43 146 (.mv (.tmp 6)) 145 false,
 zg 44 147 (.bin .lss 2 true (.tmp 146) (zi 0)) 145 false,
 zg 45 148 (.mv (.tmp 147)) 145 false,
 zg 46 149 (.fieldA 0 (.tmp 4)) 148 true,
 zg 47 150 (.load none (.tmp 149)) 148 true,
 zg 48 151 (.bin .and 3 true (.tmp 150) (zi 16)) 148 true,
 zg 49 152 (.bin .eql 3 true (.tmp 151) (zi 0)) 148 true,
 zg 50 153 (.pick (.tmp 148) (.tmp 152) (.con (.bool false))) 145 false,
 zg 51 154 (.mv (.tmp 153)) 145 false,
 zg 52 155 (.fieldA 5 (.tmp 3)) 154 true,
 zg 53 156 (.load none (.tmp 155)) 154 true,
 zg 54 157 (.bin .neq 2 true (.tmp 156) (zi 0)) 154 true,
 zg 55 158 (.pick (.tmp 154) (.tmp 157) (.con (.bool false))) 145 false,
 zo 56 159 (.pick (.tmp 145) (.con (.bool true)) (.tmp 158)),
 zm 57 7 159])
 (.reg [zm 0 160 0,
 zm 1 161 7,
 zo 2 162 (.un .not (.tmp 161)),
 zo 3 163 (.call 161 [(.tmp 160),(.tmp 162),(zi 4)])])))))))))))),
 []⟩
theorem p_code_checker_op : PR Go.Proofs.Tryz.f164 = some v_code_checker_op:=by kernel_rfl

end Go.VX.Seat
end
section
set_option maxRecDepth 20000
namespace Go.VX.Seat
def v_code_checker_end : VFun :=
⟨.seq (.reg [zo 0 3 (.box (.tmp 1))])
 (.seq (.reg [zm 0 6 0,
 zf 1 7 0 3,
 zl 2 8 7,
 zo 3 9 (.bin .geq 3 true (.tmp 8) (zi 1)),
 zm 4 10 9,
 zg 5 11 (.fieldA 0 (.tmp 3)) 10 true,
 zg 6 12 (.load none (.tmp 11)) 10 true,
 zg 7 13 (.bin .leq 3 true (.tmp 12) (zi 4)) 10 true,
 zo 8 14 (.pick (.tmp 10) (.tmp 13) (.con (.bool false))),
 zo 9 15 (.call 161 [(.tmp 6),(.tmp 14),(zi 4)])])
 (.seq (.reg [zf 0 16 0 3,
 zl 1 17 16,
 zo 2 18 (.bin .eql 3 true (.tmp 17) (zi 1)),
 zm 3 19 18,
 zg 4 20 (.fieldA 0 (.tmp 3)) 19 false,
 zg 5 21 (.load none (.tmp 20)) 19 false,
 zg 6 22 (.bin .eql 3 true (.tmp 21) (zi 2)) 19 false,
 zo 7 23 (.pick (.tmp 19) (.con (.bool true)) (.tmp 22)),
 zf 8 24 0 3,
 zl 9 25 24,
 zo 10 26 (.bin .eql 3 true (.tmp 25) (zi 2)),
 ⟨11,(some 4),.mv (.tmp 23),none,[(.tmp 24)]⟩,
 zm 12 5 26])
 (.seq (.reg [zm 0 27 0,
 zf 1 28 1 3,
 zl 2 29 28,
 zf 3 30 0 3,
 zl 4 31 30,
 zo 5 32 (.bin .neq 3 true (.tmp 31) (zi 1)),
 zo 6 33 (.call 189 [(.tmp 27),(.tmp 29),(.tmp 32)])])
 (.seq (.reg [zm 0 34 0,
 zm 1 35 4,
 zo 2 36 (.un .not (.tmp 35)),
 zm 3 37 36,
 zg 4 38 (.fieldA 2 (.tmp 3)) 37 false,
 zg 5 39 (.load none (.tmp 38)) 37 false,
 zg 6 40 (.mv (.tmp 0)) 37 false,
 zg 7 41 (.nilck (.tmp 40)) 37 false,
 zg 8 42 (.fieldA 0 (.tmp 41)) 37 false,
 zg 9 43 (.fieldA 5 (.tmp 42)) 37 false,
 zg 10 44 (.load none (.tmp 43)) 37 false,
 zg 11 45 (.len (.tmp 44)) 37 false,
 zg 12 46 (.call 163 [(.tmp 39),(.tmp 45)]) 37 false,
 zo 13 47 (.pick (.tmp 37) (.con (.bool true)) (.tmp 46)),
 zo 14 48 (.call 161 [(.tmp 34),(.tmp 47),(zi 5)])])
 (.seq (.reg [zm 0 49 0,
 zm 1 50 5,
 zo 2 51 (.un .not (.tmp 50)),
 zm 3 52 51,
 zg 4 53 (.fieldA 3 (.tmp 3)) 52 false,
 zg 5 54 (.load none (.tmp 53)) 52 false,
 zg 6 55 (.mv (.tmp 0)) 52 false,
 zg 7 56 (.nilck (.tmp 55)) 52 false,
 zg 8 57 (.fieldA 0 (.tmp 56)) 52 false,
 zg 9 58 (.fieldA 5 (.tmp 57)) 52 false,
 zg 10 59 (.load none (.tmp 58)) 52 false,
 zg 11 60 (.len (.tmp 59)) 52 false,
 zg 12 61 (.call 163 [(.tmp 54),(.tmp 60)]) 52 false,
 zo 13 62 (.pick (.tmp 52) (.con (.bool true)) (.tmp 61)),
 zo 14 63 (.call 161 [(.tmp 49),(.tmp 62),(zi 5)])])
 (.reg [zm 0 64 0,
 zf 1 65 0 3,
 zl 2 66 65,
 zo 3 67 (.bin .neq 3 true (.tmp 66) (zi 1)),
 zm 4 68 67,
 zg 5 69 (.fieldA 1 (.tmp 3)) 68 false,
 zg 6 70 (.load none (.tmp 69)) 68 false,
 zg 7 71 (.bin .eql 3 true (.tmp 70) (zi 0)) 68 false,
 zo 8 72 (.pick (.tmp 68) (.con (.bool true)) (.tmp 71)),
 zm 9 73 72,
 zg 10 74 (.mv (.tmp 4)) 73 true,
 zg 11 75 (.mv (.tmp 74)) 73 true,
 zg 12 76 (.fieldA 2 (.tmp 3)) 75 false,
 zg 13 77 (.load none (.tmp 76)) 75 false,
 zg 14 78 (.bin .eql 3 true (.tmp 77) (zi 0)) 75 false,
 zg 15 79 (.pick (.tmp 75) (.con (.bool true)) (.tmp 78)) 73 true,
 zo 16 80 (.pick (.tmp 73) (.tmp 79) (.con (.bool false))),
 zm 17 81 80,
 zg 18 82 (.mv (.tmp 5)) 81 true,
 zg 19 83 (.mv (.tmp 82)) 81 true,
 zg 20 84 (.fieldA 3 (.tmp 3)) 83 false,
 zg 21 85 (.load none (.tmp 84)) 83 false,
 zg 22 86 (.bin .eql 3 true (.tmp 85) (zi 0)) 83 false,
 zg 23 87 (.pick (.tmp 83) (.con (.bool true)) (.tmp 86)) 81 true,
 zo 24 88 (.pick (.tmp 81) (.tmp 87) (.con (.bool false))),
 zo 25 89 (.call 161 [(.tmp 64),(.tmp 88),(zi 4)])])))))),
 []⟩
theorem p_code_checker_end : PR Go.Proofs.Tryz.f165 = some v_code_checker_end:=by kernel_rfl

def v166u : VFun :=
⟨.seq (.reg [zo 0 4 (.mv (.con (.int .u32 0))),
 zo 1 5 (.mv (.con (.int .u32 0)))])
 (.seq (.reg [zm 0 7 0,
 zo 1 8 (.conv 148 146 7),
 zm 2 9 1,
 zo 3 10 (.conv 148 146 9),
 zo 4 11 (.bin .mul 146 false 8 10),
 zm 5 6 11])
 (.seq (.reg [zm 0 12 6,
 zo 1 13 (.bin .shr 146 true 12 (.con (.int .u64 32))),
 zo 2 14 (.conv 146 148 13),
 zm 3 15 6,
 zo 4 16 (.conv 146 148 15),
 zm 5 4 14,
 zm 6 5 16])
 (.ret))),
 [.tmp 4,.tmp 5]⟩
theorem p166u : PR Go.Proofs.Tryz.f166 = some v166u:=by kernel_rfl

def v_math_bits_Mul64 : VFun :=
⟨.seq (.reg [zo 0 4 (.mv (.con (.int .u64 0))),
 zo 1 5 (.mv (.con (.int .u64 0)))])
 (.seq (.reg [zm 0 14 0,
 zo 1 15 (.bin .and 146 true (.tmp 14) (.con (.int .u64 4294967295))),
 zm 2 6 15])
 (.seq (.reg [zm 0 16 0,
 zo 1 17 (.bin .shr 146 true (.tmp 16) (.con (.int .u64 32))),
 zm 2 7 17])
 (.seq (.reg [zm 0 18 1,
 zo 1 19 (.bin .and 146 true (.tmp 18) (.con (.int .u64 4294967295))),
 zm 2 8 19])
 (.seq (.reg [zm 0 20 1,
 zo 1 21 (.bin .shr 146 true (.tmp 20) (.con (.int .u64 32))),
 zm 2 9 21])
 (.seq (.reg [zm 0 22 6,
 zm 1 23 8,
 zo 2 24 (.bin .mul 146 false (.tmp 22) (.tmp 23)),
 zm 3 10 24])
 (.seq (.reg [zm 0 25 7,
 zm 1 26 8,
 zo 2 27 (.bin .mul 146 false (.tmp 25) (.tmp 26)),
 zm 3 28 10,
 zo 4 29 (.bin .shr 146 true (.tmp 28) (.con (.int .u64 32))),
 zo 5 30 (.bin .add 146 false (.tmp 27) (.tmp 29)),
 zm 6 11 30])
 (.seq (.reg [zm 0 31 11,
 zo 1 32 (.bin .and 146 true (.tmp 31) (.con (.int .u64 4294967295))),
 zm 2 12 32])
 (.seq (.reg [zm 0 33 11,
 zo 1 34 (.bin .shr 146 true (.tmp 33) (.con (.int .u64 32))),
 zm 2 13 34])
 (.seq (.reg [zm 0 35 12,
 zm 1 36 6,
 zm 2 37 9,
 zo 3 38 (.bin .mul 146 false (.tmp 36) (.tmp 37)),
 zo 4 39 (.bin .add 146 false (.tmp 35) (.tmp 38)),
 zm 5 12 39])
 (.seq (.reg [zm 0 40 7,
 zm 1 41 9,
 zo 2 42 (.bin .mul 146 false (.tmp 40) (.tmp 41)),
 zm 3 43 13,
 zo 4 44 (.bin .add 146 false (.tmp 42) (.tmp 43)),
 zm 5 45 12,
 zo 6 46 (.bin .shr 146 true (.tmp 45) (.con (.int .u64 32))),
 zo 7 47 (.bin .add 146 false (.tmp 44) (.tmp 46)),
 zm 8 4 47])
 (.seq (.reg [zm 0 48 0,
 zm 1 49 1,
 zo 2 50 (.bin .mul 146 false (.tmp 48) (.tmp 49)),
 zm 3 5 50])
 (.ret)))))))))))),
 [.tmp 4,.tmp 5]⟩
theorem p_math_bits_Mul64 : PR Go.Proofs.Tryz.f167 = some v_math_bits_Mul64:=by kernel_rfl

def v_slices_IndexFunc_int : VFun :=
⟨.seq (.reg [zo 0 4 (.mv (zi 0))])
 (.seq (.seq (.reg [zm 0 6 0,
 zo 1 7 (.len (.tmp 6)),
 zo 2 8 (.mv (zi 0))])
 (.block 0
 (.loop
 (.seq (.reg [zo 0 9 (.bin .lss 3 false (.tmp 8) (.tmp 7))])
 (.seq (.cond (.tmp 9)
 (.skip)
 (.exit 0))
 (.seq (.block 1
 (.seq (.reg [zm 0 10 8,
 zm 1 5 10])
 (.seq (.reg [zm 0 11 1,
 zm 1 12 0,
 zm 2 13 5,
 zo 3 14 (.idxA none 1 (.tmp 12) (.tmp 13)),
 zl 4 15 14,
 zo 5 16 (.callv (.tmp 11) [(.tmp 15)])])
 (.cond (.tmp 16)
 (.seq (.reg [zm 0 17 5,
 zm 1 4 17])
 (.ret))
 (.skip)))))
 (.reg [zo 0 18 (.bin .add 3 true (.tmp 8) (zi 1)),
 zm 1 8 18])))))))
 (.seq (.reg [zo 0 4 (.mv (zi (-1)))])
 (.ret))),
 [.tmp 4]⟩
theorem p_slices_IndexFunc_int : PR Go.Proofs.Tryz.f168 = some v_slices_IndexFunc_int:=by kernel_rfl

def v172u : VFun :=
⟨.seq (.reg [zm 0 10 1,
 zm 1 8 10])
 (.block 0
 (.loop
 (.block 1
 (.seq (.reg [zm 0 11 8,
 zo 1 12 (.bin .mul 3 true (zi 2) 11),
 zo 2 13 (.bin .add 3 true 12 (zi 1)),
 zm 3 9 13])
 (.seq (.seq (.reg [zm 0 14 9,
 zm 1 15 2,
 zo 2 16 (.bin .geq 3 false 14 15)])
 (.cond 16
 (.exit 0)
 (.skip)))
 (.seq (.seq (.reg [zm 0 17 9,
 zo 1 18 (.bin .add 3 true 17 (zi 1)),
 zm 2 19 2,
 zo 3 20 (.bin .lss 3 false 18 19),
 zm 4 21 20,
 zg 5 22 (.mv 0) 21 true,
 zg 6 23 (.mv 3) 21 true,
 zg 7 24 (.mv 9) 21 true,
 zg 8 25 (.bin .add 3 false 23 24) 21 true,
 zg 9 26 (.idxA none 1 22 25) 21 true,
 zg 10 27 (.load none 26) 21 true,
 zg 11 28 (.mv 0) 21 true,
 zg 12 29 (.mv 3) 21 true,
 zg 13 30 (.mv 9) 21 true,
 zg 14 31 (.bin .add 3 false 29 30) 21 true,
 zg 15 32 (.bin .add 3 true 31 (zi 1)) 21 true,
 zg 16 33 (.idxA none 1 28 32) 21 true,
 zg 17 34 (.load none 33) 21 true,
 zg 18 35 (.call 147 [27,34]) 21 true,
 zo 19 36 (.pick 21 35 (.con (.bool false)))])
 (.cond 36
 (.reg [zm 0 37 9,
 zo 1 38 (.bin .add 3 true 37 (zi 1)),
 zm 2 9 38])
 (.skip)))
 (.seq (.seq (.reg [zm 0 39 0,
 zm 1 40 3,
 zm 2 41 8,
 zo 3 42 (.bin .add 3 false 40 41),
 zo 4 43 (.idxA none 1 39 42),
 zl 5 44 43,
 zm 6 45 0,
 zm 7 46 3,
 zm 8 47 9,
 zo 9 48 (.bin .add 3 false 46 47),
 zo 10 49 (.idxA none 1 45 48),
 zl 11 50 49,
 zo 12 51 (.call 147 [44,50]),
 zo 13 52 (.un .not 51)])
 (.cond 52
 (.ret)
 (.skip)))
 (.seq (.reg [zm 0 53 0,
 zm 1 54 3,
 zm 2 55 8,
 zo 3 56 (.bin .add 3 false 54 55),
 zm 4 57 0,
 zm 5 58 3,
 zm 6 59 9,
 zo 7 60 (.bin .add 3 false 58 59),
 zm 8 61 0,
 zm 9 62 3,
 zm 10 63 9,
 zo 11 64 (.bin .add 3 false 62 63),
 zo 12 65 (.idxA none 1 61 64),
 zl 13 66 65,
 zm 14 67 0,
 zm 15 68 3,
 zm 16 69 8,
 zo 17 70 (.bin .add 3 false 68 69),
 zo 18 71 (.idxA none 1 67 70),
 zl 19 72 71,
 zo 20 73 (.idxA none 1 53 56),
 zn 21 (.store 1 73 66),
 zo 22 74 (.idxA none 1 57 60),
 zn 23 (.store 1 74 72)])
 (.reg [zm 0 75 9,
 zm 1 8 75]))))))))),
 []⟩
theorem p172u : PR Go.Proofs.Tryz.f172 = some v172u:=by kernel_rfl

def v173u : VFun :=
⟨.seq (.reg [zo 0 2 (.mv (.con (.int .u64 0)))])
 (.seq (.reg [zm 0 3 0,
 zo 1 4 (.conv 3 147 3),
 zo 2 5 (.call 118 [4]),
 zo 3 6 (.bin .shl 147 true (.con (.int .u64 1)) 5),
 zm 4 2 6])
 (.ret)),
 [.tmp 2]⟩
theorem p173u : PR Go.Proofs.Tryz.f173 = some v173u:=by kernel_rfl

def v174u : VFun :=
⟨.seq (.reg [zo 0 2 (.mv (.con (.int .u64 0)))])
 (.seq (.reg [zm 0 3 0,
 zo 1 4 (.nilck 3),
 zl 2 5 4,
 zm 3 6 0,
 zo 4 7 (.nilck 6),
 zl 5 8 7,
 zo 6 9 (.bin .shl 239 true 8 (.con (.int .u64 13))),
 zo 7 10 (.bin .xor 239 false 5 9),
 zo 8 11 (.nilck 3),
 zn 9 (.store 1 11 10)])
 (.seq (.reg [zm 0 12 0,
 zo 1 13 (.nilck 12),
 zl 2 14 13,
 zm 3 15 0,
 zo 4 16 (.nilck 15),
 zl 5 17 16,
 zo 6 18 (.bin .shr 239 true 17 (.con (.int .u64 7))),
 zo 7 19 (.bin .xor 239 false 14 18),
 zo 8 20 (.nilck 12),
 zn 9 (.store 1 20 19)])
 (.seq (.reg [zm 0 21 0,
 zo 1 22 (.nilck 21),
 zl 2 23 22,
 zm 3 24 0,
 zo 4 25 (.nilck 24),
 zl 5 26 25,
 zo 6 27 (.bin .shl 239 true 26 (.con (.int .u64 17))),
 zo 7 28 (.bin .xor 239 false 23 27),
 zo 8 29 (.nilck 21),
 zn 9 (.store 1 29 28)])
 (.seq (.reg [zm 0 30 0,
 zo 1 31 (.nilck 30),
 zl 2 32 31,
 zm 3 2 32])
 (.ret))))),
 [.tmp 2]⟩
theorem p174u : PR Go.Proofs.Tryz.f174 = some v174u:=by kernel_rfl

def v175u : VFun :=
⟨.seq (.reg [zo 0 6 (.mv (zi 0))])
 (.seq (.reg [zm 0 7 0,
 zm 1 8 1,
 zo 2 9 (.bin .sub 3 true 8 (zi 1)),
 zm 3 10 1,
 zm 4 11 1,
 zo 5 12 (.bin .add 3 true 11 (zi 1)),
 zm 6 13 2,
 zo 7 14 (.call 176 [7,9,10,12,13]),
 zm 8 6 14])
 (.ret)),
 [.tmp 6]⟩
theorem p175u : PR Go.Proofs.Tryz.f175 = some v175u:=by kernel_rfl

def v176u : VFun :=
⟨.seq (.reg [zo 0 10 (.mv (zi 0))])
 (.seq (.reg [zm 0 12 0,
 zm 1 13 1,
 zm 2 14 2,
 zm 3 15 4,
 zo 4 16 (.call 191 [12,13,14,15]),
 zm 5 11 16,
 zo 6 17 (.ext 11 0),
 zo 7 18 (.ext 11 1),
 zm 8 1 17,
 zm 9 2 18])
 (.seq (.reg [zm 0 20 0,
 zm 1 21 2,
 zm 2 22 3,
 zm 3 23 4,
 zo 4 24 (.call 191 [20,21,22,23]),
 zm 5 19 24,
 zo 6 25 (.ext 19 0),
 zo 7 26 (.ext 19 1),
 zm 8 2 25,
 zm 9 3 26])
 (.seq (.reg [zm 0 28 0,
 zm 1 29 1,
 zm 2 30 2,
 zm 3 31 4,
 zo 4 32 (.call 191 [28,29,30,31]),
 zm 5 27 32,
 zo 6 33 (.ext 27 0),
 zo 7 34 (.ext 27 1),
 zm 8 1 33,
 zm 9 2 34])
 (.seq (.reg [zm 0 35 2,
 zm 1 10 35])
 (.ret))))),
 [.tmp 10]⟩
theorem p176u : PR Go.Proofs.Tryz.f176 = some v176u:=by kernel_rfl

def v177u : VFun :=
⟨.seq (.reg [zo 0 2 (.mv (.con (.bool false)))])
 (.seq (.reg [zm 0 3 0,
 zm 1 4 0,
 zo 2 5 (.bin .neq 3 false 3 4),
 zm 3 2 5])
 (.ret)),
 [.tmp 2]⟩
theorem p177u : PR Go.Proofs.Tryz.f177 = some v177u:=by kernel_rfl

def v178u : VFun :=
⟨.seq (.reg [zo 0 2 (.mv (zi 0))])
 (.seq (.reg [zm 0 3 0,
 zo 1 4 (.bin .mul 3 true 3 (zi 78913)),
 zo 2 5 (.bin .shr 3 true 4 (.con (.int .u64 18))),
 zm 3 2 5])
 (.ret)),
 [.tmp 2]⟩
theorem p178u : PR Go.Proofs.Tryz.f178 = some v178u:=by kernel_rfl

def v179u : VFun :=
⟨.seq (.reg [zo 0 2 (.mv (zi 0))])
 (.seq (.seq (.reg [zm 0 3 0])
 (.cond 3
 (.seq (.reg [zo 0 2 (.mv (zi 1))])
 (.ret))
 (.skip)))
 (.seq (.reg [zo 0 2 (.mv (zi 0))])
 (.ret))),
 [.tmp 2]⟩
theorem p179u : PR Go.Proofs.Tryz.f179 = some v179u:=by kernel_rfl

def v180u : VFun :=
⟨.seq (.reg [zo 0 2 (.mv (.con (.bool false)))])
 (.seq (.reg [zm 0 3 0,
 zm 1 4 0,
 zo 2 5 (.bin .sub 3 true 4 (zi 1)),
 zo 3 6 (.bin .and 3 false 3 5),
 zo 4 7 (.bin .eql 3 true 6 (zi 0)),
 zm 5 2 7])
 (.ret)),
 [.tmp 2]⟩
theorem p180u : PR Go.Proofs.Tryz.f180 = some v180u:=by kernel_rfl

def v181u : VFun :=
⟨.seq (.reg [zo 0 2 (.mv (zi 0))])
 (.seq (.cond (.con (.bool false))
 (.seq (.reg [zm 0 3 0,
 zo 1 4 (.conv 147 148 3),
 zo 2 5 (.call 192 [4]),
 zm 3 2 5])
 (.ret))
 (.skip))
 (.seq (.reg [zm 0 6 0,
 zo 1 7 (.call 193 [6]),
 zm 2 2 7])
 (.ret))),
 [.tmp 2]⟩
theorem p181u : PR Go.Proofs.Tryz.f181 = some v181u:=by kernel_rfl

def v183u : VFun :=
⟨.seq (.reg [zo 0 4 (.mv (zi 0))])
 (.seq (.reg [zm 0 14 1,
 zo 1 15 (.bi .len [9] 3 [14]),
 zm 2 5 15])
 (.seq (.block 0
 (.seq (.reg [zm 0 17 5,
 zo 1 18 (.bin .eql 3 true 17 (zi 0)),
 zm 2 19 18,
 zg 3 20 (.mv 1) 19 false,
 zg 4 21 (.mv 0) 19 false,
 zg 5 22 (.bin .eql 9 false 20 21) 19 false,
 zo 6 23 (.pick 19 (.con (.bool true)) 22),
 zm 7 16 23])
 (.cond 16
 (.seq (.reg [zo 0 4 (.mv (zi 0))])
 (.ret))
 (.seq (.reg [zm 0 25 5,
 zo 1 26 (.bin .eql 3 true 25 (zi 1)),
 zm 2 24 26])
 (.cond 24
 (.seq (.reg [zm 0 27 0,
 zm 1 28 1,
 zo 2 29 (.idxS 9 28 (zi 0)),
 zo 3 30 (.call 194 [27,29]),
 zm 4 4 30])
 (.ret))
 (.seq (.reg [zm 0 32 5,
 zm 1 33 0,
 zo 2 34 (.bi .len [9] 3 [33]),
 zo 3 35 (.bin .geq 3 false 32 34),
 zm 4 31 35])
 (.cond 31
 (.seq (.reg [zo 0 4 (.mv (zi (-1)))])
 (.ret))
 (.seq (.reg [zm 0 37 5,
 zo 1 38 (.load none (.glo 2)),
 zo 2 39 (.bin .leq 3 false 37 38),
 zm 3 40 39,
 zg 4 41 (.mv 0) 40 true,
 zg 5 42 (.bi .len [9] 3 [41]) 40 true,
 zg 6 43 (.bin .leq 3 true 42 (zi 64)) 40 true,
 zo 7 44 (.pick 40 43 (.con (.bool false))),
 zm 8 36 44])
 (.cond 36
 (.seq (.reg [zm 0 45 0,
 zm 1 46 1,
 zo 2 47 (.call 195 [45,46]),
 zm 3 4 47])
 (.ret))
 (.skip))))))))))
 (.seq (.reg [zm 0 48 1,
 zo 1 49 (.idxS 9 48 (zi 0)),
 zm 2 6 49])
 (.seq (.reg [zm 0 50 1,
 zo 1 51 (.idxS 9 50 (zi 1)),
 zm 2 7 51])
 (.seq (.reg [zo 0 8 (.mv (zi 0))])
 (.seq (.reg [zm 0 52 0,
 zo 1 53 (.bi .len [9] 3 [52]),
 zm 2 54 5,
 zo 3 55 (.bin .sub 3 false 53 54),
 zo 4 56 (.bin .add 3 true 55 (zi 1)),
 zm 5 9 56])
 (.seq (.reg [zo 0 10 (.mv (zi 0))])
 (.seq (.block 1
 (.loop
 (.seq (.seq (.reg [zm 0 57 8,
 zm 1 58 9,
 zo 2 59 (.bin .lss 3 false 57 58)])
 (.cond 59
 (.skip)
 (.exit 1)))
 (.block 2
 (.seq (.seq (.reg [zm 0 60 0,
 zm 1 61 8,
 zo 2 62 (.idxS 9 60 61),
 zm 3 63 6,
 zo 4 64 (.bin .neq 5 false 62 63)])
 (.cond 64
 (.seq (.reg [zm 0 65 0,
 zm 1 66 8,
 zo 2 67 (.bin .add 3 true 66 (zi 1)),
 zm 3 68 9,
 zo 4 69 (.slS 9 65 (some 67) (some 68)),
 zm 5 70 6,
 zo 6 71 (.call 194 [69,70]),
 zm 7 11 71])
 (.seq (.seq (.reg [zm 0 72 11,
 zo 1 73 (.bin .lss 3 true 72 (zi 0))])
 (.cond 73
 (.seq (.reg [zo 0 4 (.mv (zi (-1)))])
 (.ret))
 (.skip)))
 (.reg [zm 0 74 8,
 zm 1 75 11,
 zo 2 76 (.bin .add 3 true 75 (zi 1)),
 zo 3 77 (.bin .add 3 false 74 76),
 zm 4 8 77])))
 (.skip)))
 (.seq (.seq (.reg [zm 0 78 0,
 zm 1 79 8,
 zo 2 80 (.bin .add 3 true 79 (zi 1)),
 zo 3 81 (.idxS 9 78 80),
 zm 4 82 7,
 zo 5 83 (.bin .eql 5 false 81 82),
 zm 6 84 83,
 zg 7 85 (.mv 0) 84 true,
 zg 8 86 (.mv 8) 84 true,
 zg 9 87 (.mv 8) 84 true,
 zg 10 88 (.mv 5) 84 true,
 zg 11 89 (.bin .add 3 false 87 88) 84 true,
 zg 12 90 (.slS 9 85 (some 86) (some 89)) 84 true,
 zg 13 91 (.mv 1) 84 true,
 zg 14 92 (.bin .eql 9 false 90 91) 84 true,
 zo 15 93 (.pick 84 92 (.con (.bool false)))])
 (.cond 93
 (.seq (.reg [zm 0 94 8,
 zm 1 4 94])
 (.ret))
 (.skip)))
 (.seq (.reg [zm 0 95 8,
 zo 1 96 (.bin .add 3 true 95 (zi 1)),
 zm 2 8 96])
 (.seq (.reg [zm 0 97 10,
 zo 1 98 (.bin .add 3 true 97 (zi 1)),
 zm 2 10 98])
 (.seq (.reg [zm 0 99 5,
 zo 1 100 (.load none (.glo 2)),
 zo 2 101 (.bin .leq 3 false 99 100),
 zm 3 102 101,
 zg 4 103 (.mv 10) 102 true,
 zg 5 104 (.mv 8) 102 true,
 zg 6 105 (.call 196 [104]) 102 true,
 zg 7 106 (.bin .gtr 3 false 103 105) 102 true,
 zo 8 107 (.pick 102 106 (.con (.bool false)))])
 (.cond 107
 (.seq (.reg [zm 0 108 0,
 zm 1 109 8,
 zo 2 110 (.slS 9 108 (some 109) none),
 zm 3 111 1,
 zo 4 112 (.call 195 [110,111]),
 zm 5 12 112])
 (.seq (.seq (.reg [zm 0 113 12,
 zo 1 114 (.bin .geq 3 true 113 (zi 0))])
 (.cond 114
 (.seq (.reg [zm 0 115 12,
 zm 1 116 8,
 zo 2 117 (.bin .add 3 false 115 116),
 zm 3 4 117])
 (.ret))
 (.skip)))
 (.seq (.reg [zo 0 4 (.mv (zi (-1)))])
 (.ret))))
 (.seq (.reg [zm 0 118 5,
 zo 1 119 (.load none (.glo 2)),
 zo 2 120 (.bin .gtr 3 false 118 119),
 zm 3 121 120,
 zg 4 122 (.mv 10) 121 true,
 zg 5 123 (.mv 8) 121 true,
 zg 6 124 (.bin .shr 3 true 123 (.con (.int .u64 4))) 121 true,
 zg 7 125 (.bin .add 3 true (zi 4) 124) 121 true,
 zg 8 126 (.bin .geq 3 false 122 125) 121 true,
 zo 9 127 (.pick 121 126 (.con (.bool false))),
 zm 10 128 127,
 zg 11 129 (.mv 8) 128 true,
 zg 12 130 (.mv 9) 128 true,
 zg 13 131 (.bin .lss 3 false 129 130) 128 true,
 zo 14 132 (.pick 128 131 (.con (.bool false)))])
 (.cond 132
 (.seq (.reg [zm 0 133 0,
 zm 1 134 8,
 zo 2 135 (.slS 9 133 (some 134) none),
 zm 3 136 1,
 zo 4 137 (.call 197 [135,136]),
 zm 5 13 137])
 (.seq (.seq (.reg [zm 0 138 13,
 zo 1 139 (.bin .lss 3 true 138 (zi 0))])
 (.cond 139
 (.seq (.reg [zo 0 4 (.mv (zi (-1)))])
 (.ret))
 (.skip)))
 (.seq (.reg [zm 0 140 8,
 zm 1 141 13,
 zo 2 142 (.bin .add 3 false 140 141),
 zm 3 4 142])
 (.ret))))
 (.skip)))))))))))))
 (.seq (.reg [zo 0 4 (.mv (zi (-1)))])
 (.ret)))))))))),
 [.tmp 4]⟩
theorem p183u : PR Go.Proofs.Tryz.f183 = some v183u:=by kernel_rfl

def v184u : VFun :=
⟨.seq (.reg [zo 0 4 (.mv (.con (.slice none 0 0)))])
 (.seq (.reg [zm 0 10 0,
 zo 1 11 (.call 198 [10]),
 zm 2 5 11])
 (.seq (.seq (.reg [zm 0 12 1,
 zo 1 13 (.bin .lss 3 true 12 (zi 0)),
 zm 2 14 13,
 zg 3 15 (.mv 1) 14 false,
 zg 4 16 (.mv 5) 14 false,
 zg 5 17 (.bin .gtr 3 false 15 16) 14 false,
 zo 6 18 (.pick 14 (.con (.bool true)) 17)])
 (.cond 18
 (.reg [zm 0 19 5,
 zm 1 1 19])
 (.skip)))
 (.seq (.reg [zm 0 20 1,
 zo 1 21 (.mksl 1 16 [(.string ⟨#[]⟩)] 20 20),
 zm 2 6 21])
 (.seq (.seq (.reg [zo 0 7 (.mv (zi 0))])
 (.block 0
 (.loop
 (.seq (.seq (.reg [zm 0 22 7,
 zm 1 23 1,
 zo 2 24 (.bin .sub 3 true 23 (zi 1)),
 zo 3 25 (.bin .lss 3 false 22 24)])
 (.cond 25
 (.skip)
 (.exit 0)))
 (.seq (.block 1
 (.seq (.reg [zm 0 29 0,
 zo 1 30 (.call 199 [29]),
 zm 2 28 30,
 zo 3 31 (.ext 28 0),
 zo 4 32 (.ext 28 1),
 zm 5 8 31,
 zm 6 9 32])
 (.seq (.reg [zm 0 33 6,
 zm 1 34 7,
 zm 2 35 0,
 zm 3 36 9,
 zo 4 37 (.slS 9 35 none (some 36)),
 zo 5 38 (.idxA none 1 33 34),
 zn 6 (.store 1 38 37)])
 (.reg [zm 0 39 0,
 zm 1 40 9,
 zo 2 41 (.slS 9 39 (some 40) none),
 zm 3 0 41]))))
 (.reg [zm 0 26 7,
 zo 1 27 (.bin .add 3 true 26 (zi 1)),
 zm 2 7 27]))))))
 (.seq (.seq (.reg [zm 0 42 1,
 zo 1 43 (.bin .gtr 3 true 42 (zi 0))])
 (.cond 43
 (.reg [zm 0 44 6,
 zm 1 45 1,
 zo 2 46 (.bin .sub 3 true 45 (zi 1)),
 zm 3 47 0,
 zo 4 48 (.idxA none 1 44 46),
 zn 5 (.store 1 48 47)])
 (.skip)))
 (.seq (.reg [zm 0 49 6,
 zm 1 4 49])
 (.ret))))))),
 [.tmp 4]⟩
theorem p184u : PR Go.Proofs.Tryz.f184 = some v184u:=by kernel_rfl

def v185u : VFun :=
⟨.seq (.reg [zo 0 4 (.mv (zi 0))])
 (.seq (.seq (.reg [zm 0 7 1,
 zo 1 8 (.bi .len [9] 3 [7]),
 zo 2 9 (.bin .eql 3 true 8 (zi 0))])
 (.cond 9
 (.seq (.reg [zm 0 10 0,
 zo 1 11 (.call 198 [10]),
 zo 2 12 (.bin .add 3 true 11 (zi 1)),
 zm 3 4 12])
 (.ret))
 (.skip)))
 (.seq (.seq (.reg [zm 0 13 1,
 zo 1 14 (.bi .len [9] 3 [13]),
 zo 2 15 (.bin .eql 3 true 14 (zi 1))])
 (.cond 15
 (.seq (.reg [zm 0 16 0,
 zm 1 17 1,
 zo 2 18 (.idxS 9 17 (zi 0)),
 zo 3 19 (.call 200 [16,18]),
 zm 4 4 19])
 (.ret))
 (.skip)))
 (.seq (.reg [zo 0 5 (.mv (zi 0))])
 (.block 0
 (.loop
 (.block 1
 (.seq (.reg [zm 0 20 0,
 zm 1 21 1,
 zo 2 22 (.call 186 [20,21]),
 zm 3 6 22])
 (.seq (.seq (.reg [zm 0 23 6,
 zo 1 24 (.bin .eql 3 true 23 (zi (-1)))])
 (.cond 24
 (.seq (.reg [zm 0 25 5,
 zm 1 4 25])
 (.ret))
 (.skip)))
 (.seq (.reg [zm 0 26 5,
 zo 1 27 (.bin .add 3 true 26 (zi 1)),
 zm 2 5 27])
 (.reg [zm 0 28 0,
 zm 1 29 6,
 zm 2 30 1,
 zo 3 31 (.bi .len [9] 3 [30]),
 zo 4 32 (.bin .add 3 false 29 31),
 zo 5 33 (.slS 9 28 (some 32) none),
 zm 6 0 33])))))))))),
 [.tmp 4]⟩
theorem p185u : PR Go.Proofs.Tryz.f185 = some v185u:=by kernel_rfl

def v186u : VFun :=
⟨.seq (.reg [zo 0 4 (.mv (zi 0))])
 (.seq (.reg [zm 0 5 0,
 zm 1 6 1,
 zo 2 7 (.call 183 [5,6]),
 zm 3 4 7])
 (.ret)),
 [.tmp 4]⟩
theorem p186u : PR Go.Proofs.Tryz.f186 = some v186u:=by kernel_rfl

def v187u : VFun :=
⟨.seq (.reg [zo 0 6 (.mv (zi 0)),
 zo 1 7 (.mv (.con .nilIface))])
 (.seq (.reg [zm 0 10 0,
 zm 1 11 1,
 zm 2 12 2,
 zo 3 13 (.call 201 [10,11,12]),
 zm 4 9 13,
 zo 5 14 (.ext 9 0),
 zo 6 15 (.ext 9 1),
 zm 7 8 14,
 zm 8 7 15])
 (.seq (.seq (.reg [zm 0 16 7,
 zo 1 17 (.bin .neq 107 true 16 (.con .nilIface))])
 (.cond 17
 (.seq (.reg [zm 0 18 8,
 zm 1 19 0,
 zm 2 20 1,
 zm 3 21 2,
 zm 4 22 7,
 zo 5 23 (.call 202 [(.con (.string ⟨#[80,97,114,115,101,73,110,116]⟩)),19,20,21,22]),
 zm 6 6 18,
 zm 7 7 23])
 (.ret))
 (.skip)))
 (.seq (.reg [zm 0 24 8,
 zm 1 6 24,
 zo 2 7 (.mv (.con .nilIface))])
 (.ret)))),
 [.tmp 6,.tmp 7]⟩
theorem p187u : PR Go.Proofs.Tryz.f187 = some v187u:=by kernel_rfl

def v188u : VFun :=
⟨.seq (.reg [zo 0 4 (.mv (.con (.bool false)))])
 (.seq (.reg [zm 0 5 0,
 zo 1 6 (.bi .len [9] 3 [5]),
 zm 2 7 1,
 zo 3 8 (.bi .len [9] 3 [7]),
 zo 4 9 (.bin .geq 3 false 6 8),
 zm 5 10 9,
 zg 6 11 (.mv 0) 10 true,
 zg 7 12 (.mv 1) 10 true,
 zg 8 13 (.bi .len [9] 3 [12]) 10 true,
 zg 9 14 (.slS 9 11 none (some 13)) 10 true,
 zg 10 15 (.mv 1) 10 true,
 zg 11 16 (.bin .eql 9 false 14 15) 10 true,
 zo 12 17 (.pick 10 16 (.con (.bool false))),
 zm 13 4 17])
 (.ret)),
 [.tmp 4]⟩
theorem p188u : PR Go.Proofs.Tryz.f188 = some v188u:=by kernel_rfl

def v_code_checker_reg : VFun :=
⟨.reg [zm 0 6 0,
 zm 1 7 2,
 zo 2 8 (.un .not (.tmp 7)),
 zm 3 9 8,
 zg 4 10 (.mv (.tmp 1)) 9 false,
 zg 5 11 (.mv (.tmp 0)) 9 false,
 zg 6 12 (.nilck (.tmp 11)) 9 false,
 zg 7 13 (.fieldA 0 (.tmp 12)) 9 false,
 zg 8 14 (.fieldA 2 (.tmp 13)) 9 false,
 zg 9 15 (.load none (.tmp 14)) 9 false,
 zg 10 16 (.call 163 [(.tmp 10),(.tmp 15)]) 9 false,
 zo 11 17 (.pick (.tmp 9) (.con (.bool true)) (.tmp 16)),
 zo 12 18 (.call 161 [(.tmp 6),(.tmp 17),(zi 2)])],
 []⟩
theorem p_code_checker_reg : PR Go.Proofs.Tryz.f189 = some v_code_checker_reg:=by kernel_rfl

def v191u : VFun :=
⟨.seq (.reg [zo 0 8 (.mv (zi 0)),
 zo 1 9 (.mv (zi 0))])
 (.seq (.seq (.reg [zm 0 10 0,
 zm 1 11 2,
 zo 2 12 (.idxA none 1 10 11),
 zl 3 13 12,
 zm 4 14 0,
 zm 5 15 1,
 zo 6 16 (.idxA none 1 14 15),
 zl 7 17 16,
 zo 8 18 (.call 147 [13,17])])
 (.cond 18
 (.seq (.reg [zm 0 19 3,
 zo 1 20 (.nilck 19),
 zl 2 21 20,
 zo 3 22 (.bin .add 3 true 21 (zi 1)),
 zo 4 23 (.nilck 19),
 zn 5 (.store 1 23 22)])
 (.seq (.reg [zm 0 24 2,
 zm 1 25 1,
 zm 2 8 24,
 zm 3 9 25])
 (.ret)))
 (.skip)))
 (.seq (.reg [zm 0 26 1,
 zm 1 27 2,
 zm 2 8 26,
 zm 3 9 27])
 (.ret))),
 [.tmp 8,.tmp 9]⟩
theorem p191u : PR Go.Proofs.Tryz.f191 = some v191u:=by kernel_rfl

end Go.VX.Seat
end
section
set_option maxRecDepth 20000
namespace Go.VX.Seat
def v194u : VFun :=
⟨.seq (.reg [zo 0 4 (.mv (zi 0))])
 (.seq (.reg [zm 0 5 0,
 zm 1 6 1,
 zo 2 7 (.call 205 [5,6]),
 zm 3 4 7])
 (.ret)),
 [.tmp 4]⟩
theorem p194u : PR Go.Proofs.Tryz.f194 = some v194u:=by kernel_rfl

def v196u : VFun :=
⟨.seq (.reg [zo 0 2 (.mv (zi 0))])
 (.seq (.reg [zm 0 3 0,
 zo 1 4 (.bin .add 3 true 3 (zi 16)),
 zo 2 5 (.bin .quo 3 true 4 (zi 8)),
 zm 3 2 5])
 (.ret)),
 [.tmp 2]⟩
theorem p196u : PR Go.Proofs.Tryz.f196 = some v196u:=by kernel_rfl

def v197u : VFun :=
⟨.seq (.reg [zo 0 4 (.mv (zi 0))])
 (.seq (.reg [zm 0 12 1,
 zo 1 13 (.call 206 [12]),
 zm 2 11 13,
 zo 3 14 (.ext 11 0),
 zo 4 15 (.ext 11 1),
 zm 5 5 14,
 zm 6 6 15])
 (.seq (.reg [zm 0 16 1,
 zo 1 17 (.bi .len [9] 3 [16]),
 zm 2 7 17])
 (.seq (.reg [zo 0 8 (.mv (.con (.int .u32 0)))])
 (.seq (.seq (.reg [zo 0 9 (.mv (zi 0))])
 (.block 0
 (.loop
 (.seq (.seq (.reg [zm 0 18 9,
 zm 1 19 7,
 zo 2 20 (.bin .lss 3 false 18 19)])
 (.cond 20
 (.skip)
 (.exit 0)))
 (.seq (.block 1
 (.reg [zm 0 23 8,
 zo 1 24 (.bin .mul 148 true 23 (.con (.int .u32 16777619))),
 zm 2 25 0,
 zm 3 26 9,
 zo 4 27 (.idxS 9 25 26),
 zo 5 28 (.conv 5 148 27),
 zo 6 29 (.bin .add 148 false 24 28),
 zm 7 8 29]))
 (.reg [zm 0 21 9,
 zo 1 22 (.bin .add 3 true 21 (zi 1)),
 zm 2 9 22]))))))
 (.seq (.seq (.reg [zm 0 30 8,
 zm 1 31 5,
 zo 2 32 (.bin .eql 148 false 30 31),
 zm 3 33 32,
 zg 4 34 (.mv 0) 33 true,
 zg 5 35 (.mv 7) 33 true,
 zg 6 36 (.slS 9 34 none (some 35)) 33 true,
 zg 7 37 (.mv 1) 33 true,
 zg 8 38 (.bin .eql 9 false 36 37) 33 true,
 zo 9 39 (.pick 33 38 (.con (.bool false)))])
 (.cond 39
 (.seq (.reg [zo 0 4 (.mv (zi 0))])
 (.ret))
 (.skip)))
 (.seq (.seq (.reg [zm 0 40 7,
 zm 1 10 40])
 (.block 2
 (.loop
 (.seq (.seq (.reg [zm 0 41 10,
 zm 1 42 0,
 zo 2 43 (.bi .len [9] 3 [42]),
 zo 3 44 (.bin .lss 3 false 41 43)])
 (.cond 44
 (.skip)
 (.exit 2)))
 (.block 3
 (.seq (.reg [zm 0 45 8,
 zo 1 46 (.bin .mul 148 true 45 (.con (.int .u32 16777619))),
 zm 2 8 46])
 (.seq (.reg [zm 0 47 8,
 zm 1 48 0,
 zm 2 49 10,
 zo 3 50 (.idxS 9 48 49),
 zo 4 51 (.conv 5 148 50),
 zo 5 52 (.bin .add 148 false 47 51),
 zm 6 8 52])
 (.seq (.reg [zm 0 53 8,
 zm 1 54 6,
 zm 2 55 0,
 zm 3 56 10,
 zm 4 57 7,
 zo 5 58 (.bin .sub 3 false 56 57),
 zo 6 59 (.idxS 9 55 58),
 zo 7 60 (.conv 5 148 59),
 zo 8 61 (.bin .mul 148 false 54 60),
 zo 9 62 (.bin .sub 148 false 53 61),
 zm 10 8 62])
 (.seq (.reg [zm 0 63 10,
 zo 1 64 (.bin .add 3 true 63 (zi 1)),
 zm 2 10 64])
 (.seq (.reg [zm 0 65 8,
 zm 1 66 5,
 zo 2 67 (.bin .eql 148 false 65 66),
 zm 3 68 67,
 zg 4 69 (.mv 0) 68 true,
 zg 5 70 (.mv 10) 68 true,
 zg 6 71 (.mv 7) 68 true,
 zg 7 72 (.bin .sub 3 false 70 71) 68 true,
 zg 8 73 (.mv 10) 68 true,
 zg 9 74 (.slS 9 69 (some 72) (some 73)) 68 true,
 zg 10 75 (.mv 1) 68 true,
 zg 11 76 (.bin .eql 9 false 74 75) 68 true,
 zo 12 77 (.pick 68 76 (.con (.bool false)))])
 (.cond 77
 (.seq (.reg [zm 0 78 10,
 zm 1 79 7,
 zo 2 80 (.bin .sub 3 false 78 79),
 zm 3 4 80])
 (.ret))
 (.skip))))))))))))
 (.seq (.reg [zo 0 4 (.mv (zi (-1)))])
 (.ret)))))))),
 [.tmp 4]⟩
theorem p197u : PR Go.Proofs.Tryz.f197 = some v197u:=by kernel_rfl

def v199u : VFun :=
⟨.seq (.reg [zo 0 2 (.mv (.con (.int .i32 0))),
 zo 1 3 (.mv (zi 0))])
 (.seq (.seq (.reg [zm 0 4 0,
 zo 1 5 (.bin .neq 9 true 4 (.con (.string ⟨#[]⟩))),
 zm 2 6 5,
 zg 3 7 (.mv 0) 6 true,
 zg 4 8 (.idxS 9 7 (zi 0)) 6 true,
 zg 5 9 (.bin .lss 5 true 8 (.con (.int .u8 128))) 6 true,
 zo 6 10 (.pick 6 9 (.con (.bool false)))])
 (.cond 10
 (.seq (.reg [zm 0 11 0,
 zo 1 12 (.idxS 9 11 (zi 0)),
 zo 2 13 (.conv 5 21 12),
 zm 3 2 13,
 zo 4 3 (.mv (zi 1))])
 (.ret))
 (.reg [zm 0 15 0,
 zo 1 16 (.call 207 [15]),
 zm 2 14 16,
 zo 3 17 (.ext 14 0),
 zo 4 18 (.ext 14 1),
 zm 5 2 17,
 zm 6 3 18])))
 (.ret)),
 [.tmp 2,.tmp 3]⟩
theorem p199u : PR Go.Proofs.Tryz.f199 = some v199u:=by kernel_rfl

def v201u : VFun :=
⟨.seq (.reg [zo 0 6 (.mv (zi 0)),
 zo 1 7 (.mv (.con .nilIface))])
 (.seq (.seq (.reg [zm 0 12 0,
 zo 1 13 (.bin .eql 9 true 12 (.con (.string ⟨#[]⟩)))])
 (.cond 13
 (.seq (.reg [zo 0 14 (.mkif 266 (zi 2)),
 zo 1 6 (.mv (zi 0)),
 zm 2 7 14])
 (.ret))
 (.skip)))
 (.seq (.reg [zo 0 8 (.mv (.con (.bool false)))])
 (.seq (.seq (.reg [zm 0 15 0,
 zo 1 16 (.idxS 9 15 (zi 0))])
 (.block 0
 (.seq (.reg [zo 0 18 (.bin .eql 5 true 16 (.con (.int .u8 43))),
 zm 1 17 18])
 (.cond 17
 (.reg [zm 0 19 0,
 zo 1 20 (.slS 9 19 (some (zi 1)) none),
 zm 2 0 20])
 (.seq (.reg [zo 0 22 (.bin .eql 5 true 16 (.con (.int .u8 45))),
 zm 1 21 22])
 (.cond 21
 (.seq (.reg [zm 0 23 0,
 zo 1 24 (.slS 9 23 (some (zi 1)) none),
 zm 2 0 24])
 (.reg [zo 0 8 (.mv (.con (.bool true)))]))
 (.skip)))))))
 (.seq (.reg [zo 0 9 (.mv (.con (.int .u64 0)))])
 (.seq (.reg [zm 0 26 0,
 zm 1 27 1,
 zm 2 28 2,
 zo 3 29 (.call 208 [26,27,28]),
 zm 4 25 29,
 zo 5 30 (.ext 25 0),
 zo 6 31 (.ext 25 1),
 zm 7 9 30,
 zm 8 7 31])
 (.seq (.seq (.reg [zm 0 32 7,
 zo 1 33 (.bin .neq 107 true 32 (.con .nilIface)),
 zm 2 34 33,
 zg 3 35 (.mv 7) 34 true,
 zg 4 36 (.mkif 266 (zi 1)) 34 true,
 zg 5 37 (.bin .neq 107 false 35 36) 34 true,
 zo 6 38 (.pick 34 37 (.con (.bool false)))])
 (.cond 38
 (.seq (.reg [zm 0 39 7,
 zo 1 6 (.mv (zi 0)),
 zm 2 7 39])
 (.ret))
 (.skip)))
 (.seq (.seq (.reg [zm 0 40 2,
 zo 1 41 (.bin .eql 3 true 40 (zi 0))])
 (.cond 41
 (.reg [zo 0 2 (.mv (zi 64))])
 (.skip)))
 (.seq (.reg [zm 0 42 2,
 zo 1 43 (.bin .sub 3 true 42 (zi 1)),
 zo 2 44 (.conv 3 147 43),
 zo 3 45 (.bin .shl 146 true (.con (.int .u64 1)) 44),
 zm 4 10 45])
 (.seq (.seq (.reg [zm 0 46 8,
 zo 1 47 (.un .not 46),
 zm 2 48 47,
 zg 3 49 (.mv 9) 48 true,
 zg 4 50 (.mv 10) 48 true,
 zg 5 51 (.bin .geq 146 false 49 50) 48 true,
 zo 6 52 (.pick 48 51 (.con (.bool false)))])
 (.cond 52
 (.seq (.reg [zm 0 53 10,
 zo 1 54 (.bin .sub 146 true 53 (.con (.int .u64 1))),
 zo 2 55 (.conv 146 2 54),
 zo 3 56 (.mkif 266 (zi 1)),
 zm 4 6 55,
 zm 5 7 56])
 (.ret))
 (.skip)))
 (.seq (.seq (.reg [zm 0 57 8,
 zm 1 58 57,
 zg 2 59 (.mv 9) 58 true,
 zg 3 60 (.mv 10) 58 true,
 zg 4 61 (.bin .gtr 146 false 59 60) 58 true,
 zo 5 62 (.pick 58 61 (.con (.bool false)))])
 (.cond 62
 (.seq (.reg [zm 0 63 10,
 zo 1 64 (.conv 146 2 63),
 zo 2 65 (.un .neg 64),
 zo 3 66 (.mkif 266 (zi 1)),
 zm 4 6 65,
 zm 5 7 66])
 (.ret))
 (.skip)))
 (.seq (.reg [zm 0 67 9,
 zo 1 68 (.conv 146 2 67),
 zm 2 11 68])
 (.seq (.seq (.reg [zm 0 69 8])
 (.cond 69
 (.reg [zm 0 70 11,
 zo 1 71 (.un .neg 70),
 zm 2 11 71])
 (.skip)))
 (.seq (.reg [zm 0 72 11,
 zm 1 6 72,
 zo 2 7 (.mv (.con .nilIface))])
 (.ret)))))))))))))),
 [.tmp 6,.tmp 7]⟩
theorem p201u : PR Go.Proofs.Tryz.f201 = some v201u:=by kernel_rfl

def v202u : VFun :=
⟨.seq (.reg [zo 0 10 (.mv (.con .nilIface))])
 (.seq (.seq (.reg [zm 0 11 4])
 (.block 0
 (.seq (.reg [zo 0 13 (.mkif 266 (zi 2)),
 zo 1 14 (.bin .eql 107 false 11 13),
 zm 2 12 14])
 (.cond 12
 (.seq (.reg [zm 0 15 0,
 zm 1 16 1,
 zo 2 17 (.call 209 [15,16]),
 zo 3 18 (.mkif 269 17),
 zm 4 10 18])
 (.ret))
 (.seq (.reg [zo 0 20 (.mkif 266 (zi 1)),
 zo 1 21 (.bin .eql 107 false 11 20),
 zm 2 19 21])
 (.cond 19
 (.seq (.reg [zm 0 22 0,
 zm 1 23 1,
 zo 2 24 (.call 210 [22,23]),
 zo 3 25 (.mkif 269 24),
 zm 4 10 25])
 (.ret))
 (.seq (.reg [zo 0 27 (.mkif 266 (zi 3)),
 zo 1 28 (.bin .eql 107 false 11 27),
 zm 2 26 28])
 (.cond 26
 (.seq (.reg [zm 0 29 0,
 zm 1 30 1,
 zm 2 31 2,
 zo 3 32 (.call 211 [29,30,31]),
 zo 4 33 (.mkif 269 32),
 zm 5 10 33])
 (.ret))
 (.seq (.reg [zo 0 35 (.mkif 266 (zi 4)),
 zo 1 36 (.bin .eql 107 false 11 35),
 zm 2 34 36])
 (.cond 34
 (.seq (.reg [zm 0 37 0,
 zm 1 38 1,
 zm 2 39 3,
 zo 3 40 (.call 212 [37,38,39]),
 zo 4 41 (.mkif 269 40),
 zm 5 10 41])
 (.ret))
 (.skip)))))))))))
 (.seq (.reg [zm 0 42 4,
 zm 1 10 42])
 (.ret))),
 [.tmp 10]⟩
theorem p202u : PR Go.Proofs.Tryz.f202 = some v202u:=by kernel_rfl

def v206u : VFun :=
⟨.seq (.reg [zo 0 2 (.mv (.con (.int .u32 0))),
 zo 1 3 (.mv (.con (.int .u32 0)))])
 (.seq (.reg [zo 0 4 (.mv (.con (.int .u32 0)))])
 (.seq (.seq (.reg [zo 0 5 (.mv (zi 0))])
 (.block 0
 (.loop
 (.seq (.seq (.reg [zm 0 9 5,
 zm 1 10 0,
 zo 2 11 (.bi .len [9] 3 [10]),
 zo 3 12 (.bin .lss 3 false 9 11)])
 (.cond 12
 (.skip)
 (.exit 0)))
 (.seq (.block 1
 (.reg [zm 0 15 4,
 zo 1 16 (.bin .mul 148 true 15 (.con (.int .u32 16777619))),
 zm 2 17 0,
 zm 3 18 5,
 zo 4 19 (.idxS 9 17 18),
 zo 5 20 (.conv 5 148 19),
 zo 6 21 (.bin .add 148 false 16 20),
 zm 7 4 21]))
 (.reg [zm 0 13 5,
 zo 1 14 (.bin .add 3 true 13 (zi 1)),
 zm 2 5 14]))))))
 (.seq (.reg [zo 0 6 (.mv (.con (.int .u32 1))),
 zo 1 7 (.mv (.con (.int .u32 16777619)))])
 (.seq (.seq (.reg [zm 0 22 0,
 zo 1 23 (.bi .len [9] 3 [22]),
 zm 2 8 23])
 (.block 2
 (.loop
 (.seq (.seq (.reg [zm 0 24 8,
 zo 1 25 (.bin .gtr 3 true 24 (zi 0))])
 (.cond 25
 (.skip)
 (.exit 2)))
 (.seq (.block 3
 (.seq (.seq (.reg [zm 0 28 8,
 zo 1 29 (.bin .and 3 true 28 (zi 1)),
 zo 2 30 (.bin .neq 3 true 29 (zi 0))])
 (.cond 30
 (.reg [zm 0 31 6,
 zm 1 32 7,
 zo 2 33 (.bin .mul 148 false 31 32),
 zm 3 6 33])
 (.skip)))
 (.reg [zm 0 34 7,
 zm 1 35 7,
 zo 2 36 (.bin .mul 148 false 34 35),
 zm 3 7 36])))
 (.reg [zm 0 26 8,
 zo 1 27 (.bin .shr 3 true 26 (.con (.int .u64 1))),
 zm 2 8 27]))))))
 (.seq (.reg [zm 0 37 4,
 zm 1 38 6,
 zm 2 2 37,
 zm 3 3 38])
 (.ret)))))),
 [.tmp 2,.tmp 3]⟩
theorem p206u : PR Go.Proofs.Tryz.f206 = some v206u:=by kernel_rfl

def v208u : VFun :=
⟨.seq (.reg [zo 0 6 (.mv (.con (.int .u64 0))),
 zo 1 7 (.mv (.con .nilIface))])
 (.seq (.seq (.reg [zm 0 18 0,
 zo 1 19 (.bin .eql 9 true 18 (.con (.string ⟨#[]⟩)))])
 (.cond 19
 (.seq (.reg [zo 0 20 (.mkif 266 (zi 2)),
 zo 1 6 (.mv (.con (.int .u64 0))),
 zm 2 7 20])
 (.ret))
 (.skip)))
 (.seq (.reg [zm 0 21 1,
 zo 1 22 (.bin .eql 3 true 21 (zi 0)),
 zm 2 8 22])
 (.seq (.reg [zm 0 23 0,
 zm 1 9 23])
 (.seq (.block 0
 (.seq (.reg [zm 0 26 1,
 zo 1 27 (.bin .leq 3 true (zi 2) 26),
 zm 2 28 27,
 zg 3 29 (.mv 1) 28 true,
 zg 4 30 (.bin .leq 3 true 29 (zi 36)) 28 true,
 zo 5 31 (.pick 28 30 (.con (.bool false))),
 zm 6 25 31])
 (.cond 25
 (.skip)
 (.seq (.reg [zm 0 33 1,
 zo 1 34 (.bin .eql 3 true 33 (zi 0)),
 zm 2 32 34])
 (.cond 32
 (.seq (.reg [zo 0 1 (.mv (zi 10))])
 (.seq (.reg [zm 0 35 0,
 zo 1 36 (.idxS 9 35 (zi 0)),
 zo 2 37 (.bin .eql 5 true 36 (.con (.int .u8 48)))])
 (.cond 37
 (.block 1
 (.seq (.reg [zm 0 41 0,
 zo 1 42 (.bi .len [9] 3 [41]),
 zo 2 43 (.bin .geq 3 true 42 (zi 3)),
 zm 3 44 43,
 zg 4 45 (.mv 0) 44 true,
 zg 5 46 (.idxS 9 45 (zi 1)) 44 true,
 zg 6 47 (.call 214 [46]) 44 true,
 zg 7 48 (.bin .eql 5 true 47 (.con (.int .u8 98))) 44 true,
 zo 8 49 (.pick 44 48 (.con (.bool false))),
 zm 9 40 49])
 (.cond 40
 (.seq (.reg [zo 0 1 (.mv (zi 2))])
 (.reg [zm 0 50 0,
 zo 1 51 (.slS 9 50 (some (zi 2)) none),
 zm 2 0 51]))
 (.seq (.reg [zm 0 53 0,
 zo 1 54 (.bi .len [9] 3 [53]),
 zo 2 55 (.bin .geq 3 true 54 (zi 3)),
 zm 3 56 55,
 zg 4 57 (.mv 0) 56 true,
 zg 5 58 (.idxS 9 57 (zi 1)) 56 true,
 zg 6 59 (.call 214 [58]) 56 true,
 zg 7 60 (.bin .eql 5 true 59 (.con (.int .u8 111))) 56 true,
 zo 8 61 (.pick 56 60 (.con (.bool false))),
 zm 9 52 61])
 (.cond 52
 (.seq (.reg [zo 0 1 (.mv (zi 8))])
 (.reg [zm 0 62 0,
 zo 1 63 (.slS 9 62 (some (zi 2)) none),
 zm 2 0 63]))
 (.seq (.reg [zm 0 65 0,
 zo 1 66 (.bi .len [9] 3 [65]),
 zo 2 67 (.bin .geq 3 true 66 (zi 3)),
 zm 3 68 67,
 zg 4 69 (.mv 0) 68 true,
 zg 5 70 (.idxS 9 69 (zi 1)) 68 true,
 zg 6 71 (.call 214 [70]) 68 true,
 zg 7 72 (.bin .eql 5 true 71 (.con (.int .u8 120))) 68 true,
 zo 8 73 (.pick 68 72 (.con (.bool false))),
 zm 9 64 73])
 (.cond 64
 (.seq (.reg [zo 0 1 (.mv (zi 16))])
 (.reg [zm 0 74 0,
 zo 1 75 (.slS 9 74 (some (zi 2)) none),
 zm 2 0 75]))
 (.seq (.reg [zo 0 1 (.mv (zi 8))])
 (.reg [zm 0 38 0,
 zo 1 39 (.slS 9 38 (some (zi 1)) none),
 zm 2 0 39])))))))))
 (.skip))))
 (.seq (.reg [zo 0 24 (.mkif 266 (zi 3)),
 zo 1 6 (.mv (.con (.int .u64 0))),
 zm 2 7 24])
 (.ret)))))))
 (.seq (.seq (.reg [zm 0 76 2,
 zo 1 77 (.bin .eql 3 true 76 (zi 0))])
 (.cond 77
 (.reg [zo 0 2 (.mv (zi 64))])
 (.seq (.reg [zm 0 78 2,
 zo 1 79 (.bin .lss 3 true 78 (zi 0)),
 zm 2 80 79,
 zg 3 81 (.mv 2) 80 false,
 zg 4 82 (.bin .gtr 3 true 81 (zi 64)) 80 false,
 zo 5 83 (.pick 80 (.con (.bool true)) 82)])
 (.cond 83
 (.seq (.reg [zo 0 84 (.mkif 266 (zi 4)),
 zo 1 6 (.mv (.con (.int .u64 0))),
 zm 2 7 84])
 (.ret))
 (.skip)))))
 (.seq (.reg [zo 0 10 (.mv (.con (.int .u64 0)))])
 (.seq (.seq (.reg [zm 0 85 1])
 (.block 2
 (.seq (.reg [zo 0 91 (.bin .eql 3 true 85 (zi 10)),
 zm 1 90 91])
 (.cond 90
 (.reg [zo 0 10 (.mv (.con (.int .u64 1844674407370955162)))])
 (.seq (.reg [zo 0 93 (.bin .eql 3 true 85 (zi 16)),
 zm 1 92 93])
 (.cond 92
 (.reg [zo 0 10 (.mv (.con (.int .u64 1152921504606846976)))])
 (.reg [zm 0 86 1,
 zo 1 87 (.conv 3 146 86),
 zo 2 88 (.bin .quo 146 true (.con (.int .u64 18446744073709551615)) 87),
 zo 3 89 (.bin .add 146 true 88 (.con (.int .u64 1))),
 zm 4 10 89])))))))
 (.seq (.reg [zm 0 94 2,
 zo 1 95 (.conv 3 147 94),
 zo 2 96 (.bin .shl 146 true (.con (.int .u64 1)) 95),
 zo 3 97 (.bin .sub 146 true 96 (.con (.int .u64 1))),
 zm 4 11 97])
 (.seq (.reg [zo 0 12 (.mv (.con (.bool false)))])
 (.seq (.reg [zo 0 13 (.mv (.con (.int .u64 0)))])
 (.seq (.seq (.reg [zm 0 98 0,
 zo 1 99 (.s2b 98),
 zo 2 100 (.len 99),
 zo 3 101 (.mv (zi 0))])
 (.block 3
 (.loop
 (.seq (.reg [zo 0 102 (.bin .lss 3 false 101 100)])
 (.seq (.cond 102
 (.skip)
 (.exit 3))
 (.seq (.block 4
 (.seq (.reg [zo 0 103 (.idxA none 1 99 101),
 zl 1 104 103,
 zm 2 15 104])
 (.seq (.reg [zo 0 16 (.mv (.con (.int .u8 0)))])
 (.seq (.block 5
 (.seq (.reg [zm 0 107 15,
 zo 1 108 (.bin .eql 5 true 107 (.con (.int .u8 95))),
 zm 2 109 108,
 zg 3 110 (.mv 8) 109 true,
 zo 4 111 (.pick 109 110 (.con (.bool false))),
 zm 5 106 111])
 (.cond 106
 (.seq (.reg [zo 0 12 (.mv (.con (.bool true)))])
 (.exit 4))
 (.seq (.reg [zm 0 113 15,
 zo 1 114 (.bin .leq 5 true (.con (.int .u8 48)) 113),
 zm 2 115 114,
 zg 3 116 (.mv 15) 115 true,
 zg 4 117 (.bin .leq 5 true 116 (.con (.int .u8 57))) 115 true,
 zo 5 118 (.pick 115 117 (.con (.bool false))),
 zm 6 112 118])
 (.cond 112
 (.reg [zm 0 119 15,
 zo 1 120 (.bin .sub 5 true 119 (.con (.int .u8 48))),
 zm 2 16 120])
 (.seq (.reg [zm 0 122 15,
 zo 1 123 (.call 214 [122]),
 zo 2 124 (.bin .leq 5 true (.con (.int .u8 97)) 123),
 zm 3 125 124,
 zg 4 126 (.mv 15) 125 true,
 zg 5 127 (.call 214 [126]) 125 true,
 zg 6 128 (.bin .leq 5 true 127 (.con (.int .u8 122))) 125 true,
 zo 7 129 (.pick 125 128 (.con (.bool false))),
 zm 8 121 129])
 (.cond 121
 (.reg [zm 0 130 15,
 zo 1 131 (.call 214 [130]),
 zo 2 132 (.bin .sub 5 true 131 (.con (.int .u8 97))),
 zo 3 133 (.bin .add 5 true 132 (.con (.int .u8 10))),
 zm 4 16 133])
 (.seq (.reg [zo 0 105 (.mkif 266 (zi 2)),
 zo 1 6 (.mv (.con (.int .u64 0))),
 zm 2 7 105])
 (.ret)))))))))
 (.seq (.seq (.reg [zm 0 134 16,
 zm 1 135 1,
 zo 2 136 (.conv 3 5 135),
 zo 3 137 (.bin .geq 5 false 134 136)])
 (.cond 137
 (.seq (.reg [zo 0 138 (.mkif 266 (zi 2)),
 zo 1 6 (.mv (.con (.int .u64 0))),
 zm 2 7 138])
 (.ret))
 (.skip)))
 (.seq (.seq (.reg [zm 0 139 13,
 zm 1 140 10,
 zo 2 141 (.bin .geq 146 false 139 140)])
 (.cond 141
 (.seq (.reg [zm 0 142 11,
 zo 1 143 (.mkif 266 (zi 1)),
 zm 2 6 142,
 zm 3 7 143])
 (.ret))
 (.skip)))
 (.seq (.reg [zm 0 144 13,
 zm 1 145 1,
 zo 2 146 (.conv 3 146 145),
 zo 3 147 (.bin .mul 146 false 144 146),
 zm 4 13 147])
 (.seq (.reg [zm 0 148 13,
 zm 1 149 16,
 zo 2 150 (.conv 5 146 149),
 zo 3 151 (.bin .add 146 false 148 150),
 zm 4 17 151])
 (.seq (.seq (.reg [zm 0 152 17,
 zm 1 153 13,
 zo 2 154 (.bin .lss 146 false 152 153),
 zm 3 155 154,
 zg 4 156 (.mv 17) 155 false,
 zg 5 157 (.mv 11) 155 false,
 zg 6 158 (.bin .gtr 146 false 156 157) 155 false,
 zo 7 159 (.pick 155 (.con (.bool true)) 158)])
 (.cond 159
 (.seq (.reg [zm 0 160 11,
 zo 1 161 (.mkif 266 (zi 1)),
 zm 2 6 160,
 zm 3 7 161])
 (.ret))
 (.skip)))
 (.reg [zm 0 162 17,
 zm 1 13 162]))))))))))
 (.reg [zo 0 163 (.bin .add 3 true 101 (zi 1)),
 zm 1 101 163])))))))
 (.seq (.seq (.reg [zm 0 164 12,
 zm 1 165 164,
 zg 2 166 (.mv 9) 165 true,
 zg 3 167 (.call 215 [166]) 165 true,
 zg 4 168 (.un .not 167) 165 true,
 zo 5 169 (.pick 165 168 (.con (.bool false)))])
 (.cond 169
 (.seq (.reg [zo 0 170 (.mkif 266 (zi 2)),
 zo 1 6 (.mv (.con (.int .u64 0))),
 zm 2 7 170])
 (.ret))
 (.skip)))
 (.seq (.reg [zm 0 171 13,
 zm 1 6 171,
 zo 2 7 (.mv (.con .nilIface))])
 (.ret)))))))))))))),
 [.tmp 6,.tmp 7]⟩
theorem p208u : PR Go.Proofs.Tryz.f208 = some v208u:=by kernel_rfl

def v211u : VFun :=
⟨.seq (.reg [zo 0 6 (.mv (.con (.pointer none)))])
 (.seq (.reg [zm 0 7 0,
 zm 1 8 1,
 zo 2 9 (.call 216 [8]),
 zm 3 10 2,
 zo 4 11 (.call 60 [10]),
 zo 5 12 (.bin .add 9 true (.con (.string ⟨#[105,110,118,97,108,105,100,32,98,97,115,101,32]⟩)) 11),
 zo 6 13 (.call 217 [12]),
 zo 7 14 (.build [(.string ⟨#[]⟩),(.string ⟨#[]⟩),.nilIface] [(0,1,7),(1,1,9),(2,1,13)]),
 zo 8 15 (.box 14),
 zm 9 6 15])
 (.ret)),
 [.tmp 6]⟩
theorem p211u : PR Go.Proofs.Tryz.f211 = some v211u:=by kernel_rfl

def v212u : VFun :=
⟨.seq (.reg [zo 0 6 (.mv (.con (.pointer none)))])
 (.seq (.reg [zm 0 7 0,
 zm 1 8 1,
 zo 2 9 (.call 216 [8]),
 zm 3 10 2,
 zo 4 11 (.call 60 [10]),
 zo 5 12 (.bin .add 9 true (.con (.string ⟨#[105,110,118,97,108,105,100,32,98,105,116,32,115,105,122,101,32]⟩)) 11),
 zo 6 13 (.call 217 [12]),
 zo 7 14 (.build [(.string ⟨#[]⟩),(.string ⟨#[]⟩),.nilIface] [(0,1,7),(1,1,9),(2,1,13)]),
 zo 8 15 (.box 14),
 zm 9 6 15])
 (.ret)),
 [.tmp 6]⟩
theorem p212u : PR Go.Proofs.Tryz.f212 = some v212u:=by kernel_rfl

def v214u : VFun :=
⟨.seq (.reg [zo 0 2 (.mv (.con (.int .u8 0)))])
 (.seq (.reg [zm 0 3 0,
 zo 1 4 (.bin .or 5 true 3 (.con (.int .u8 32))),
 zm 2 2 4])
 (.ret)),
 [.tmp 2]⟩
theorem p214u : PR Go.Proofs.Tryz.f214 = some v214u:=by kernel_rfl

def v215u : VFun :=
⟨.seq (.reg [zo 0 2 (.mv (.con (.bool false)))])
 (.seq (.reg [zo 0 3 (.mv (.con (.int .i32 94)))])
 (.seq (.reg [zo 0 4 (.mv (zi 0))])
 (.seq (.seq (.reg [zm 0 6 0,
 zo 1 7 (.bi .len [9] 3 [6]),
 zo 2 8 (.bin .geq 3 true 7 (zi 1)),
 zm 3 9 8,
 zg 4 10 (.mv 0) 9 true,
 zg 5 11 (.idxS 9 10 (zi 0)) 9 true,
 zg 6 12 (.bin .eql 5 true 11 (.con (.int .u8 45))) 9 true,
 zg 7 13 (.mv 12) 9 true,
 zg 8 14 (.mv 0) 13 false,
 zg 9 15 (.idxS 9 14 (zi 0)) 13 false,
 zg 10 16 (.bin .eql 5 true 15 (.con (.int .u8 43))) 13 false,
 zg 11 17 (.pick 13 (.con (.bool true)) 16) 9 true,
 zo 12 18 (.pick 9 17 (.con (.bool false)))])
 (.cond 18
 (.reg [zm 0 19 0,
 zo 1 20 (.slS 9 19 (some (zi 1)) none),
 zm 2 0 20])
 (.skip)))
 (.seq (.reg [zo 0 5 (.mv (.con (.bool false)))])
 (.seq (.seq (.reg [zm 0 21 0,
 zo 1 22 (.bi .len [9] 3 [21]),
 zo 2 23 (.bin .geq 3 true 22 (zi 2)),
 zm 3 24 23,
 zg 4 25 (.mv 0) 24 true,
 zg 5 26 (.idxS 9 25 (zi 0)) 24 true,
 zg 6 27 (.bin .eql 5 true 26 (.con (.int .u8 48))) 24 true,
 zo 7 28 (.pick 24 27 (.con (.bool false))),
 zm 8 29 28,
 zg 9 30 (.mv 0) 29 true,
 zg 10 31 (.idxS 9 30 (zi 1)) 29 true,
 zg 11 32 (.call 214 [31]) 29 true,
 zg 12 33 (.bin .eql 5 true 32 (.con (.int .u8 98))) 29 true,
 zg 13 34 (.mv 33) 29 true,
 zg 14 35 (.mv 0) 34 false,
 zg 15 36 (.idxS 9 35 (zi 1)) 34 false,
 zg 16 37 (.call 214 [36]) 34 false,
 zg 17 38 (.bin .eql 5 true 37 (.con (.int .u8 111))) 34 false,
 zg 18 39 (.pick 34 (.con (.bool true)) 38) 29 true,
 zg 19 40 (.mv 39) 29 true,
 zg 20 41 (.mv 0) 40 false,
 zg 21 42 (.idxS 9 41 (zi 1)) 40 false,
 zg 22 43 (.call 214 [42]) 40 false,
 zg 23 44 (.bin .eql 5 true 43 (.con (.int .u8 120))) 40 false,
 zg 24 45 (.pick 40 (.con (.bool true)) 44) 29 true,
 zo 25 46 (.pick 29 45 (.con (.bool false)))])
 (.cond 46
 (.seq (.reg [zo 0 4 (.mv (zi 2))])
 (.seq (.reg [zo 0 3 (.mv (.con (.int .i32 48)))])
 (.reg [zm 0 47 0,
 zo 1 48 (.idxS 9 47 (zi 1)),
 zo 2 49 (.call 214 [48]),
 zo 3 50 (.bin .eql 5 true 49 (.con (.int .u8 120))),
 zm 4 5 50])))
 (.skip)))
 (.seq (.block 0
 (.loop
 (.seq (.seq (.reg [zm 0 51 4,
 zm 1 52 0,
 zo 2 53 (.bi .len [9] 3 [52]),
 zo 3 54 (.bin .lss 3 false 51 53)])
 (.cond 54
 (.skip)
 (.exit 0)))
 (.seq (.block 1
 (.seq (.seq (.reg [zm 0 57 0,
 zm 1 58 4,
 zo 2 59 (.idxS 9 57 58),
 zo 3 60 (.bin .leq 5 true (.con (.int .u8 48)) 59),
 zm 4 61 60,
 zg 5 62 (.mv 0) 61 true,
 zg 6 63 (.mv 4) 61 true,
 zg 7 64 (.idxS 9 62 63) 61 true,
 zg 8 65 (.bin .leq 5 true 64 (.con (.int .u8 57))) 61 true,
 zo 9 66 (.pick 61 65 (.con (.bool false))),
 zm 10 67 66,
 zg 11 68 (.mv 5) 67 false,
 zg 12 69 (.mv 68) 67 false,
 zg 13 70 (.mv 0) 69 true,
 zg 14 71 (.mv 4) 69 true,
 zg 15 72 (.idxS 9 70 71) 69 true,
 zg 16 73 (.call 214 [72]) 69 true,
 zg 17 74 (.bin .leq 5 true (.con (.int .u8 97)) 73) 69 true,
 zg 18 75 (.pick 69 74 (.con (.bool false))) 67 false,
 zg 19 76 (.mv 75) 67 false,
 zg 20 77 (.mv 0) 76 true,
 zg 21 78 (.mv 4) 76 true,
 zg 22 79 (.idxS 9 77 78) 76 true,
 zg 23 80 (.call 214 [79]) 76 true,
 zg 24 81 (.bin .leq 5 true 80 (.con (.int .u8 102))) 76 true,
 zg 25 82 (.pick 76 81 (.con (.bool false))) 67 false,
 zo 26 83 (.pick 67 (.con (.bool true)) 82)])
 (.cond 83
 (.seq (.reg [zo 0 3 (.mv (.con (.int .i32 48)))])
 (.exit 1))
 (.skip)))
 (.seq (.seq (.reg [zm 0 84 0,
 zm 1 85 4,
 zo 2 86 (.idxS 9 84 85),
 zo 3 87 (.bin .eql 5 true 86 (.con (.int .u8 95)))])
 (.cond 87
 (.seq (.seq (.reg [zm 0 88 3,
 zo 1 89 (.bin .neq 21 true 88 (.con (.int .i32 48)))])
 (.cond 89
 (.seq (.reg [zo 0 2 (.mv (.con (.bool false)))])
 (.ret))
 (.skip)))
 (.seq (.reg [zo 0 3 (.mv (.con (.int .i32 95)))])
 (.exit 1)))
 (.skip)))
 (.seq (.seq (.reg [zm 0 90 3,
 zo 1 91 (.bin .eql 21 true 90 (.con (.int .i32 95)))])
 (.cond 91
 (.seq (.reg [zo 0 2 (.mv (.con (.bool false)))])
 (.ret))
 (.skip)))
 (.reg [zo 0 3 (.mv (.con (.int .i32 33)))])))))
 (.reg [zm 0 55 4,
 zo 1 56 (.bin .add 3 true 55 (zi 1)),
 zm 2 4 56])))))
 (.seq (.reg [zm 0 92 3,
 zo 1 93 (.bin .neq 21 true 92 (.con (.int .i32 95))),
 zm 2 2 93])
 (.ret)))))))),
 [.tmp 2]⟩
theorem p215u : PR Go.Proofs.Tryz.f215 = some v215u:=by kernel_rfl

def v217u : VFun :=
⟨.seq (.reg [zo 0 2 (.mv (.con .nilIface))])
 (.seq (.reg [zm 0 3 0,
 zo 1 4 (.build [(.string ⟨#[]⟩)] [(0,1,3)]),
 zo 2 5 (.box 4),
 zo 3 6 (.mkif 282 5),
 zm 4 2 6])
 (.ret)),
 [.tmp 2]⟩
theorem p217u : PR Go.Proofs.Tryz.f217 = some v217u:=by kernel_rfl

end Go.VX.Seat
end
section
set_option maxRecDepth 20000
namespace Go.VX.Seat
abbrev FK (n : FuncId) (v : VFun) : Prop:=FunOk Go.Proofs.Tryz.prog [0,1,2] n v
def fns : List (Nat × VFun):=[(3,v_l26_WordsNexts),(10,v_l26_cut),(11,v_words_Next),(12,v_words_Reached),(13,v_words_Density),(14,v_r26_Check),(15,v15u),(16,v_r26_Density),(17,v_r26_Reached),(18,v_r26_Next),(19,v19u),(21,v21u),(24,v24u),(26,v26u),(28,v28u),(29,v_words_Check),(32,v_r26_Cut),(33,v_words_within),(34,v_words_next),(35,v_words_Met),(36,v_r26_wrong),(37,v_r26_Leaves),(38,v38u),(39,v_r26_put),(40,v_r26_Traps),(41,v41u),(42,v42u),(43,v43u),(44,v44u),(45,v45u),(49,v49u),(50,v50u),(51,v51u),(52,v52u),(53,v53u),(59,v59u),(60,v60u),(61,v61u),(65,v65u),(66,v66u),(68,v68u),(69,v69u),(70,v70u),(71,v71u),(72,v_code_Check),(73,v_words_head),(74,v_words_op),(75,v_slices_ContainsFunc_Op),(76,v_words_Leaves),(83,v_words_Ways),(84,v_words_next_c1),(85,v85u),(86,v86u),(87,v_r26_Uses),(88,v_r26_none),(89,v_words_isOwn),(90,v90u),(91,v91u),(92,v92u),(94,v94u),(95,v95u),(97,v97u),(98,v98u),(99,v99u),(100,v100u),(103,v103u),(104,v104u),(108,v_slices_Repeat_Block),(109,v_words_own),(110,v_slices_IndexFunc_Op),(116,v_words_MayTrap),(117,v117u),(118,v118u),(119,v_code_of),(121,v121u),(122,v122u),(123,v123u),(125,v125u),(126,v126u),(127,v127u),(128,v128u),(129,v129u),(133,v_code_checker_unit),(134,v_math_bits_Mul),(135,v_slices_ContainsFunc_int),(136,v_words_own_c1),(141,v141u),(142,v142u),(143,v143u),(144,v144u),(145,v145u),(146,v146u),(147,v147u),(148,v148u),(149,v149u),(150,v150u),(151,v151u),(152,v152u),(153,v153u),(154,v154u),(155,v155u),(157,v157u),(158,v158u),(159,v159u),(160,v160u),(161,v_code_checker_must),(162,v_code_checker_unit_c1),(163,v_code_within),(164,v_code_checker_op),(165,v_code_checker_end),(166,v166u),(167,v_math_bits_Mul64),(168,v_slices_IndexFunc_int),(172,v172u),(173,v173u),(174,v174u),(175,v175u),(176,v176u),(177,v177u),(178,v178u),(179,v179u),(180,v180u),(181,v181u),(183,v183u),(184,v184u),(185,v185u),(186,v186u),(187,v187u),(188,v188u),(189,v_code_checker_reg),(191,v191u),(194,v194u),(196,v196u),(197,v197u),(199,v199u),(201,v201u),(202,v202u),(206,v206u),(208,v208u),(211,v211u),(212,v212u),(214,v214u),(215,v215u),(217,v217u)]
def fnOf2 (f : FuncId) : Option VFun:=match f with
  | 149=>some v149u
  | 150=>some v150u
  | 151=>some v151u
  | 152=>some v152u
  | 153=>some v153u
  | 154=>some v154u
  | 155=>some v155u
  | 157=>some v157u
  | 158=>some v158u
  | 159=>some v159u
  | 160=>some v160u
  | 161=>some v_code_checker_must
  | 162=>some v_code_checker_unit_c1
  | 163=>some v_code_within
  | 164=>some v_code_checker_op
  | 165=>some v_code_checker_end
  | 166=>some v166u
  | 167=>some v_math_bits_Mul64
  | 168=>some v_slices_IndexFunc_int
  | 172=>some v172u
  | 173=>some v173u
  | 174=>some v174u
  | 175=>some v175u
  | 176=>some v176u
  | 177=>some v177u
  | 178=>some v178u
  | 179=>some v179u
  | 180=>some v180u
  | 181=>some v181u
  | 183=>some v183u
  | 184=>some v184u
  | 185=>some v185u
  | 186=>some v186u
  | 187=>some v187u
  | 188=>some v188u
  | 189=>some v_code_checker_reg
  | 191=>some v191u
  | 194=>some v194u
  | 196=>some v196u
  | 197=>some v197u
  | 199=>some v199u
  | 201=>some v201u
  | 202=>some v202u
  | 206=>some v206u
  | 208=>some v208u
  | 211=>some v211u
  | 212=>some v212u
  | 214=>some v214u
  | 215=>some v215u
  | 217=>some v217u
  | _=>none
def fnOf1 (f : FuncId) : Option VFun:=match f with
  | 74=>some v_words_op
  | 75=>some v_slices_ContainsFunc_Op
  | 76=>some v_words_Leaves
  | 83=>some v_words_Ways
  | 84=>some v_words_next_c1
  | 85=>some v85u
  | 86=>some v86u
  | 87=>some v_r26_Uses
  | 88=>some v_r26_none
  | 89=>some v_words_isOwn
  | 90=>some v90u
  | 91=>some v91u
  | 92=>some v92u
  | 94=>some v94u
  | 95=>some v95u
  | 97=>some v97u
  | 98=>some v98u
  | 99=>some v99u
  | 100=>some v100u
  | 103=>some v103u
  | 104=>some v104u
  | 108=>some v_slices_Repeat_Block
  | 109=>some v_words_own
  | 110=>some v_slices_IndexFunc_Op
  | 116=>some v_words_MayTrap
  | 117=>some v117u
  | 118=>some v118u
  | 119=>some v_code_of
  | 121=>some v121u
  | 122=>some v122u
  | 123=>some v123u
  | 125=>some v125u
  | 126=>some v126u
  | 127=>some v127u
  | 128=>some v128u
  | 129=>some v129u
  | 133=>some v_code_checker_unit
  | 134=>some v_math_bits_Mul
  | 135=>some v_slices_ContainsFunc_int
  | 136=>some v_words_own_c1
  | 141=>some v141u
  | 142=>some v142u
  | 143=>some v143u
  | 144=>some v144u
  | 145=>some v145u
  | 146=>some v146u
  | 147=>some v147u
  | 148=>some v148u
  | f=>fnOf2 f
def fnOf (f : FuncId) : Option VFun:=match f with
  | 3=>some v_l26_WordsNexts
  | 10=>some v_l26_cut
  | 11=>some v_words_Next
  | 12=>some v_words_Reached
  | 13=>some v_words_Density
  | 14=>some v_r26_Check
  | 15=>some v15u
  | 16=>some v_r26_Density
  | 17=>some v_r26_Reached
  | 18=>some v_r26_Next
  | 19=>some v19u
  | 21=>some v21u
  | 24=>some v24u
  | 26=>some v26u
  | 28=>some v28u
  | 29=>some v_words_Check
  | 32=>some v_r26_Cut
  | 33=>some v_words_within
  | 34=>some v_words_next
  | 35=>some v_words_Met
  | 36=>some v_r26_wrong
  | 37=>some v_r26_Leaves
  | 38=>some v38u
  | 39=>some v_r26_put
  | 40=>some v_r26_Traps
  | 41=>some v41u
  | 42=>some v42u
  | 43=>some v43u
  | 44=>some v44u
  | 45=>some v45u
  | 49=>some v49u
  | 50=>some v50u
  | 51=>some v51u
  | 52=>some v52u
  | 53=>some v53u
  | 59=>some v59u
  | 60=>some v60u
  | 61=>some v61u
  | 65=>some v65u
  | 66=>some v66u
  | 68=>some v68u
  | 69=>some v69u
  | 70=>some v70u
  | 71=>some v71u
  | 72=>some v_code_Check
  | 73=>some v_words_head
  | f=>fnOf1 f
theorem o_l26_WordsNexts : FK 3 v_l26_WordsNexts:=⟨⟨Go.Proofs.Tryz.f3,_,by kernel_rfl,rfl,by kernel_rfl,p_l26_WordsNexts⟩⟩
theorem o_l26_cut : FK 10 v_l26_cut:=⟨⟨Go.Proofs.Tryz.f10,_,by kernel_rfl,rfl,by kernel_rfl,p_l26_cut⟩⟩
theorem o_words_Next : FK 11 v_words_Next:=⟨⟨Go.Proofs.Tryz.f11,_,by kernel_rfl,rfl,by kernel_rfl,p_words_Next⟩⟩
theorem o_words_Reached : FK 12 v_words_Reached:=⟨⟨Go.Proofs.Tryz.f12,_,by kernel_rfl,rfl,by kernel_rfl,p_words_Reached⟩⟩
theorem o_words_Density : FK 13 v_words_Density:=⟨⟨Go.Proofs.Tryz.f13,_,by kernel_rfl,rfl,by kernel_rfl,p_words_Density⟩⟩
theorem o_r26_Check : FK 14 v_r26_Check:=⟨⟨Go.Proofs.Tryz.f14,_,by kernel_rfl,rfl,by kernel_rfl,p_r26_Check⟩⟩
theorem o15u : FK 15 v15u:=⟨⟨Go.Proofs.Tryz.f15,_,by kernel_rfl,rfl,by kernel_rfl,p15u⟩⟩
theorem o_r26_Density : FK 16 v_r26_Density:=⟨⟨Go.Proofs.Tryz.f16,_,by kernel_rfl,rfl,by kernel_rfl,p_r26_Density⟩⟩
theorem o_r26_Reached : FK 17 v_r26_Reached:=⟨⟨Go.Proofs.Tryz.f17,_,by kernel_rfl,rfl,by kernel_rfl,p_r26_Reached⟩⟩
theorem o_r26_Next : FK 18 v_r26_Next:=⟨⟨Go.Proofs.Tryz.f18,_,by kernel_rfl,rfl,by kernel_rfl,p_r26_Next⟩⟩
theorem o19u : FK 19 v19u:=⟨⟨Go.Proofs.Tryz.f19,_,by kernel_rfl,rfl,by kernel_rfl,p19u⟩⟩
theorem o21u : FK 21 v21u:=⟨⟨Go.Proofs.Tryz.f21,_,by kernel_rfl,rfl,by kernel_rfl,p21u⟩⟩
theorem o24u : FK 24 v24u:=⟨⟨Go.Proofs.Tryz.f24,_,by kernel_rfl,rfl,by kernel_rfl,p24u⟩⟩
theorem o26u : FK 26 v26u:=⟨⟨Go.Proofs.Tryz.f26,_,by kernel_rfl,rfl,by kernel_rfl,p26u⟩⟩
theorem o28u : FK 28 v28u:=⟨⟨Go.Proofs.Tryz.f28,_,by kernel_rfl,rfl,by kernel_rfl,p28u⟩⟩
theorem o_words_Check : FK 29 v_words_Check:=⟨⟨Go.Proofs.Tryz.f29,_,by kernel_rfl,rfl,by kernel_rfl,p_words_Check⟩⟩
theorem o_r26_Cut : FK 32 v_r26_Cut:=⟨⟨Go.Proofs.Tryz.f32,_,by kernel_rfl,rfl,by kernel_rfl,p_r26_Cut⟩⟩
theorem o_words_within : FK 33 v_words_within:=⟨⟨Go.Proofs.Tryz.f33,_,by kernel_rfl,rfl,by kernel_rfl,p_words_within⟩⟩
theorem o_words_next : FK 34 v_words_next:=⟨⟨Go.Proofs.Tryz.f34,_,by kernel_rfl,rfl,by kernel_rfl,p_words_next⟩⟩
theorem o_words_Met : FK 35 v_words_Met:=⟨⟨Go.Proofs.Tryz.f35,_,by kernel_rfl,rfl,by kernel_rfl,p_words_Met⟩⟩
theorem o_r26_wrong : FK 36 v_r26_wrong:=⟨⟨Go.Proofs.Tryz.f36,_,by kernel_rfl,rfl,by kernel_rfl,p_r26_wrong⟩⟩
theorem o_r26_Leaves : FK 37 v_r26_Leaves:=⟨⟨Go.Proofs.Tryz.f37,_,by kernel_rfl,rfl,by kernel_rfl,p_r26_Leaves⟩⟩
theorem o38u : FK 38 v38u:=⟨⟨Go.Proofs.Tryz.f38,_,by kernel_rfl,rfl,by kernel_rfl,p38u⟩⟩
theorem o_r26_put : FK 39 v_r26_put:=⟨⟨Go.Proofs.Tryz.f39,_,by kernel_rfl,rfl,by kernel_rfl,p_r26_put⟩⟩
theorem o_r26_Traps : FK 40 v_r26_Traps:=⟨⟨Go.Proofs.Tryz.f40,_,by kernel_rfl,rfl,by kernel_rfl,p_r26_Traps⟩⟩
theorem o41u : FK 41 v41u:=⟨⟨Go.Proofs.Tryz.f41,_,by kernel_rfl,rfl,by kernel_rfl,p41u⟩⟩
theorem o42u : FK 42 v42u:=⟨⟨Go.Proofs.Tryz.f42,_,by kernel_rfl,rfl,by kernel_rfl,p42u⟩⟩
theorem o43u : FK 43 v43u:=⟨⟨Go.Proofs.Tryz.f43,_,by kernel_rfl,rfl,by kernel_rfl,p43u⟩⟩
theorem o44u : FK 44 v44u:=⟨⟨Go.Proofs.Tryz.f44,_,by kernel_rfl,rfl,by kernel_rfl,p44u⟩⟩
theorem o45u : FK 45 v45u:=⟨⟨Go.Proofs.Tryz.f45,_,by kernel_rfl,rfl,by kernel_rfl,p45u⟩⟩
theorem o49u : FK 49 v49u:=⟨⟨Go.Proofs.Tryz.f49,_,by kernel_rfl,rfl,by kernel_rfl,p49u⟩⟩
theorem o50u : FK 50 v50u:=⟨⟨Go.Proofs.Tryz.f50,_,by kernel_rfl,rfl,by kernel_rfl,p50u⟩⟩
theorem o51u : FK 51 v51u:=⟨⟨Go.Proofs.Tryz.f51,_,by kernel_rfl,rfl,by kernel_rfl,p51u⟩⟩
theorem o52u : FK 52 v52u:=⟨⟨Go.Proofs.Tryz.f52,_,by kernel_rfl,rfl,by kernel_rfl,p52u⟩⟩
theorem o53u : FK 53 v53u:=⟨⟨Go.Proofs.Tryz.f53,_,by kernel_rfl,rfl,by kernel_rfl,p53u⟩⟩
theorem o59u : FK 59 v59u:=⟨⟨Go.Proofs.Tryz.f59,_,by kernel_rfl,rfl,by kernel_rfl,p59u⟩⟩
theorem o60u : FK 60 v60u:=⟨⟨Go.Proofs.Tryz.f60,_,by kernel_rfl,rfl,by kernel_rfl,p60u⟩⟩
theorem o61u : FK 61 v61u:=⟨⟨Go.Proofs.Tryz.f61,_,by kernel_rfl,rfl,by kernel_rfl,p61u⟩⟩
theorem o65u : FK 65 v65u:=⟨⟨Go.Proofs.Tryz.f65,_,by kernel_rfl,rfl,by kernel_rfl,p65u⟩⟩
theorem o66u : FK 66 v66u:=⟨⟨Go.Proofs.Tryz.f66,_,by kernel_rfl,rfl,by kernel_rfl,p66u⟩⟩
theorem o68u : FK 68 v68u:=⟨⟨Go.Proofs.Tryz.f68,_,by kernel_rfl,rfl,by kernel_rfl,p68u⟩⟩
theorem o69u : FK 69 v69u:=⟨⟨Go.Proofs.Tryz.f69,_,by kernel_rfl,rfl,by kernel_rfl,p69u⟩⟩
theorem o70u : FK 70 v70u:=⟨⟨Go.Proofs.Tryz.f70,_,by kernel_rfl,rfl,by kernel_rfl,p70u⟩⟩
theorem o71u : FK 71 v71u:=⟨⟨Go.Proofs.Tryz.f71,_,by kernel_rfl,rfl,by kernel_rfl,p71u⟩⟩
theorem o_code_Check : FK 72 v_code_Check:=⟨⟨Go.Proofs.Tryz.f72,_,by kernel_rfl,rfl,by kernel_rfl,p_code_Check⟩⟩
theorem o_words_head : FK 73 v_words_head:=⟨⟨Go.Proofs.Tryz.f73,_,by kernel_rfl,rfl,by kernel_rfl,p_words_head⟩⟩
theorem o_words_op : FK 74 v_words_op:=⟨⟨Go.Proofs.Tryz.f74,_,by kernel_rfl,rfl,by kernel_rfl,p_words_op⟩⟩
theorem o_slices_ContainsFunc_Op : FK 75 v_slices_ContainsFunc_Op:=⟨⟨Go.Proofs.Tryz.f75,_,by kernel_rfl,rfl,by kernel_rfl,p_slices_ContainsFunc_Op⟩⟩
theorem o_words_Leaves : FK 76 v_words_Leaves:=⟨⟨Go.Proofs.Tryz.f76,_,by kernel_rfl,rfl,by kernel_rfl,p_words_Leaves⟩⟩
theorem o_words_Ways : FK 83 v_words_Ways:=⟨⟨Go.Proofs.Tryz.f83,_,by kernel_rfl,rfl,by kernel_rfl,p_words_Ways⟩⟩
theorem o_words_next_c1 : FK 84 v_words_next_c1:=⟨⟨Go.Proofs.Tryz.f84,_,by kernel_rfl,rfl,by kernel_rfl,p_words_next_c1⟩⟩
theorem o85u : FK 85 v85u:=⟨⟨Go.Proofs.Tryz.f85,_,by kernel_rfl,rfl,by kernel_rfl,p85u⟩⟩
theorem o86u : FK 86 v86u:=⟨⟨Go.Proofs.Tryz.f86,_,by kernel_rfl,rfl,by kernel_rfl,p86u⟩⟩
theorem o_r26_Uses : FK 87 v_r26_Uses:=⟨⟨Go.Proofs.Tryz.f87,_,by kernel_rfl,rfl,by kernel_rfl,p_r26_Uses⟩⟩
theorem o_r26_none : FK 88 v_r26_none:=⟨⟨Go.Proofs.Tryz.f88,_,by kernel_rfl,rfl,by kernel_rfl,p_r26_none⟩⟩
theorem o_words_isOwn : FK 89 v_words_isOwn:=⟨⟨Go.Proofs.Tryz.f89,_,by kernel_rfl,rfl,by kernel_rfl,p_words_isOwn⟩⟩
theorem o90u : FK 90 v90u:=⟨⟨Go.Proofs.Tryz.f90,_,by kernel_rfl,rfl,by kernel_rfl,p90u⟩⟩
theorem o91u : FK 91 v91u:=⟨⟨Go.Proofs.Tryz.f91,_,by kernel_rfl,rfl,by kernel_rfl,p91u⟩⟩
theorem o92u : FK 92 v92u:=⟨⟨Go.Proofs.Tryz.f92,_,by kernel_rfl,rfl,by kernel_rfl,p92u⟩⟩
theorem o94u : FK 94 v94u:=⟨⟨Go.Proofs.Tryz.f94,_,by kernel_rfl,rfl,by kernel_rfl,p94u⟩⟩
theorem o95u : FK 95 v95u:=⟨⟨Go.Proofs.Tryz.f95,_,by kernel_rfl,rfl,by kernel_rfl,p95u⟩⟩
theorem o97u : FK 97 v97u:=⟨⟨Go.Proofs.Tryz.f97,_,by kernel_rfl,rfl,by kernel_rfl,p97u⟩⟩
theorem o98u : FK 98 v98u:=⟨⟨Go.Proofs.Tryz.f98,_,by kernel_rfl,rfl,by kernel_rfl,p98u⟩⟩
theorem o99u : FK 99 v99u:=⟨⟨Go.Proofs.Tryz.f99,_,by kernel_rfl,rfl,by kernel_rfl,p99u⟩⟩
theorem o100u : FK 100 v100u:=⟨⟨Go.Proofs.Tryz.f100,_,by kernel_rfl,rfl,by kernel_rfl,p100u⟩⟩
theorem o103u : FK 103 v103u:=⟨⟨Go.Proofs.Tryz.f103,_,by kernel_rfl,rfl,by kernel_rfl,p103u⟩⟩
theorem o104u : FK 104 v104u:=⟨⟨Go.Proofs.Tryz.f104,_,by kernel_rfl,rfl,by kernel_rfl,p104u⟩⟩
theorem o_slices_Repeat_Block : FK 108 v_slices_Repeat_Block:=⟨⟨Go.Proofs.Tryz.f108,_,by kernel_rfl,rfl,by kernel_rfl,p_slices_Repeat_Block⟩⟩
theorem o_words_own : FK 109 v_words_own:=⟨⟨Go.Proofs.Tryz.f109,_,by kernel_rfl,rfl,by kernel_rfl,p_words_own⟩⟩
theorem o_slices_IndexFunc_Op : FK 110 v_slices_IndexFunc_Op:=⟨⟨Go.Proofs.Tryz.f110,_,by kernel_rfl,rfl,by kernel_rfl,p_slices_IndexFunc_Op⟩⟩
theorem o_words_MayTrap : FK 116 v_words_MayTrap:=⟨⟨Go.Proofs.Tryz.f116,_,by kernel_rfl,rfl,by kernel_rfl,p_words_MayTrap⟩⟩
theorem o117u : FK 117 v117u:=⟨⟨Go.Proofs.Tryz.f117,_,by kernel_rfl,rfl,by kernel_rfl,p117u⟩⟩
theorem o118u : FK 118 v118u:=⟨⟨Go.Proofs.Tryz.f118,_,by kernel_rfl,rfl,by kernel_rfl,p118u⟩⟩
theorem o_code_of : FK 119 v_code_of:=⟨⟨Go.Proofs.Tryz.f119,_,by kernel_rfl,rfl,by kernel_rfl,p_code_of⟩⟩
theorem o121u : FK 121 v121u:=⟨⟨Go.Proofs.Tryz.f121,_,by kernel_rfl,rfl,by kernel_rfl,p121u⟩⟩
theorem o122u : FK 122 v122u:=⟨⟨Go.Proofs.Tryz.f122,_,by kernel_rfl,rfl,by kernel_rfl,p122u⟩⟩
theorem o123u : FK 123 v123u:=⟨⟨Go.Proofs.Tryz.f123,_,by kernel_rfl,rfl,by kernel_rfl,p123u⟩⟩
theorem o125u : FK 125 v125u:=⟨⟨Go.Proofs.Tryz.f125,_,by kernel_rfl,rfl,by kernel_rfl,p125u⟩⟩
theorem o126u : FK 126 v126u:=⟨⟨Go.Proofs.Tryz.f126,_,by kernel_rfl,rfl,by kernel_rfl,p126u⟩⟩
theorem o127u : FK 127 v127u:=⟨⟨Go.Proofs.Tryz.f127,_,by kernel_rfl,rfl,by kernel_rfl,p127u⟩⟩
theorem o128u : FK 128 v128u:=⟨⟨Go.Proofs.Tryz.f128,_,by kernel_rfl,rfl,by kernel_rfl,p128u⟩⟩
theorem o129u : FK 129 v129u:=⟨⟨Go.Proofs.Tryz.f129,_,by kernel_rfl,rfl,by kernel_rfl,p129u⟩⟩
theorem o_code_checker_unit : FK 133 v_code_checker_unit:=⟨⟨Go.Proofs.Tryz.f133,_,by kernel_rfl,rfl,by kernel_rfl,p_code_checker_unit⟩⟩
theorem o_math_bits_Mul : FK 134 v_math_bits_Mul:=⟨⟨Go.Proofs.Tryz.f134,_,by kernel_rfl,rfl,by kernel_rfl,p_math_bits_Mul⟩⟩
theorem o_slices_ContainsFunc_int : FK 135 v_slices_ContainsFunc_int:=⟨⟨Go.Proofs.Tryz.f135,_,by kernel_rfl,rfl,by kernel_rfl,p_slices_ContainsFunc_int⟩⟩
theorem o_words_own_c1 : FK 136 v_words_own_c1:=⟨⟨Go.Proofs.Tryz.f136,_,by kernel_rfl,rfl,by kernel_rfl,p_words_own_c1⟩⟩
theorem o141u : FK 141 v141u:=⟨⟨Go.Proofs.Tryz.f141,_,by kernel_rfl,rfl,by kernel_rfl,p141u⟩⟩
theorem o142u : FK 142 v142u:=⟨⟨Go.Proofs.Tryz.f142,_,by kernel_rfl,rfl,by kernel_rfl,p142u⟩⟩
theorem o143u : FK 143 v143u:=⟨⟨Go.Proofs.Tryz.f143,_,by kernel_rfl,rfl,by kernel_rfl,p143u⟩⟩
theorem o144u : FK 144 v144u:=⟨⟨Go.Proofs.Tryz.f144,_,by kernel_rfl,rfl,by kernel_rfl,p144u⟩⟩
theorem o145u : FK 145 v145u:=⟨⟨Go.Proofs.Tryz.f145,_,by kernel_rfl,rfl,by kernel_rfl,p145u⟩⟩
theorem o146u : FK 146 v146u:=⟨⟨Go.Proofs.Tryz.f146,_,by kernel_rfl,rfl,by kernel_rfl,p146u⟩⟩
theorem o147u : FK 147 v147u:=⟨⟨Go.Proofs.Tryz.f147,_,by kernel_rfl,rfl,by kernel_rfl,p147u⟩⟩
theorem o148u : FK 148 v148u:=⟨⟨Go.Proofs.Tryz.f148,_,by kernel_rfl,rfl,by kernel_rfl,p148u⟩⟩
theorem o149u : FK 149 v149u:=⟨⟨Go.Proofs.Tryz.f149,_,by kernel_rfl,rfl,by kernel_rfl,p149u⟩⟩
theorem o150u : FK 150 v150u:=⟨⟨Go.Proofs.Tryz.f150,_,by kernel_rfl,rfl,by kernel_rfl,p150u⟩⟩
theorem o151u : FK 151 v151u:=⟨⟨Go.Proofs.Tryz.f151,_,by kernel_rfl,rfl,by kernel_rfl,p151u⟩⟩
theorem o152u : FK 152 v152u:=⟨⟨Go.Proofs.Tryz.f152,_,by kernel_rfl,rfl,by kernel_rfl,p152u⟩⟩
theorem o153u : FK 153 v153u:=⟨⟨Go.Proofs.Tryz.f153,_,by kernel_rfl,rfl,by kernel_rfl,p153u⟩⟩
theorem o154u : FK 154 v154u:=⟨⟨Go.Proofs.Tryz.f154,_,by kernel_rfl,rfl,by kernel_rfl,p154u⟩⟩
theorem o155u : FK 155 v155u:=⟨⟨Go.Proofs.Tryz.f155,_,by kernel_rfl,rfl,by kernel_rfl,p155u⟩⟩
theorem o157u : FK 157 v157u:=⟨⟨Go.Proofs.Tryz.f157,_,by kernel_rfl,rfl,by kernel_rfl,p157u⟩⟩
theorem o158u : FK 158 v158u:=⟨⟨Go.Proofs.Tryz.f158,_,by kernel_rfl,rfl,by kernel_rfl,p158u⟩⟩
theorem o159u : FK 159 v159u:=⟨⟨Go.Proofs.Tryz.f159,_,by kernel_rfl,rfl,by kernel_rfl,p159u⟩⟩
theorem o160u : FK 160 v160u:=⟨⟨Go.Proofs.Tryz.f160,_,by kernel_rfl,rfl,by kernel_rfl,p160u⟩⟩
theorem o_code_checker_must : FK 161 v_code_checker_must:=⟨⟨Go.Proofs.Tryz.f161,_,by kernel_rfl,rfl,by kernel_rfl,p_code_checker_must⟩⟩
theorem o_code_checker_unit_c1 : FK 162 v_code_checker_unit_c1:=⟨⟨Go.Proofs.Tryz.f162,_,by kernel_rfl,rfl,by kernel_rfl,p_code_checker_unit_c1⟩⟩
theorem o_code_within : FK 163 v_code_within:=⟨⟨Go.Proofs.Tryz.f163,_,by kernel_rfl,rfl,by kernel_rfl,p_code_within⟩⟩
theorem o_code_checker_op : FK 164 v_code_checker_op:=⟨⟨Go.Proofs.Tryz.f164,_,by kernel_rfl,rfl,by kernel_rfl,p_code_checker_op⟩⟩
theorem o_code_checker_end : FK 165 v_code_checker_end:=⟨⟨Go.Proofs.Tryz.f165,_,by kernel_rfl,rfl,by kernel_rfl,p_code_checker_end⟩⟩
theorem o166u : FK 166 v166u:=⟨⟨Go.Proofs.Tryz.f166,_,by kernel_rfl,rfl,by kernel_rfl,p166u⟩⟩
theorem o_math_bits_Mul64 : FK 167 v_math_bits_Mul64:=⟨⟨Go.Proofs.Tryz.f167,_,by kernel_rfl,rfl,by kernel_rfl,p_math_bits_Mul64⟩⟩
theorem o_slices_IndexFunc_int : FK 168 v_slices_IndexFunc_int:=⟨⟨Go.Proofs.Tryz.f168,_,by kernel_rfl,rfl,by kernel_rfl,p_slices_IndexFunc_int⟩⟩
theorem o172u : FK 172 v172u:=⟨⟨Go.Proofs.Tryz.f172,_,by kernel_rfl,rfl,by kernel_rfl,p172u⟩⟩
theorem o173u : FK 173 v173u:=⟨⟨Go.Proofs.Tryz.f173,_,by kernel_rfl,rfl,by kernel_rfl,p173u⟩⟩
theorem o174u : FK 174 v174u:=⟨⟨Go.Proofs.Tryz.f174,_,by kernel_rfl,rfl,by kernel_rfl,p174u⟩⟩
theorem o175u : FK 175 v175u:=⟨⟨Go.Proofs.Tryz.f175,_,by kernel_rfl,rfl,by kernel_rfl,p175u⟩⟩
theorem o176u : FK 176 v176u:=⟨⟨Go.Proofs.Tryz.f176,_,by kernel_rfl,rfl,by kernel_rfl,p176u⟩⟩
theorem o177u : FK 177 v177u:=⟨⟨Go.Proofs.Tryz.f177,_,by kernel_rfl,rfl,by kernel_rfl,p177u⟩⟩
theorem o178u : FK 178 v178u:=⟨⟨Go.Proofs.Tryz.f178,_,by kernel_rfl,rfl,by kernel_rfl,p178u⟩⟩
theorem o179u : FK 179 v179u:=⟨⟨Go.Proofs.Tryz.f179,_,by kernel_rfl,rfl,by kernel_rfl,p179u⟩⟩
theorem o180u : FK 180 v180u:=⟨⟨Go.Proofs.Tryz.f180,_,by kernel_rfl,rfl,by kernel_rfl,p180u⟩⟩
theorem o181u : FK 181 v181u:=⟨⟨Go.Proofs.Tryz.f181,_,by kernel_rfl,rfl,by kernel_rfl,p181u⟩⟩
theorem o183u : FK 183 v183u:=⟨⟨Go.Proofs.Tryz.f183,_,by kernel_rfl,rfl,by kernel_rfl,p183u⟩⟩
theorem o184u : FK 184 v184u:=⟨⟨Go.Proofs.Tryz.f184,_,by kernel_rfl,rfl,by kernel_rfl,p184u⟩⟩
theorem o185u : FK 185 v185u:=⟨⟨Go.Proofs.Tryz.f185,_,by kernel_rfl,rfl,by kernel_rfl,p185u⟩⟩
theorem o186u : FK 186 v186u:=⟨⟨Go.Proofs.Tryz.f186,_,by kernel_rfl,rfl,by kernel_rfl,p186u⟩⟩
theorem o187u : FK 187 v187u:=⟨⟨Go.Proofs.Tryz.f187,_,by kernel_rfl,rfl,by kernel_rfl,p187u⟩⟩
theorem o188u : FK 188 v188u:=⟨⟨Go.Proofs.Tryz.f188,_,by kernel_rfl,rfl,by kernel_rfl,p188u⟩⟩
theorem o_code_checker_reg : FK 189 v_code_checker_reg:=⟨⟨Go.Proofs.Tryz.f189,_,by kernel_rfl,rfl,by kernel_rfl,p_code_checker_reg⟩⟩
theorem o191u : FK 191 v191u:=⟨⟨Go.Proofs.Tryz.f191,_,by kernel_rfl,rfl,by kernel_rfl,p191u⟩⟩
theorem o194u : FK 194 v194u:=⟨⟨Go.Proofs.Tryz.f194,_,by kernel_rfl,rfl,by kernel_rfl,p194u⟩⟩
theorem o196u : FK 196 v196u:=⟨⟨Go.Proofs.Tryz.f196,_,by kernel_rfl,rfl,by kernel_rfl,p196u⟩⟩
theorem o197u : FK 197 v197u:=⟨⟨Go.Proofs.Tryz.f197,_,by kernel_rfl,rfl,by kernel_rfl,p197u⟩⟩
theorem o199u : FK 199 v199u:=⟨⟨Go.Proofs.Tryz.f199,_,by kernel_rfl,rfl,by kernel_rfl,p199u⟩⟩
theorem o201u : FK 201 v201u:=⟨⟨Go.Proofs.Tryz.f201,_,by kernel_rfl,rfl,by kernel_rfl,p201u⟩⟩
theorem o202u : FK 202 v202u:=⟨⟨Go.Proofs.Tryz.f202,_,by kernel_rfl,rfl,by kernel_rfl,p202u⟩⟩
theorem o206u : FK 206 v206u:=⟨⟨Go.Proofs.Tryz.f206,_,by kernel_rfl,rfl,by kernel_rfl,p206u⟩⟩
theorem o208u : FK 208 v208u:=⟨⟨Go.Proofs.Tryz.f208,_,by kernel_rfl,rfl,by kernel_rfl,p208u⟩⟩
theorem o211u : FK 211 v211u:=⟨⟨Go.Proofs.Tryz.f211,_,by kernel_rfl,rfl,by kernel_rfl,p211u⟩⟩
theorem o212u : FK 212 v212u:=⟨⟨Go.Proofs.Tryz.f212,_,by kernel_rfl,rfl,by kernel_rfl,p212u⟩⟩
theorem o214u : FK 214 v214u:=⟨⟨Go.Proofs.Tryz.f214,_,by kernel_rfl,rfl,by kernel_rfl,p214u⟩⟩
theorem o215u : FK 215 v215u:=⟨⟨Go.Proofs.Tryz.f215,_,by kernel_rfl,rfl,by kernel_rfl,p215u⟩⟩
theorem o217u : FK 217 v217u:=⟨⟨Go.Proofs.Tryz.f217,_,by kernel_rfl,rfl,by kernel_rfl,p217u⟩⟩
theorem fn_ok2 (f : FuncId) (fn : VFun) (h : fnOf2 f = some fn) : FunOk Go.Proofs.Tryz.prog [0,1,2] f fn:=by
  unfold fnOf2 at h
  split at h
  · cases h; exact o149u
  · cases h; exact o150u
  · cases h; exact o151u
  · cases h; exact o152u
  · cases h; exact o153u
  · cases h; exact o154u
  · cases h; exact o155u
  · cases h; exact o157u
  · cases h; exact o158u
  · cases h; exact o159u
  · cases h; exact o160u
  · cases h; exact o_code_checker_must
  · cases h; exact o_code_checker_unit_c1
  · cases h; exact o_code_within
  · cases h; exact o_code_checker_op
  · cases h; exact o_code_checker_end
  · cases h; exact o166u
  · cases h; exact o_math_bits_Mul64
  · cases h; exact o_slices_IndexFunc_int
  · cases h; exact o172u
  · cases h; exact o173u
  · cases h; exact o174u
  · cases h; exact o175u
  · cases h; exact o176u
  · cases h; exact o177u
  · cases h; exact o178u
  · cases h; exact o179u
  · cases h; exact o180u
  · cases h; exact o181u
  · cases h; exact o183u
  · cases h; exact o184u
  · cases h; exact o185u
  · cases h; exact o186u
  · cases h; exact o187u
  · cases h; exact o188u
  · cases h; exact o_code_checker_reg
  · cases h; exact o191u
  · cases h; exact o194u
  · cases h; exact o196u
  · cases h; exact o197u
  · cases h; exact o199u
  · cases h; exact o201u
  · cases h; exact o202u
  · cases h; exact o206u
  · cases h; exact o208u
  · cases h; exact o211u
  · cases h; exact o212u
  · cases h; exact o214u
  · cases h; exact o215u
  · cases h; exact o217u
  · cases h
theorem fn_ok1 (f : FuncId) (fn : VFun) (h : fnOf1 f = some fn) : FunOk Go.Proofs.Tryz.prog [0,1,2] f fn:=by
  unfold fnOf1 at h
  split at h
  · cases h; exact o_words_op
  · cases h; exact o_slices_ContainsFunc_Op
  · cases h; exact o_words_Leaves
  · cases h; exact o_words_Ways
  · cases h; exact o_words_next_c1
  · cases h; exact o85u
  · cases h; exact o86u
  · cases h; exact o_r26_Uses
  · cases h; exact o_r26_none
  · cases h; exact o_words_isOwn
  · cases h; exact o90u
  · cases h; exact o91u
  · cases h; exact o92u
  · cases h; exact o94u
  · cases h; exact o95u
  · cases h; exact o97u
  · cases h; exact o98u
  · cases h; exact o99u
  · cases h; exact o100u
  · cases h; exact o103u
  · cases h; exact o104u
  · cases h; exact o_slices_Repeat_Block
  · cases h; exact o_words_own
  · cases h; exact o_slices_IndexFunc_Op
  · cases h; exact o_words_MayTrap
  · cases h; exact o117u
  · cases h; exact o118u
  · cases h; exact o_code_of
  · cases h; exact o121u
  · cases h; exact o122u
  · cases h; exact o123u
  · cases h; exact o125u
  · cases h; exact o126u
  · cases h; exact o127u
  · cases h; exact o128u
  · cases h; exact o129u
  · cases h; exact o_code_checker_unit
  · cases h; exact o_math_bits_Mul
  · cases h; exact o_slices_ContainsFunc_int
  · cases h; exact o_words_own_c1
  · cases h; exact o141u
  · cases h; exact o142u
  · cases h; exact o143u
  · cases h; exact o144u
  · cases h; exact o145u
  · cases h; exact o146u
  · cases h; exact o147u
  · cases h; exact o148u
  · exact fn_ok2 _ fn h
theorem fn_ok (f : FuncId) (fn : VFun) (h : fnOf f = some fn) : FunOk Go.Proofs.Tryz.prog [0,1,2] f fn:=by
  unfold fnOf at h
  split at h
  · cases h; exact o_l26_WordsNexts
  · cases h; exact o_l26_cut
  · cases h; exact o_words_Next
  · cases h; exact o_words_Reached
  · cases h; exact o_words_Density
  · cases h; exact o_r26_Check
  · cases h; exact o15u
  · cases h; exact o_r26_Density
  · cases h; exact o_r26_Reached
  · cases h; exact o_r26_Next
  · cases h; exact o19u
  · cases h; exact o21u
  · cases h; exact o24u
  · cases h; exact o26u
  · cases h; exact o28u
  · cases h; exact o_words_Check
  · cases h; exact o_r26_Cut
  · cases h; exact o_words_within
  · cases h; exact o_words_next
  · cases h; exact o_words_Met
  · cases h; exact o_r26_wrong
  · cases h; exact o_r26_Leaves
  · cases h; exact o38u
  · cases h; exact o_r26_put
  · cases h; exact o_r26_Traps
  · cases h; exact o41u
  · cases h; exact o42u
  · cases h; exact o43u
  · cases h; exact o44u
  · cases h; exact o45u
  · cases h; exact o49u
  · cases h; exact o50u
  · cases h; exact o51u
  · cases h; exact o52u
  · cases h; exact o53u
  · cases h; exact o59u
  · cases h; exact o60u
  · cases h; exact o61u
  · cases h; exact o65u
  · cases h; exact o66u
  · cases h; exact o68u
  · cases h; exact o69u
  · cases h; exact o70u
  · cases h; exact o71u
  · cases h; exact o_code_Check
  · cases h; exact o_words_head
  · exact fn_ok1 _ fn h
structure On (X : Cx) : Prop where
  F : X.F = fnOf
  P : X.P = Go.Proofs.Tryz.prog
end Go.VX.Seat
end
section
namespace Go.VX.Seat
def oneK (k : Int) : Bool:=decide (1≤k) && decide (k≤25)
def hasDst (k : Int) : Bool:=decide (k≠17) && decide (k≠19) && decide (k≠20) && decide (k≠21) && decide (k≠22)
def hasA (k : Int) : Bool:=decide (k≠1) && decide (k≠18)
def hasB (k : Int) : Bool:=decide (3≤k) && decide (k≤15) || decide (k = 17) || decide (k = 23) || decide (k = 24)
def hasC (k : Int) : Bool:=decide (k = 12)
def arrK (k : Int) : Bool:=decide (k = 16) || decide (k = 17) || decide (k = 25)
def cellK (k : Int) : Bool:=decide (k = 18) || decide (k = 19)
def endA (k : Int) : Bool:=decide (k≠1)
def endTo (k : Int) : Bool:=decide (k = 1) || decide (k = 2)
def endElse (k : Int) : Bool:=decide (k = 2)
section
variable {X : Cx} {st : St}
end
end Go.VX.Seat
end
section
namespace Go.VX.Seat
def regOkA (regs r : Int) : Bool:=decide (0≤r) && decide (r < regs)
section
variable {X : Cx} {st : St}
def hasN (k : Int) : Bool:=decide (k = 1) || arrK k || cellK k || decide (k = 21)
def manyOf (ns nb : Nat) (spill k : Int) : Int:=if arrK k then ns else if cellK k then spill else if decide (k = 21) then nb else -1
def opErr (ns nb : Nat) (regs spill k d a b c n g : Int) : Int :=
  if oneK k = false then 4 else
  if (hasDst k && !regOkA regs d) || (hasA k && !regOkA regs a) || (hasB k && !regOkA regs b) || (hasC k && !regOkA regs c) then 2 else
  if decide (g≠-1) && !regOkA regs g then 2 else
  if decide (0≤manyOf ns nb spill k) && (decide (n < 0) || decide (manyOf ns nb spill k≤n)) then 5 else
  if (!hasDst k && decide (d≠0)) || (!hasA k && decide (a≠0)) || (!hasB k && decide (b≠0)) || (!hasC k && decide (c≠0)) then 4 else
  if !hasN k && decide (n≠0) then 4 else 0
end
end Go.VX.Seat
end
section
set_option maxRecDepth 4000
namespace Go.VX.Seat
def endErr (nb : Nat) (regs k a t e : Int) : Int :=
  if decide (k < 1) || decide (4 < k) then 4 else
  if endA k && !regOkA regs a then 2 else
  if (endTo k && !regOkA nb t) || (endElse k && !regOkA nb e) then 5 else
  if (!endA k && decide (a≠0)) || (!endTo k && decide (t≠0)) || (!endElse k && decide (e≠0)) then 4 else 0
section
variable {X : Cx} {st : St}
end
end Go.VX.Seat
end
section
set_option maxRecDepth 4000
namespace Go.VX.Seat
open Go.Proofs
structure OpV where
  k : Int
  d : Int
  a : Int
  b : Int
  c : Int
  n : Int
  g : Int
  deriving DecidableEq
structure EndV where
  k : Int
  a : Int
  t : Int
  e : Int
  deriving DecidableEq
structure BlkV where
  ops : List OpV
  e : EndV
  catch_ : Int
  deriving DecidableEq
structure UnitV where
  sizes : List Int
  params : Int
  regs : Int
  code : Int
  spill : Int
  blocks : List BlkV
  deriving DecidableEq
def OpV.row (o : OpV) : List AV:=[iA o.k,iA o.d,iA o.a,iA o.b,iA o.c,iA o.n,iA o.g]
def BlkV.row (b : BlkV) (v : AV) : List AV:=[v,iA b.e.k,iA b.e.a,iA b.e.t,iA b.e.e,iA b.catch_]
abbrev OpsAt (st : St) (lo hi : Nat) (v : AV) (l : List OpV) : Prop:=ArrAt st lo hi v 7 (l.map OpV.row)
abbrev IntsAt (st : St) (lo hi : Nat) (v : AV) (l : List Int) : Prop:=ArrAt st lo hi v 1 (l.map fun n=>[iA n])
def BlksAt (st : St) (lo hi : Nat) (v : AV) (l : List BlkV) : Prop:=∃ f : Nat→AV,ArrAt st lo hi v 6 (l.mapIdx fun i b=>b.row (f i))∧∀ i (h : i < l.length),OpsAt st lo hi (f i) l[i].ops
def UnitAt (st : St) (lo hi : Nat) (v : AV) (u : UnitV) : Prop:=∃ s bl,v = .agg [s,iA u.params,iA u.regs,iA u.code,iA u.spill,bl]∧IntsAt st lo hi s u.sizes∧BlksAt st lo hi bl u.blocks
section
variable {X : Cx} {st : St}
end
end Go.VX.Seat
end
section
set_option maxRecDepth 4000
namespace Go.VX.Seat
open Go.Proofs
def Fits (U : UnitV) : Prop:=(U.sizes.length : Int) < 4611686018427387904∧(U.blocks.length : Int) < 4611686018427387904∧∀ b ∈ U.blocks,(b.ops.length : Int) < 4611686018427387904
theorem BlksAt.mono {st : St} {lo hi : Nat} {v : AV} {l : List BlkV} (h : BlksAt st lo hi v l) (m : St) : BlksAt (st++m) lo hi v l :=
  let ⟨f,h1,h2⟩:=h; ⟨f,h1.mono m,fun i hi=>(h2 i hi).mono m⟩
theorem UnitAt.mono {st : St} {lo hi : Nat} {v : AV} {U : UnitV} (h : UnitAt st lo hi v U) (m : St) : UnitAt (st++m) lo hi v U :=
  let ⟨s,bl,h1,h2,h3⟩:=h; ⟨s,bl,h1,h2.mono m,h3.mono m⟩
theorem BlksAt.ext {st s : St} {lo hi : Nat} {v : AV} {l : List BlkV} (h : BlksAt st lo hi v l) (he : Ext st s) : BlksAt s lo hi v l:=by obtain ⟨L,rfl⟩:=he; exact h.mono L
theorem UnitAt.ext {st s : St} {lo hi : Nat} {v : AV} {U : UnitV} (h : UnitAt st lo hi v U) (he : Ext st s) : UnitAt s lo hi v U:=by obtain ⟨L,rfl⟩:=he; exact h.mono L
theorem isCell_len {v : AV} {n : Nat} (h : lenA v = some n) : AV.isCell v = true:=by
  unfold lenA at h
  split at h
  · rfl
  · rfl
  · cases h
section
variable {X : Cx} {st : St}
end
end Go.VX.Seat
end
