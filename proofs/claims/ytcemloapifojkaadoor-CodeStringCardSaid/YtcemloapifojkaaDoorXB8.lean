/- A part of the proofs of the statements of one layer: L1, L2, L3, L4, L5, L0, S1, S2, S3, S4, S5, S6, S7, S8, S9, S10, S11, S12, S13, S14, S15, S16, S17, S18, S19, S20, S21, S22, S24, S23, E1. No condition is added here. -/
import Derived.Test.YtcemloapifojkaaDoorChecked
import Derived.Test.YtcemloapifojkaaDoorXB7
set_option linter.unusedVariables false
set_option linter.unusedSimpArgs false
section
set_option maxRecDepth 20000
namespace Go.VX.Seat
noncomputable abbrev PR (f : Func) : Option VFun:=prepFun Go.Proofs.Tryd.prog [1,0,2,3,8,9] f
instance (n : Nat) : OfNat VOpd n:=⟨.tmp n⟩
abbrev zi (n : Int) : VOpd:=.con (.int .i64 n)
abbrev zm (i d s : Nat) : VOper:=⟨i,some d,.mv (.tmp s),none,[]⟩
abbrev zl (i d s : Nat) : VOper:=⟨i,some d,.load none (.tmp s),none,[]⟩
abbrev zf (i d k s : Nat) : VOper:=⟨i,some d,.fieldA k (.tmp s),none,[]⟩
abbrev zo (i d : Nat) (x : VOp) : VOper:=⟨i,some d,x,none,[]⟩
abbrev zn (i : Nat) (x : VOp) : VOper:=⟨i,none,x,none,[]⟩
abbrev zg (i d : Nat) (x : VOp) (c : Nat) (b : Bool) : VOper:=⟨i,some d,x,some (c,b),[]⟩
def v_l07_CodeString : VFun :=
⟨.seq (.reg [zo 0 2 (.mv (.con (.bool false)))])
 (.seq (.reg [zm 0 12 0,
 zm 1 13 0,
 zo 2 14 (.bi .len [9] 3 [(.tmp 13)]),
 zo 3 15 (.bi .min [3,3] 3 [(.tmp 14),(zi 2000000)]),
 zo 4 16 (.slS 9 (.tmp 12) none (some (.tmp 15))),
 zm 5 3 16])
 (.seq (.reg [zm 0 18 3,
 zo 1 19 (.call 12 [(.tmp 18)]),
 zm 2 17 19,
 zo 3 20 (.ext (.tmp 17) 0),
 zo 4 21 (.ext (.tmp 17) 1),
 zo 5 22 (.ext (.tmp 17) 2),
 zo 6 4 (.alloc [(.slice none 0 0),(.int .i64 0),(.int .i64 0),(.int .i64 0),(.int .i64 0),(.slice none 0 0)]),
 zn 7 (.store 6 (.tmp 4) (.tmp 20)),
 zm 8 5 21,
 zm 9 6 22])
 (.seq (.seq (.reg [zm 0 23 6,
 zo 1 24 (.bin .neq 27 true (.tmp 23) (zi 0))])
 (.cond (.tmp 24)
 (.seq (.reg [zm 0 25 6,
 zo 1 26 (.bin .eql 27 true (.tmp 25) (zi 4)),
 zm 2 27 5,
 zo 3 28 (.bin .gtr 3 true (.tmp 27) (zi 0)),
 zo 4 29 (.bin .eql 4 false (.tmp 26) (.tmp 28)),
 zm 5 30 29,
 zg 6 31 (.mv (.tmp 5)) 30 true,
 zg 7 32 (.mv (.tmp 3)) 30 true,
 zg 8 33 (.bi .len [9] 3 [(.tmp 32)]) 30 true,
 zg 9 34 (.bin .add 3 true (.tmp 33) (zi 1)) 30 true,
 zg 10 35 (.bin .leq 3 false (.tmp 31) (.tmp 34)) 30 true,
 zo 11 36 (.pick (.tmp 30) (.tmp 35) (.con (.bool false))),
 zm 12 37 36,
 zg 13 38 (.call 11 []) 37 true,
 zo 14 39 (.pick (.tmp 37) (.tmp 38) (.con (.bool false))),
 zm 15 2 39])
 (.ret))
 (.skip)))
 (.seq (.reg [zo 0 41 (.load (some 6) (.tmp 4)),
 zo 1 42 (.call 9 [(.tmp 41)]),
 zm 2 40 42,
 zo 3 43 (.ext (.tmp 40) 0),
 zo 4 44 (.ext (.tmp 40) 1),
 zm 5 7 43,
 zm 6 8 44])
 (.seq (.reg [zm 0 46 3,
 zo 1 47 (.bin .add 9 true (.tmp 46) (.con (.string ⟨#[10]⟩))),
 zo 2 48 (.call 12 [(.tmp 47)]),
 zm 3 45 48,
 zo 4 49 (.ext (.tmp 45) 0),
 zo 5 50 (.ext (.tmp 45) 1),
 zo 6 51 (.ext (.tmp 45) 2),
 zo 7 9 (.alloc [(.slice none 0 0),(.int .i64 0),(.int .i64 0),(.int .i64 0),(.int .i64 0),(.slice none 0 0)]),
 zn 8 (.store 6 (.tmp 9) (.tmp 49)),
 zm 9 10 50,
 zm 10 11 51])
 (.seq (.reg [zm 0 52 8,
 zo 1 53 (.bin .eql 27 true (.tmp 52) (zi 0)),
 zm 2 54 53,
 zg 3 55 (.mv (.tmp 7)) 54 true,
 zg 4 56 (.mv (.tmp 3)) 54 true,
 zg 5 57 (.bin .eql 9 false (.tmp 55) (.tmp 56)) 54 true,
 zo 6 58 (.pick (.tmp 54) (.tmp 57) (.con (.bool false))),
 zm 7 59 58,
 zg 8 60 (.mv (.tmp 11)) 59 true,
 zg 9 61 (.bin .eql 27 true (.tmp 60) (zi 4)) 59 true,
 zg 10 62 (.mv (.tmp 61)) 59 true,
 zg 11 63 (.mv (.tmp 10)) 62 true,
 zg 12 64 (.bin .gtr 3 true (.tmp 63) (zi 0)) 62 true,
 zg 13 65 (.pick (.tmp 62) (.tmp 64) (.con (.bool false))) 59 true,
 zg 14 66 (.mv (.tmp 65)) 59 true,
 zg 15 67 (.mv (.tmp 3)) 66 false,
 zg 16 68 (.bi .len [9] 3 [(.tmp 67)]) 66 false,
 zg 17 69 (.bin .eql 3 true (.tmp 68) (zi 2000000)) 66 false,
 zg 18 70 (.mv (.tmp 69)) 66 false,
 zg 19 71 (.mv (.tmp 11)) 70 true,
 zg 20 72 (.bin .eql 27 true (.tmp 71) (zi 3)) 70 true,
 zg 21 73 (.pick (.tmp 70) (.tmp 72) (.con (.bool false))) 66 false,
 zg 22 74 (.pick (.tmp 66) (.con (.bool true)) (.tmp 73)) 59 true,
 zo 23 75 (.pick (.tmp 59) (.tmp 74) (.con (.bool false))),
 zm 24 76 75,
 zg 25 77 (.call 11 []) 76 true,
 zo 26 78 (.pick (.tmp 76) (.tmp 77) (.con (.bool false))),
 zm 27 2 78])
 (.ret))))))),
 [.tmp 2]⟩
theorem p_l07_CodeString : PR Go.Proofs.Tryd.f4 = some v_l07_CodeString:=by kernel_rfl

def v_code_Text : VFun :=
⟨.seq (.reg [zo 0 1 (.box (.tmp 0)),
 zo 1 2 (.mv (.con (.string ⟨#[]⟩))),
 zo 2 3 (.mv (zi 0))])
 (.seq (.seq (.reg [zo 0 14 (.load (some 6) (.tmp 1)),
 zo 1 15 (.call 10 [(.tmp 14)]),
 zm 2 4 15])
 (.seq (.reg [zm 0 16 4,
 zo 1 17 (.bin .neq 27 true (.tmp 16) (zi 0))])
 (.cond (.tmp 17)
 (.seq (.reg [zm 0 18 4,
 zo 1 2 (.mv (.con (.string ⟨#[]⟩))),
 zm 2 3 18])
 (.ret))
 (.skip))))
 (.seq (.reg [zo 0 5 (.allocF [(.int .i64 1),(.int .i64 58),(.int .i64 5),(.string ⟨#[]⟩)])])
 (.seq (.reg [zo 0 19 (.call 20 [(.tmp 5),(.con (.string ⟨#[117,110,105,116]⟩))])])
 (.seq (.seq (.reg [zf 0 20 1 1,
 zl 1 21 20,
 zf 2 22 2 1,
 zl 3 23 22,
 zf 4 24 3 1,
 zl 5 25 24,
 zf 6 26 4 1,
 zl 7 27 26,
 zo 8 28 (.bslice 1 4 [(.int .i64 0)] [(0,1,(.tmp 21)),(1,1,(.tmp 23)),(2,1,(.tmp 25)),(3,1,(.tmp 27))]),
 zo 9 29 (.len (.tmp 28)),
 zo 10 30 (.mv (zi 0))])
 (.block 0
 (.loop
 (.seq (.reg [zo 0 31 (.bin .lss 3 false (.tmp 30) (.tmp 29))])
 (.seq (.cond (.tmp 31)
 (.skip)
 (.exit 0))
 (.seq (.block 1
 (.seq (.reg [zo 0 32 (.idxA none 1 (.tmp 28) (.tmp 30)),
 zl 1 33 32,
 zm 2 7 33])
 (.reg [zm 0 34 7,
 zo 1 35 (.call 21 [(.tmp 34)]),
 zo 2 36 (.bin .add 9 true (.con (.string ⟨#[32]⟩)) (.tmp 35)),
 zo 3 37 (.call 20 [(.tmp 5),(.tmp 36)])])))
 (.reg [zo 0 38 (.bin .add 3 true (.tmp 30) (zi 1)),
 zm 1 30 38])))))))
 (.seq (.reg [zo 0 39 (.call 20 [(.tmp 5),(.con (.string ⟨#[10]⟩))])])
 (.seq (.seq (.reg [zf 0 40 0 1,
 zl 1 41 40,
 zo 2 42 (.len (.tmp 41)),
 zo 3 43 (.mv (zi 0))])
 (.block 2
 (.loop
 (.seq (.reg [zo 0 44 (.bin .lss 3 false (.tmp 43) (.tmp 42))])
 (.seq (.cond (.tmp 44)
 (.skip)
 (.exit 2))
 (.seq (.block 3
 (.seq (.reg [zo 0 45 (.idxA none 1 (.tmp 41) (.tmp 43)),
 zl 1 46 45,
 zm 2 9 46])
 (.reg [zm 0 47 9,
 zo 1 48 (.call 21 [(.tmp 47)]),
 zo 2 49 (.bin .add 9 true (.con (.string ⟨#[97,114,114,97,121,32]⟩)) (.tmp 48)),
 zo 3 50 (.bin .add 9 true (.tmp 49) (.con (.string ⟨#[10]⟩))),
 zo 4 51 (.call 20 [(.tmp 5),(.tmp 50)])])))
 (.reg [zo 0 52 (.bin .add 3 true (.tmp 43) (zi 1)),
 zm 1 43 52])))))))
 (.seq (.seq (.reg [zf 0 53 5 1,
 zl 1 54 53,
 zo 2 55 (.len (.tmp 54)),
 zo 3 56 (.mv (zi 0))])
 (.block 4
 (.loop
 (.seq (.reg [zo 0 57 (.bin .lss 3 false (.tmp 56) (.tmp 55))])
 (.seq (.cond (.tmp 57)
 (.skip)
 (.exit 4))
 (.seq (.block 5
 (.seq (.reg [zo 0 58 (.idxA none 6 (.tmp 54) (.tmp 56)),
 zo 1 59 (.load (some 6) (.tmp 58)),
 zo 2 11 (.alloc [(.slice none 0 0),(.int .i64 0),(.int .i64 0),(.int .i64 0),(.int .i64 0),(.int .i64 0)]),
 zn 3 (.store 6 (.tmp 11) (.tmp 59))])
 (.seq (.reg [zf 0 60 5 11,
 zl 1 61 60,
 zo 2 62 (.call 21 [(.tmp 61)]),
 zo 3 63 (.bin .add 9 true (.con (.string ⟨#[98,108,111,99,107,32]⟩)) (.tmp 62)),
 zo 4 64 (.bin .add 9 true (.tmp 63) (.con (.string ⟨#[10]⟩))),
 zo 5 65 (.call 20 [(.tmp 5),(.tmp 64)])])
 (.seq (.seq (.reg [zf 0 66 0 11,
 zl 1 67 66,
 zo 2 68 (.len (.tmp 67)),
 zo 3 69 (.mv (zi 0))])
 (.block 6
 (.loop
 (.seq (.reg [zo 0 70 (.bin .lss 3 false (.tmp 69) (.tmp 68))])
 (.seq (.cond (.tmp 70)
 (.skip)
 (.exit 6))
 (.seq (.block 7
 (.seq (.reg [zo 0 71 (.idxA none 7 (.tmp 67) (.tmp 69)),
 zo 1 72 (.load (some 7) (.tmp 71)),
 zo 2 13 (.alloc [(.int .i64 0),(.int .i64 0),(.int .i64 0),(.int .i64 0),(.int .i64 0),(.int .i64 0),(.int .i64 0)]),
 zn 3 (.store 7 (.tmp 13) (.tmp 72))])
 (.reg [zo 0 73 (.load (some 7) (.tmp 13)),
 zo 1 74 (.call 22 [(.tmp 73)]),
 zo 2 75 (.bin .add 9 true (.con (.string ⟨#[32,32]⟩)) (.tmp 74)),
 zo 3 76 (.bin .add 9 true (.tmp 75) (.con (.string ⟨#[10]⟩))),
 zo 4 77 (.call 20 [(.tmp 5),(.tmp 76)])])))
 (.reg [zo 0 78 (.bin .add 3 true (.tmp 69) (zi 1)),
 zm 1 69 78])))))))
 (.reg [zf 0 79 1 11,
 zo 1 80 (.load (some 4) (.tmp 79)),
 zo 2 81 (.call 23 [(.tmp 80)]),
 zo 3 82 (.bin .add 9 true (.con (.string ⟨#[32,32]⟩)) (.tmp 81)),
 zo 4 83 (.bin .add 9 true (.tmp 82) (.con (.string ⟨#[10]⟩))),
 zo 5 84 (.call 20 [(.tmp 5),(.tmp 83)])])))))
 (.reg [zo 0 85 (.bin .add 3 true (.tmp 56) (zi 1)),
 zm 1 56 85])))))))
 (.seq (.reg [zo 0 86 (.call 24 [(.tmp 5)]),
 zm 1 2 86,
 zo 2 3 (.mv (zi 0))])
 (.ret))))))))),
 [.tmp 2,.tmp 3]⟩
theorem p_code_Text : PR Go.Proofs.Tryd.f9 = some v_code_Text:=by kernel_rfl

def v_code_Check : VFun :=
⟨.seq (.reg [zo 0 1 (.box (.tmp 0)),
 zo 1 2 (.mv (zi 0))])
 (.seq (.reg [zo 0 3 (.load (some 6) (.tmp 1)),
 zo 1 4 (.call 25 [(.tmp 3)]),
 zo 2 5 (.field 2 none (.tmp 4)),
 zm 3 2 5])
 (.ret)),
 [.tmp 2]⟩
theorem p_code_Check : PR Go.Proofs.Tryd.f10 = some v_code_Check:=by kernel_rfl

def v11u : VFun :=
⟨.seq (.reg [zo 0 0 (.mv (.con (.bool false)))])
 (.seq (.reg [zo 0 10 (.call 12 [(.con (.string ⟨#[117,110,105,116,32,49,32,51,32,48,32,48,10,98,108,111,99,107,32,45,49,10,32,32,49,32,61,32,99,111,110,115,116,32,50,10,32,32,50,32,61,32,109,117,108,32,48,32,49,10,32,32,112,114,105,110,116,32,50,10,32,32,114,101,116,117,114,110,32,50,10]⟩))]),
 zm 1 9 10,
 zo 2 11 (.ext 9 0),
 zo 3 12 (.ext 9 1),
 zo 4 13 (.ext 9 2),
 zo 5 1 (.alloc [(.slice none 0 0),(.int .i64 0),(.int .i64 0),(.int .i64 0),(.int .i64 0),(.slice none 0 0)]),
 zn 6 (.store 6 1 11),
 zm 7 2 12,
 zm 8 3 13])
 (.seq (.reg [zo 0 15 (.load (some 6) 1),
 zo 1 16 (.call 9 [15]),
 zm 2 14 16,
 zo 3 17 (.ext 14 0),
 zo 4 18 (.ext 14 1),
 zm 5 4 17,
 zm 6 5 18])
 (.seq (.reg [zo 0 20 (.call 12 [(.con (.string ⟨#[117,110,105,116,32,49,32,51,32,48,32,48,10,98,108,111,99,107,32,45,49,10,32,32,49,32,61,32,99,111,110,116,115,32,50,10]⟩))]),
 zm 1 19 20,
 zo 2 21 (.ext 19 0),
 zo 3 22 (.ext 19 1),
 zo 4 23 (.ext 19 2),
 zo 5 6 (.alloc [(.slice none 0 0),(.int .i64 0),(.int .i64 0),(.int .i64 0),(.int .i64 0),(.slice none 0 0)]),
 zn 6 (.store 6 6 21),
 zm 7 7 22,
 zm 8 8 23])
 (.seq (.reg [zm 0 24 3,
 zo 1 25 (.bin .eql 27 true 24 (zi 0)),
 zm 2 26 25,
 zg 3 27 (.mv 2) 26 true,
 zg 4 28 (.bin .eql 3 true 27 (zi 0)) 26 true,
 zo 5 29 (.pick 26 28 (.con (.bool false))),
 zm 6 30 29,
 zg 7 31 (.mv 5) 30 true,
 zg 8 32 (.bin .eql 27 true 31 (zi 0)) 30 true,
 zo 9 33 (.pick 30 32 (.con (.bool false))),
 zm 10 34 33,
 zg 11 35 (.mv 4) 34 true,
 zg 12 36 (.bin .eql 9 true 35 (.con (.string ⟨#[117,110,105,116,32,49,32,51,32,48,32,48,10,98,108,111,99,107,32,45,49,10,32,32,49,32,61,32,99,111,110,115,116,32,50,10,32,32,50,32,61,32,109,117,108,32,48,32,49,10,32,32,112,114,105,110,116,32,50,10,32,32,114,101,116,117,114,110,32,50,10]⟩))) 34 true,
 zo 13 37 (.pick 34 36 (.con (.bool false))),
 zm 14 38 37,
 zg 15 39 (.mv 8) 38 true,
 zg 16 40 (.bin .eql 27 true 39 (zi 4)) 38 true,
 zo 17 41 (.pick 38 40 (.con (.bool false))),
 zm 18 42 41,
 zg 19 43 (.mv 7) 42 true,
 zg 20 44 (.bin .eql 3 true 43 (zi 3)) 42 true,
 zo 21 45 (.pick 42 44 (.con (.bool false))),
 zm 22 46 45,
 zg 23 47 (.build [(.slice none 0 0),(.int .i64 0),(.int .i64 0),(.int .i64 0),(.int .i64 0),(.slice none 0 0)] []) 46 true,
 zg 24 48 (.call 10 [47]) 46 true,
 zg 25 49 (.bin .eql 27 true 48 (zi 3)) 46 true,
 zo 26 50 (.pick 46 49 (.con (.bool false))),
 zm 27 0 50])
 (.ret))))),
 [.tmp 0]⟩
theorem p11u : PR Go.Proofs.Tryd.f11 = some v11u:=by kernel_rfl

def v_code_Parse : VFun :=
⟨.seq (.reg [zo 0 2 (.alloc [(.slice none 0 0),(.int .i64 0),(.int .i64 0),(.int .i64 0),(.int .i64 0),(.slice none 0 0)]),
 zo 1 3 (.mv (zi 0)),
 zo 2 4 (.mv (zi 0))])
 (.seq (.seq (.reg [zm 0 8 0,
 zo 1 9 (.bi .len [9] 3 [(.tmp 8)]),
 zo 2 10 (.bin .gtr 3 true (.tmp 9) (zi 2000000))])
 (.cond (.tmp 10)
 (.seq (.reg [zo 0 11 (.build [(.slice none 0 0),(.int .i64 0),(.int .i64 0),(.int .i64 0),(.int .i64 0),(.slice none 0 0)] []),
 zn 1 (.store 6 (.tmp 2) (.tmp 11)),
 zo 2 3 (.mv (zi 0)),
 zo 3 4 (.mv (zi 3))])
 (.ret))
 (.skip)))
 (.seq (.reg [zo 0 5 (.alloc [(.slice none 0 0),(.int .i64 0),(.int .i64 0),(.int .i64 0),(.int .i64 0),(.slice none 0 0)])])
 (.seq (.reg [zm 0 12 0,
 zo 1 13 (.build [(.string ⟨#[]⟩),(.int .i64 0)] [(0,1,(.tmp 12)),(1,1,(zi 1))]),
 zo 2 14 (.box (.tmp 13)),
 zm 3 6 14])
 (.seq (.seq (.reg [zm 0 15 6,
 zo 1 16 (.call 26 [(.tmp 15),(.tmp 5)]),
 zo 2 17 (.un .not (.tmp 16))])
 (.cond (.tmp 17)
 (.seq (.reg [zo 0 18 (.build [(.slice none 0 0),(.int .i64 0),(.int .i64 0),(.int .i64 0),(.int .i64 0),(.slice none 0 0)] []),
 zm 1 19 6,
 zo 2 20 (.nilck (.tmp 19)),
 zf 3 21 1 20,
 zl 4 22 21,
 ⟨5,none,.store 6 (.tmp 2) (.tmp 18),none,[(.tmp 21)]⟩,
 zm 6 3 22,
 zo 7 4 (.mv (zi 4))])
 (.ret))
 (.skip)))
 (.seq (.seq (.reg [zo 0 23 (.load (some 6) (.tmp 5)),
 zo 1 24 (.call 10 [(.tmp 23)]),
 zm 2 7 24])
 (.seq (.reg [zm 0 25 7,
 zo 1 26 (.bin .neq 27 true (.tmp 25) (zi 0))])
 (.cond (.tmp 26)
 (.seq (.reg [zo 0 27 (.build [(.slice none 0 0),(.int .i64 0),(.int .i64 0),(.int .i64 0),(.int .i64 0),(.slice none 0 0)] []),
 zm 1 28 7,
 zn 2 (.store 6 (.tmp 2) (.tmp 27)),
 zo 3 3 (.mv (zi 0)),
 zm 4 4 28])
 (.ret))
 (.skip))))
 (.seq (.reg [zo 0 29 (.load (some 6) (.tmp 5)),
 zn 1 (.store 6 (.tmp 2) (.tmp 29)),
 zo 2 3 (.mv (zi 0)),
 zo 3 4 (.mv (zi 0))])
 (.ret))))))),
 [.cell 2 (some 6),.tmp 3,.tmp 4]⟩
theorem p_code_Parse : PR Go.Proofs.Tryd.f12 = some v_code_Parse:=by kernel_rfl

end Go.VX.Seat
end
section
set_option maxRecDepth 20000
namespace Go.VX.Seat
def v20u : VFun :=
⟨.seq (.reg [zo 0 4 (.mv (zi 0)),
 zo 1 5 (.mv (.con .nilIface))])
 (.seq (.reg [zm 0 6 0,
 zo 1 7 (.call 37 [6])])
 (.seq (.reg [zm 0 8 0,
 zm 1 9 0,
 zo 2 10 (.nilck 9),
 zf 3 11 1 10,
 zl 4 12 11,
 zm 5 13 1,
 zo 6 14 (.append 1 1 12 13),
 zo 7 15 (.nilck 8),
 zf 8 16 1 15,
 zn 9 (.store 1 16 14)])
 (.seq (.reg [zm 0 17 1,
 zo 1 18 (.bi .len [9] 3 [17]),
 zm 2 4 18,
 zo 3 5 (.mv (.con .nilIface))])
 (.ret)))),
 [.tmp 4,.tmp 5]⟩
theorem p20u : PR Go.Proofs.Tryd.f20 = some v20u:=by kernel_rfl

def v21u : VFun :=
⟨.seq (.reg [zo 0 2 (.mv (.con (.string ⟨#[]⟩)))])
 (.seq (.reg [zm 0 3 0,
 zo 1 4 (.call 38 [3]),
 zm 2 2 4])
 (.ret)),
 [.tmp 2]⟩
theorem p21u : PR Go.Proofs.Tryd.f21 = some v21u:=by kernel_rfl

def v_code_opText : VFun :=
⟨.seq (.reg [zo 0 1 (.box (.tmp 0)),
 zo 1 2 (.mv (.con (.string ⟨#[]⟩)))])
 (.seq (.reg [zf 0 9 0 1,
 zl 1 10 9,
 zo 2 11 (.call 39 [(.tmp 10)]),
 zm 3 8 11,
 zo 4 12 (.ext (.tmp 8) 0),
 zo 5 13 (.ext (.tmp 8) 1),
 zo 6 3 (.alloc [(.int .i64 0),(.int .i64 0),(.string ⟨#[]⟩)]),
 zn 7 (.store 3 (.tmp 3) (.tmp 12)),
 zm 8 4 13])
 (.seq (.reg [zo 0 5 (.allocF [(.int .i64 1),(.int .i64 58),(.int .i64 5),(.string ⟨#[]⟩)])])
 (.seq (.seq (.reg [zf 0 14 6 1,
 zl 1 15 14,
 zo 2 16 (.bin .neq 3 true (.tmp 15) (zi (-1)))])
 (.cond (.tmp 16)
 (.reg [zf 0 17 6 1,
 zl 1 18 17,
 zo 2 19 (.call 21 [(.tmp 18)]),
 zo 3 20 (.bin .add 9 true (.con (.string ⟨#[63,32]⟩)) (.tmp 19)),
 zo 4 21 (.bin .add 9 true (.tmp 20) (.con (.string ⟨#[32]⟩))),
 zo 5 22 (.call 20 [(.tmp 5),(.tmp 21)])])
 (.skip)))
 (.seq (.seq (.reg [zf 0 23 0 3,
 zl 1 24 23,
 zo 2 25 (.bin .and 3 true (.tmp 24) (zi 1)),
 zo 3 26 (.bin .neq 3 true (.tmp 25) (zi 0))])
 (.cond (.tmp 26)
 (.reg [zf 0 27 1 1,
 zl 1 28 27,
 zo 2 29 (.call 21 [(.tmp 28)]),
 zo 3 30 (.bin .add 9 true (.tmp 29) (.con (.string ⟨#[32,61,32]⟩))),
 zo 4 31 (.call 20 [(.tmp 5),(.tmp 30)])])
 (.skip)))
 (.seq (.reg [zf 0 32 2 3,
 zl 1 33 32,
 zo 2 34 (.call 20 [(.tmp 5),(.tmp 33)])])
 (.seq (.seq (.reg [zo 0 35 (.load (some 7) (.tmp 1)),
 zo 1 36 (.call 40 [(.tmp 35)]),
 zo 2 37 (.len (.tmp 36)),
 zo 3 38 (.mv (zi 0))])
 (.block 0
 (.loop
 (.seq (.reg [zo 0 39 (.bin .lss 3 false (.tmp 38) (.tmp 37))])
 (.seq (.cond (.tmp 39)
 (.skip)
 (.exit 0))
 (.seq (.block 1
 (.seq (.reg [zo 0 40 (.idxA none 1 (.tmp 36) (.tmp 38)),
 zl 1 41 40,
 zm 2 7 41])
 (.reg [zm 0 42 7,
 zo 1 43 (.call 21 [(.tmp 42)]),
 zo 2 44 (.bin .add 9 true (.con (.string ⟨#[32]⟩)) (.tmp 43)),
 zo 3 45 (.call 20 [(.tmp 5),(.tmp 44)])])))
 (.reg [zo 0 46 (.bin .add 3 true (.tmp 38) (zi 1)),
 zm 1 38 46])))))))
 (.seq (.seq (.reg [zf 0 47 0 3,
 zl 1 48 47,
 zo 2 49 (.bin .and 3 true (.tmp 48) (zi 240)),
 zo 3 50 (.bin .neq 3 true (.tmp 49) (zi 0))])
 (.cond (.tmp 50)
 (.reg [zf 0 51 5 1,
 zl 1 52 51,
 zo 2 53 (.call 41 [(.tmp 52)]),
 zo 3 54 (.bin .add 9 true (.con (.string ⟨#[32]⟩)) (.tmp 53)),
 zo 4 55 (.call 20 [(.tmp 5),(.tmp 54)])])
 (.skip)))
 (.seq (.reg [zo 0 56 (.call 24 [(.tmp 5)]),
 zm 1 2 56])
 (.ret))))))))),
 [.tmp 2]⟩
theorem p_code_opText : PR Go.Proofs.Tryd.f22 = some v_code_opText:=by kernel_rfl

def v_code_endText : VFun :=
⟨.seq (.reg [zo 0 1 (.box (.tmp 0)),
 zo 1 2 (.mv (.con (.string ⟨#[]⟩)))])
 (.seq (.reg [zf 0 7 1 1,
 zl 1 8 7,
 zf 2 9 2 1,
 zl 3 10 9,
 zf 4 11 3 1,
 zl 5 12 11,
 zo 6 13 (.bslice 1 3 [(.int .i64 0)] [(0,1,(.tmp 8)),(1,1,(.tmp 10)),(2,1,(.tmp 12))]),
 zm 7 3 13])
 (.seq (.seq (.reg [zf 0 14 0 1,
 zl 1 15 14,
 zo 2 16 (.bin .eql 3 true (.tmp 15) (zi 1))])
 (.cond (.tmp 16)
 (.reg [zm 0 17 3,
 zo 1 18 (.slice none 1 (.tmp 17) (some (zi 1)) none none),
 zm 2 3 18])
 (.skip)))
 (.seq (.reg [zf 0 19 0 1,
 zl 1 20 19,
 zo 2 21 (.bin .sub 3 true (.tmp 20) (zi 1)),
 zo 3 22 (.idxA (some 4) 2 (.glo 1) (.tmp 21)),
 zf 4 23 0 22,
 zl 5 24 23,
 zm 6 4 24])
 (.seq (.seq (.reg [zm 0 25 3,
 zf 1 26 0 1,
 zl 2 27 26,
 zo 3 28 (.bin .sub 3 true (.tmp 27) (zi 1)),
 zo 4 29 (.idxA (some 4) 2 (.glo 1) (.tmp 28)),
 zf 5 30 1 29,
 zl 6 31 30,
 zo 7 32 (.slice none 1 (.tmp 25) none (some (.tmp 31)) none),
 zo 8 33 (.len (.tmp 32)),
 zo 9 34 (.mv (zi 0))])
 (.block 0
 (.loop
 (.seq (.reg [zo 0 35 (.bin .lss 3 false (.tmp 34) (.tmp 33))])
 (.seq (.cond (.tmp 35)
 (.skip)
 (.exit 0))
 (.seq (.block 1
 (.seq (.reg [zo 0 36 (.idxA none 1 (.tmp 32) (.tmp 34)),
 zl 1 37 36,
 zm 2 6 37])
 (.reg [zm 0 38 4,
 zm 1 39 6,
 zo 2 40 (.call 21 [(.tmp 39)]),
 zo 3 41 (.bin .add 9 true (.con (.string ⟨#[32]⟩)) (.tmp 40)),
 zo 4 42 (.bin .add 9 false (.tmp 38) (.tmp 41)),
 zm 5 4 42])))
 (.reg [zo 0 43 (.bin .add 3 true (.tmp 34) (zi 1)),
 zm 1 34 43])))))))
 (.seq (.reg [zm 0 44 4,
 zm 1 2 44])
 (.ret)))))),
 [.tmp 2]⟩
theorem p_code_endText : PR Go.Proofs.Tryd.f23 = some v_code_endText:=by kernel_rfl

def v_code_lines_unit : VFun :=
⟨.seq (.reg [zo 0 4 (.mv (.con (.bool false)))])
 (.seq (.reg [zm 0 18 0,
 zo 1 19 (.call 44 [(.tmp 18)]),
 zm 2 17 19,
 zo 3 20 (.ext (.tmp 17) 0),
 zo 4 21 (.ext (.tmp 17) 1),
 zm 5 5 20,
 zm 6 6 21])
 (.seq (.reg [zm 0 23 5,
 zo 1 24 (.call 45 [(.tmp 23),(.con (.string ⟨#[117,110,105,116]⟩)),(zi 4)]),
 zm 2 22 24,
 zo 3 25 (.ext (.tmp 22) 0),
 zo 4 26 (.ext (.tmp 22) 1),
 zm 5 7 25,
 zm 6 8 26])
 (.seq (.seq (.reg [zm 0 28 0,
 zo 1 29 (.call 44 [(.tmp 28)]),
 zm 2 27 29,
 zo 3 30 (.ext (.tmp 27) 0),
 zo 4 31 (.ext (.tmp 27) 1),
 zm 5 9 30,
 zm 6 10 31])
 (.seq (.reg [zm 0 32 8,
 zo 1 33 (.un .not (.tmp 32)),
 zm 2 34 33,
 zg 3 35 (.mv (.tmp 10)) 34 false,
 zg 4 36 (.un .not (.tmp 35)) 34 false,
 zo 5 37 (.pick (.tmp 34) (.con (.bool true)) (.tmp 36))])
 (.cond (.tmp 37)
 (.seq (.reg [zo 0 4 (.mv (.con (.bool false)))])
 (.ret))
 (.skip))))
 (.seq (.reg [zm 0 38 1,
 zm 1 39 1,
 zm 2 40 1,
 zm 3 41 1,
 zm 4 42 7,
 zo 5 43 (.idxA none 1 (.tmp 42) (zi 0)),
 zl 6 44 43,
 zm 7 45 7,
 zo 8 46 (.idxA none 1 (.tmp 45) (zi 1)),
 zl 9 47 46,
 zm 10 48 7,
 zo 11 49 (.idxA none 1 (.tmp 48) (zi 2)),
 zl 12 50 49,
 zm 13 51 7,
 zo 14 52 (.idxA none 1 (.tmp 51) (zi 3)),
 zl 15 53 52,
 zo 16 54 (.nilck (.tmp 38)),
 zf 17 55 1 54,
 zn 18 (.store 1 (.tmp 55) (.tmp 44)),
 zo 19 56 (.nilck (.tmp 39)),
 zf 20 57 2 56,
 zn 21 (.store 1 (.tmp 57) (.tmp 47)),
 zo 22 58 (.nilck (.tmp 40)),
 zf 23 59 3 58,
 zn 24 (.store 1 (.tmp 59) (.tmp 50)),
 zo 25 60 (.nilck (.tmp 41)),
 zf 26 61 4 60,
 zn 27 (.store 1 (.tmp 61) (.tmp 53))])
 (.seq (.reg [zm 0 62 0,
 zo 1 63 (.call 46 [(.tmp 62)])])
 (.seq (.block 0
 (.loop
 (.seq (.seq (.reg [zm 0 64 0,
 zo 1 65 (.nilck (.tmp 64)),
 zf 2 66 0 65,
 zl 3 67 66,
 zo 4 68 (.bin .neq 9 true (.tmp 67) (.con (.string ⟨#[]⟩)))])
 (.cond (.tmp 68)
 (.skip)
 (.exit 0)))
 (.block 1
 (.seq (.reg [zm 0 70 0,
 zo 1 71 (.call 44 [(.tmp 70)]),
 zm 2 69 71,
 zo 3 72 (.ext (.tmp 69) 0),
 zo 4 73 (.ext (.tmp 69) 1),
 zm 5 11 72,
 zm 6 12 73])
 (.seq (.reg [zm 0 75 11,
 zo 1 76 (.call 45 [(.tmp 75),(.con (.string ⟨#[97,114,114,97,121]⟩)),(zi 1)]),
 zm 2 74 76,
 zo 3 77 (.ext (.tmp 74) 0),
 zo 4 78 (.ext (.tmp 74) 1),
 zm 5 13 77,
 zm 6 14 78])
 (.seq (.reg [zm 0 80 11,
 zo 1 81 (.call 45 [(.tmp 80),(.con (.string ⟨#[98,108,111,99,107]⟩)),(zi 1)]),
 zm 2 79 81,
 zo 3 82 (.ext (.tmp 79) 0),
 zo 4 83 (.ext (.tmp 79) 1),
 zm 5 15 82,
 zm 6 16 83])
 (.block 2
 (.seq (.reg [zm 0 85 12,
 zo 1 86 (.un .not (.tmp 85)),
 zm 2 84 86])
 (.cond (.tmp 84)
 (.seq (.reg [zo 0 4 (.mv (.con (.bool false)))])
 (.ret))
 (.seq (.reg [zm 0 88 14,
 zm 1 89 88,
 zg 2 90 (.mv (.tmp 1)) 89 true,
 zg 3 91 (.nilck (.tmp 90)) 89 true,
 zg 4 92 (.fieldA 5 (.tmp 91)) 89 true,
 zg 5 93 (.load none (.tmp 92)) 89 true,
 zg 6 94 (.len (.tmp 93)) 89 true,
 zg 7 95 (.bin .eql 3 true (.tmp 94) (zi 0)) 89 true,
 zo 8 96 (.pick (.tmp 89) (.tmp 95) (.con (.bool false))),
 zm 9 87 96])
 (.cond (.tmp 87)
 (.seq (.reg [zm 0 97 1,
 zm 1 98 1,
 zo 2 99 (.nilck (.tmp 98)),
 zf 3 100 0 99,
 zl 4 101 100,
 zm 5 102 13,
 zo 6 103 (.idxA none 1 (.tmp 102) (zi 0)),
 zl 7 104 103,
 zo 8 105 (.bslice 1 1 [(.int .i64 0)] [(0,1,(.tmp 104))]),
 zo 9 106 (.append 1 8 (.tmp 101) (.tmp 105)),
 zo 10 107 (.nilck (.tmp 97)),
 zf 11 108 0 107,
 zn 12 (.store 1 (.tmp 108) (.tmp 106))])
 (.reg [zm 0 109 0,
 zo 1 110 (.call 46 [(.tmp 109)])]))
 (.seq (.reg [zm 0 112 16,
 zm 1 111 112])
 (.cond (.tmp 111)
 (.seq (.reg [zm 0 113 1,
 zm 1 114 1,
 zo 2 115 (.nilck (.tmp 114)),
 zf 3 116 5 115,
 zl 4 117 116,
 zm 5 118 15,
 zo 6 119 (.idxA none 1 (.tmp 118) (zi 0)),
 zl 7 120 119,
 zo 8 121 (.build [(.slice none 0 0),(.int .i64 0),(.int .i64 0),(.int .i64 0),(.int .i64 0),(.int .i64 0)] [(5,1,(.tmp 120))]),
 zo 9 122 (.bslice 6 1 [(.slice none 0 0),(.int .i64 0),(.int .i64 0),(.int .i64 0),(.int .i64 0),(.int .i64 0)] [(0,6,(.tmp 121))]),
 zo 10 123 (.append 6 64 (.tmp 117) (.tmp 122)),
 zo 11 124 (.nilck (.tmp 113)),
 zf 12 125 5 124,
 zn 13 (.store 1 (.tmp 125) (.tmp 123))])
 (.seq (.reg [zm 0 126 0,
 zo 1 127 (.call 46 [(.tmp 126)])])
 (.seq (.reg [zm 0 128 0,
 zm 1 129 1,
 zo 2 130 (.nilck (.tmp 129)),
 zf 3 131 5 130,
 zl 4 132 131,
 zm 5 133 1,
 zo 6 134 (.nilck (.tmp 133)),
 zf 7 135 5 134,
 zl 8 136 135,
 zo 9 137 (.len (.tmp 136)),
 zo 10 138 (.bin .sub 3 true (.tmp 137) (zi 1)),
 zo 11 139 (.idxA none 6 (.tmp 132) (.tmp 138)),
 zo 12 140 (.call 47 [(.tmp 128),(.tmp 139)]),
 zo 13 141 (.un .not (.tmp 140))])
 (.cond (.tmp 141)
 (.seq (.reg [zo 0 4 (.mv (.con (.bool false)))])
 (.ret))
 (.skip)))))
 (.seq (.reg [zo 0 4 (.mv (.con (.bool false)))])
 (.ret))))))))))))))))
 (.seq (.reg [zo 0 4 (.mv (.con (.bool true)))])
 (.ret)))))))),
 [.tmp 4]⟩
theorem p_code_lines_unit : PR Go.Proofs.Tryd.f26 = some v_code_lines_unit:=by kernel_rfl

def v_code_within : VFun :=
⟨.seq (.reg [zo 0 4 (.mv (.con (.bool false)))])
 (.seq (.reg [zm 0 5 0,
 zo 1 6 (.bin .geq 3 true (.tmp 5) (zi 0)),
 zm 2 7 6,
 zg 3 8 (.mv (.tmp 0)) 7 true,
 zg 4 9 (.mv (.tmp 1)) 7 true,
 zg 5 10 (.bin .lss 3 false (.tmp 8) (.tmp 9)) 7 true,
 zo 6 11 (.pick (.tmp 7) (.tmp 10) (.con (.bool false))),
 zm 7 4 11])
 (.ret)),
 [.tmp 4]⟩
theorem p_code_within : PR Go.Proofs.Tryd.f34 = some v_code_within:=by kernel_rfl

def v38u : VFun :=
⟨.seq (.reg [zo 0 2 (.mv (.con (.string ⟨#[]⟩)))])
 (.seq (.reg [zm 0 3 0,
 zo 1 4 (.call 52 [3,(zi 10)]),
 zm 2 2 4])
 (.ret)),
 [.tmp 2]⟩
theorem p38u : PR Go.Proofs.Tryd.f38 = some v38u:=by kernel_rfl

def v_code_of : VFun :=
⟨.seq (.reg [zo 0 2 (.alloc [(.int .i64 0),(.int .i64 0),(.string ⟨#[]⟩)]),
 zo 1 3 (.mv (.con (.bool false)))])
 (.seq (.seq (.reg [zm 0 4 0,
 zo 1 5 (.bin .lss 3 true (.tmp 4) (zi 1)),
 zm 2 6 5,
 zg 3 7 (.mv (.tmp 0)) 6 false,
 zg 4 8 (.bin .gtr 3 true (.tmp 7) (zi 25)) 6 false,
 zo 5 9 (.pick (.tmp 6) (.con (.bool true)) (.tmp 8))])
 (.cond (.tmp 9)
 (.seq (.reg [zo 0 10 (.build [(.int .i64 0),(.int .i64 0),(.string ⟨#[]⟩)] []),
 zn 1 (.store 3 (.tmp 2) (.tmp 10)),
 zo 2 3 (.mv (.con (.bool false)))])
 (.ret))
 (.skip)))
 (.seq (.reg [zm 0 11 0,
 zo 1 12 (.bin .sub 3 true (.tmp 11) (zi 1)),
 zo 2 13 (.idxA (some 25) 3 (.glo 0) (.tmp 12)),
 zo 3 14 (.load (some 3) (.tmp 13)),
 zn 4 (.store 3 (.tmp 2) (.tmp 14)),
 zo 5 3 (.mv (.con (.bool true)))])
 (.ret))),
 [.cell 2 (some 3),.tmp 3]⟩
theorem p_code_of : PR Go.Proofs.Tryd.f39 = some v_code_of:=by kernel_rfl

def v_code_Read : VFun :=
⟨.seq (.reg [zo 0 1 (.box (.tmp 0)),
 zo 1 2 (.mv (.con (.slice none 0 0)))])
 (.seq (.reg [zf 0 9 0 1,
 zl 1 10 9,
 zo 2 11 (.call 39 [(.tmp 10)]),
 zm 3 8 11,
 zo 4 12 (.ext (.tmp 8) 0),
 zo 5 13 (.ext (.tmp 8) 1),
 zo 6 3 (.alloc [(.int .i64 0),(.int .i64 0),(.string ⟨#[]⟩)]),
 zn 7 (.store 3 (.tmp 3) (.tmp 12)),
 zm 8 4 13])
 (.seq (.reg [zo 0 5 (.mv (.con (.slice none 0 0)))])
 (.seq (.seq (.reg [zf 0 14 2 1,
 zl 1 15 14,
 zf 2 16 3 1,
 zl 3 17 16,
 zf 4 18 4 1,
 zl 5 19 18,
 zo 6 20 (.build [(.int .i64 0),(.int .i64 0),(.int .i64 0)] [(0,1,(.tmp 15)),(1,1,(.tmp 17)),(2,1,(.tmp 19))]),
 zo 7 21 (.mv (zi 0))])
 (.block 0
 (.loop
 (.seq (.reg [zo 0 22 (.bin .lss 3 true (.tmp 21) (zi 3))])
 (.seq (.cond (.tmp 22)
 (.skip)
 (.exit 0))
 (.seq (.block 1
 (.seq (.reg [zm 0 23 21,
 zo 1 24 (.idx 3 none 1 (.tmp 20) (.tmp 21)),
 zm 2 6 23,
 zm 3 7 24])
 (.seq (.reg [zf 0 25 0 3,
 zl 1 26 25,
 zm 2 27 6,
 zo 3 28 (.bin .shl 3 true (zi 2) (.tmp 27)),
 zo 4 29 (.bin .and 3 false (.tmp 26) (.tmp 28)),
 zo 5 30 (.bin .neq 3 true (.tmp 29) (zi 0))])
 (.cond (.tmp 30)
 (.reg [zm 0 31 5,
 zm 1 32 7,
 zo 2 33 (.bslice 1 1 [(.int .i64 0)] [(0,1,(.tmp 32))]),
 zo 3 34 (.append 1 8 (.tmp 31) (.tmp 33)),
 zm 4 5 34])
 (.skip)))))
 (.reg [zo 0 35 (.bin .add 3 true (.tmp 21) (zi 1)),
 zm 1 21 35])))))))
 (.seq (.reg [zm 0 36 5,
 zm 1 2 36])
 (.ret))))),
 [.tmp 2]⟩
theorem p_code_Read : PR Go.Proofs.Tryd.f40 = some v_code_Read:=by kernel_rfl

def v_word_Show : VFun :=
⟨.seq (.reg [zo 0 2 (.mv (.con (.string ⟨#[]⟩)))])
 (.seq (.reg [zm 0 3 0,
 zo 1 4 (.call 53 [(.tmp 3),(zi 10)]),
 zm 2 2 4])
 (.ret)),
 [.tmp 2]⟩
theorem p_word_Show : PR Go.Proofs.Tryd.f41 = some v_word_Show:=by kernel_rfl

def v_code_checker_unit : VFun :=
⟨.seq (.reg [zm 0 8 0,
 zo 1 9 (.nilck (.tmp 8)),
 zf 2 10 0 9,
 zo 3 11 (.load (some 6) (.tmp 10)),
 zo 4 2 (.alloc [(.slice none 0 0),(.int .i64 0),(.int .i64 0),(.int .i64 0),(.int .i64 0),(.slice none 0 0)]),
 zn 5 (.store 6 (.tmp 2) (.tmp 11))])
 (.seq (.reg [zm 0 12 0,
 zf 1 13 0 2,
 zl 2 14 13,
 zo 3 15 (.len (.tmp 14)),
 zo 4 16 (.bin .leq 3 true (.tmp 15) (zi 16)),
 zm 5 17 16,
 zg 6 18 (.fieldA 5 (.tmp 2)) 17 true,
 zg 7 19 (.load none (.tmp 18)) 17 true,
 zg 8 20 (.len (.tmp 19)) 17 true,
 zg 9 21 (.bin .geq 3 true (.tmp 20) (zi 1)) 17 true,
 zo 10 22 (.pick (.tmp 17) (.tmp 21) (.con (.bool false))),
 zm 11 23 22,
 zg 12 24 (.fieldA 5 (.tmp 2)) 23 true,
 zg 13 25 (.load none (.tmp 24)) 23 true,
 zg 14 26 (.len (.tmp 25)) 23 true,
 zg 15 27 (.bin .leq 3 true (.tmp 26) (zi 2000)) 23 true,
 zo 16 28 (.pick (.tmp 23) (.tmp 27) (.con (.bool false))),
 zm 17 29 28,
 zg 18 30 (.fieldA 2 (.tmp 2)) 29 true,
 zg 19 31 (.load none (.tmp 30)) 29 true,
 zg 20 32 (.bin .leq 3 true (.tmp 31) (zi 4096)) 29 true,
 zo 21 33 (.pick (.tmp 29) (.tmp 32) (.con (.bool false))),
 zm 22 34 33,
 zg 23 35 (.fieldA 4 (.tmp 2)) 34 true,
 zg 24 36 (.load none (.tmp 35)) 34 true,
 zg 25 37 (.bin .leq 3 true (.tmp 36) (zi 4096)) 34 true,
 zo 26 38 (.pick (.tmp 34) (.tmp 37) (.con (.bool false))),
 zo 27 39 (.call 54 [(.tmp 12),(.tmp 38),(zi 3)])])
 (.seq (.reg [zm 0 40 0,
 zf 1 41 0 2,
 zl 2 42 41,
 zo 3 43 (.call 55 [(.tmp 42),(.fn 56)]),
 zo 4 44 (.un .not (.tmp 43)),
 zo 5 45 (.call 54 [(.tmp 40),(.tmp 44),(zi 2)])])
 (.seq (.reg [zm 0 46 0,
 zf 1 47 2 2,
 zl 2 48 47,
 zo 3 49 (.bin .geq 3 true (.tmp 48) (zi 1)),
 zm 4 50 49,
 zg 5 51 (.fieldA 4 (.tmp 2)) 50 true,
 zg 6 52 (.load none (.tmp 51)) 50 true,
 zg 7 53 (.bin .geq 3 true (.tmp 52) (zi 0)) 50 true,
 zo 8 54 (.pick (.tmp 50) (.tmp 53) (.con (.bool false))),
 zm 9 55 54,
 zg 10 56 (.fieldA 1 (.tmp 2)) 55 true,
 zg 11 57 (.load none (.tmp 56)) 55 true,
 zg 12 58 (.bin .geq 3 true (.tmp 57) (zi 0)) 55 true,
 zo 13 59 (.pick (.tmp 55) (.tmp 58) (.con (.bool false))),
 zm 14 60 59,
 zg 15 61 (.fieldA 1 (.tmp 2)) 60 true,
 zg 16 62 (.load none (.tmp 61)) 60 true,
 zg 17 63 (.bin .leq 3 true (.tmp 62) (zi 8)) 60 true,
 zo 18 64 (.pick (.tmp 60) (.tmp 63) (.con (.bool false))),
 zm 19 65 64,
 zg 20 66 (.fieldA 1 (.tmp 2)) 65 true,
 zg 21 67 (.load none (.tmp 66)) 65 true,
 zg 22 68 (.fieldA 2 (.tmp 2)) 65 true,
 zg 23 69 (.load none (.tmp 68)) 65 true,
 zg 24 70 (.bin .leq 3 false (.tmp 67) (.tmp 69)) 65 true,
 zo 25 71 (.pick (.tmp 65) (.tmp 70) (.con (.bool false))),
 zm 26 72 71,
 zg 27 73 (.fieldA 3 (.tmp 2)) 72 true,
 zg 28 74 (.load none (.tmp 73)) 72 true,
 zg 29 75 (.fieldA 2 (.tmp 2)) 72 true,
 zg 30 76 (.load none (.tmp 75)) 72 true,
 zg 31 77 (.call 34 [(.tmp 74),(.tmp 76)]) 72 true,
 zo 32 78 (.pick (.tmp 72) (.tmp 77) (.con (.bool false))),
 zo 33 79 (.call 54 [(.tmp 46),(.tmp 78),(zi 2)])])
 (.seq (.reg [zo 0 3 (.mv (zi 0))])
 (.seq (.seq (.reg [zf 0 80 5 2,
 zl 1 81 80,
 zo 2 82 (.len (.tmp 81)),
 zo 3 83 (.mv (zi 0))])
 (.block 0
 (.loop
 (.seq (.reg [zo 0 84 (.bin .lss 3 false (.tmp 83) (.tmp 82))])
 (.seq (.cond (.tmp 84)
 (.skip)
 (.exit 0))
 (.seq (.block 1
 (.seq (.reg [zm 0 85 83,
 zo 1 86 (.idxA none 6 (.tmp 81) (.tmp 83)),
 zo 2 87 (.load (some 6) (.tmp 86)),
 zo 3 5 (.alloc [(.slice none 0 0),(.int .i64 0),(.int .i64 0),(.int .i64 0),(.int .i64 0),(.int .i64 0)]),
 zm 4 4 85,
 zn 5 (.store 6 (.tmp 5) (.tmp 87))])
 (.seq (.reg [zm 0 88 0,
 zm 1 89 0,
 zm 2 90 4,
 zf 3 91 0 5,
 zl 4 92 91,
 zo 5 93 (.len (.tmp 92)),
 zo 6 94 (.nilck (.tmp 88)),
 zf 7 95 6 94,
 ⟨8,none,.store 1 (.tmp 95) (.tmp 90),none,[(.tmp 91)]⟩,
 zo 9 96 (.nilck (.tmp 89)),
 zf 10 97 7 96,
 zn 11 (.store 1 (.tmp 97) (.tmp 93))])
 (.seq (.reg [zm 0 98 0,
 zf 1 99 5 5,
 zl 2 100 99,
 zo 3 101 (.bin .eql 3 true (.tmp 100) (zi (-1))),
 zm 4 102 101,
 zg 5 103 (.fieldA 5 (.tmp 5)) 102 false,
 zg 6 104 (.load none (.tmp 103)) 102 false,
 zg 7 105 (.fieldA 5 (.tmp 2)) 102 false,
 zg 8 106 (.load none (.tmp 105)) 102 false,
 zg 9 107 (.len (.tmp 106)) 102 false,
 zg 10 108 (.call 34 [(.tmp 104),(.tmp 107)]) 102 false,
 zo 11 109 (.pick (.tmp 102) (.con (.bool true)) (.tmp 108)),
 zo 12 110 (.call 54 [(.tmp 98),(.tmp 109),(zi 2)])])
 (.seq (.reg [zm 0 111 0,
 zf 1 112 0 5,
 zl 2 113 112,
 zo 3 114 (.len (.tmp 113)),
 zo 4 115 (.bin .leq 3 true (.tmp 114) (zi 400)),
 zo 5 116 (.call 54 [(.tmp 111),(.tmp 115),(zi 3)])])
 (.seq (.seq (.reg [zf 0 117 0 5,
 zl 1 118 117,
 zo 2 119 (.len (.tmp 118)),
 zo 3 120 (.mv (zi 0))])
 (.block 2
 (.loop
 (.seq (.reg [zo 0 121 (.bin .lss 3 false (.tmp 120) (.tmp 119))])
 (.seq (.cond (.tmp 121)
 (.skip)
 (.exit 2))
 (.seq (.block 3
 (.seq (.reg [zm 0 122 120,
 zo 1 123 (.idxA none 7 (.tmp 118) (.tmp 120)),
 zo 2 124 (.load (some 7) (.tmp 123)),
 zo 3 7 (.alloc [(.int .i64 0),(.int .i64 0),(.int .i64 0),(.int .i64 0),(.int .i64 0),(.int .i64 0),(.int .i64 0)]),
 zm 4 6 122,
 zn 5 (.store 7 (.tmp 7) (.tmp 124))])
 (.seq (.reg [zm 0 125 0,
 zm 1 126 6,
 zo 2 127 (.nilck (.tmp 125)),
 zf 3 128 7 127,
 zn 4 (.store 1 (.tmp 128) (.tmp 126))])
 (.reg [zm 0 129 0,
 zo 1 130 (.load (some 7) (.tmp 7)),
 zo 2 131 (.call 57 [(.tmp 129),(.tmp 130)])]))))
 (.reg [zo 0 132 (.bin .add 3 true (.tmp 120) (zi 1)),
 zm 1 120 132])))))))
 (.seq (.reg [zm 0 133 0,
 zf 1 134 0 5,
 zl 2 135 134,
 zo 3 136 (.len (.tmp 135)),
 zo 4 137 (.nilck (.tmp 133)),
 zf 5 138 7 137,
 zn 6 (.store 1 (.tmp 138) (.tmp 136))])
 (.seq (.reg [zm 0 139 0,
 zf 1 140 1 5,
 zo 2 141 (.load (some 4) (.tmp 140)),
 zo 3 142 (.call 58 [(.tmp 139),(.tmp 141)])])
 (.reg [zm 0 143 3,
 zf 1 144 0 5,
 zl 2 145 144,
 zo 3 146 (.len (.tmp 145)),
 zo 4 147 (.bin .add 3 false (.tmp 143) (.tmp 146)),
 zm 5 3 147])))))))))
 (.reg [zo 0 148 (.bin .add 3 true (.tmp 83) (zi 1)),
 zm 1 83 148])))))))
 (.seq (.reg [zm 0 149 0,
 zm 1 150 0,
 zo 2 151 (.nilck (.tmp 149)),
 zf 3 152 6 151,
 zn 4 (.store 1 (.tmp 152) (zi 0)),
 zo 5 153 (.nilck (.tmp 150)),
 zf 6 154 7 153,
 zn 7 (.store 1 (.tmp 154) (zi 0))])
 (.reg [zm 0 155 0,
 zm 1 156 3,
 zo 2 157 (.bin .leq 3 true (.tmp 156) (zi 20000)),
 zo 3 158 (.call 54 [(.tmp 155),(.tmp 157),(zi 3)])]))))))),
 []⟩
theorem p_code_checker_unit : PR Go.Proofs.Tryd.f43 = some v_code_checker_unit:=by kernel_rfl

end Go.VX.Seat
end
section
set_option maxRecDepth 20000
namespace Go.VX.Seat
def v_code_lines_peek : VFun :=
⟨.seq (.reg [zo 0 2 (.mv (.con (.string ⟨#[]⟩))),
 zo 1 3 (.mv (.con (.bool false)))])
 (.seq (.reg [zm 0 8 0,
 zo 1 9 (.nilck (.tmp 8)),
 zf 2 10 0 9,
 zl 3 11 10,
 zo 4 12 (.call 59 [(.tmp 11),(.con (.string ⟨#[10]⟩))]),
 zm 5 7 12,
 zo 6 13 (.ext (.tmp 7) 0),
 zo 7 14 (.ext (.tmp 7) 1),
 zo 8 15 (.ext (.tmp 7) 2),
 zm 9 4 13,
 zm 10 5 14,
 zm 11 6 15])
 (.seq (.reg [zm 0 16 4,
 zm 1 17 6,
 zm 2 2 16,
 zm 3 3 17])
 (.ret))),
 [.tmp 2,.tmp 3]⟩
theorem p_code_lines_peek : PR Go.Proofs.Tryd.f44 = some v_code_lines_peek:=by kernel_rfl

def v_code_headed : VFun :=
⟨.seq (.reg [zo 0 6 (.mv (.con (.slice none 0 0))),
 zo 1 7 (.mv (.con (.bool false)))])
 (.seq (.reg [zm 0 9 0,
 zo 1 10 (.call 60 [(.tmp 9),(.con (.string ⟨#[32]⟩))]),
 zm 2 8 10])
 (.seq (.seq (.reg [zm 0 11 8,
 zo 1 12 (.idxA none 1 (.tmp 11) (zi 0)),
 zl 2 13 12,
 zm 3 14 1,
 zo 4 15 (.bin .neq 9 false (.tmp 13) (.tmp 14))])
 (.cond (.tmp 15)
 (.seq (.reg [zo 0 6 (.mv (.con (.slice none 0 0))),
 zo 1 7 (.mv (.con (.bool false)))])
 (.ret))
 (.skip)))
 (.seq (.reg [zm 0 16 8,
 zo 1 17 (.slice none 1 (.tmp 16) (some (zi 1)) none none),
 zm 2 18 2,
 zo 3 19 (.call 61 [(.tmp 17),(.tmp 18)]),
 zo 4 20 (.ext (.tmp 19) 0),
 zo 5 21 (.ext (.tmp 19) 1),
 zm 6 6 20,
 zm 7 7 21])
 (.ret)))),
 [.tmp 6,.tmp 7]⟩
theorem p_code_headed : PR Go.Proofs.Tryd.f45 = some v_code_headed:=by kernel_rfl

def v_code_lines_take : VFun :=
⟨.seq (.reg [zm 0 3 0,
 zm 1 4 0,
 zo 2 5 (.nilck (.tmp 4)),
 zf 3 6 0 5,
 zl 4 7 6,
 zo 5 8 (.call 59 [(.tmp 7),(.con (.string ⟨#[10]⟩))]),
 zm 6 2 8,
 zo 7 9 (.ext (.tmp 2) 0),
 zo 8 10 (.ext (.tmp 2) 1),
 zo 9 11 (.ext (.tmp 2) 2),
 zo 10 12 (.nilck (.tmp 3)),
 zf 11 13 0 12,
 zn 12 (.store 1 (.tmp 13) (.tmp 10))])
 (.reg [zm 0 14 0,
 zo 1 15 (.nilck (.tmp 14)),
 zf 2 16 1 15,
 zl 3 17 16,
 zo 4 18 (.bin .add 3 true (.tmp 17) (zi 1)),
 zo 5 19 (.nilck (.tmp 14)),
 zf 6 20 1 19,
 zn 7 (.store 1 (.tmp 20) (.tmp 18))]),
 []⟩
theorem p_code_lines_take : PR Go.Proofs.Tryd.f46 = some v_code_lines_take:=by kernel_rfl

def v_code_lines_block : VFun :=
⟨.seq (.reg [zo 0 4 (.mv (.con (.bool false)))])
 (.block 0
 (.loop
 (.block 1
 (.seq (.reg [zm 0 13 0,
 zo 1 14 (.call 44 [(.tmp 13)]),
 zm 2 12 14,
 zo 3 15 (.ext (.tmp 12) 0),
 zo 4 16 (.ext (.tmp 12) 1),
 zm 5 5 15,
 zm 6 6 16])
 (.seq (.reg [zm 0 18 5,
 zo 1 19 (.call 62 [(.tmp 18),(.con (.string ⟨#[32,32]⟩))]),
 zm 2 17 19,
 zo 3 20 (.ext (.tmp 17) 0),
 zo 4 21 (.ext (.tmp 17) 1),
 zm 5 5 20,
 zm 6 7 21])
 (.seq (.seq (.reg [zm 0 22 6,
 zo 1 23 (.un .not (.tmp 22)),
 zm 2 24 23,
 zg 3 25 (.mv (.tmp 7)) 24 false,
 zg 4 26 (.un .not (.tmp 25)) 24 false,
 zo 5 27 (.pick (.tmp 24) (.con (.bool true)) (.tmp 26))])
 (.cond (.tmp 27)
 (.seq (.reg [zo 0 4 (.mv (.con (.bool false)))])
 (.ret))
 (.skip)))
 (.seq (.seq (.reg [zm 0 29 5,
 zo 1 30 (.call 63 [(.tmp 29)]),
 zm 2 28 30,
 zo 3 31 (.ext (.tmp 28) 0),
 zo 4 32 (.ext (.tmp 28) 1),
 zo 5 8 (.alloc [(.int .i64 0),(.int .i64 0),(.int .i64 0),(.int .i64 0)]),
 zn 6 (.store 4 (.tmp 8) (.tmp 31)),
 zm 7 9 32])
 (.seq (.reg [zm 0 33 9])
 (.cond (.tmp 33)
 (.seq (.reg [zm 0 34 1,
 zo 1 35 (.load (some 4) (.tmp 8)),
 zo 2 36 (.nilck (.tmp 34)),
 zf 3 37 1 36,
 zn 4 (.store 4 (.tmp 37) (.tmp 35))])
 (.seq (.reg [zm 0 38 0,
 zo 1 39 (.call 46 [(.tmp 38)])])
 (.seq (.reg [zo 0 4 (.mv (.con (.bool true)))])
 (.ret))))
 (.skip))))
 (.seq (.reg [zm 0 41 5,
 zo 1 42 (.call 64 [(.tmp 41)]),
 zm 2 40 42,
 zo 3 43 (.ext (.tmp 40) 0),
 zo 4 44 (.ext (.tmp 40) 1),
 zo 5 10 (.alloc [(.int .i64 0),(.int .i64 0),(.int .i64 0),(.int .i64 0),(.int .i64 0),(.int .i64 0),(.int .i64 0)]),
 zn 6 (.store 7 (.tmp 10) (.tmp 43)),
 zm 7 11 44])
 (.seq (.seq (.reg [zm 0 45 11,
 zo 1 46 (.un .not (.tmp 45))])
 (.cond (.tmp 46)
 (.seq (.reg [zo 0 4 (.mv (.con (.bool false)))])
 (.ret))
 (.skip)))
 (.seq (.reg [zm 0 47 1,
 zm 1 48 1,
 zo 2 49 (.nilck (.tmp 48)),
 zf 3 50 0 49,
 zl 4 51 50,
 zo 5 52 (.load (some 7) (.tmp 10)),
 zo 6 53 (.bslice 7 1 [(.int .i64 0),(.int .i64 0),(.int .i64 0),(.int .i64 0),(.int .i64 0),(.int .i64 0),(.int .i64 0)] [(0,7,(.tmp 52))]),
 zo 7 54 (.append 7 56 (.tmp 51) (.tmp 53)),
 zo 8 55 (.nilck (.tmp 47)),
 zf 9 56 0 55,
 zn 10 (.store 1 (.tmp 56) (.tmp 54))])
 (.reg [zm 0 57 0,
 zo 1 58 (.call 46 [(.tmp 57)])]))))))))))),
 [.tmp 4]⟩
theorem p_code_lines_block : PR Go.Proofs.Tryd.f47 = some v_code_lines_block:=by kernel_rfl

def v52u : VFun :=
⟨.seq (.reg [zo 0 4 (.mv (.con (.string ⟨#[]⟩)))])
 (.seq (.seq (.reg [zm 0 10 1,
 zo 1 11 (.bin .eql 3 true 10 (zi 10))])
 (.cond 11
 (.seq (.seq (.reg [zm 0 12 0,
 zo 1 13 (.bin .leq 2 true (zi 0) 12),
 zm 2 14 13,
 zg 3 15 (.mv 0) 14 true,
 zg 4 16 (.bin .lss 2 true 15 (zi 100)) 14 true,
 zo 5 17 (.pick 14 16 (.con (.bool false)))])
 (.cond 17
 (.seq (.reg [zm 0 18 0,
 zo 1 19 (.call 66 [18]),
 zm 2 4 19])
 (.ret))
 (.skip)))
 (.seq (.reg [zo 0 5 (.alloc [(.int .u8 0),(.int .u8 0),(.int .u8 0),(.int .u8 0),(.int .u8 0),(.int .u8 0),(.int .u8 0),(.int .u8 0),(.int .u8 0),(.int .u8 0),(.int .u8 0),(.int .u8 0),(.int .u8 0),(.int .u8 0),(.int .u8 0),(.int .u8 0),(.int .u8 0),(.int .u8 0),(.int .u8 0),(.int .u8 0),(.int .u8 0),(.int .u8 0),(.int .u8 0),(.int .u8 0)])])
 (.seq (.reg [zm 0 20 0,
 zo 1 21 (.conv 2 130 20),
 zm 2 6 21])
 (.seq (.seq (.reg [zm 0 22 0,
 zo 1 23 (.bin .lss 2 true 22 (zi 0))])
 (.cond 23
 (.reg [zm 0 24 6,
 zo 1 25 (.un .neg 24),
 zm 2 6 25])
 (.skip)))
 (.seq (.reg [zm 0 26 6,
 zo 1 27 (.call 67 [26]),
 zm 2 7 27])
 (.seq (.reg [zm 0 28 7,
 zo 1 29 (.bin .add 3 true (zi 1) 28),
 zo 2 30 (.slice (some 24) 1 5 (some (zi 1)) (some 29) none),
 zm 3 31 6,
 zo 4 32 (.call 68 [30,31])])
 (.seq (.seq (.reg [zm 0 33 0,
 zo 1 34 (.bin .lss 2 true 33 (zi 0))])
 (.cond 34
 (.seq (.reg [zo 0 35 (.idxA (some 24) 1 5 (zi 0)),
 zn 1 (.store 1 35 (.con (.int .u8 45)))])
 (.seq (.reg [zm 0 36 7,
 zo 1 37 (.bin .add 3 true (zi 1) 36),
 zo 2 38 (.slice (some 24) 1 5 none (some 37) none),
 zo 3 39 (.b2s 38),
 zm 4 4 39])
 (.ret)))
 (.skip)))
 (.seq (.reg [zm 0 40 7,
 zo 1 41 (.bin .add 3 true (zi 1) 40),
 zo 2 42 (.slice (some 24) 1 5 (some (zi 1)) (some 41) none),
 zo 3 43 (.b2s 42),
 zm 4 4 43])
 (.ret)))))))))
 (.skip)))
 (.seq (.reg [zm 0 45 0,
 zo 1 46 (.conv 2 130 45),
 zm 2 47 1,
 zm 3 48 0,
 zo 4 49 (.bin .lss 2 true 48 (zi 0)),
 zo 5 50 (.call 69 [(.con (.slice none 0 0)),46,47,49,(.con (.bool false))]),
 zm 6 44 50,
 zo 7 51 (.ext 44 0),
 zo 8 52 (.ext 44 1),
 zm 9 8 51,
 zm 10 9 52])
 (.seq (.reg [zm 0 53 9,
 zm 1 4 53])
 (.ret)))),
 [.tmp 4]⟩
theorem p52u : PR Go.Proofs.Tryd.f52 = some v52u:=by kernel_rfl

def v53u : VFun :=
⟨.seq (.reg [zo 0 4 (.mv (.con (.string ⟨#[]⟩)))])
 (.seq (.reg [zm 0 5 0,
 zm 1 6 1,
 zo 2 7 (.call 52 [5,6]),
 zm 3 4 7])
 (.ret)),
 [.tmp 4]⟩
theorem p53u : PR Go.Proofs.Tryd.f53 = some v53u:=by kernel_rfl

def v_code_checker_must : VFun :=
⟨.seq (.reg [zm 0 6 1,
 zo 1 7 (.un .not (.tmp 6))])
 (.cond (.tmp 7)
 (.reg [zm 0 8 0,
 zo 1 9 (.nilck (.tmp 8)),
 zf 2 10 6 9,
 zl 3 11 10,
 zm 4 12 0,
 zo 5 13 (.nilck (.tmp 12)),
 zf 6 14 7 13,
 zl 7 15 14,
 zm 8 16 2,
 zo 9 17 (.build [(.int .i64 0),(.int .i64 0),(.int .i64 0)] [(0,1,(.tmp 11)),(1,1,(.tmp 15)),(2,1,(.tmp 16))]),
 zo 10 18 (.mkif 68 (.tmp 17)),
 zn 11 (.panic (.tmp 18))])
 (.skip)),
 []⟩
theorem p_code_checker_must : PR Go.Proofs.Tryd.f54 = some v_code_checker_must:=by kernel_rfl

def v_slices_ContainsFunc_int : VFun :=
⟨.seq (.reg [zo 0 4 (.mv (.con (.bool false)))])
 (.seq (.reg [zm 0 5 0,
 zm 1 6 1,
 zo 2 7 (.call 70 [(.tmp 5),(.tmp 6)]),
 zo 3 8 (.bin .geq 3 true (.tmp 7) (zi 0)),
 zm 4 4 8])
 (.ret)),
 [.tmp 4]⟩
theorem p_slices_ContainsFunc_int : PR Go.Proofs.Tryd.f55 = some v_slices_ContainsFunc_int:=by kernel_rfl

def v_code_checker_unit_c1 : VFun :=
⟨.seq (.reg [zo 0 2 (.mv (.con (.bool false)))])
 (.seq (.reg [zm 0 3 0,
 zo 1 4 (.bin .lss 3 true (.tmp 3) (zi 1)),
 zm 2 5 4,
 zg 3 6 (.mv (.tmp 0)) 5 false,
 zg 4 7 (.bin .gtr 3 true (.tmp 6) (zi 65536)) 5 false,
 zo 5 8 (.pick (.tmp 5) (.con (.bool true)) (.tmp 7)),
 zm 6 2 8])
 (.ret)),
 [.tmp 2]⟩
theorem p_code_checker_unit_c1 : PR Go.Proofs.Tryd.f56 = some v_code_checker_unit_c1:=by kernel_rfl

def v_code_checker_op : VFun :=
⟨.seq (.reg [zo 0 3 (.box (.tmp 1))])
 (.seq (.reg [zf 0 9 0 3,
 zl 1 10 9,
 zo 2 11 (.call 39 [(.tmp 10)]),
 zm 3 8 11,
 zo 4 12 (.ext (.tmp 8) 0),
 zo 5 13 (.ext (.tmp 8) 1),
 zo 6 4 (.alloc [(.int .i64 0),(.int .i64 0),(.string ⟨#[]⟩)]),
 zn 7 (.store 3 (.tmp 4) (.tmp 12)),
 zm 8 5 13])
 (.seq (.reg [zm 0 14 0,
 zm 1 15 5,
 zo 2 16 (.call 54 [(.tmp 14),(.tmp 15),(zi 4)])])
 (.seq (.reg [zm 0 17 0,
 zf 1 18 1 3,
 zl 2 19 18,
 zf 3 20 0 4,
 zl 4 21 20,
 zo 5 22 (.bin .and 3 true (.tmp 21) (zi 1)),
 zo 6 23 (.bin .neq 3 true (.tmp 22) (zi 0)),
 zo 7 24 (.call 71 [(.tmp 17),(.tmp 19),(.tmp 23)])])
 (.seq (.reg [zm 0 25 0,
 zf 1 26 2 3,
 zl 2 27 26,
 zf 3 28 0 4,
 zl 4 29 28,
 zo 5 30 (.bin .and 3 true (.tmp 29) (zi 2)),
 zo 6 31 (.bin .neq 3 true (.tmp 30) (zi 0)),
 zo 7 32 (.call 71 [(.tmp 25),(.tmp 27),(.tmp 31)])])
 (.seq (.reg [zm 0 33 0,
 zf 1 34 3 3,
 zl 2 35 34,
 zf 3 36 0 4,
 zl 4 37 36,
 zo 5 38 (.bin .and 3 true (.tmp 37) (zi 4)),
 zo 6 39 (.bin .neq 3 true (.tmp 38) (zi 0)),
 zo 7 40 (.call 71 [(.tmp 33),(.tmp 35),(.tmp 39)])])
 (.seq (.reg [zm 0 41 0,
 zf 1 42 4 3,
 zl 2 43 42,
 zf 3 44 0 4,
 zl 4 45 44,
 zo 5 46 (.bin .and 3 true (.tmp 45) (zi 8)),
 zo 6 47 (.bin .neq 3 true (.tmp 46) (zi 0)),
 zo 7 48 (.call 71 [(.tmp 41),(.tmp 43),(.tmp 47)])])
 (.seq (.reg [zm 0 49 0,
 zf 1 50 6 3,
 zl 2 51 50,
 zf 3 52 6 3,
 zl 4 53 52,
 zo 5 54 (.bin .neq 3 true (.tmp 53) (zi (-1))),
 zo 6 55 (.call 71 [(.tmp 49),(.tmp 51),(.tmp 54)])])
 (.seq (.reg [zo 0 6 (.mv (zi 0))])
 (.seq (.block 0
 (.seq (.reg [zf 0 57 0 4,
 zl 1 58 57,
 zo 2 59 (.bin .and 3 true (.tmp 58) (zi 32)),
 zo 3 60 (.bin .neq 3 true (.tmp 59) (zi 0)),
 zm 4 56 60])
 (.cond (.tmp 56)
 (.reg [zm 0 61 0,
 zo 1 62 (.nilck (.tmp 61)),
 zf 2 63 0 62,
 zf 3 64 0 63,
 zl 4 65 64,
 zo 5 66 (.len (.tmp 65)),
 zm 6 6 66])
 (.seq (.reg [zf 0 68 0 4,
 zl 1 69 68,
 zo 2 70 (.bin .and 3 true (.tmp 69) (zi 64)),
 zo 3 71 (.bin .neq 3 true (.tmp 70) (zi 0)),
 zm 4 67 71])
 (.cond (.tmp 67)
 (.reg [zm 0 72 0,
 zo 1 73 (.nilck (.tmp 72)),
 zf 2 74 0 73,
 zf 3 75 4 74,
 zl 4 76 75,
 zm 5 6 76])
 (.seq (.reg [zf 0 78 0 4,
 zl 1 79 78,
 zo 2 80 (.bin .and 3 true (.tmp 79) (zi 128)),
 zo 3 81 (.bin .neq 3 true (.tmp 80) (zi 0)),
 zm 4 77 81])
 (.cond (.tmp 77)
 (.reg [zm 0 82 0,
 zo 1 83 (.nilck (.tmp 82)),
 zf 2 84 0 83,
 zf 3 85 5 84,
 zl 4 86 85,
 zo 5 87 (.len (.tmp 86)),
 zm 6 6 87])
 (.reg [zo 0 6 (.mv (zi (-1)))]))))))))
 (.seq (.reg [zm 0 88 0,
 zm 1 89 6,
 zo 2 90 (.bin .lss 2 true (.tmp 89) (zi 0)),
 zm 3 91 90,
 zg 4 92 (.fieldA 5 (.tmp 3)) 91 false,
 zg 5 93 (.load none (.tmp 92)) 91 false,
 zg 6 94 (.bin .geq 2 true (.tmp 93) (zi 0)) 91 false,
 zg 7 95 (.mv (.tmp 94)) 91 false,
 zg 8 96 (.fieldA 5 (.tmp 3)) 95 true,
 zg 9 97 (.load none (.tmp 96)) 95 true,
 zg 10 98 (.mv (.tmp 6)) 95 true,
 zg 11 99 (.bin .lss 2 false (.tmp 97) (.tmp 98)) 95 true,
 zg 12 100 (.pick (.tmp 95) (.tmp 99) (.con (.bool false))) 91 false,
 zo 13 101 (.pick (.tmp 91) (.con (.bool true)) (.tmp 100)),
 zo 14 102 (.call 54 [(.tmp 88),(.tmp 101),(zi 5)])])
 (.seq (.reg [zf 0 103 0 4,
 zl 1 104 103,
 zo 2 105 (.bin .and 3 true (.tmp 104) (zi 1)),
 zo 3 106 (.bin .eql 3 true (.tmp 105) (zi 0)),
 zm 4 107 106,
 zg 5 108 (.fieldA 1 (.tmp 3)) 107 true,
 zg 6 109 (.load none (.tmp 108)) 107 true,
 zg 7 110 (.bin .neq 3 true (.tmp 109) (zi 0)) 107 true,
 zo 8 111 (.pick (.tmp 107) (.tmp 110) (.con (.bool false))),
 zm 9 112 111,
 zg 10 113 (.fieldA 0 (.tmp 4)) 112 false,
 zg 11 114 (.load none (.tmp 113)) 112 false,
 zg 12 115 (.bin .and 3 true (.tmp 114) (zi 2)) 112 false,
 zg 13 116 (.bin .eql 3 true (.tmp 115) (zi 0)) 112 false,
 zg 14 117 (.mv (.tmp 116)) 112 false,
 zg 15 118 (.fieldA 2 (.tmp 3)) 117 true,
 zg 16 119 (.load none (.tmp 118)) 117 true,
 zg 17 120 (.bin .neq 3 true (.tmp 119) (zi 0)) 117 true,
 zg 18 121 (.pick (.tmp 117) (.tmp 120) (.con (.bool false))) 112 false,
 zo 19 122 (.pick (.tmp 112) (.con (.bool true)) (.tmp 121)),
 zm 20 123 122,
 zg 21 124 (.fieldA 0 (.tmp 4)) 123 false,
 zg 22 125 (.load none (.tmp 124)) 123 false,
 zg 23 126 (.bin .and 3 true (.tmp 125) (zi 4)) 123 false,
 zg 24 127 (.bin .eql 3 true (.tmp 126) (zi 0)) 123 false,
 zg 25 128 (.mv (.tmp 127)) 123 false,
 zg 26 129 (.fieldA 3 (.tmp 3)) 128 true,
 zg 27 130 (.load none (.tmp 129)) 128 true,
 zg 28 131 (.bin .neq 3 true (.tmp 130) (zi 0)) 128 true,
 zg 29 132 (.pick (.tmp 128) (.tmp 131) (.con (.bool false))) 123 false,
 zo 30 133 (.pick (.tmp 123) (.con (.bool true)) (.tmp 132)),
 zm 31 134 133,
 zg 32 135 (.fieldA 0 (.tmp 4)) 134 false,
 zg 33 136 (.load none (.tmp 135)) 134 false,
 zg 34 137 (.bin .and 3 true (.tmp 136) (zi 8)) 134 false,
 zg 35 138 (.bin .eql 3 true (.tmp 137) (zi 0)) 134 false,
 zg 36 139 (.mv (.tmp 138)) 134 false,
 zg 37 140 (.fieldA 4 (.tmp 3)) 139 true,
 zg 38 141 (.load none (.tmp 140)) 139 true,
 zg 39 142 (.bin .neq 3 true (.tmp 141) (zi 0)) 139 true,
 zg 40 143 (.pick (.tmp 139) (.tmp 142) (.con (.bool false))) 134 false,
 zo 41 144 (.pick (.tmp 134) (.con (.bool true)) (.tmp 143)),
 zm 42 145 144,
 zg 43 146 (.mv (.tmp 6)) 145 false,
 zg 44 147 (.bin .lss 2 true (.tmp 146) (zi 0)) 145 false,
 zg 45 148 (.mv (.tmp 147)) 145 false,
 zg 46 149 (.fieldA 0 (.tmp 4)) 148 true,
 zg 47 150 (.load none (.tmp 149)) 148 true,
 zg 48 151 (.bin .and 3 true (.tmp 150) (zi 16)) 148 true,
 zg 49 152 (.bin .eql 3 true (.tmp 151) (zi 0)) 148 true,
 zg 50 153 (.pick (.tmp 148) (.tmp 152) (.con (.bool false))) 145 false,
 zg 51 154 (.mv (.tmp 153)) 145 false,
 zg 52 155 (.fieldA 5 (.tmp 3)) 154 true,
 zg 53 156 (.load none (.tmp 155)) 154 true,
 zg 54 157 (.bin .neq 2 true (.tmp 156) (zi 0)) 154 true,
 zg 55 158 (.pick (.tmp 154) (.tmp 157) (.con (.bool false))) 145 false,
 zo 56 159 (.pick (.tmp 145) (.con (.bool true)) (.tmp 158)),
 zm 57 7 159])
 (.reg [zm 0 160 0,
 zm 1 161 7,
 zo 2 162 (.un .not (.tmp 161)),
 zo 3 163 (.call 54 [(.tmp 160),(.tmp 162),(zi 4)])])))))))))))),
 []⟩
theorem p_code_checker_op : PR Go.Proofs.Tryd.f57 = some v_code_checker_op:=by kernel_rfl

def v_code_checker_end : VFun :=
⟨.seq (.reg [zo 0 3 (.box (.tmp 1))])
 (.seq (.reg [zm 0 6 0,
 zf 1 7 0 3,
 zl 2 8 7,
 zo 3 9 (.bin .geq 3 true (.tmp 8) (zi 1)),
 zm 4 10 9,
 zg 5 11 (.fieldA 0 (.tmp 3)) 10 true,
 zg 6 12 (.load none (.tmp 11)) 10 true,
 zg 7 13 (.bin .leq 3 true (.tmp 12) (zi 4)) 10 true,
 zo 8 14 (.pick (.tmp 10) (.tmp 13) (.con (.bool false))),
 zo 9 15 (.call 54 [(.tmp 6),(.tmp 14),(zi 4)])])
 (.seq (.reg [zf 0 16 0 3,
 zl 1 17 16,
 zo 2 18 (.bin .eql 3 true (.tmp 17) (zi 1)),
 zm 3 19 18,
 zg 4 20 (.fieldA 0 (.tmp 3)) 19 false,
 zg 5 21 (.load none (.tmp 20)) 19 false,
 zg 6 22 (.bin .eql 3 true (.tmp 21) (zi 2)) 19 false,
 zo 7 23 (.pick (.tmp 19) (.con (.bool true)) (.tmp 22)),
 zf 8 24 0 3,
 zl 9 25 24,
 zo 10 26 (.bin .eql 3 true (.tmp 25) (zi 2)),
 ⟨11,(some 4),.mv (.tmp 23),none,[(.tmp 24)]⟩,
 zm 12 5 26])
 (.seq (.reg [zm 0 27 0,
 zf 1 28 1 3,
 zl 2 29 28,
 zf 3 30 0 3,
 zl 4 31 30,
 zo 5 32 (.bin .neq 3 true (.tmp 31) (zi 1)),
 zo 6 33 (.call 71 [(.tmp 27),(.tmp 29),(.tmp 32)])])
 (.seq (.reg [zm 0 34 0,
 zm 1 35 4,
 zo 2 36 (.un .not (.tmp 35)),
 zm 3 37 36,
 zg 4 38 (.fieldA 2 (.tmp 3)) 37 false,
 zg 5 39 (.load none (.tmp 38)) 37 false,
 zg 6 40 (.mv (.tmp 0)) 37 false,
 zg 7 41 (.nilck (.tmp 40)) 37 false,
 zg 8 42 (.fieldA 0 (.tmp 41)) 37 false,
 zg 9 43 (.fieldA 5 (.tmp 42)) 37 false,
 zg 10 44 (.load none (.tmp 43)) 37 false,
 zg 11 45 (.len (.tmp 44)) 37 false,
 zg 12 46 (.call 34 [(.tmp 39),(.tmp 45)]) 37 false,
 zo 13 47 (.pick (.tmp 37) (.con (.bool true)) (.tmp 46)),
 zo 14 48 (.call 54 [(.tmp 34),(.tmp 47),(zi 5)])])
 (.seq (.reg [zm 0 49 0,
 zm 1 50 5,
 zo 2 51 (.un .not (.tmp 50)),
 zm 3 52 51,
 zg 4 53 (.fieldA 3 (.tmp 3)) 52 false,
 zg 5 54 (.load none (.tmp 53)) 52 false,
 zg 6 55 (.mv (.tmp 0)) 52 false,
 zg 7 56 (.nilck (.tmp 55)) 52 false,
 zg 8 57 (.fieldA 0 (.tmp 56)) 52 false,
 zg 9 58 (.fieldA 5 (.tmp 57)) 52 false,
 zg 10 59 (.load none (.tmp 58)) 52 false,
 zg 11 60 (.len (.tmp 59)) 52 false,
 zg 12 61 (.call 34 [(.tmp 54),(.tmp 60)]) 52 false,
 zo 13 62 (.pick (.tmp 52) (.con (.bool true)) (.tmp 61)),
 zo 14 63 (.call 54 [(.tmp 49),(.tmp 62),(zi 5)])])
 (.reg [zm 0 64 0,
 zf 1 65 0 3,
 zl 2 66 65,
 zo 3 67 (.bin .neq 3 true (.tmp 66) (zi 1)),
 zm 4 68 67,
 zg 5 69 (.fieldA 1 (.tmp 3)) 68 false,
 zg 6 70 (.load none (.tmp 69)) 68 false,
 zg 7 71 (.bin .eql 3 true (.tmp 70) (zi 0)) 68 false,
 zo 8 72 (.pick (.tmp 68) (.con (.bool true)) (.tmp 71)),
 zm 9 73 72,
 zg 10 74 (.mv (.tmp 4)) 73 true,
 zg 11 75 (.mv (.tmp 74)) 73 true,
 zg 12 76 (.fieldA 2 (.tmp 3)) 75 false,
 zg 13 77 (.load none (.tmp 76)) 75 false,
 zg 14 78 (.bin .eql 3 true (.tmp 77) (zi 0)) 75 false,
 zg 15 79 (.pick (.tmp 75) (.con (.bool true)) (.tmp 78)) 73 true,
 zo 16 80 (.pick (.tmp 73) (.tmp 79) (.con (.bool false))),
 zm 17 81 80,
 zg 18 82 (.mv (.tmp 5)) 81 true,
 zg 19 83 (.mv (.tmp 82)) 81 true,
 zg 20 84 (.fieldA 3 (.tmp 3)) 83 false,
 zg 21 85 (.load none (.tmp 84)) 83 false,
 zg 22 86 (.bin .eql 3 true (.tmp 85) (zi 0)) 83 false,
 zg 23 87 (.pick (.tmp 83) (.con (.bool true)) (.tmp 86)) 81 true,
 zo 24 88 (.pick (.tmp 81) (.tmp 87) (.con (.bool false))),
 zo 25 89 (.call 54 [(.tmp 64),(.tmp 88),(zi 4)])])))))),
 []⟩
theorem p_code_checker_end : PR Go.Proofs.Tryd.f58 = some v_code_checker_end:=by kernel_rfl

def v_strings_Cut : VFun :=
⟨.seq (.reg [zo 0 4 (.mv (.con (.string ⟨#[]⟩))),
 zo 1 5 (.mv (.con (.string ⟨#[]⟩))),
 zo 2 6 (.mv (.con (.bool false)))])
 (.seq (.reg [zm 0 7 0,
 zm 1 8 1,
 zo 2 9 (.call 72 [(.tmp 7),(.tmp 8)]),
 zo 3 10 (.ext (.tmp 9) 0),
 zo 4 11 (.ext (.tmp 9) 1),
 zo 5 12 (.ext (.tmp 9) 2),
 zm 6 4 10,
 zm 7 5 11,
 zm 8 6 12])
 (.ret)),
 [.tmp 4,.tmp 5,.tmp 6]⟩
theorem p_strings_Cut : PR Go.Proofs.Tryd.f59 = some v_strings_Cut:=by kernel_rfl

def v_strings_Split : VFun :=
⟨.seq (.reg [zo 0 4 (.mv (.con (.slice none 0 0)))])
 (.seq (.reg [zm 0 5 0,
 zm 1 6 1,
 zo 2 7 (.call 73 [(.tmp 5),(.tmp 6),(zi 0),(zi (-1))]),
 zm 3 4 7])
 (.ret)),
 [.tmp 4]⟩
theorem p_strings_Split : PR Go.Proofs.Tryd.f60 = some v_strings_Split:=by kernel_rfl

def v_code_numbers : VFun :=
⟨.seq (.reg [zo 0 4 (.mv (.con (.slice none 0 0))),
 zo 1 5 (.mv (.con (.bool false)))])
 (.seq (.seq (.reg [zm 0 11 0,
 zo 1 12 (.len (.tmp 11)),
 zm 2 13 1,
 zo 3 14 (.bin .neq 3 false (.tmp 12) (.tmp 13))])
 (.cond (.tmp 14)
 (.seq (.reg [zo 0 4 (.mv (.con (.slice none 0 0))),
 zo 1 5 (.mv (.con (.bool false)))])
 (.ret))
 (.skip)))
 (.seq (.reg [zo 0 6 (.mv (.con (.slice none 0 0)))])
 (.seq (.seq (.reg [zm 0 15 0,
 zo 1 16 (.len (.tmp 15)),
 zo 2 17 (.mv (zi 0))])
 (.block 0
 (.loop
 (.seq (.reg [zo 0 18 (.bin .lss 3 false (.tmp 17) (.tmp 16))])
 (.seq (.cond (.tmp 18)
 (.skip)
 (.exit 0))
 (.seq (.block 1
 (.seq (.reg [zo 0 19 (.idxA none 1 (.tmp 15) (.tmp 17)),
 zl 1 20 19,
 zm 2 8 20])
 (.seq (.reg [zm 0 22 8,
 zo 1 23 (.call 74 [(.tmp 22)]),
 zm 2 21 23,
 zo 3 24 (.ext (.tmp 21) 0),
 zo 4 25 (.ext (.tmp 21) 1),
 zm 5 9 24,
 zm 6 10 25])
 (.seq (.seq (.reg [zm 0 26 10,
 zo 1 27 (.bin .neq 27 true (.tmp 26) (zi 0))])
 (.cond (.tmp 27)
 (.seq (.reg [zo 0 4 (.mv (.con (.slice none 0 0))),
 zo 1 5 (.mv (.con (.bool false)))])
 (.ret))
 (.skip)))
 (.reg [zm 0 28 6,
 zm 1 29 9,
 zo 2 30 (.bslice 1 1 [(.int .i64 0)] [(0,1,(.tmp 29))]),
 zo 3 31 (.append 1 8 (.tmp 28) (.tmp 30)),
 zm 4 6 31])))))
 (.reg [zo 0 32 (.bin .add 3 true (.tmp 17) (zi 1)),
 zm 1 17 32])))))))
 (.seq (.reg [zm 0 33 6,
 zm 1 4 33,
 zo 2 5 (.mv (.con (.bool true)))])
 (.ret))))),
 [.tmp 4,.tmp 5]⟩
theorem p_code_numbers : PR Go.Proofs.Tryd.f61 = some v_code_numbers:=by kernel_rfl

def v_strings_CutPrefix : VFun :=
⟨.seq (.reg [zo 0 4 (.mv (.con (.string ⟨#[]⟩))),
 zo 1 5 (.mv (.con (.bool false)))])
 (.seq (.reg [zm 0 6 0,
 zm 1 7 1,
 zo 2 8 (.call 75 [(.tmp 6),(.tmp 7)]),
 zo 3 9 (.ext (.tmp 8) 0),
 zo 4 10 (.ext (.tmp 8) 1),
 zm 5 4 9,
 zm 6 5 10])
 (.ret)),
 [.tmp 4,.tmp 5]⟩
theorem p_strings_CutPrefix : PR Go.Proofs.Tryd.f62 = some v_strings_CutPrefix:=by kernel_rfl

def v_code_readEnd : VFun :=
⟨.seq (.reg [zo 0 2 (.alloc [(.int .i64 0),(.int .i64 0),(.int .i64 0),(.int .i64 0)]),
 zo 1 3 (.mv (.con (.bool false)))])
 (.seq (.seq (.reg [zo 0 9 (.load (some 8) (.glo 1)),
 zo 1 10 (.mv (zi 0))])
 (.block 0
 (.loop
 (.seq (.reg [zo 0 11 (.bin .lss 3 true (.tmp 10) (zi 4))])
 (.seq (.cond (.tmp 11)
 (.skip)
 (.exit 0))
 (.seq (.block 1
 (.seq (.reg [zm 0 12 10,
 zo 1 13 (.idx 4 (some 2) 2 (.tmp 9) (.tmp 10)),
 zo 2 5 (.alloc [(.string ⟨#[]⟩),(.int .i64 0)]),
 zm 3 4 12,
 zn 4 (.store 2 (.tmp 5) (.tmp 13))])
 (.seq (.reg [zm 0 15 0,
 zf 1 16 0 5,
 zl 2 17 16,
 zf 3 18 1 5,
 zl 4 19 18,
 zo 5 20 (.call 45 [(.tmp 15),(.tmp 17),(.tmp 19)]),
 zm 6 14 20,
 zo 7 21 (.ext (.tmp 14) 0),
 zo 8 22 (.ext (.tmp 14) 1),
 zm 9 6 21,
 zm 10 7 22])
 (.seq (.seq (.reg [zm 0 23 7,
 zo 1 24 (.un .not (.tmp 23))])
 (.cond (.tmp 24)
 (.exit 1)
 (.skip)))
 (.seq (.reg [zm 0 25 4,
 zo 1 26 (.bin .add 3 true (.tmp 25) (zi 1)),
 zo 2 27 (.build [(.int .i64 0),(.int .i64 0),(.int .i64 0),(.int .i64 0)] [(0,1,(.tmp 26))]),
 zo 3 8 (.alloc [(.int .i64 0),(.int .i64 0),(.int .i64 0),(.int .i64 0)]),
 zn 4 (.store 4 (.tmp 8) (.tmp 27))])
 (.seq (.seq (.reg [zf 0 28 0 8,
 zl 1 29 28,
 zo 2 30 (.bin .eql 3 true (.tmp 29) (zi 1))])
 (.cond (.tmp 30)
 (.seq (.reg [zm 0 31 6,
 zo 1 32 (.idxA none 1 (.tmp 31) (zi 0)),
 zl 2 33 32,
 zf 3 34 2 8,
 zn 4 (.store 1 (.tmp 34) (.tmp 33))])
 (.seq (.reg [zo 0 35 (.load (some 4) (.tmp 8)),
 zn 1 (.store 4 (.tmp 2) (.tmp 35)),
 zo 2 3 (.mv (.con (.bool true)))])
 (.ret)))
 (.skip)))
 (.seq (.reg [zm 0 36 6,
 zo 1 37 (.idxA none 1 (.tmp 36) (zi 0)),
 zl 2 38 37,
 zf 3 39 1 8,
 zn 4 (.store 1 (.tmp 39) (.tmp 38))])
 (.seq (.seq (.reg [zf 0 40 0 8,
 zl 1 41 40,
 zo 2 42 (.bin .eql 3 true (.tmp 41) (zi 2))])
 (.cond (.tmp 42)
 (.reg [zm 0 43 6,
 zo 1 44 (.idxA none 1 (.tmp 43) (zi 1)),
 zl 2 45 44,
 zm 3 46 6,
 zo 4 47 (.idxA none 1 (.tmp 46) (zi 2)),
 zl 5 48 47,
 zf 6 49 2 8,
 ⟨7,none,.store 1 (.tmp 49) (.tmp 45),none,[(.tmp 47)]⟩,
 zf 8 50 3 8,
 zn 9 (.store 1 (.tmp 50) (.tmp 48))])
 (.skip)))
 (.seq (.reg [zo 0 51 (.load (some 4) (.tmp 8)),
 zn 1 (.store 4 (.tmp 2) (.tmp 51)),
 zo 2 3 (.mv (.con (.bool true)))])
 (.ret))))))))))
 (.reg [zo 0 52 (.bin .add 3 true (.tmp 10) (zi 1)),
 zm 1 10 52])))))))
 (.seq (.reg [zo 0 53 (.build [(.int .i64 0),(.int .i64 0),(.int .i64 0),(.int .i64 0)] []),
 zn 1 (.store 4 (.tmp 2) (.tmp 53)),
 zo 2 3 (.mv (.con (.bool false)))])
 (.ret))),
 [.cell 2 (some 4),.tmp 3]⟩
theorem p_code_readEnd : PR Go.Proofs.Tryd.f63 = some v_code_readEnd:=by kernel_rfl

def v_code_readOp : VFun :=
⟨.seq (.reg [zo 0 2 (.alloc [(.int .i64 0),(.int .i64 0),(.int .i64 0),(.int .i64 0),(.int .i64 0),(.int .i64 0),(.int .i64 0)]),
 zo 1 3 (.mv (.con (.bool false)))])
 (.seq (.reg [zo 0 21 (.build [(.int .i64 0),(.int .i64 0),(.int .i64 0),(.int .i64 0),(.int .i64 0),(.int .i64 0),(.int .i64 0)] [(6,1,(zi (-1)))]),
 zo 1 4 (.alloc [(.int .i64 0),(.int .i64 0),(.int .i64 0),(.int .i64 0),(.int .i64 0),(.int .i64 0),(.int .i64 0)]),
 zn 2 (.store 7 (.tmp 4) (.tmp 21))])
 (.seq (.reg [zm 0 22 0,
 zo 1 23 (.call 60 [(.tmp 22),(.con (.string ⟨#[32]⟩))]),
 zo 2 5 (.alloc [(.slice none 0 0)]),
 zn 3 (.store 1 (.tmp 5) (.tmp 23))])
 (.seq (.seq (.reg [zl 0 24 5,
 zo 1 25 (.idxA none 1 (.tmp 24) (zi 0)),
 zl 2 26 25,
 zo 3 27 (.bin .eql 9 true (.tmp 26) (.con (.string ⟨#[63]⟩))),
 zm 4 28 27,
 zg 5 29 (.load none (.tmp 5)) 28 true,
 zg 6 30 (.len (.tmp 29)) 28 true,
 zg 7 31 (.bin .gtr 3 true (.tmp 30) (zi 2)) 28 true,
 zo 8 32 (.pick (.tmp 28) (.tmp 31) (.con (.bool false)))])
 (.cond (.tmp 32)
 (.seq (.reg [zl 0 34 5,
 zo 1 35 (.slice none 1 (.tmp 34) (some (zi 1)) (some (zi 2)) none),
 zo 2 36 (.call 61 [(.tmp 35),(zi 1)]),
 zm 3 33 36,
 zo 4 37 (.ext (.tmp 33) 0),
 zo 5 38 (.ext (.tmp 33) 1),
 zm 6 6 37,
 zm 7 7 38])
 (.seq (.seq (.reg [zm 0 39 7,
 zo 1 40 (.un .not (.tmp 39)),
 zm 2 41 40,
 zg 3 42 (.mv (.tmp 6)) 41 false,
 zg 4 43 (.idxA none 1 (.tmp 42) (zi 0)) 41 false,
 zg 5 44 (.load none (.tmp 43)) 41 false,
 zg 6 45 (.bin .eql 2 true (.tmp 44) (zi (-1))) 41 false,
 zo 7 46 (.pick (.tmp 41) (.con (.bool true)) (.tmp 45))])
 (.cond (.tmp 46)
 (.seq (.reg [zo 0 47 (.load (some 7) (.tmp 4)),
 zn 1 (.store 7 (.tmp 2) (.tmp 47)),
 zo 2 3 (.mv (.con (.bool false)))])
 (.ret))
 (.skip)))
 (.reg [zm 0 48 6,
 zo 1 49 (.idxA none 1 (.tmp 48) (zi 0)),
 zl 2 50 49,
 zl 3 51 5,
 zo 4 52 (.slice none 1 (.tmp 51) (some (zi 2)) none none),
 zf 5 53 6 4,
 ⟨6,none,.store 1 (.tmp 53) (.tmp 50),none,[(.tmp 5)]⟩,
 zn 7 (.store 1 (.tmp 5) (.tmp 52))])))
 (.skip)))
 (.seq (.reg [zl 0 54 5,
 zo 1 55 (.len (.tmp 54)),
 zo 2 56 (.bin .gtr 3 true (.tmp 55) (zi 2)),
 zm 3 57 56,
 zg 4 58 (.load none (.tmp 5)) 57 true,
 zg 5 59 (.idxA none 1 (.tmp 58) (zi 1)) 57 true,
 zg 6 60 (.load none (.tmp 59)) 57 true,
 zg 7 61 (.bin .eql 9 true (.tmp 60) (.con (.string ⟨#[61]⟩))) 57 true,
 zo 8 62 (.pick (.tmp 57) (.tmp 61) (.con (.bool false))),
 zm 9 8 62])
 (.seq (.seq (.reg [zm 0 63 8])
 (.cond (.tmp 63)
 (.seq (.reg [zl 0 65 5,
 zo 1 66 (.slice none 1 (.tmp 65) none (some (zi 1)) none),
 zo 2 67 (.call 61 [(.tmp 66),(zi 1)]),
 zm 3 64 67,
 zo 4 68 (.ext (.tmp 64) 0),
 zo 5 69 (.ext (.tmp 64) 1),
 zm 6 9 68,
 zm 7 10 69])
 (.seq (.seq (.reg [zm 0 70 10,
 zo 1 71 (.un .not (.tmp 70))])
 (.cond (.tmp 71)
 (.seq (.reg [zo 0 72 (.load (some 7) (.tmp 4)),
 zn 1 (.store 7 (.tmp 2) (.tmp 72)),
 zo 2 3 (.mv (.con (.bool false)))])
 (.ret))
 (.skip)))
 (.reg [zm 0 73 9,
 zo 1 74 (.idxA none 1 (.tmp 73) (zi 0)),
 zl 2 75 74,
 zl 3 76 5,
 zo 4 77 (.slice none 1 (.tmp 76) (some (zi 2)) none none),
 zf 5 78 1 4,
 ⟨6,none,.store 1 (.tmp 78) (.tmp 75),none,[(.tmp 5)]⟩,
 zn 7 (.store 1 (.tmp 5) (.tmp 77))])))
 (.skip)))
 (.seq (.reg [zo 0 79 (.slice (some 25) 3 (.glo 0) none none none),
 zo 1 80 (.mkfn 77 [] [(.tmp 5)]),
 zo 2 81 (.call 76 [(.tmp 79),(.tmp 80)]),
 zm 3 11 81])
 (.seq (.seq (.reg [zm 0 82 11,
 zo 1 83 (.bin .lss 3 true (.tmp 82) (zi 0))])
 (.cond (.tmp 83)
 (.seq (.reg [zo 0 84 (.load (some 7) (.tmp 4)),
 zn 1 (.store 7 (.tmp 2) (.tmp 84)),
 zo 2 3 (.mv (.con (.bool false)))])
 (.ret))
 (.skip)))
 (.seq (.reg [zm 0 85 11,
 zo 1 86 (.idxA (some 25) 3 (.glo 0) (.tmp 85)),
 zo 2 87 (.load (some 3) (.tmp 86)),
 zo 3 12 (.alloc [(.int .i64 0),(.int .i64 0),(.string ⟨#[]⟩)]),
 zn 4 (.store 3 (.tmp 12) (.tmp 87))])
 (.seq (.reg [zm 0 88 11,
 zo 1 89 (.bin .add 3 true (.tmp 88) (zi 1)),
 zf 2 90 0 4,
 zn 3 (.store 1 (.tmp 90) (.tmp 89))])
 (.seq (.seq (.reg [zm 0 91 8,
 zf 1 92 0 12,
 zl 2 93 92,
 zo 3 94 (.bin .and 3 true (.tmp 93) (zi 1)),
 zo 4 95 (.bin .neq 3 true (.tmp 94) (zi 0)),
 zo 5 96 (.bin .neq 4 false (.tmp 91) (.tmp 95))])
 (.cond (.tmp 96)
 (.seq (.reg [zo 0 97 (.load (some 7) (.tmp 4)),
 zn 1 (.store 7 (.tmp 2) (.tmp 97)),
 zo 2 3 (.mv (.con (.bool false)))])
 (.ret))
 (.skip)))
 (.seq (.reg [zo 0 13 (.mv (.con (.slice none 0 0)))])
 (.seq (.seq (.reg [zf 0 98 2 4,
 zf 1 99 3 4,
 zf 2 100 4 4,
 zo 3 101 (.build [(.pointer none),(.pointer none),(.pointer none)] [(0,1,(.tmp 98)),(1,1,(.tmp 99)),(2,1,(.tmp 100))]),
 zo 4 102 (.mv (zi 0))])
 (.block 0
 (.loop
 (.seq (.reg [zo 0 103 (.bin .lss 3 true (.tmp 102) (zi 3))])
 (.seq (.cond (.tmp 103)
 (.skip)
 (.exit 0))
 (.seq (.block 1
 (.seq (.reg [zm 0 104 102,
 zo 1 105 (.idx 3 none 1 (.tmp 101) (.tmp 102)),
 zm 2 14 104,
 zm 3 15 105])
 (.seq (.reg [zf 0 106 0 12,
 zl 1 107 106,
 zm 2 108 14,
 zo 3 109 (.bin .shl 3 true (zi 2) (.tmp 108)),
 zo 4 110 (.bin .and 3 false (.tmp 107) (.tmp 109)),
 zo 5 111 (.bin .neq 3 true (.tmp 110) (zi 0))])
 (.cond (.tmp 111)
 (.reg [zm 0 112 13,
 zm 1 113 15,
 zo 2 114 (.bslice 1 1 [(.pointer none)] [(0,1,(.tmp 113))]),
 zo 3 115 (.append 1 8 (.tmp 112) (.tmp 114)),
 zm 4 13 115])
 (.skip)))))
 (.reg [zo 0 116 (.bin .add 3 true (.tmp 102) (zi 1)),
 zm 1 102 116])))))))
 (.seq (.reg [zm 0 117 13,
 zo 1 118 (.len (.tmp 117)),
 zm 2 16 118])
 (.seq (.seq (.reg [zf 0 119 0 12,
 zl 1 120 119,
 zo 2 121 (.bin .and 3 true (.tmp 120) (zi 240)),
 zo 3 122 (.bin .neq 3 true (.tmp 121) (zi 0))])
 (.cond (.tmp 122)
 (.reg [zm 0 123 16,
 zo 1 124 (.bin .add 3 true (.tmp 123) (zi 1)),
 zm 2 16 124])
 (.skip)))
 (.seq (.reg [zl 0 126 5,
 zo 1 127 (.slice none 1 (.tmp 126) (some (zi 1)) none none),
 zm 2 128 16,
 zo 3 129 (.call 61 [(.tmp 127),(.tmp 128)]),
 zm 4 125 129,
 zo 5 130 (.ext (.tmp 125) 0),
 zo 6 131 (.ext (.tmp 125) 1),
 zm 7 17 130,
 zm 8 18 131])
 (.seq (.seq (.reg [zm 0 132 18,
 zo 1 133 (.un .not (.tmp 132))])
 (.cond (.tmp 133)
 (.seq (.reg [zo 0 134 (.load (some 7) (.tmp 4)),
 zn 1 (.store 7 (.tmp 2) (.tmp 134)),
 zo 2 3 (.mv (.con (.bool false)))])
 (.ret))
 (.skip)))
 (.seq (.seq (.reg [zm 0 135 13,
 zo 1 136 (.len (.tmp 135)),
 zo 2 137 (.mv (zi 0))])
 (.block 2
 (.loop
 (.seq (.reg [zo 0 138 (.bin .lss 3 false (.tmp 137) (.tmp 136))])
 (.seq (.cond (.tmp 138)
 (.skip)
 (.exit 2))
 (.seq (.block 3
 (.seq (.reg [zm 0 139 137,
 zo 1 140 (.idxA none 1 (.tmp 135) (.tmp 137)),
 zl 2 141 140,
 zm 3 19 139,
 zm 4 20 141])
 (.reg [zm 0 142 20,
 zm 1 143 17,
 zm 2 144 19,
 zo 3 145 (.idxA none 1 (.tmp 143) (.tmp 144)),
 zl 4 146 145,
 zo 5 147 (.nilck (.tmp 142)),
 zn 6 (.store 1 (.tmp 147) (.tmp 146))])))
 (.reg [zo 0 148 (.bin .add 3 true (.tmp 137) (zi 1)),
 zm 1 137 148])))))))
 (.seq (.seq (.reg [zm 0 149 16,
 zm 1 150 13,
 zo 2 151 (.len (.tmp 150)),
 zo 3 152 (.bin .gtr 3 false (.tmp 149) (.tmp 151))])
 (.cond (.tmp 152)
 (.reg [zm 0 153 17,
 zm 1 154 16,
 zo 2 155 (.bin .sub 3 true (.tmp 154) (zi 1)),
 zo 3 156 (.idxA none 1 (.tmp 153) (.tmp 155)),
 zl 4 157 156,
 zf 5 158 5 4,
 zn 6 (.store 1 (.tmp 158) (.tmp 157))])
 (.skip)))
 (.seq (.reg [zo 0 159 (.load (some 7) (.tmp 4)),
 zn 1 (.store 7 (.tmp 2) (.tmp 159)),
 zo 2 3 (.mv (.con (.bool true)))])
 (.ret)))))))))))))))))))),
 [.cell 2 (some 7),.tmp 3]⟩
theorem p_code_readOp : PR Go.Proofs.Tryd.f64 = some v_code_readOp:=by kernel_rfl

end Go.VX.Seat
end
section
set_option maxRecDepth 20000
namespace Go.VX.Seat
def v66u : VFun :=
⟨.seq (.reg [zo 0 2 (.mv (.con (.string ⟨#[]⟩)))])
 (.seq (.seq (.reg [zm 0 3 0,
 zo 1 4 (.bin .lss 3 true 3 (zi 10))])
 (.cond 4
 (.seq (.reg [zm 0 5 0,
 zm 1 6 0,
 zo 2 7 (.bin .add 3 true 6 (zi 1)),
 zo 3 8 (.slS 9 (.con (.string ⟨#[48,49,50,51,52,53,54,55,56,57,97,98,99,100,101,102,103,104,105,106,107,108,109,110,111,112,113,114,115,116,117,118,119,120,121,122]⟩)) (some 5) (some 7)),
 zm 4 2 8])
 (.ret))
 (.skip)))
 (.seq (.reg [zm 0 9 0,
 zo 1 10 (.bin .mul 3 true 9 (zi 2)),
 zm 2 11 0,
 zo 3 12 (.bin .mul 3 true 11 (zi 2)),
 zo 4 13 (.bin .add 3 true 12 (zi 2)),
 zo 5 14 (.slS 9 (.con (.string ⟨#[48,48,48,49,48,50,48,51,48,52,48,53,48,54,48,55,48,56,48,57,49,48,49,49,49,50,49,51,49,52,49,53,49,54,49,55,49,56,49,57,50,48,50,49,50,50,50,51,50,52,50,53,50,54,50,55,50,56,50,57,51,48,51,49,51,50,51,51,51,52,51,53,51,54,51,55,51,56,51,57,52,48,52,49,52,50,52,51,52,52,52,53,52,54,52,55,52,56,52,57,53,48,53,49,53,50,53,51,53,52,53,53,53,54,53,55,53,56,53,57,54,48,54,49,54,50,54,51,54,52,54,53,54,54,54,55,54,56,54,57,55,48,55,49,55,50,55,51,55,52,55,53,55,54,55,55,55,56,55,57,56,48,56,49,56,50,56,51,56,52,56,53,56,54,56,55,56,56,56,57,57,48,57,49,57,50,57,51,57,52,57,53,57,54,57,55,57,56,57,57]⟩)) (some 10) (some 13)),
 zm 6 2 14])
 (.ret))),
 [.tmp 2]⟩
theorem p66u : PR Go.Proofs.Tryd.f66 = some v66u:=by kernel_rfl

def v67u : VFun :=
⟨.seq (.reg [zo 0 2 (.mv (zi 0))])
 (.seq (.reg [zm 0 4 0,
 zo 1 5 (.call 79 [4]),
 zo 2 6 (.call 78 [5]),
 zm 3 3 6])
 (.seq (.reg [zm 0 7 3,
 zm 1 8 0,
 zm 2 9 3,
 zo 3 10 (.idxA (some 20) 1 (.glo 2) 9),
 zl 4 11 10,
 zo 5 12 (.bin .geq 130 false 8 11),
 zo 6 13 (.call 80 [12]),
 zo 7 14 (.bin .add 3 false 7 13),
 zm 8 2 14])
 (.ret))),
 [.tmp 2]⟩
theorem p67u : PR Go.Proofs.Tryd.f67 = some v67u:=by kernel_rfl

def v68u : VFun :=
⟨.seq (.reg [zm 0 17 0,
 zo 1 18 (.len 17),
 zm 2 4 18])
 (.seq (.block 0
 (.loop
 (.seq (.seq (.reg [zm 0 19 4,
 zo 1 20 (.bin .geq 3 true 19 (zi 8))])
 (.cond 20
 (.skip)
 (.exit 0)))
 (.block 1
 (.seq (.reg [zm 0 21 1,
 zo 1 22 (.bin .rem 130 true 21 (.con (.int .u64 100000000))),
 zo 2 23 (.conv 130 149 22),
 zm 3 5 23])
 (.seq (.reg [zm 0 24 1,
 zo 1 25 (.bin .quo 130 true 24 (.con (.int .u64 100000000))),
 zm 2 1 25])
 (.seq (.reg [zm 0 26 5,
 zo 1 27 (.bin .quo 149 true 26 (.con (.int .u32 10000))),
 zm 2 28 5,
 zo 3 29 (.bin .rem 149 true 28 (.con (.int .u32 10000))),
 zm 4 6 27,
 zm 5 7 29])
 (.seq (.reg [zm 0 30 7,
 zo 1 31 (.bin .quo 149 true 30 (.con (.int .u32 100))),
 zo 2 32 (.bin .mul 149 true 31 (.con (.int .u32 2))),
 zm 3 33 7,
 zo 4 34 (.bin .rem 149 true 33 (.con (.int .u32 100))),
 zo 5 35 (.bin .mul 149 true 34 (.con (.int .u32 2))),
 zm 6 8 32,
 zm 7 9 35])
 (.seq (.reg [zm 0 36 6,
 zo 1 37 (.bin .quo 149 true 36 (.con (.int .u32 100))),
 zo 2 38 (.bin .mul 149 true 37 (.con (.int .u32 2))),
 zm 3 39 6,
 zo 4 40 (.bin .rem 149 true 39 (.con (.int .u32 100))),
 zo 5 41 (.bin .mul 149 true 40 (.con (.int .u32 2))),
 zm 6 10 38,
 zm 7 11 41])
 (.seq (.reg [zm 0 42 0,
 zm 1 43 4,
 zo 2 44 (.bin .sub 3 true 43 (zi 1)),
 zm 3 45 0,
 zm 4 46 4,
 zo 5 47 (.bin .sub 3 true 46 (zi 2)),
 zm 6 48 9,
 zo 7 49 (.bin .add 149 true 48 (.con (.int .u32 1))),
 zo 8 50 (.idxS 9 (.con (.string ⟨#[48,48,48,49,48,50,48,51,48,52,48,53,48,54,48,55,48,56,48,57,49,48,49,49,49,50,49,51,49,52,49,53,49,54,49,55,49,56,49,57,50,48,50,49,50,50,50,51,50,52,50,53,50,54,50,55,50,56,50,57,51,48,51,49,51,50,51,51,51,52,51,53,51,54,51,55,51,56,51,57,52,48,52,49,52,50,52,51,52,52,52,53,52,54,52,55,52,56,52,57,53,48,53,49,53,50,53,51,53,52,53,53,53,54,53,55,53,56,53,57,54,48,54,49,54,50,54,51,54,52,54,53,54,54,54,55,54,56,54,57,55,48,55,49,55,50,55,51,55,52,55,53,55,54,55,55,55,56,55,57,56,48,56,49,56,50,56,51,56,52,56,53,56,54,56,55,56,56,56,57,57,48,57,49,57,50,57,51,57,52,57,53,57,54,57,55,57,56,57,57]⟩)) 49),
 zm 9 51 9,
 zo 10 52 (.idxS 9 (.con (.string ⟨#[48,48,48,49,48,50,48,51,48,52,48,53,48,54,48,55,48,56,48,57,49,48,49,49,49,50,49,51,49,52,49,53,49,54,49,55,49,56,49,57,50,48,50,49,50,50,50,51,50,52,50,53,50,54,50,55,50,56,50,57,51,48,51,49,51,50,51,51,51,52,51,53,51,54,51,55,51,56,51,57,52,48,52,49,52,50,52,51,52,52,52,53,52,54,52,55,52,56,52,57,53,48,53,49,53,50,53,51,53,52,53,53,53,54,53,55,53,56,53,57,54,48,54,49,54,50,54,51,54,52,54,53,54,54,54,55,54,56,54,57,55,48,55,49,55,50,55,51,55,52,55,53,55,54,55,55,55,56,55,57,56,48,56,49,56,50,56,51,56,52,56,53,56,54,56,55,56,56,56,57,57,48,57,49,57,50,57,51,57,52,57,53,57,54,57,55,57,56,57,57]⟩)) 51),
 zo 11 53 (.idxA none 1 42 44),
 zn 12 (.store 1 53 50),
 zo 13 54 (.idxA none 1 45 47),
 zn 14 (.store 1 54 52)])
 (.seq (.reg [zm 0 55 0,
 zm 1 56 4,
 zo 2 57 (.bin .sub 3 true 56 (zi 3)),
 zm 3 58 0,
 zm 4 59 4,
 zo 5 60 (.bin .sub 3 true 59 (zi 4)),
 zm 6 61 8,
 zo 7 62 (.bin .add 149 true 61 (.con (.int .u32 1))),
 zo 8 63 (.idxS 9 (.con (.string ⟨#[48,48,48,49,48,50,48,51,48,52,48,53,48,54,48,55,48,56,48,57,49,48,49,49,49,50,49,51,49,52,49,53,49,54,49,55,49,56,49,57,50,48,50,49,50,50,50,51,50,52,50,53,50,54,50,55,50,56,50,57,51,48,51,49,51,50,51,51,51,52,51,53,51,54,51,55,51,56,51,57,52,48,52,49,52,50,52,51,52,52,52,53,52,54,52,55,52,56,52,57,53,48,53,49,53,50,53,51,53,52,53,53,53,54,53,55,53,56,53,57,54,48,54,49,54,50,54,51,54,52,54,53,54,54,54,55,54,56,54,57,55,48,55,49,55,50,55,51,55,52,55,53,55,54,55,55,55,56,55,57,56,48,56,49,56,50,56,51,56,52,56,53,56,54,56,55,56,56,56,57,57,48,57,49,57,50,57,51,57,52,57,53,57,54,57,55,57,56,57,57]⟩)) 62),
 zm 9 64 8,
 zo 10 65 (.idxS 9 (.con (.string ⟨#[48,48,48,49,48,50,48,51,48,52,48,53,48,54,48,55,48,56,48,57,49,48,49,49,49,50,49,51,49,52,49,53,49,54,49,55,49,56,49,57,50,48,50,49,50,50,50,51,50,52,50,53,50,54,50,55,50,56,50,57,51,48,51,49,51,50,51,51,51,52,51,53,51,54,51,55,51,56,51,57,52,48,52,49,52,50,52,51,52,52,52,53,52,54,52,55,52,56,52,57,53,48,53,49,53,50,53,51,53,52,53,53,53,54,53,55,53,56,53,57,54,48,54,49,54,50,54,51,54,52,54,53,54,54,54,55,54,56,54,57,55,48,55,49,55,50,55,51,55,52,55,53,55,54,55,55,55,56,55,57,56,48,56,49,56,50,56,51,56,52,56,53,56,54,56,55,56,56,56,57,57,48,57,49,57,50,57,51,57,52,57,53,57,54,57,55,57,56,57,57]⟩)) 64),
 zo 11 66 (.idxA none 1 55 57),
 zn 12 (.store 1 66 63),
 zo 13 67 (.idxA none 1 58 60),
 zn 14 (.store 1 67 65)])
 (.seq (.reg [zm 0 68 0,
 zm 1 69 4,
 zo 2 70 (.bin .sub 3 true 69 (zi 5)),
 zm 3 71 0,
 zm 4 72 4,
 zo 5 73 (.bin .sub 3 true 72 (zi 6)),
 zm 6 74 11,
 zo 7 75 (.bin .add 149 true 74 (.con (.int .u32 1))),
 zo 8 76 (.idxS 9 (.con (.string ⟨#[48,48,48,49,48,50,48,51,48,52,48,53,48,54,48,55,48,56,48,57,49,48,49,49,49,50,49,51,49,52,49,53,49,54,49,55,49,56,49,57,50,48,50,49,50,50,50,51,50,52,50,53,50,54,50,55,50,56,50,57,51,48,51,49,51,50,51,51,51,52,51,53,51,54,51,55,51,56,51,57,52,48,52,49,52,50,52,51,52,52,52,53,52,54,52,55,52,56,52,57,53,48,53,49,53,50,53,51,53,52,53,53,53,54,53,55,53,56,53,57,54,48,54,49,54,50,54,51,54,52,54,53,54,54,54,55,54,56,54,57,55,48,55,49,55,50,55,51,55,52,55,53,55,54,55,55,55,56,55,57,56,48,56,49,56,50,56,51,56,52,56,53,56,54,56,55,56,56,56,57,57,48,57,49,57,50,57,51,57,52,57,53,57,54,57,55,57,56,57,57]⟩)) 75),
 zm 9 77 11,
 zo 10 78 (.idxS 9 (.con (.string ⟨#[48,48,48,49,48,50,48,51,48,52,48,53,48,54,48,55,48,56,48,57,49,48,49,49,49,50,49,51,49,52,49,53,49,54,49,55,49,56,49,57,50,48,50,49,50,50,50,51,50,52,50,53,50,54,50,55,50,56,50,57,51,48,51,49,51,50,51,51,51,52,51,53,51,54,51,55,51,56,51,57,52,48,52,49,52,50,52,51,52,52,52,53,52,54,52,55,52,56,52,57,53,48,53,49,53,50,53,51,53,52,53,53,53,54,53,55,53,56,53,57,54,48,54,49,54,50,54,51,54,52,54,53,54,54,54,55,54,56,54,57,55,48,55,49,55,50,55,51,55,52,55,53,55,54,55,55,55,56,55,57,56,48,56,49,56,50,56,51,56,52,56,53,56,54,56,55,56,56,56,57,57,48,57,49,57,50,57,51,57,52,57,53,57,54,57,55,57,56,57,57]⟩)) 77),
 zo 11 79 (.idxA none 1 68 70),
 zn 12 (.store 1 79 76),
 zo 13 80 (.idxA none 1 71 73),
 zn 14 (.store 1 80 78)])
 (.seq (.reg [zm 0 81 0,
 zm 1 82 4,
 zo 2 83 (.bin .sub 3 true 82 (zi 7)),
 zm 3 84 0,
 zm 4 85 4,
 zo 5 86 (.bin .sub 3 true 85 (zi 8)),
 zm 6 87 10,
 zo 7 88 (.bin .add 149 true 87 (.con (.int .u32 1))),
 zo 8 89 (.idxS 9 (.con (.string ⟨#[48,48,48,49,48,50,48,51,48,52,48,53,48,54,48,55,48,56,48,57,49,48,49,49,49,50,49,51,49,52,49,53,49,54,49,55,49,56,49,57,50,48,50,49,50,50,50,51,50,52,50,53,50,54,50,55,50,56,50,57,51,48,51,49,51,50,51,51,51,52,51,53,51,54,51,55,51,56,51,57,52,48,52,49,52,50,52,51,52,52,52,53,52,54,52,55,52,56,52,57,53,48,53,49,53,50,53,51,53,52,53,53,53,54,53,55,53,56,53,57,54,48,54,49,54,50,54,51,54,52,54,53,54,54,54,55,54,56,54,57,55,48,55,49,55,50,55,51,55,52,55,53,55,54,55,55,55,56,55,57,56,48,56,49,56,50,56,51,56,52,56,53,56,54,56,55,56,56,56,57,57,48,57,49,57,50,57,51,57,52,57,53,57,54,57,55,57,56,57,57]⟩)) 88),
 zm 9 90 10,
 zo 10 91 (.idxS 9 (.con (.string ⟨#[48,48,48,49,48,50,48,51,48,52,48,53,48,54,48,55,48,56,48,57,49,48,49,49,49,50,49,51,49,52,49,53,49,54,49,55,49,56,49,57,50,48,50,49,50,50,50,51,50,52,50,53,50,54,50,55,50,56,50,57,51,48,51,49,51,50,51,51,51,52,51,53,51,54,51,55,51,56,51,57,52,48,52,49,52,50,52,51,52,52,52,53,52,54,52,55,52,56,52,57,53,48,53,49,53,50,53,51,53,52,53,53,53,54,53,55,53,56,53,57,54,48,54,49,54,50,54,51,54,52,54,53,54,54,54,55,54,56,54,57,55,48,55,49,55,50,55,51,55,52,55,53,55,54,55,55,55,56,55,57,56,48,56,49,56,50,56,51,56,52,56,53,56,54,56,55,56,56,56,57,57,48,57,49,57,50,57,51,57,52,57,53,57,54,57,55,57,56,57,57]⟩)) 90),
 zo 11 92 (.idxA none 1 81 83),
 zn 12 (.store 1 92 89),
 zo 13 93 (.idxA none 1 84 86),
 zn 14 (.store 1 93 91)])
 (.reg [zm 0 94 4,
 zo 1 95 (.bin .sub 3 true 94 (zi 8)),
 zm 2 4 95]))))))))))))))
 (.seq (.reg [zm 0 96 1,
 zo 1 97 (.conv 130 149 96),
 zm 2 12 97])
 (.seq (.seq (.reg [zm 0 98 4,
 zo 1 99 (.bin .geq 3 true 98 (zi 4))])
 (.cond 99
 (.seq (.reg [zm 0 100 12,
 zo 1 101 (.bin .rem 149 true 100 (.con (.int .u32 10000))),
 zm 2 13 101])
 (.seq (.reg [zm 0 102 12,
 zo 1 103 (.bin .quo 149 true 102 (.con (.int .u32 10000))),
 zm 2 12 103])
 (.seq (.reg [zm 0 104 13,
 zo 1 105 (.bin .quo 149 true 104 (.con (.int .u32 100))),
 zo 2 106 (.bin .mul 149 true 105 (.con (.int .u32 2))),
 zm 3 107 13,
 zo 4 108 (.bin .rem 149 true 107 (.con (.int .u32 100))),
 zo 5 109 (.bin .mul 149 true 108 (.con (.int .u32 2))),
 zm 6 14 106,
 zm 7 15 109])
 (.seq (.reg [zm 0 110 0,
 zm 1 111 4,
 zo 2 112 (.bin .sub 3 true 111 (zi 1)),
 zm 3 113 0,
 zm 4 114 4,
 zo 5 115 (.bin .sub 3 true 114 (zi 2)),
 zm 6 116 15,
 zo 7 117 (.bin .add 149 true 116 (.con (.int .u32 1))),
 zo 8 118 (.idxS 9 (.con (.string ⟨#[48,48,48,49,48,50,48,51,48,52,48,53,48,54,48,55,48,56,48,57,49,48,49,49,49,50,49,51,49,52,49,53,49,54,49,55,49,56,49,57,50,48,50,49,50,50,50,51,50,52,50,53,50,54,50,55,50,56,50,57,51,48,51,49,51,50,51,51,51,52,51,53,51,54,51,55,51,56,51,57,52,48,52,49,52,50,52,51,52,52,52,53,52,54,52,55,52,56,52,57,53,48,53,49,53,50,53,51,53,52,53,53,53,54,53,55,53,56,53,57,54,48,54,49,54,50,54,51,54,52,54,53,54,54,54,55,54,56,54,57,55,48,55,49,55,50,55,51,55,52,55,53,55,54,55,55,55,56,55,57,56,48,56,49,56,50,56,51,56,52,56,53,56,54,56,55,56,56,56,57,57,48,57,49,57,50,57,51,57,52,57,53,57,54,57,55,57,56,57,57]⟩)) 117),
 zm 9 119 15,
 zo 10 120 (.idxS 9 (.con (.string ⟨#[48,48,48,49,48,50,48,51,48,52,48,53,48,54,48,55,48,56,48,57,49,48,49,49,49,50,49,51,49,52,49,53,49,54,49,55,49,56,49,57,50,48,50,49,50,50,50,51,50,52,50,53,50,54,50,55,50,56,50,57,51,48,51,49,51,50,51,51,51,52,51,53,51,54,51,55,51,56,51,57,52,48,52,49,52,50,52,51,52,52,52,53,52,54,52,55,52,56,52,57,53,48,53,49,53,50,53,51,53,52,53,53,53,54,53,55,53,56,53,57,54,48,54,49,54,50,54,51,54,52,54,53,54,54,54,55,54,56,54,57,55,48,55,49,55,50,55,51,55,52,55,53,55,54,55,55,55,56,55,57,56,48,56,49,56,50,56,51,56,52,56,53,56,54,56,55,56,56,56,57,57,48,57,49,57,50,57,51,57,52,57,53,57,54,57,55,57,56,57,57]⟩)) 119),
 zo 11 121 (.idxA none 1 110 112),
 zn 12 (.store 1 121 118),
 zo 13 122 (.idxA none 1 113 115),
 zn 14 (.store 1 122 120)])
 (.seq (.reg [zm 0 123 0,
 zm 1 124 4,
 zo 2 125 (.bin .sub 3 true 124 (zi 3)),
 zm 3 126 0,
 zm 4 127 4,
 zo 5 128 (.bin .sub 3 true 127 (zi 4)),
 zm 6 129 14,
 zo 7 130 (.bin .add 149 true 129 (.con (.int .u32 1))),
 zo 8 131 (.idxS 9 (.con (.string ⟨#[48,48,48,49,48,50,48,51,48,52,48,53,48,54,48,55,48,56,48,57,49,48,49,49,49,50,49,51,49,52,49,53,49,54,49,55,49,56,49,57,50,48,50,49,50,50,50,51,50,52,50,53,50,54,50,55,50,56,50,57,51,48,51,49,51,50,51,51,51,52,51,53,51,54,51,55,51,56,51,57,52,48,52,49,52,50,52,51,52,52,52,53,52,54,52,55,52,56,52,57,53,48,53,49,53,50,53,51,53,52,53,53,53,54,53,55,53,56,53,57,54,48,54,49,54,50,54,51,54,52,54,53,54,54,54,55,54,56,54,57,55,48,55,49,55,50,55,51,55,52,55,53,55,54,55,55,55,56,55,57,56,48,56,49,56,50,56,51,56,52,56,53,56,54,56,55,56,56,56,57,57,48,57,49,57,50,57,51,57,52,57,53,57,54,57,55,57,56,57,57]⟩)) 130),
 zm 9 132 14,
 zo 10 133 (.idxS 9 (.con (.string ⟨#[48,48,48,49,48,50,48,51,48,52,48,53,48,54,48,55,48,56,48,57,49,48,49,49,49,50,49,51,49,52,49,53,49,54,49,55,49,56,49,57,50,48,50,49,50,50,50,51,50,52,50,53,50,54,50,55,50,56,50,57,51,48,51,49,51,50,51,51,51,52,51,53,51,54,51,55,51,56,51,57,52,48,52,49,52,50,52,51,52,52,52,53,52,54,52,55,52,56,52,57,53,48,53,49,53,50,53,51,53,52,53,53,53,54,53,55,53,56,53,57,54,48,54,49,54,50,54,51,54,52,54,53,54,54,54,55,54,56,54,57,55,48,55,49,55,50,55,51,55,52,55,53,55,54,55,55,55,56,55,57,56,48,56,49,56,50,56,51,56,52,56,53,56,54,56,55,56,56,56,57,57,48,57,49,57,50,57,51,57,52,57,53,57,54,57,55,57,56,57,57]⟩)) 132),
 zo 11 134 (.idxA none 1 123 125),
 zn 12 (.store 1 134 131),
 zo 13 135 (.idxA none 1 126 128),
 zn 14 (.store 1 135 133)])
 (.reg [zm 0 136 4,
 zo 1 137 (.bin .sub 3 true 136 (zi 4)),
 zm 2 4 137]))))))
 (.skip)))
 (.seq (.seq (.reg [zm 0 138 4,
 zo 1 139 (.bin .geq 3 true 138 (zi 2))])
 (.cond 139
 (.seq (.reg [zm 0 140 12,
 zo 1 141 (.bin .rem 149 true 140 (.con (.int .u32 100))),
 zo 2 142 (.bin .mul 149 true 141 (.con (.int .u32 2))),
 zm 3 16 142])
 (.seq (.reg [zm 0 143 12,
 zo 1 144 (.bin .quo 149 true 143 (.con (.int .u32 100))),
 zm 2 12 144])
 (.seq (.reg [zm 0 145 0,
 zm 1 146 4,
 zo 2 147 (.bin .sub 3 true 146 (zi 1)),
 zm 3 148 0,
 zm 4 149 4,
 zo 5 150 (.bin .sub 3 true 149 (zi 2)),
 zm 6 151 16,
 zo 7 152 (.bin .add 149 true 151 (.con (.int .u32 1))),
 zo 8 153 (.idxS 9 (.con (.string ⟨#[48,48,48,49,48,50,48,51,48,52,48,53,48,54,48,55,48,56,48,57,49,48,49,49,49,50,49,51,49,52,49,53,49,54,49,55,49,56,49,57,50,48,50,49,50,50,50,51,50,52,50,53,50,54,50,55,50,56,50,57,51,48,51,49,51,50,51,51,51,52,51,53,51,54,51,55,51,56,51,57,52,48,52,49,52,50,52,51,52,52,52,53,52,54,52,55,52,56,52,57,53,48,53,49,53,50,53,51,53,52,53,53,53,54,53,55,53,56,53,57,54,48,54,49,54,50,54,51,54,52,54,53,54,54,54,55,54,56,54,57,55,48,55,49,55,50,55,51,55,52,55,53,55,54,55,55,55,56,55,57,56,48,56,49,56,50,56,51,56,52,56,53,56,54,56,55,56,56,56,57,57,48,57,49,57,50,57,51,57,52,57,53,57,54,57,55,57,56,57,57]⟩)) 152),
 zm 9 154 16,
 zo 10 155 (.idxS 9 (.con (.string ⟨#[48,48,48,49,48,50,48,51,48,52,48,53,48,54,48,55,48,56,48,57,49,48,49,49,49,50,49,51,49,52,49,53,49,54,49,55,49,56,49,57,50,48,50,49,50,50,50,51,50,52,50,53,50,54,50,55,50,56,50,57,51,48,51,49,51,50,51,51,51,52,51,53,51,54,51,55,51,56,51,57,52,48,52,49,52,50,52,51,52,52,52,53,52,54,52,55,52,56,52,57,53,48,53,49,53,50,53,51,53,52,53,53,53,54,53,55,53,56,53,57,54,48,54,49,54,50,54,51,54,52,54,53,54,54,54,55,54,56,54,57,55,48,55,49,55,50,55,51,55,52,55,53,55,54,55,55,55,56,55,57,56,48,56,49,56,50,56,51,56,52,56,53,56,54,56,55,56,56,56,57,57,48,57,49,57,50,57,51,57,52,57,53,57,54,57,55,57,56,57,57]⟩)) 154),
 zo 11 156 (.idxA none 1 145 147),
 zn 12 (.store 1 156 153),
 zo 13 157 (.idxA none 1 148 150),
 zn 14 (.store 1 157 155)])
 (.reg [zm 0 158 4,
 zo 1 159 (.bin .sub 3 true 158 (zi 2)),
 zm 2 4 159]))))
 (.skip)))
 (.seq (.reg [zm 0 160 4,
 zo 1 161 (.bin .gtr 3 true 160 (zi 0))])
 (.cond 161
 (.reg [zm 0 162 0,
 zm 1 163 12,
 zo 2 164 (.bin .add 149 true (.con (.int .u32 48)) 163),
 zo 3 165 (.conv 149 5 164),
 zo 4 166 (.idxA none 1 162 (zi 0)),
 zn 5 (.store 1 166 165)])
 (.skip))))))),
 []⟩
theorem p68u : PR Go.Proofs.Tryd.f68 = some v68u:=by kernel_rfl

def v69u : VFun :=
⟨.seq (.reg [zo 0 10 (.mv (.con (.slice none 0 0))),
 zo 1 11 (.mv (.con (.string ⟨#[]⟩)))])
 (.seq (.seq (.reg [zm 0 19 2,
 zo 1 20 (.bin .lss 3 true 19 (zi 2)),
 zm 2 21 20,
 zg 3 22 (.mv 2) 21 false,
 zg 4 23 (.bin .eql 3 true 22 (zi 10)) 21 false,
 zo 5 24 (.pick 21 (.con (.bool true)) 23),
 zm 6 25 24,
 zg 7 26 (.mv 2) 25 false,
 zg 8 27 (.bin .gtr 3 true 26 (zi 36)) 25 false,
 zo 9 28 (.pick 25 (.con (.bool true)) 27)])
 (.cond 28
 (.reg [zo 0 29 (.mkif 9 (.con (.string ⟨#[115,116,114,99,111,110,118,58,32,105,108,108,101,103,97,108,32,65,112,112,101,110,100,73,110,116,47,70,111,114,109,97,116,73,110,116,32,98,97,115,101]⟩))),
 zn 1 (.panic 29)])
 (.skip)))
 (.seq (.reg [zo 0 12 (.alloc [(.int .u8 0),(.int .u8 0),(.int .u8 0),(.int .u8 0),(.int .u8 0),(.int .u8 0),(.int .u8 0),(.int .u8 0),(.int .u8 0),(.int .u8 0),(.int .u8 0),(.int .u8 0),(.int .u8 0),(.int .u8 0),(.int .u8 0),(.int .u8 0),(.int .u8 0),(.int .u8 0),(.int .u8 0),(.int .u8 0),(.int .u8 0),(.int .u8 0),(.int .u8 0),(.int .u8 0),(.int .u8 0),(.int .u8 0),(.int .u8 0),(.int .u8 0),(.int .u8 0),(.int .u8 0),(.int .u8 0),(.int .u8 0),(.int .u8 0),(.int .u8 0),(.int .u8 0),(.int .u8 0),(.int .u8 0),(.int .u8 0),(.int .u8 0),(.int .u8 0),(.int .u8 0),(.int .u8 0),(.int .u8 0),(.int .u8 0),(.int .u8 0),(.int .u8 0),(.int .u8 0),(.int .u8 0),(.int .u8 0),(.int .u8 0),(.int .u8 0),(.int .u8 0),(.int .u8 0),(.int .u8 0),(.int .u8 0),(.int .u8 0),(.int .u8 0),(.int .u8 0),(.int .u8 0),(.int .u8 0),(.int .u8 0),(.int .u8 0),(.int .u8 0),(.int .u8 0),(.int .u8 0)])])
 (.seq (.reg [zo 0 13 (.mv (zi 65))])
 (.seq (.seq (.reg [zm 0 30 3])
 (.cond 30
 (.reg [zm 0 31 1,
 zo 1 32 (.un .neg 31),
 zm 2 1 32])
 (.skip)))
 (.seq (.seq (.reg [zm 0 33 2,
 zo 1 34 (.call 81 [33])])
 (.cond 34
 (.seq (.reg [zm 0 35 2,
 zo 1 36 (.conv 3 44 35),
 zo 2 37 (.call 82 [36]),
 zo 3 38 (.conv 3 44 37),
 zm 4 14 38])
 (.seq (.reg [zm 0 39 2,
 zo 1 40 (.conv 3 130 39),
 zm 2 15 40])
 (.seq (.reg [zm 0 41 2,
 zo 1 42 (.conv 3 44 41),
 zo 2 43 (.bin .sub 44 true 42 (.con (.int .u64 1))),
 zm 3 16 43])
 (.seq (.block 0
 (.loop
 (.seq (.seq (.reg [zm 0 44 1,
 zm 1 45 15,
 zo 2 46 (.bin .geq 130 false 44 45)])
 (.cond 46
 (.skip)
 (.exit 0)))
 (.block 1
 (.seq (.reg [zm 0 47 13,
 zo 1 48 (.bin .sub 3 true 47 (zi 1)),
 zm 2 13 48])
 (.seq (.reg [zm 0 49 13,
 zm 1 50 1,
 zm 2 51 16,
 zo 3 52 (.bin .and 44 false 50 51),
 zo 4 53 (.idxS 9 (.con (.string ⟨#[48,49,50,51,52,53,54,55,56,57,97,98,99,100,101,102,103,104,105,106,107,108,109,110,111,112,113,114,115,116,117,118,119,120,121,122]⟩)) 52),
 zo 5 54 (.idxA (some 65) 1 12 49),
 zn 6 (.store 1 54 53)])
 (.reg [zm 0 55 1,
 zm 1 56 14,
 zo 2 57 (.bin .shr 130 false 55 56),
 zm 3 1 57])))))))
 (.seq (.reg [zm 0 58 13,
 zo 1 59 (.bin .sub 3 true 58 (zi 1)),
 zm 2 13 59])
 (.reg [zm 0 60 13,
 zm 1 61 1,
 zo 2 62 (.idxS 9 (.con (.string ⟨#[48,49,50,51,52,53,54,55,56,57,97,98,99,100,101,102,103,104,105,106,107,108,109,110,111,112,113,114,115,116,117,118,119,120,121,122]⟩)) 61),
 zo 3 63 (.idxA (some 65) 1 12 60),
 zn 4 (.store 1 63 62)]))))))
 (.seq (.reg [zm 0 64 2,
 zo 1 65 (.conv 3 130 64),
 zm 2 17 65])
 (.seq (.block 2
 (.loop
 (.seq (.seq (.reg [zm 0 66 1,
 zm 1 67 17,
 zo 2 68 (.bin .geq 130 false 66 67)])
 (.cond 68
 (.skip)
 (.exit 2)))
 (.block 3
 (.seq (.reg [zm 0 69 13,
 zo 1 70 (.bin .sub 3 true 69 (zi 1)),
 zm 2 13 70])
 (.seq (.reg [zm 0 71 1,
 zm 1 72 17,
 zo 2 73 (.bin .quo 130 false 71 72),
 zm 3 18 73])
 (.seq (.reg [zm 0 74 13,
 zm 1 75 1,
 zm 2 76 18,
 zm 3 77 17,
 zo 4 78 (.bin .mul 130 false 76 77),
 zo 5 79 (.bin .sub 130 false 75 78),
 zo 6 80 (.idxS 9 (.con (.string ⟨#[48,49,50,51,52,53,54,55,56,57,97,98,99,100,101,102,103,104,105,106,107,108,109,110,111,112,113,114,115,116,117,118,119,120,121,122]⟩)) 79),
 zo 7 81 (.idxA (some 65) 1 12 74),
 zn 8 (.store 1 81 80)])
 (.reg [zm 0 82 18,
 zm 1 1 82]))))))))
 (.seq (.reg [zm 0 83 13,
 zo 1 84 (.bin .sub 3 true 83 (zi 1)),
 zm 2 13 84])
 (.reg [zm 0 85 13,
 zm 1 86 1,
 zo 2 87 (.idxS 9 (.con (.string ⟨#[48,49,50,51,52,53,54,55,56,57,97,98,99,100,101,102,103,104,105,106,107,108,109,110,111,112,113,114,115,116,117,118,119,120,121,122]⟩)) 86),
 zo 3 88 (.idxA (some 65) 1 12 85),
 zn 4 (.store 1 88 87)]))))))
 (.seq (.seq (.reg [zm 0 89 3])
 (.cond 89
 (.seq (.reg [zm 0 90 13,
 zo 1 91 (.bin .sub 3 true 90 (zi 1)),
 zm 2 13 91])
 (.reg [zm 0 92 13,
 zo 1 93 (.idxA (some 65) 1 12 92),
 zn 2 (.store 1 93 (.con (.int .u8 45)))]))
 (.skip)))
 (.seq (.seq (.reg [zm 0 94 4])
 (.cond 94
 (.seq (.reg [zm 0 95 0,
 zm 1 96 13,
 zo 2 97 (.slice (some 65) 1 12 (some 96) none none),
 zo 3 98 (.append 1 1 95 97),
 zm 4 10 98])
 (.ret))
 (.skip)))
 (.seq (.reg [zm 0 99 13,
 zo 1 100 (.slice (some 65) 1 12 (some 99) none none),
 zo 2 101 (.b2s 100),
 zm 3 11 101])
 (.ret))))))))),
 [.tmp 10,.tmp 11]⟩
theorem p69u : PR Go.Proofs.Tryd.f69 = some v69u:=by kernel_rfl

def v_slices_IndexFunc_int : VFun :=
⟨.seq (.reg [zo 0 4 (.mv (zi 0))])
 (.seq (.seq (.reg [zm 0 6 0,
 zo 1 7 (.len (.tmp 6)),
 zo 2 8 (.mv (zi 0))])
 (.block 0
 (.loop
 (.seq (.reg [zo 0 9 (.bin .lss 3 false (.tmp 8) (.tmp 7))])
 (.seq (.cond (.tmp 9)
 (.skip)
 (.exit 0))
 (.seq (.block 1
 (.seq (.reg [zm 0 10 8,
 zm 1 5 10])
 (.seq (.reg [zm 0 11 1,
 zm 1 12 0,
 zm 2 13 5,
 zo 3 14 (.idxA none 1 (.tmp 12) (.tmp 13)),
 zl 4 15 14,
 zo 5 16 (.callv (.tmp 11) [(.tmp 15)])])
 (.cond (.tmp 16)
 (.seq (.reg [zm 0 17 5,
 zm 1 4 17])
 (.ret))
 (.skip)))))
 (.reg [zo 0 18 (.bin .add 3 true (.tmp 8) (zi 1)),
 zm 1 8 18])))))))
 (.seq (.reg [zo 0 4 (.mv (zi (-1)))])
 (.ret))),
 [.tmp 4]⟩
theorem p_slices_IndexFunc_int : PR Go.Proofs.Tryd.f70 = some v_slices_IndexFunc_int:=by kernel_rfl

def v_code_checker_reg : VFun :=
⟨.reg [zm 0 6 0,
 zm 1 7 2,
 zo 2 8 (.un .not (.tmp 7)),
 zm 3 9 8,
 zg 4 10 (.mv (.tmp 1)) 9 false,
 zg 5 11 (.mv (.tmp 0)) 9 false,
 zg 6 12 (.nilck (.tmp 11)) 9 false,
 zg 7 13 (.fieldA 0 (.tmp 12)) 9 false,
 zg 8 14 (.fieldA 2 (.tmp 13)) 9 false,
 zg 9 15 (.load none (.tmp 14)) 9 false,
 zg 10 16 (.call 34 [(.tmp 10),(.tmp 15)]) 9 false,
 zo 11 17 (.pick (.tmp 9) (.con (.bool true)) (.tmp 16)),
 zo 12 18 (.call 54 [(.tmp 6),(.tmp 17),(zi 2)])],
 []⟩
theorem p_code_checker_reg : PR Go.Proofs.Tryd.f71 = some v_code_checker_reg:=by kernel_rfl

def v_internal_stringslite_Cut : VFun :=
⟨.seq (.reg [zo 0 4 (.mv (.con (.string ⟨#[]⟩))),
 zo 1 5 (.mv (.con (.string ⟨#[]⟩))),
 zo 2 6 (.mv (.con (.bool false)))])
 (.seq (.seq (.reg [zm 0 8 0,
 zm 1 9 1,
 zo 2 10 (.call 83 [(.tmp 8),(.tmp 9)]),
 zm 3 7 10])
 (.seq (.reg [zm 0 11 7,
 zo 1 12 (.bin .geq 3 true (.tmp 11) (zi 0))])
 (.cond (.tmp 12)
 (.seq (.reg [zm 0 13 0,
 zm 1 14 7,
 zo 2 15 (.slS 9 (.tmp 13) none (some (.tmp 14))),
 zm 3 16 0,
 zm 4 17 7,
 zm 5 18 1,
 zo 6 19 (.bi .len [9] 3 [(.tmp 18)]),
 zo 7 20 (.bin .add 3 false (.tmp 17) (.tmp 19)),
 zo 8 21 (.slS 9 (.tmp 16) (some (.tmp 20)) none),
 zm 9 4 15,
 zm 10 5 21,
 zo 11 6 (.mv (.con (.bool true)))])
 (.ret))
 (.skip))))
 (.seq (.reg [zm 0 22 0,
 zm 1 4 22,
 zo 2 5 (.mv (.con (.string ⟨#[]⟩))),
 zo 3 6 (.mv (.con (.bool false)))])
 (.ret))),
 [.tmp 4,.tmp 5,.tmp 6]⟩
theorem p_internal_stringslite_Cut : PR Go.Proofs.Tryd.f72 = some v_internal_stringslite_Cut:=by kernel_rfl

def v_strings_genSplit : VFun :=
⟨.seq (.reg [zo 0 8 (.mv (.con (.slice none 0 0)))])
 (.seq (.seq (.reg [zm 0 12 3,
 zo 1 13 (.bin .eql 3 true (.tmp 12) (zi 0))])
 (.cond (.tmp 13)
 (.seq (.reg [zo 0 8 (.mv (.con (.slice none 0 0)))])
 (.ret))
 (.skip)))
 (.seq (.seq (.reg [zm 0 14 1,
 zo 1 15 (.bin .eql 9 true (.tmp 14) (.con (.string ⟨#[]⟩)))])
 (.cond (.tmp 15)
 (.seq (.reg [zm 0 16 0,
 zm 1 17 3,
 zo 2 18 (.call 84 [(.tmp 16),(.tmp 17)]),
 zm 3 8 18])
 (.ret))
 (.skip)))
 (.seq (.seq (.reg [zm 0 19 3,
 zo 1 20 (.bin .lss 3 true (.tmp 19) (zi 0))])
 (.cond (.tmp 20)
 (.reg [zm 0 21 0,
 zm 1 22 1,
 zo 2 23 (.call 85 [(.tmp 21),(.tmp 22)]),
 zo 3 24 (.bin .add 3 true (.tmp 23) (zi 1)),
 zm 4 3 24])
 (.skip)))
 (.seq (.reg [zm 0 25 3,
 zm 1 26 0,
 zo 2 27 (.bi .len [9] 3 [(.tmp 26)]),
 zo 3 28 (.bin .add 3 true (.tmp 27) (zi 1)),
 zo 4 29 (.bi .min [3,3] 3 [(.tmp 25),(.tmp 28)]),
 zm 5 3 29])
 (.seq (.reg [zm 0 30 3,
 zo 1 31 (.mksl 1 16 [(.string ⟨#[]⟩)] (.tmp 30) (.tmp 30)),
 zm 2 9 31])
 (.seq (.reg [zm 0 32 3,
 zo 1 33 (.bin .sub 3 true (.tmp 32) (zi 1)),
 zm 2 3 33])
 (.seq (.reg [zo 0 10 (.mv (zi 0))])
 (.seq (.block 0
 (.loop
 (.seq (.seq (.reg [zm 0 34 10,
 zm 1 35 3,
 zo 2 36 (.bin .lss 3 false (.tmp 34) (.tmp 35))])
 (.cond (.tmp 36)
 (.skip)
 (.exit 0)))
 (.block 1
 (.seq (.reg [zm 0 37 0,
 zm 1 38 1,
 zo 2 39 (.call 86 [(.tmp 37),(.tmp 38)]),
 zm 3 11 39])
 (.seq (.seq (.reg [zm 0 40 11,
 zo 1 41 (.bin .lss 3 true (.tmp 40) (zi 0))])
 (.cond (.tmp 41)
 (.exit 0)
 (.skip)))
 (.seq (.reg [zm 0 42 9,
 zm 1 43 10,
 zm 2 44 0,
 zm 3 45 11,
 zm 4 46 2,
 zo 5 47 (.bin .add 3 false (.tmp 45) (.tmp 46)),
 zo 6 48 (.slS 9 (.tmp 44) none (some (.tmp 47))),
 zo 7 49 (.idxA none 1 (.tmp 42) (.tmp 43)),
 zn 8 (.store 1 (.tmp 49) (.tmp 48))])
 (.seq (.reg [zm 0 50 0,
 zm 1 51 11,
 zm 2 52 1,
 zo 3 53 (.bi .len [9] 3 [(.tmp 52)]),
 zo 4 54 (.bin .add 3 false (.tmp 51) (.tmp 53)),
 zo 5 55 (.slS 9 (.tmp 50) (some (.tmp 54)) none),
 zm 6 0 55])
 (.reg [zm 0 56 10,
 zo 1 57 (.bin .add 3 true (.tmp 56) (zi 1)),
 zm 2 10 57])))))))))
 (.seq (.reg [zm 0 58 9,
 zm 1 59 10,
 zm 2 60 0,
 zo 3 61 (.idxA none 1 (.tmp 58) (.tmp 59)),
 zn 4 (.store 1 (.tmp 61) (.tmp 60))])
 (.seq (.reg [zm 0 62 9,
 zm 1 63 10,
 zo 2 64 (.bin .add 3 true (.tmp 63) (zi 1)),
 zo 3 65 (.slice none 1 (.tmp 62) none (some (.tmp 64)) none),
 zm 4 8 65])
 (.ret))))))))))),
 [.tmp 8]⟩
theorem p_strings_genSplit : PR Go.Proofs.Tryd.f73 = some v_strings_genSplit:=by kernel_rfl

def v_word_Read : VFun :=
⟨.seq (.reg [zo 0 2 (.mv (zi 0)),
 zo 1 3 (.mv (zi 0))])
 (.seq (.reg [zm 0 7 0,
 zo 1 8 (.call 87 [(.tmp 7),(zi 10),(zi 64)]),
 zm 2 6 8,
 zo 3 9 (.ext (.tmp 6) 0),
 zo 4 10 (.ext (.tmp 6) 1),
 zm 5 4 9,
 zm 6 5 10])
 (.seq (.seq (.reg [zm 0 11 5,
 zo 1 12 (.isnil 3 true (.tmp 11)),
 zm 2 13 12,
 zg 3 14 (.mv (.tmp 4)) 13 false,
 zg 4 15 (.call 41 [(.tmp 14)]) 13 false,
 zg 5 16 (.mv (.tmp 0)) 13 false,
 zg 6 17 (.bin .neq 9 false (.tmp 15) (.tmp 16)) 13 false,
 zo 7 18 (.pick (.tmp 13) (.con (.bool true)) (.tmp 17))])
 (.cond (.tmp 18)
 (.seq (.reg [zo 0 2 (.mv (zi 0)),
 zo 1 3 (.mv (zi 4))])
 (.ret))
 (.skip)))
 (.seq (.reg [zm 0 19 4,
 zm 1 2 19,
 zo 2 3 (.mv (zi 0))])
 (.ret)))),
 [.tmp 2,.tmp 3]⟩
theorem p_word_Read : PR Go.Proofs.Tryd.f74 = some v_word_Read:=by kernel_rfl

def v_internal_stringslite_CutPrefix : VFun :=
⟨.seq (.reg [zo 0 4 (.mv (.con (.string ⟨#[]⟩))),
 zo 1 5 (.mv (.con (.bool false)))])
 (.seq (.seq (.reg [zm 0 6 0,
 zm 1 7 1,
 zo 2 8 (.call 88 [(.tmp 6),(.tmp 7)]),
 zo 3 9 (.un .not (.tmp 8))])
 (.cond (.tmp 9)
 (.seq (.reg [zm 0 10 0,
 zm 1 4 10,
 zo 2 5 (.mv (.con (.bool false)))])
 (.ret))
 (.skip)))
 (.seq (.reg [zm 0 11 0,
 zm 1 12 1,
 zo 2 13 (.bi .len [9] 3 [(.tmp 12)]),
 zo 3 14 (.slS 9 (.tmp 11) (some (.tmp 13)) none),
 zm 4 4 14,
 zo 5 5 (.mv (.con (.bool true)))])
 (.ret))),
 [.tmp 4,.tmp 5]⟩
theorem p_internal_stringslite_CutPrefix : PR Go.Proofs.Tryd.f75 = some v_internal_stringslite_CutPrefix:=by kernel_rfl

def v_slices_IndexFunc_form : VFun :=
⟨.seq (.reg [zo 0 4 (.mv (zi 0))])
 (.seq (.seq (.reg [zm 0 6 0,
 zo 1 7 (.len (.tmp 6)),
 zo 2 8 (.mv (zi 0))])
 (.block 0
 (.loop
 (.seq (.reg [zo 0 9 (.bin .lss 3 false (.tmp 8) (.tmp 7))])
 (.seq (.cond (.tmp 9)
 (.skip)
 (.exit 0))
 (.seq (.block 1
 (.seq (.reg [zm 0 10 8,
 zm 1 5 10])
 (.seq (.reg [zm 0 11 1,
 zm 1 12 0,
 zm 2 13 5,
 zo 3 14 (.idxA none 3 (.tmp 12) (.tmp 13)),
 zo 4 15 (.load (some 3) (.tmp 14)),
 zo 5 16 (.callv (.tmp 11) [(.tmp 15)])])
 (.cond (.tmp 16)
 (.seq (.reg [zm 0 17 5,
 zm 1 4 17])
 (.ret))
 (.skip)))))
 (.reg [zo 0 18 (.bin .add 3 true (.tmp 8) (zi 1)),
 zm 1 8 18])))))))
 (.seq (.reg [zo 0 4 (.mv (zi (-1)))])
 (.ret))),
 [.tmp 4]⟩
theorem p_slices_IndexFunc_form : PR Go.Proofs.Tryd.f76 = some v_slices_IndexFunc_form:=by kernel_rfl

def v_code_readOp_c1 : VFun :=
⟨.seq (.reg [zo 0 2 (.box (.tmp 0)),
 zo 1 3 (.mv (.con (.bool false)))])
 (.seq (.reg [zf 0 4 2 2,
 zl 1 5 4,
 zl 2 6 1,
 zo 3 7 (.idxA none 1 (.tmp 6) (zi 0)),
 zl 4 8 7,
 zo 5 9 (.bin .eql 9 false (.tmp 5) (.tmp 8)),
 zm 6 3 9])
 (.ret)),
 [.tmp 3]⟩
theorem p_code_readOp_c1 : PR Go.Proofs.Tryd.f77 = some v_code_readOp_c1:=by kernel_rfl

def v78u : VFun :=
⟨.seq (.reg [zo 0 2 (.mv (zi 0))])
 (.seq (.reg [zm 0 3 0,
 zo 1 4 (.bin .mul 3 true 3 (zi 78913)),
 zo 2 5 (.bin .shr 3 true 4 (.con (.int .u64 18))),
 zm 3 2 5])
 (.ret)),
 [.tmp 2]⟩
theorem p78u : PR Go.Proofs.Tryd.f78 = some v78u:=by kernel_rfl

def v79u : VFun :=
⟨.seq (.reg [zo 0 2 (.mv (zi 0))])
 (.seq (.seq (.reg [zm 0 3 0,
 zo 1 4 (.bin .geq 130 true 3 (.con (.int .u64 4294967296)))])
 (.cond 4
 (.seq (.reg [zm 0 5 0,
 zo 1 6 (.bin .shr 130 true 5 (.con (.int .u64 32))),
 zm 2 0 6])
 (.reg [zo 0 2 (.mv (zi 32))]))
 (.skip)))
 (.seq (.seq (.reg [zm 0 7 0,
 zo 1 8 (.bin .geq 130 true 7 (.con (.int .u64 65536)))])
 (.cond 8
 (.seq (.reg [zm 0 9 0,
 zo 1 10 (.bin .shr 130 true 9 (.con (.int .u64 16))),
 zm 2 0 10])
 (.reg [zm 0 11 2,
 zo 1 12 (.bin .add 3 true 11 (zi 16)),
 zm 2 2 12]))
 (.skip)))
 (.seq (.seq (.reg [zm 0 13 0,
 zo 1 14 (.bin .geq 130 true 13 (.con (.int .u64 256)))])
 (.cond 14
 (.seq (.reg [zm 0 15 0,
 zo 1 16 (.bin .shr 130 true 15 (.con (.int .u64 8))),
 zm 2 0 16])
 (.reg [zm 0 17 2,
 zo 1 18 (.bin .add 3 true 17 (zi 8)),
 zm 2 2 18]))
 (.skip)))
 (.seq (.reg [zm 0 19 2,
 zm 1 20 0,
 zo 2 21 (.conv 130 5 20),
 zo 3 22 (.idxS 9 (.con (.string ⟨#[0,1,2,2,3,3,3,3,4,4,4,4,4,4,4,4,5,5,5,5,5,5,5,5,5,5,5,5,5,5,5,5,6,6,6,6,6,6,6,6,6,6,6,6,6,6,6,6,6,6,6,6,6,6,6,6,6,6,6,6,6,6,6,6,7,7,7,7,7,7,7,7,7,7,7,7,7,7,7,7,7,7,7,7,7,7,7,7,7,7,7,7,7,7,7,7,7,7,7,7,7,7,7,7,7,7,7,7,7,7,7,7,7,7,7,7,7,7,7,7,7,7,7,7,7,7,7,7,8,8,8,8,8,8,8,8,8,8,8,8,8,8,8,8,8,8,8,8,8,8,8,8,8,8,8,8,8,8,8,8,8,8,8,8,8,8,8,8,8,8,8,8,8,8,8,8,8,8,8,8,8,8,8,8,8,8,8,8,8,8,8,8,8,8,8,8,8,8,8,8,8,8,8,8,8,8,8,8,8,8,8,8,8,8,8,8,8,8,8,8,8,8,8,8,8,8,8,8,8,8,8,8,8,8,8,8,8,8,8,8,8,8,8,8,8,8,8,8,8,8,8,8,8,8,8,8]⟩)) 21),
 zo 4 23 (.conv 5 3 22),
 zo 5 24 (.bin .add 3 false 19 23),
 zm 6 2 24])
 (.ret))))),
 [.tmp 2]⟩
theorem p79u : PR Go.Proofs.Tryd.f79 = some v79u:=by kernel_rfl

def v80u : VFun :=
⟨.seq (.reg [zo 0 2 (.mv (zi 0))])
 (.seq (.seq (.reg [zm 0 3 0])
 (.cond 3
 (.seq (.reg [zo 0 2 (.mv (zi 1))])
 (.ret))
 (.skip)))
 (.seq (.reg [zo 0 2 (.mv (zi 0))])
 (.ret))),
 [.tmp 2]⟩
theorem p80u : PR Go.Proofs.Tryd.f80 = some v80u:=by kernel_rfl

def v81u : VFun :=
⟨.seq (.reg [zo 0 2 (.mv (.con (.bool false)))])
 (.seq (.reg [zm 0 3 0,
 zm 1 4 0,
 zo 2 5 (.bin .sub 3 true 4 (zi 1)),
 zo 3 6 (.bin .and 3 false 3 5),
 zo 4 7 (.bin .eql 3 true 6 (zi 0)),
 zm 5 2 7])
 (.ret)),
 [.tmp 2]⟩
theorem p81u : PR Go.Proofs.Tryd.f81 = some v81u:=by kernel_rfl

def v82u : VFun :=
⟨.seq (.reg [zo 0 2 (.mv (zi 0))])
 (.seq (.cond (.con (.bool false))
 (.seq (.reg [zm 0 3 0,
 zo 1 4 (.conv 44 149 3),
 zo 2 5 (.call 89 [4]),
 zm 3 2 5])
 (.ret))
 (.skip))
 (.seq (.reg [zm 0 6 0,
 zo 1 7 (.call 90 [6]),
 zm 2 2 7])
 (.ret))),
 [.tmp 2]⟩
theorem p82u : PR Go.Proofs.Tryd.f82 = some v82u:=by kernel_rfl

def v_internal_stringslite_Index : VFun :=
⟨.seq (.reg [zo 0 4 (.mv (zi 0))])
 (.seq (.reg [zm 0 14 1,
 zo 1 15 (.bi .len [9] 3 [(.tmp 14)]),
 zm 2 5 15])
 (.seq (.block 0
 (.seq (.reg [zm 0 17 5,
 zo 1 18 (.bin .eql 3 true (.tmp 17) (zi 0)),
 zm 2 19 18,
 zg 3 20 (.mv (.tmp 1)) 19 false,
 zg 4 21 (.mv (.tmp 0)) 19 false,
 zg 5 22 (.bin .eql 9 false (.tmp 20) (.tmp 21)) 19 false,
 zo 6 23 (.pick (.tmp 19) (.con (.bool true)) (.tmp 22)),
 zm 7 16 23])
 (.cond (.tmp 16)
 (.seq (.reg [zo 0 4 (.mv (zi 0))])
 (.ret))
 (.seq (.reg [zm 0 25 5,
 zo 1 26 (.bin .eql 3 true (.tmp 25) (zi 1)),
 zm 2 24 26])
 (.cond (.tmp 24)
 (.seq (.reg [zm 0 27 0,
 zm 1 28 1,
 zo 2 29 (.idxS 9 (.tmp 28) (zi 0)),
 zo 3 30 (.call 91 [(.tmp 27),(.tmp 29)]),
 zm 4 4 30])
 (.ret))
 (.seq (.reg [zm 0 32 5,
 zm 1 33 0,
 zo 2 34 (.bi .len [9] 3 [(.tmp 33)]),
 zo 3 35 (.bin .geq 3 false (.tmp 32) (.tmp 34)),
 zm 4 31 35])
 (.cond (.tmp 31)
 (.seq (.reg [zo 0 4 (.mv (zi (-1)))])
 (.ret))
 (.seq (.reg [zm 0 37 5,
 zo 1 38 (.load none (.glo 3)),
 zo 2 39 (.bin .leq 3 false (.tmp 37) (.tmp 38)),
 zm 3 40 39,
 zg 4 41 (.mv (.tmp 0)) 40 true,
 zg 5 42 (.bi .len [9] 3 [(.tmp 41)]) 40 true,
 zg 6 43 (.bin .leq 3 true (.tmp 42) (zi 64)) 40 true,
 zo 7 44 (.pick (.tmp 40) (.tmp 43) (.con (.bool false))),
 zm 8 36 44])
 (.cond (.tmp 36)
 (.seq (.reg [zm 0 45 0,
 zm 1 46 1,
 zo 2 47 (.call 92 [(.tmp 45),(.tmp 46)]),
 zm 3 4 47])
 (.ret))
 (.skip))))))))))
 (.seq (.reg [zm 0 48 1,
 zo 1 49 (.idxS 9 (.tmp 48) (zi 0)),
 zm 2 6 49])
 (.seq (.reg [zm 0 50 1,
 zo 1 51 (.idxS 9 (.tmp 50) (zi 1)),
 zm 2 7 51])
 (.seq (.reg [zo 0 8 (.mv (zi 0))])
 (.seq (.reg [zm 0 52 0,
 zo 1 53 (.bi .len [9] 3 [(.tmp 52)]),
 zm 2 54 5,
 zo 3 55 (.bin .sub 3 false (.tmp 53) (.tmp 54)),
 zo 4 56 (.bin .add 3 true (.tmp 55) (zi 1)),
 zm 5 9 56])
 (.seq (.reg [zo 0 10 (.mv (zi 0))])
 (.seq (.block 1
 (.loop
 (.seq (.seq (.reg [zm 0 57 8,
 zm 1 58 9,
 zo 2 59 (.bin .lss 3 false (.tmp 57) (.tmp 58))])
 (.cond (.tmp 59)
 (.skip)
 (.exit 1)))
 (.block 2
 (.seq (.seq (.reg [zm 0 60 0,
 zm 1 61 8,
 zo 2 62 (.idxS 9 (.tmp 60) (.tmp 61)),
 zm 3 63 6,
 zo 4 64 (.bin .neq 5 false (.tmp 62) (.tmp 63))])
 (.cond (.tmp 64)
 (.seq (.reg [zm 0 65 0,
 zm 1 66 8,
 zo 2 67 (.bin .add 3 true (.tmp 66) (zi 1)),
 zm 3 68 9,
 zo 4 69 (.slS 9 (.tmp 65) (some (.tmp 67)) (some (.tmp 68))),
 zm 5 70 6,
 zo 6 71 (.call 91 [(.tmp 69),(.tmp 70)]),
 zm 7 11 71])
 (.seq (.seq (.reg [zm 0 72 11,
 zo 1 73 (.bin .lss 3 true (.tmp 72) (zi 0))])
 (.cond (.tmp 73)
 (.seq (.reg [zo 0 4 (.mv (zi (-1)))])
 (.ret))
 (.skip)))
 (.reg [zm 0 74 8,
 zm 1 75 11,
 zo 2 76 (.bin .add 3 true (.tmp 75) (zi 1)),
 zo 3 77 (.bin .add 3 false (.tmp 74) (.tmp 76)),
 zm 4 8 77])))
 (.skip)))
 (.seq (.seq (.reg [zm 0 78 0,
 zm 1 79 8,
 zo 2 80 (.bin .add 3 true (.tmp 79) (zi 1)),
 zo 3 81 (.idxS 9 (.tmp 78) (.tmp 80)),
 zm 4 82 7,
 zo 5 83 (.bin .eql 5 false (.tmp 81) (.tmp 82)),
 zm 6 84 83,
 zg 7 85 (.mv (.tmp 0)) 84 true,
 zg 8 86 (.mv (.tmp 8)) 84 true,
 zg 9 87 (.mv (.tmp 8)) 84 true,
 zg 10 88 (.mv (.tmp 5)) 84 true,
 zg 11 89 (.bin .add 3 false (.tmp 87) (.tmp 88)) 84 true,
 zg 12 90 (.slS 9 (.tmp 85) (some (.tmp 86)) (some (.tmp 89))) 84 true,
 zg 13 91 (.mv (.tmp 1)) 84 true,
 zg 14 92 (.bin .eql 9 false (.tmp 90) (.tmp 91)) 84 true,
 zo 15 93 (.pick (.tmp 84) (.tmp 92) (.con (.bool false)))])
 (.cond (.tmp 93)
 (.seq (.reg [zm 0 94 8,
 zm 1 4 94])
 (.ret))
 (.skip)))
 (.seq (.reg [zm 0 95 8,
 zo 1 96 (.bin .add 3 true (.tmp 95) (zi 1)),
 zm 2 8 96])
 (.seq (.reg [zm 0 97 10,
 zo 1 98 (.bin .add 3 true (.tmp 97) (zi 1)),
 zm 2 10 98])
 (.seq (.reg [zm 0 99 5,
 zo 1 100 (.load none (.glo 3)),
 zo 2 101 (.bin .leq 3 false (.tmp 99) (.tmp 100)),
 zm 3 102 101,
 zg 4 103 (.mv (.tmp 10)) 102 true,
 zg 5 104 (.mv (.tmp 8)) 102 true,
 zg 6 105 (.call 93 [(.tmp 104)]) 102 true,
 zg 7 106 (.bin .gtr 3 false (.tmp 103) (.tmp 105)) 102 true,
 zo 8 107 (.pick (.tmp 102) (.tmp 106) (.con (.bool false)))])
 (.cond (.tmp 107)
 (.seq (.reg [zm 0 108 0,
 zm 1 109 8,
 zo 2 110 (.slS 9 (.tmp 108) (some (.tmp 109)) none),
 zm 3 111 1,
 zo 4 112 (.call 92 [(.tmp 110),(.tmp 111)]),
 zm 5 12 112])
 (.seq (.seq (.reg [zm 0 113 12,
 zo 1 114 (.bin .geq 3 true (.tmp 113) (zi 0))])
 (.cond (.tmp 114)
 (.seq (.reg [zm 0 115 12,
 zm 1 116 8,
 zo 2 117 (.bin .add 3 false (.tmp 115) (.tmp 116)),
 zm 3 4 117])
 (.ret))
 (.skip)))
 (.seq (.reg [zo 0 4 (.mv (zi (-1)))])
 (.ret))))
 (.seq (.reg [zm 0 118 5,
 zo 1 119 (.load none (.glo 3)),
 zo 2 120 (.bin .gtr 3 false (.tmp 118) (.tmp 119)),
 zm 3 121 120,
 zg 4 122 (.mv (.tmp 10)) 121 true,
 zg 5 123 (.mv (.tmp 8)) 121 true,
 zg 6 124 (.bin .shr 3 true (.tmp 123) (.con (.int .u64 4))) 121 true,
 zg 7 125 (.bin .add 3 true (zi 4) (.tmp 124)) 121 true,
 zg 8 126 (.bin .geq 3 false (.tmp 122) (.tmp 125)) 121 true,
 zo 9 127 (.pick (.tmp 121) (.tmp 126) (.con (.bool false))),
 zm 10 128 127,
 zg 11 129 (.mv (.tmp 8)) 128 true,
 zg 12 130 (.mv (.tmp 9)) 128 true,
 zg 13 131 (.bin .lss 3 false (.tmp 129) (.tmp 130)) 128 true,
 zo 14 132 (.pick (.tmp 128) (.tmp 131) (.con (.bool false)))])
 (.cond (.tmp 132)
 (.seq (.reg [zm 0 133 0,
 zm 1 134 8,
 zo 2 135 (.slS 9 (.tmp 133) (some (.tmp 134)) none),
 zm 3 136 1,
 zo 4 137 (.call 94 [(.tmp 135),(.tmp 136)]),
 zm 5 13 137])
 (.seq (.seq (.reg [zm 0 138 13,
 zo 1 139 (.bin .lss 3 true (.tmp 138) (zi 0))])
 (.cond (.tmp 139)
 (.seq (.reg [zo 0 4 (.mv (zi (-1)))])
 (.ret))
 (.skip)))
 (.seq (.reg [zm 0 140 8,
 zm 1 141 13,
 zo 2 142 (.bin .add 3 false (.tmp 140) (.tmp 141)),
 zm 3 4 142])
 (.ret))))
 (.skip)))))))))))))
 (.seq (.reg [zo 0 4 (.mv (zi (-1)))])
 (.ret)))))))))),
 [.tmp 4]⟩
theorem p_internal_stringslite_Index : PR Go.Proofs.Tryd.f83 = some v_internal_stringslite_Index:=by kernel_rfl

end Go.VX.Seat
end
section
set_option maxRecDepth 20000
namespace Go.VX.Seat
def v84u : VFun :=
⟨.seq (.reg [zo 0 4 (.mv (.con (.slice none 0 0)))])
 (.seq (.reg [zm 0 10 0,
 zo 1 11 (.call 95 [10]),
 zm 2 5 11])
 (.seq (.seq (.reg [zm 0 12 1,
 zo 1 13 (.bin .lss 3 true 12 (zi 0)),
 zm 2 14 13,
 zg 3 15 (.mv 1) 14 false,
 zg 4 16 (.mv 5) 14 false,
 zg 5 17 (.bin .gtr 3 false 15 16) 14 false,
 zo 6 18 (.pick 14 (.con (.bool true)) 17)])
 (.cond 18
 (.reg [zm 0 19 5,
 zm 1 1 19])
 (.skip)))
 (.seq (.reg [zm 0 20 1,
 zo 1 21 (.mksl 1 16 [(.string ⟨#[]⟩)] 20 20),
 zm 2 6 21])
 (.seq (.seq (.reg [zo 0 7 (.mv (zi 0))])
 (.block 0
 (.loop
 (.seq (.seq (.reg [zm 0 22 7,
 zm 1 23 1,
 zo 2 24 (.bin .sub 3 true 23 (zi 1)),
 zo 3 25 (.bin .lss 3 false 22 24)])
 (.cond 25
 (.skip)
 (.exit 0)))
 (.seq (.block 1
 (.seq (.reg [zm 0 29 0,
 zo 1 30 (.call 96 [29]),
 zm 2 28 30,
 zo 3 31 (.ext 28 0),
 zo 4 32 (.ext 28 1),
 zm 5 8 31,
 zm 6 9 32])
 (.seq (.reg [zm 0 33 6,
 zm 1 34 7,
 zm 2 35 0,
 zm 3 36 9,
 zo 4 37 (.slS 9 35 none (some 36)),
 zo 5 38 (.idxA none 1 33 34),
 zn 6 (.store 1 38 37)])
 (.reg [zm 0 39 0,
 zm 1 40 9,
 zo 2 41 (.slS 9 39 (some 40) none),
 zm 3 0 41]))))
 (.reg [zm 0 26 7,
 zo 1 27 (.bin .add 3 true 26 (zi 1)),
 zm 2 7 27]))))))
 (.seq (.seq (.reg [zm 0 42 1,
 zo 1 43 (.bin .gtr 3 true 42 (zi 0))])
 (.cond 43
 (.reg [zm 0 44 6,
 zm 1 45 1,
 zo 2 46 (.bin .sub 3 true 45 (zi 1)),
 zm 3 47 0,
 zo 4 48 (.idxA none 1 44 46),
 zn 5 (.store 1 48 47)])
 (.skip)))
 (.seq (.reg [zm 0 49 6,
 zm 1 4 49])
 (.ret))))))),
 [.tmp 4]⟩
theorem p84u : PR Go.Proofs.Tryd.f84 = some v84u:=by kernel_rfl

def v_strings_Count : VFun :=
⟨.seq (.reg [zo 0 4 (.mv (zi 0))])
 (.seq (.seq (.reg [zm 0 7 1,
 zo 1 8 (.bi .len [9] 3 [(.tmp 7)]),
 zo 2 9 (.bin .eql 3 true (.tmp 8) (zi 0))])
 (.cond (.tmp 9)
 (.seq (.reg [zm 0 10 0,
 zo 1 11 (.call 95 [(.tmp 10)]),
 zo 2 12 (.bin .add 3 true (.tmp 11) (zi 1)),
 zm 3 4 12])
 (.ret))
 (.skip)))
 (.seq (.seq (.reg [zm 0 13 1,
 zo 1 14 (.bi .len [9] 3 [(.tmp 13)]),
 zo 2 15 (.bin .eql 3 true (.tmp 14) (zi 1))])
 (.cond (.tmp 15)
 (.seq (.reg [zm 0 16 0,
 zm 1 17 1,
 zo 2 18 (.idxS 9 (.tmp 17) (zi 0)),
 zo 3 19 (.call 97 [(.tmp 16),(.tmp 18)]),
 zm 4 4 19])
 (.ret))
 (.skip)))
 (.seq (.reg [zo 0 5 (.mv (zi 0))])
 (.block 0
 (.loop
 (.block 1
 (.seq (.reg [zm 0 20 0,
 zm 1 21 1,
 zo 2 22 (.call 86 [(.tmp 20),(.tmp 21)]),
 zm 3 6 22])
 (.seq (.seq (.reg [zm 0 23 6,
 zo 1 24 (.bin .eql 3 true (.tmp 23) (zi (-1)))])
 (.cond (.tmp 24)
 (.seq (.reg [zm 0 25 5,
 zm 1 4 25])
 (.ret))
 (.skip)))
 (.seq (.reg [zm 0 26 5,
 zo 1 27 (.bin .add 3 true (.tmp 26) (zi 1)),
 zm 2 5 27])
 (.reg [zm 0 28 0,
 zm 1 29 6,
 zm 2 30 1,
 zo 3 31 (.bi .len [9] 3 [(.tmp 30)]),
 zo 4 32 (.bin .add 3 false (.tmp 29) (.tmp 31)),
 zo 5 33 (.slS 9 (.tmp 28) (some (.tmp 32)) none),
 zm 6 0 33])))))))))),
 [.tmp 4]⟩
theorem p_strings_Count : PR Go.Proofs.Tryd.f85 = some v_strings_Count:=by kernel_rfl

def v_strings_Index : VFun :=
⟨.seq (.reg [zo 0 4 (.mv (zi 0))])
 (.seq (.reg [zm 0 5 0,
 zm 1 6 1,
 zo 2 7 (.call 83 [(.tmp 5),(.tmp 6)]),
 zm 3 4 7])
 (.ret)),
 [.tmp 4]⟩
theorem p_strings_Index : PR Go.Proofs.Tryd.f86 = some v_strings_Index:=by kernel_rfl

def v87u : VFun :=
⟨.seq (.reg [zo 0 6 (.mv (zi 0)),
 zo 1 7 (.mv (.con .nilIface))])
 (.seq (.reg [zm 0 10 0,
 zm 1 11 1,
 zm 2 12 2,
 zo 3 13 (.call 98 [10,11,12]),
 zm 4 9 13,
 zo 5 14 (.ext 9 0),
 zo 6 15 (.ext 9 1),
 zm 7 8 14,
 zm 8 7 15])
 (.seq (.seq (.reg [zm 0 16 7,
 zo 1 17 (.isnil 3 true 16)])
 (.cond 17
 (.seq (.reg [zm 0 18 8,
 zm 1 19 0,
 zm 2 20 1,
 zm 3 21 2,
 zm 4 22 7,
 zo 5 23 (.call 99 [(.con (.string ⟨#[80,97,114,115,101,73,110,116]⟩)),19,20,21,22]),
 zm 6 6 18,
 zm 7 7 23])
 (.ret))
 (.skip)))
 (.seq (.reg [zm 0 24 8,
 zm 1 6 24,
 zo 2 7 (.mv (.con .nilIface))])
 (.ret)))),
 [.tmp 6,.tmp 7]⟩
theorem p87u : PR Go.Proofs.Tryd.f87 = some v87u:=by kernel_rfl

def v_internal_stringslite_HasPrefix : VFun :=
⟨.seq (.reg [zo 0 4 (.mv (.con (.bool false)))])
 (.seq (.reg [zm 0 5 0,
 zo 1 6 (.bi .len [9] 3 [(.tmp 5)]),
 zm 2 7 1,
 zo 3 8 (.bi .len [9] 3 [(.tmp 7)]),
 zo 4 9 (.bin .geq 3 false (.tmp 6) (.tmp 8)),
 zm 5 10 9,
 zg 6 11 (.mv (.tmp 0)) 10 true,
 zg 7 12 (.mv (.tmp 1)) 10 true,
 zg 8 13 (.bi .len [9] 3 [(.tmp 12)]) 10 true,
 zg 9 14 (.slS 9 (.tmp 11) none (some (.tmp 13))) 10 true,
 zg 10 15 (.mv (.tmp 1)) 10 true,
 zg 11 16 (.bin .eql 9 false (.tmp 14) (.tmp 15)) 10 true,
 zo 12 17 (.pick (.tmp 10) (.tmp 16) (.con (.bool false))),
 zm 13 4 17])
 (.ret)),
 [.tmp 4]⟩
theorem p_internal_stringslite_HasPrefix : PR Go.Proofs.Tryd.f88 = some v_internal_stringslite_HasPrefix:=by kernel_rfl

def v_internal_stringslite_IndexByte : VFun :=
⟨.seq (.reg [zo 0 4 (.mv (zi 0))])
 (.seq (.reg [zm 0 5 0,
 zm 1 6 1,
 zo 2 7 (.call 100 [(.tmp 5),(.tmp 6)]),
 zm 3 4 7])
 (.ret)),
 [.tmp 4]⟩
theorem p_internal_stringslite_IndexByte : PR Go.Proofs.Tryd.f91 = some v_internal_stringslite_IndexByte:=by kernel_rfl

def v93u : VFun :=
⟨.seq (.reg [zo 0 2 (.mv (zi 0))])
 (.seq (.reg [zm 0 3 0,
 zo 1 4 (.bin .add 3 true 3 (zi 16)),
 zo 2 5 (.bin .quo 3 true 4 (zi 8)),
 zm 3 2 5])
 (.ret)),
 [.tmp 2]⟩
theorem p93u : PR Go.Proofs.Tryd.f93 = some v93u:=by kernel_rfl

def v94u : VFun :=
⟨.seq (.reg [zo 0 4 (.mv (zi 0))])
 (.seq (.reg [zm 0 12 1,
 zo 1 13 (.call 101 [12]),
 zm 2 11 13,
 zo 3 14 (.ext 11 0),
 zo 4 15 (.ext 11 1),
 zm 5 5 14,
 zm 6 6 15])
 (.seq (.reg [zm 0 16 1,
 zo 1 17 (.bi .len [9] 3 [16]),
 zm 2 7 17])
 (.seq (.reg [zo 0 8 (.mv (.con (.int .u32 0)))])
 (.seq (.seq (.reg [zo 0 9 (.mv (zi 0))])
 (.block 0
 (.loop
 (.seq (.seq (.reg [zm 0 18 9,
 zm 1 19 7,
 zo 2 20 (.bin .lss 3 false 18 19)])
 (.cond 20
 (.skip)
 (.exit 0)))
 (.seq (.block 1
 (.reg [zm 0 23 8,
 zo 1 24 (.bin .mul 149 true 23 (.con (.int .u32 16777619))),
 zm 2 25 0,
 zm 3 26 9,
 zo 4 27 (.idxS 9 25 26),
 zo 5 28 (.conv 5 149 27),
 zo 6 29 (.bin .add 149 false 24 28),
 zm 7 8 29]))
 (.reg [zm 0 21 9,
 zo 1 22 (.bin .add 3 true 21 (zi 1)),
 zm 2 9 22]))))))
 (.seq (.seq (.reg [zm 0 30 8,
 zm 1 31 5,
 zo 2 32 (.bin .eql 149 false 30 31),
 zm 3 33 32,
 zg 4 34 (.mv 0) 33 true,
 zg 5 35 (.mv 7) 33 true,
 zg 6 36 (.slS 9 34 none (some 35)) 33 true,
 zg 7 37 (.mv 1) 33 true,
 zg 8 38 (.bin .eql 9 false 36 37) 33 true,
 zo 9 39 (.pick 33 38 (.con (.bool false)))])
 (.cond 39
 (.seq (.reg [zo 0 4 (.mv (zi 0))])
 (.ret))
 (.skip)))
 (.seq (.seq (.reg [zm 0 40 7,
 zm 1 10 40])
 (.block 2
 (.loop
 (.seq (.seq (.reg [zm 0 41 10,
 zm 1 42 0,
 zo 2 43 (.bi .len [9] 3 [42]),
 zo 3 44 (.bin .lss 3 false 41 43)])
 (.cond 44
 (.skip)
 (.exit 2)))
 (.block 3
 (.seq (.reg [zm 0 45 8,
 zo 1 46 (.bin .mul 149 true 45 (.con (.int .u32 16777619))),
 zm 2 8 46])
 (.seq (.reg [zm 0 47 8,
 zm 1 48 0,
 zm 2 49 10,
 zo 3 50 (.idxS 9 48 49),
 zo 4 51 (.conv 5 149 50),
 zo 5 52 (.bin .add 149 false 47 51),
 zm 6 8 52])
 (.seq (.reg [zm 0 53 8,
 zm 1 54 6,
 zm 2 55 0,
 zm 3 56 10,
 zm 4 57 7,
 zo 5 58 (.bin .sub 3 false 56 57),
 zo 6 59 (.idxS 9 55 58),
 zo 7 60 (.conv 5 149 59),
 zo 8 61 (.bin .mul 149 false 54 60),
 zo 9 62 (.bin .sub 149 false 53 61),
 zm 10 8 62])
 (.seq (.reg [zm 0 63 10,
 zo 1 64 (.bin .add 3 true 63 (zi 1)),
 zm 2 10 64])
 (.seq (.reg [zm 0 65 8,
 zm 1 66 5,
 zo 2 67 (.bin .eql 149 false 65 66),
 zm 3 68 67,
 zg 4 69 (.mv 0) 68 true,
 zg 5 70 (.mv 10) 68 true,
 zg 6 71 (.mv 7) 68 true,
 zg 7 72 (.bin .sub 3 false 70 71) 68 true,
 zg 8 73 (.mv 10) 68 true,
 zg 9 74 (.slS 9 69 (some 72) (some 73)) 68 true,
 zg 10 75 (.mv 1) 68 true,
 zg 11 76 (.bin .eql 9 false 74 75) 68 true,
 zo 12 77 (.pick 68 76 (.con (.bool false)))])
 (.cond 77
 (.seq (.reg [zm 0 78 10,
 zm 1 79 7,
 zo 2 80 (.bin .sub 3 false 78 79),
 zm 3 4 80])
 (.ret))
 (.skip))))))))))))
 (.seq (.reg [zo 0 4 (.mv (zi (-1)))])
 (.ret)))))))),
 [.tmp 4]⟩
theorem p94u : PR Go.Proofs.Tryd.f94 = some v94u:=by kernel_rfl

def v96u : VFun :=
⟨.seq (.reg [zo 0 2 (.mv (.con (.int .i32 0))),
 zo 1 3 (.mv (zi 0))])
 (.seq (.seq (.reg [zm 0 4 0,
 zo 1 5 (.bin .neq 9 true 4 (.con (.string ⟨#[]⟩))),
 zm 2 6 5,
 zg 3 7 (.mv 0) 6 true,
 zg 4 8 (.idxS 9 7 (zi 0)) 6 true,
 zg 5 9 (.bin .lss 5 true 8 (.con (.int .u8 128))) 6 true,
 zo 6 10 (.pick 6 9 (.con (.bool false)))])
 (.cond 10
 (.seq (.reg [zm 0 11 0,
 zo 1 12 (.idxS 9 11 (zi 0)),
 zo 2 13 (.conv 5 21 12),
 zm 3 2 13,
 zo 4 3 (.mv (zi 1))])
 (.ret))
 (.reg [zm 0 15 0,
 zo 1 16 (.call 102 [15]),
 zm 2 14 16,
 zo 3 17 (.ext 14 0),
 zo 4 18 (.ext 14 1),
 zm 5 2 17,
 zm 6 3 18])))
 (.ret)),
 [.tmp 2,.tmp 3]⟩
theorem p96u : PR Go.Proofs.Tryd.f96 = some v96u:=by kernel_rfl

def v98u : VFun :=
⟨.seq (.reg [zo 0 6 (.mv (zi 0)),
 zo 1 7 (.mv (.con .nilIface))])
 (.seq (.seq (.reg [zm 0 12 0,
 zo 1 13 (.bin .eql 9 true 12 (.con (.string ⟨#[]⟩)))])
 (.cond 13
 (.seq (.reg [zo 0 14 (.mkif 167 (zi 2)),
 zo 1 6 (.mv (zi 0)),
 zm 2 7 14])
 (.ret))
 (.skip)))
 (.seq (.reg [zo 0 8 (.mv (.con (.bool false)))])
 (.seq (.seq (.reg [zm 0 15 0,
 zo 1 16 (.idxS 9 15 (zi 0))])
 (.block 0
 (.seq (.reg [zo 0 18 (.bin .eql 5 true 16 (.con (.int .u8 43))),
 zm 1 17 18])
 (.cond 17
 (.reg [zm 0 19 0,
 zo 1 20 (.slS 9 19 (some (zi 1)) none),
 zm 2 0 20])
 (.seq (.reg [zo 0 22 (.bin .eql 5 true 16 (.con (.int .u8 45))),
 zm 1 21 22])
 (.cond 21
 (.seq (.reg [zm 0 23 0,
 zo 1 24 (.slS 9 23 (some (zi 1)) none),
 zm 2 0 24])
 (.reg [zo 0 8 (.mv (.con (.bool true)))]))
 (.skip)))))))
 (.seq (.reg [zo 0 9 (.mv (.con (.int .u64 0)))])
 (.seq (.reg [zm 0 26 0,
 zm 1 27 1,
 zm 2 28 2,
 zo 3 29 (.call 103 [26,27,28]),
 zm 4 25 29,
 zo 5 30 (.ext 25 0),
 zo 6 31 (.ext 25 1),
 zm 7 9 30,
 zm 8 7 31])
 (.seq (.seq (.reg [zm 0 32 7,
 zo 1 33 (.isnil 3 true 32),
 zm 2 34 33,
 zg 3 35 (.mv 7) 34 true,
 zg 4 36 (.mkif 167 (zi 1)) 34 true,
 zg 5 37 (.bin .neq 60 false 35 36) 34 true,
 zo 6 38 (.pick 34 37 (.con (.bool false)))])
 (.cond 38
 (.seq (.reg [zm 0 39 7,
 zo 1 6 (.mv (zi 0)),
 zm 2 7 39])
 (.ret))
 (.skip)))
 (.seq (.seq (.reg [zm 0 40 2,
 zo 1 41 (.bin .eql 3 true 40 (zi 0))])
 (.cond 41
 (.reg [zo 0 2 (.mv (zi 64))])
 (.skip)))
 (.seq (.reg [zm 0 42 2,
 zo 1 43 (.bin .sub 3 true 42 (zi 1)),
 zo 2 44 (.conv 3 44 43),
 zo 3 45 (.bin .shl 130 true (.con (.int .u64 1)) 44),
 zm 4 10 45])
 (.seq (.seq (.reg [zm 0 46 8,
 zo 1 47 (.un .not 46),
 zm 2 48 47,
 zg 3 49 (.mv 9) 48 true,
 zg 4 50 (.mv 10) 48 true,
 zg 5 51 (.bin .geq 130 false 49 50) 48 true,
 zo 6 52 (.pick 48 51 (.con (.bool false)))])
 (.cond 52
 (.seq (.reg [zm 0 53 10,
 zo 1 54 (.bin .sub 130 true 53 (.con (.int .u64 1))),
 zo 2 55 (.conv 130 2 54),
 zo 3 56 (.mkif 167 (zi 1)),
 zm 4 6 55,
 zm 5 7 56])
 (.ret))
 (.skip)))
 (.seq (.seq (.reg [zm 0 57 8,
 zm 1 58 57,
 zg 2 59 (.mv 9) 58 true,
 zg 3 60 (.mv 10) 58 true,
 zg 4 61 (.bin .gtr 130 false 59 60) 58 true,
 zo 5 62 (.pick 58 61 (.con (.bool false)))])
 (.cond 62
 (.seq (.reg [zm 0 63 10,
 zo 1 64 (.conv 130 2 63),
 zo 2 65 (.un .neg 64),
 zo 3 66 (.mkif 167 (zi 1)),
 zm 4 6 65,
 zm 5 7 66])
 (.ret))
 (.skip)))
 (.seq (.reg [zm 0 67 9,
 zo 1 68 (.conv 130 2 67),
 zm 2 11 68])
 (.seq (.seq (.reg [zm 0 69 8])
 (.cond 69
 (.reg [zm 0 70 11,
 zo 1 71 (.un .neg 70),
 zm 2 11 71])
 (.skip)))
 (.seq (.reg [zm 0 72 11,
 zm 1 6 72,
 zo 2 7 (.mv (.con .nilIface))])
 (.ret)))))))))))))),
 [.tmp 6,.tmp 7]⟩
theorem p98u : PR Go.Proofs.Tryd.f98 = some v98u:=by kernel_rfl

def v99u : VFun :=
⟨.seq (.reg [zo 0 10 (.mv (.con .nilIface))])
 (.seq (.seq (.reg [zm 0 11 4])
 (.block 0
 (.seq (.reg [zo 0 13 (.mkif 167 (zi 2)),
 zo 1 14 (.bin .eql 60 false 11 13),
 zm 2 12 14])
 (.cond 12
 (.seq (.reg [zm 0 15 0,
 zm 1 16 1,
 zo 2 17 (.call 104 [15,16]),
 zo 3 18 (.mkif 170 17),
 zm 4 10 18])
 (.ret))
 (.seq (.reg [zo 0 20 (.mkif 167 (zi 1)),
 zo 1 21 (.bin .eql 60 false 11 20),
 zm 2 19 21])
 (.cond 19
 (.seq (.reg [zm 0 22 0,
 zm 1 23 1,
 zo 2 24 (.call 105 [22,23]),
 zo 3 25 (.mkif 170 24),
 zm 4 10 25])
 (.ret))
 (.seq (.reg [zo 0 27 (.mkif 167 (zi 3)),
 zo 1 28 (.bin .eql 60 false 11 27),
 zm 2 26 28])
 (.cond 26
 (.seq (.reg [zm 0 29 0,
 zm 1 30 1,
 zm 2 31 2,
 zo 3 32 (.call 106 [29,30,31]),
 zo 4 33 (.mkif 170 32),
 zm 5 10 33])
 (.ret))
 (.seq (.reg [zo 0 35 (.mkif 167 (zi 4)),
 zo 1 36 (.bin .eql 60 false 11 35),
 zm 2 34 36])
 (.cond 34
 (.seq (.reg [zm 0 37 0,
 zm 1 38 1,
 zm 2 39 3,
 zo 3 40 (.call 107 [37,38,39]),
 zo 4 41 (.mkif 170 40),
 zm 5 10 41])
 (.ret))
 (.skip)))))))))))
 (.seq (.reg [zm 0 42 4,
 zm 1 10 42])
 (.ret))),
 [.tmp 10]⟩
theorem p99u : PR Go.Proofs.Tryd.f99 = some v99u:=by kernel_rfl

def v101u : VFun :=
⟨.seq (.reg [zo 0 2 (.mv (.con (.int .u32 0))),
 zo 1 3 (.mv (.con (.int .u32 0)))])
 (.seq (.reg [zo 0 4 (.mv (.con (.int .u32 0)))])
 (.seq (.seq (.reg [zo 0 5 (.mv (zi 0))])
 (.block 0
 (.loop
 (.seq (.seq (.reg [zm 0 9 5,
 zm 1 10 0,
 zo 2 11 (.bi .len [9] 3 [10]),
 zo 3 12 (.bin .lss 3 false 9 11)])
 (.cond 12
 (.skip)
 (.exit 0)))
 (.seq (.block 1
 (.reg [zm 0 15 4,
 zo 1 16 (.bin .mul 149 true 15 (.con (.int .u32 16777619))),
 zm 2 17 0,
 zm 3 18 5,
 zo 4 19 (.idxS 9 17 18),
 zo 5 20 (.conv 5 149 19),
 zo 6 21 (.bin .add 149 false 16 20),
 zm 7 4 21]))
 (.reg [zm 0 13 5,
 zo 1 14 (.bin .add 3 true 13 (zi 1)),
 zm 2 5 14]))))))
 (.seq (.reg [zo 0 6 (.mv (.con (.int .u32 1))),
 zo 1 7 (.mv (.con (.int .u32 16777619)))])
 (.seq (.seq (.reg [zm 0 22 0,
 zo 1 23 (.bi .len [9] 3 [22]),
 zm 2 8 23])
 (.block 2
 (.loop
 (.seq (.seq (.reg [zm 0 24 8,
 zo 1 25 (.bin .gtr 3 true 24 (zi 0))])
 (.cond 25
 (.skip)
 (.exit 2)))
 (.seq (.block 3
 (.seq (.seq (.reg [zm 0 28 8,
 zo 1 29 (.bin .and 3 true 28 (zi 1)),
 zo 2 30 (.bin .neq 3 true 29 (zi 0))])
 (.cond 30
 (.reg [zm 0 31 6,
 zm 1 32 7,
 zo 2 33 (.bin .mul 149 false 31 32),
 zm 3 6 33])
 (.skip)))
 (.reg [zm 0 34 7,
 zm 1 35 7,
 zo 2 36 (.bin .mul 149 false 34 35),
 zm 3 7 36])))
 (.reg [zm 0 26 8,
 zo 1 27 (.bin .shr 3 true 26 (.con (.int .u64 1))),
 zm 2 8 27]))))))
 (.seq (.reg [zm 0 37 4,
 zm 1 38 6,
 zm 2 2 37,
 zm 3 3 38])
 (.ret)))))),
 [.tmp 2,.tmp 3]⟩
theorem p101u : PR Go.Proofs.Tryd.f101 = some v101u:=by kernel_rfl

def v103u : VFun :=
⟨.seq (.reg [zo 0 6 (.mv (.con (.int .u64 0))),
 zo 1 7 (.mv (.con .nilIface))])
 (.seq (.seq (.reg [zm 0 18 0,
 zo 1 19 (.bin .eql 9 true 18 (.con (.string ⟨#[]⟩)))])
 (.cond 19
 (.seq (.reg [zo 0 20 (.mkif 167 (zi 2)),
 zo 1 6 (.mv (.con (.int .u64 0))),
 zm 2 7 20])
 (.ret))
 (.skip)))
 (.seq (.reg [zm 0 21 1,
 zo 1 22 (.bin .eql 3 true 21 (zi 0)),
 zm 2 8 22])
 (.seq (.reg [zm 0 23 0,
 zm 1 9 23])
 (.seq (.block 0
 (.seq (.reg [zm 0 26 1,
 zo 1 27 (.bin .leq 3 true (zi 2) 26),
 zm 2 28 27,
 zg 3 29 (.mv 1) 28 true,
 zg 4 30 (.bin .leq 3 true 29 (zi 36)) 28 true,
 zo 5 31 (.pick 28 30 (.con (.bool false))),
 zm 6 25 31])
 (.cond 25
 (.skip)
 (.seq (.reg [zm 0 33 1,
 zo 1 34 (.bin .eql 3 true 33 (zi 0)),
 zm 2 32 34])
 (.cond 32
 (.seq (.reg [zo 0 1 (.mv (zi 10))])
 (.seq (.reg [zm 0 35 0,
 zo 1 36 (.idxS 9 35 (zi 0)),
 zo 2 37 (.bin .eql 5 true 36 (.con (.int .u8 48)))])
 (.cond 37
 (.block 1
 (.seq (.reg [zm 0 41 0,
 zo 1 42 (.bi .len [9] 3 [41]),
 zo 2 43 (.bin .geq 3 true 42 (zi 3)),
 zm 3 44 43,
 zg 4 45 (.mv 0) 44 true,
 zg 5 46 (.idxS 9 45 (zi 1)) 44 true,
 zg 6 47 (.call 108 [46]) 44 true,
 zg 7 48 (.bin .eql 5 true 47 (.con (.int .u8 98))) 44 true,
 zo 8 49 (.pick 44 48 (.con (.bool false))),
 zm 9 40 49])
 (.cond 40
 (.seq (.reg [zo 0 1 (.mv (zi 2))])
 (.reg [zm 0 50 0,
 zo 1 51 (.slS 9 50 (some (zi 2)) none),
 zm 2 0 51]))
 (.seq (.reg [zm 0 53 0,
 zo 1 54 (.bi .len [9] 3 [53]),
 zo 2 55 (.bin .geq 3 true 54 (zi 3)),
 zm 3 56 55,
 zg 4 57 (.mv 0) 56 true,
 zg 5 58 (.idxS 9 57 (zi 1)) 56 true,
 zg 6 59 (.call 108 [58]) 56 true,
 zg 7 60 (.bin .eql 5 true 59 (.con (.int .u8 111))) 56 true,
 zo 8 61 (.pick 56 60 (.con (.bool false))),
 zm 9 52 61])
 (.cond 52
 (.seq (.reg [zo 0 1 (.mv (zi 8))])
 (.reg [zm 0 62 0,
 zo 1 63 (.slS 9 62 (some (zi 2)) none),
 zm 2 0 63]))
 (.seq (.reg [zm 0 65 0,
 zo 1 66 (.bi .len [9] 3 [65]),
 zo 2 67 (.bin .geq 3 true 66 (zi 3)),
 zm 3 68 67,
 zg 4 69 (.mv 0) 68 true,
 zg 5 70 (.idxS 9 69 (zi 1)) 68 true,
 zg 6 71 (.call 108 [70]) 68 true,
 zg 7 72 (.bin .eql 5 true 71 (.con (.int .u8 120))) 68 true,
 zo 8 73 (.pick 68 72 (.con (.bool false))),
 zm 9 64 73])
 (.cond 64
 (.seq (.reg [zo 0 1 (.mv (zi 16))])
 (.reg [zm 0 74 0,
 zo 1 75 (.slS 9 74 (some (zi 2)) none),
 zm 2 0 75]))
 (.seq (.reg [zo 0 1 (.mv (zi 8))])
 (.reg [zm 0 38 0,
 zo 1 39 (.slS 9 38 (some (zi 1)) none),
 zm 2 0 39])))))))))
 (.skip))))
 (.seq (.reg [zo 0 24 (.mkif 167 (zi 3)),
 zo 1 6 (.mv (.con (.int .u64 0))),
 zm 2 7 24])
 (.ret)))))))
 (.seq (.seq (.reg [zm 0 76 2,
 zo 1 77 (.bin .eql 3 true 76 (zi 0))])
 (.cond 77
 (.reg [zo 0 2 (.mv (zi 64))])
 (.seq (.reg [zm 0 78 2,
 zo 1 79 (.bin .lss 3 true 78 (zi 0)),
 zm 2 80 79,
 zg 3 81 (.mv 2) 80 false,
 zg 4 82 (.bin .gtr 3 true 81 (zi 64)) 80 false,
 zo 5 83 (.pick 80 (.con (.bool true)) 82)])
 (.cond 83
 (.seq (.reg [zo 0 84 (.mkif 167 (zi 4)),
 zo 1 6 (.mv (.con (.int .u64 0))),
 zm 2 7 84])
 (.ret))
 (.skip)))))
 (.seq (.reg [zo 0 10 (.mv (.con (.int .u64 0)))])
 (.seq (.seq (.reg [zm 0 85 1])
 (.block 2
 (.seq (.reg [zo 0 91 (.bin .eql 3 true 85 (zi 10)),
 zm 1 90 91])
 (.cond 90
 (.reg [zo 0 10 (.mv (.con (.int .u64 1844674407370955162)))])
 (.seq (.reg [zo 0 93 (.bin .eql 3 true 85 (zi 16)),
 zm 1 92 93])
 (.cond 92
 (.reg [zo 0 10 (.mv (.con (.int .u64 1152921504606846976)))])
 (.reg [zm 0 86 1,
 zo 1 87 (.conv 3 130 86),
 zo 2 88 (.bin .quo 130 true (.con (.int .u64 18446744073709551615)) 87),
 zo 3 89 (.bin .add 130 true 88 (.con (.int .u64 1))),
 zm 4 10 89])))))))
 (.seq (.reg [zm 0 94 2,
 zo 1 95 (.conv 3 44 94),
 zo 2 96 (.bin .shl 130 true (.con (.int .u64 1)) 95),
 zo 3 97 (.bin .sub 130 true 96 (.con (.int .u64 1))),
 zm 4 11 97])
 (.seq (.reg [zo 0 12 (.mv (.con (.bool false)))])
 (.seq (.reg [zo 0 13 (.mv (.con (.int .u64 0)))])
 (.seq (.seq (.reg [zm 0 98 0,
 zo 1 99 (.s2b 98),
 zo 2 100 (.len 99),
 zo 3 101 (.mv (zi 0))])
 (.block 3
 (.loop
 (.seq (.reg [zo 0 102 (.bin .lss 3 false 101 100)])
 (.seq (.cond 102
 (.skip)
 (.exit 3))
 (.seq (.block 4
 (.seq (.reg [zo 0 103 (.idxA none 1 99 101),
 zl 1 104 103,
 zm 2 15 104])
 (.seq (.reg [zo 0 16 (.mv (.con (.int .u8 0)))])
 (.seq (.block 5
 (.seq (.reg [zm 0 107 15,
 zo 1 108 (.bin .eql 5 true 107 (.con (.int .u8 95))),
 zm 2 109 108,
 zg 3 110 (.mv 8) 109 true,
 zo 4 111 (.pick 109 110 (.con (.bool false))),
 zm 5 106 111])
 (.cond 106
 (.seq (.reg [zo 0 12 (.mv (.con (.bool true)))])
 (.exit 4))
 (.seq (.reg [zm 0 113 15,
 zo 1 114 (.bin .leq 5 true (.con (.int .u8 48)) 113),
 zm 2 115 114,
 zg 3 116 (.mv 15) 115 true,
 zg 4 117 (.bin .leq 5 true 116 (.con (.int .u8 57))) 115 true,
 zo 5 118 (.pick 115 117 (.con (.bool false))),
 zm 6 112 118])
 (.cond 112
 (.reg [zm 0 119 15,
 zo 1 120 (.bin .sub 5 true 119 (.con (.int .u8 48))),
 zm 2 16 120])
 (.seq (.reg [zm 0 122 15,
 zo 1 123 (.call 108 [122]),
 zo 2 124 (.bin .leq 5 true (.con (.int .u8 97)) 123),
 zm 3 125 124,
 zg 4 126 (.mv 15) 125 true,
 zg 5 127 (.call 108 [126]) 125 true,
 zg 6 128 (.bin .leq 5 true 127 (.con (.int .u8 122))) 125 true,
 zo 7 129 (.pick 125 128 (.con (.bool false))),
 zm 8 121 129])
 (.cond 121
 (.reg [zm 0 130 15,
 zo 1 131 (.call 108 [130]),
 zo 2 132 (.bin .sub 5 true 131 (.con (.int .u8 97))),
 zo 3 133 (.bin .add 5 true 132 (.con (.int .u8 10))),
 zm 4 16 133])
 (.seq (.reg [zo 0 105 (.mkif 167 (zi 2)),
 zo 1 6 (.mv (.con (.int .u64 0))),
 zm 2 7 105])
 (.ret)))))))))
 (.seq (.seq (.reg [zm 0 134 16,
 zm 1 135 1,
 zo 2 136 (.conv 3 5 135),
 zo 3 137 (.bin .geq 5 false 134 136)])
 (.cond 137
 (.seq (.reg [zo 0 138 (.mkif 167 (zi 2)),
 zo 1 6 (.mv (.con (.int .u64 0))),
 zm 2 7 138])
 (.ret))
 (.skip)))
 (.seq (.seq (.reg [zm 0 139 13,
 zm 1 140 10,
 zo 2 141 (.bin .geq 130 false 139 140)])
 (.cond 141
 (.seq (.reg [zm 0 142 11,
 zo 1 143 (.mkif 167 (zi 1)),
 zm 2 6 142,
 zm 3 7 143])
 (.ret))
 (.skip)))
 (.seq (.reg [zm 0 144 13,
 zm 1 145 1,
 zo 2 146 (.conv 3 130 145),
 zo 3 147 (.bin .mul 130 false 144 146),
 zm 4 13 147])
 (.seq (.reg [zm 0 148 13,
 zm 1 149 16,
 zo 2 150 (.conv 5 130 149),
 zo 3 151 (.bin .add 130 false 148 150),
 zm 4 17 151])
 (.seq (.seq (.reg [zm 0 152 17,
 zm 1 153 13,
 zo 2 154 (.bin .lss 130 false 152 153),
 zm 3 155 154,
 zg 4 156 (.mv 17) 155 false,
 zg 5 157 (.mv 11) 155 false,
 zg 6 158 (.bin .gtr 130 false 156 157) 155 false,
 zo 7 159 (.pick 155 (.con (.bool true)) 158)])
 (.cond 159
 (.seq (.reg [zm 0 160 11,
 zo 1 161 (.mkif 167 (zi 1)),
 zm 2 6 160,
 zm 3 7 161])
 (.ret))
 (.skip)))
 (.reg [zm 0 162 17,
 zm 1 13 162]))))))))))
 (.reg [zo 0 163 (.bin .add 3 true 101 (zi 1)),
 zm 1 101 163])))))))
 (.seq (.seq (.reg [zm 0 164 12,
 zm 1 165 164,
 zg 2 166 (.mv 9) 165 true,
 zg 3 167 (.call 109 [166]) 165 true,
 zg 4 168 (.un .not 167) 165 true,
 zo 5 169 (.pick 165 168 (.con (.bool false)))])
 (.cond 169
 (.seq (.reg [zo 0 170 (.mkif 167 (zi 2)),
 zo 1 6 (.mv (.con (.int .u64 0))),
 zm 2 7 170])
 (.ret))
 (.skip)))
 (.seq (.reg [zm 0 171 13,
 zm 1 6 171,
 zo 2 7 (.mv (.con .nilIface))])
 (.ret)))))))))))))),
 [.tmp 6,.tmp 7]⟩
theorem p103u : PR Go.Proofs.Tryd.f103 = some v103u:=by kernel_rfl

def v104u : VFun :=
⟨.seq (.reg [zo 0 4 (.mv (.con (.pointer none)))])
 (.seq (.reg [zm 0 5 0,
 zm 1 6 1,
 zo 3 8 (.load none (.glo 4)),
 ⟨2,(some 7),.call 110 [6],none,[(.glo 4)]⟩,
 zo 4 9 (.build [(.string ⟨#[]⟩),(.string ⟨#[]⟩),.nilIface] [(0,1,5),(1,1,7),(2,1,8)]),
 zo 5 10 (.box 9),
 zm 6 4 10])
 (.ret)),
 [.tmp 4]⟩
theorem p104u : PR Go.Proofs.Tryd.f104 = some v104u:=by kernel_rfl

def v105u : VFun :=
⟨.seq (.reg [zo 0 4 (.mv (.con (.pointer none)))])
 (.seq (.reg [zm 0 5 0,
 zm 1 6 1,
 zo 3 8 (.load none (.glo 5)),
 ⟨2,(some 7),.call 110 [6],none,[(.glo 5)]⟩,
 zo 4 9 (.build [(.string ⟨#[]⟩),(.string ⟨#[]⟩),.nilIface] [(0,1,5),(1,1,7),(2,1,8)]),
 zo 5 10 (.box 9),
 zm 6 4 10])
 (.ret)),
 [.tmp 4]⟩
theorem p105u : PR Go.Proofs.Tryd.f105 = some v105u:=by kernel_rfl

def v106u : VFun :=
⟨.seq (.reg [zo 0 6 (.mv (.con (.pointer none)))])
 (.seq (.reg [zm 0 7 0,
 zm 1 8 1,
 zo 2 9 (.call 110 [8]),
 zm 3 10 2,
 zo 4 11 (.call 21 [10]),
 zo 5 12 (.bin .add 9 true (.con (.string ⟨#[105,110,118,97,108,105,100,32,98,97,115,101,32]⟩)) 11),
 zo 6 13 (.call 111 [12]),
 zo 7 14 (.build [(.string ⟨#[]⟩),(.string ⟨#[]⟩),.nilIface] [(0,1,7),(1,1,9),(2,1,13)]),
 zo 8 15 (.box 14),
 zm 9 6 15])
 (.ret)),
 [.tmp 6]⟩
theorem p106u : PR Go.Proofs.Tryd.f106 = some v106u:=by kernel_rfl

def v107u : VFun :=
⟨.seq (.reg [zo 0 6 (.mv (.con (.pointer none)))])
 (.seq (.reg [zm 0 7 0,
 zm 1 8 1,
 zo 2 9 (.call 110 [8]),
 zm 3 10 2,
 zo 4 11 (.call 21 [10]),
 zo 5 12 (.bin .add 9 true (.con (.string ⟨#[105,110,118,97,108,105,100,32,98,105,116,32,115,105,122,101,32]⟩)) 11),
 zo 6 13 (.call 111 [12]),
 zo 7 14 (.build [(.string ⟨#[]⟩),(.string ⟨#[]⟩),.nilIface] [(0,1,7),(1,1,9),(2,1,13)]),
 zo 8 15 (.box 14),
 zm 9 6 15])
 (.ret)),
 [.tmp 6]⟩
theorem p107u : PR Go.Proofs.Tryd.f107 = some v107u:=by kernel_rfl

def v108u : VFun :=
⟨.seq (.reg [zo 0 2 (.mv (.con (.int .u8 0)))])
 (.seq (.reg [zm 0 3 0,
 zo 1 4 (.bin .or 5 true 3 (.con (.int .u8 32))),
 zm 2 2 4])
 (.ret)),
 [.tmp 2]⟩
theorem p108u : PR Go.Proofs.Tryd.f108 = some v108u:=by kernel_rfl

def v109u : VFun :=
⟨.seq (.reg [zo 0 2 (.mv (.con (.bool false)))])
 (.seq (.reg [zo 0 3 (.mv (.con (.int .i32 94)))])
 (.seq (.reg [zo 0 4 (.mv (zi 0))])
 (.seq (.seq (.reg [zm 0 6 0,
 zo 1 7 (.bi .len [9] 3 [6]),
 zo 2 8 (.bin .geq 3 true 7 (zi 1)),
 zm 3 9 8,
 zg 4 10 (.mv 0) 9 true,
 zg 5 11 (.idxS 9 10 (zi 0)) 9 true,
 zg 6 12 (.bin .eql 5 true 11 (.con (.int .u8 45))) 9 true,
 zg 7 13 (.mv 12) 9 true,
 zg 8 14 (.mv 0) 13 false,
 zg 9 15 (.idxS 9 14 (zi 0)) 13 false,
 zg 10 16 (.bin .eql 5 true 15 (.con (.int .u8 43))) 13 false,
 zg 11 17 (.pick 13 (.con (.bool true)) 16) 9 true,
 zo 12 18 (.pick 9 17 (.con (.bool false)))])
 (.cond 18
 (.reg [zm 0 19 0,
 zo 1 20 (.slS 9 19 (some (zi 1)) none),
 zm 2 0 20])
 (.skip)))
 (.seq (.reg [zo 0 5 (.mv (.con (.bool false)))])
 (.seq (.seq (.reg [zm 0 21 0,
 zo 1 22 (.bi .len [9] 3 [21]),
 zo 2 23 (.bin .geq 3 true 22 (zi 2)),
 zm 3 24 23,
 zg 4 25 (.mv 0) 24 true,
 zg 5 26 (.idxS 9 25 (zi 0)) 24 true,
 zg 6 27 (.bin .eql 5 true 26 (.con (.int .u8 48))) 24 true,
 zo 7 28 (.pick 24 27 (.con (.bool false))),
 zm 8 29 28,
 zg 9 30 (.mv 0) 29 true,
 zg 10 31 (.idxS 9 30 (zi 1)) 29 true,
 zg 11 32 (.call 108 [31]) 29 true,
 zg 12 33 (.bin .eql 5 true 32 (.con (.int .u8 98))) 29 true,
 zg 13 34 (.mv 33) 29 true,
 zg 14 35 (.mv 0) 34 false,
 zg 15 36 (.idxS 9 35 (zi 1)) 34 false,
 zg 16 37 (.call 108 [36]) 34 false,
 zg 17 38 (.bin .eql 5 true 37 (.con (.int .u8 111))) 34 false,
 zg 18 39 (.pick 34 (.con (.bool true)) 38) 29 true,
 zg 19 40 (.mv 39) 29 true,
 zg 20 41 (.mv 0) 40 false,
 zg 21 42 (.idxS 9 41 (zi 1)) 40 false,
 zg 22 43 (.call 108 [42]) 40 false,
 zg 23 44 (.bin .eql 5 true 43 (.con (.int .u8 120))) 40 false,
 zg 24 45 (.pick 40 (.con (.bool true)) 44) 29 true,
 zo 25 46 (.pick 29 45 (.con (.bool false)))])
 (.cond 46
 (.seq (.reg [zo 0 4 (.mv (zi 2))])
 (.seq (.reg [zo 0 3 (.mv (.con (.int .i32 48)))])
 (.reg [zm 0 47 0,
 zo 1 48 (.idxS 9 47 (zi 1)),
 zo 2 49 (.call 108 [48]),
 zo 3 50 (.bin .eql 5 true 49 (.con (.int .u8 120))),
 zm 4 5 50])))
 (.skip)))
 (.seq (.block 0
 (.loop
 (.seq (.seq (.reg [zm 0 51 4,
 zm 1 52 0,
 zo 2 53 (.bi .len [9] 3 [52]),
 zo 3 54 (.bin .lss 3 false 51 53)])
 (.cond 54
 (.skip)
 (.exit 0)))
 (.seq (.block 1
 (.seq (.seq (.reg [zm 0 57 0,
 zm 1 58 4,
 zo 2 59 (.idxS 9 57 58),
 zo 3 60 (.bin .leq 5 true (.con (.int .u8 48)) 59),
 zm 4 61 60,
 zg 5 62 (.mv 0) 61 true,
 zg 6 63 (.mv 4) 61 true,
 zg 7 64 (.idxS 9 62 63) 61 true,
 zg 8 65 (.bin .leq 5 true 64 (.con (.int .u8 57))) 61 true,
 zo 9 66 (.pick 61 65 (.con (.bool false))),
 zm 10 67 66,
 zg 11 68 (.mv 5) 67 false,
 zg 12 69 (.mv 68) 67 false,
 zg 13 70 (.mv 0) 69 true,
 zg 14 71 (.mv 4) 69 true,
 zg 15 72 (.idxS 9 70 71) 69 true,
 zg 16 73 (.call 108 [72]) 69 true,
 zg 17 74 (.bin .leq 5 true (.con (.int .u8 97)) 73) 69 true,
 zg 18 75 (.pick 69 74 (.con (.bool false))) 67 false,
 zg 19 76 (.mv 75) 67 false,
 zg 20 77 (.mv 0) 76 true,
 zg 21 78 (.mv 4) 76 true,
 zg 22 79 (.idxS 9 77 78) 76 true,
 zg 23 80 (.call 108 [79]) 76 true,
 zg 24 81 (.bin .leq 5 true 80 (.con (.int .u8 102))) 76 true,
 zg 25 82 (.pick 76 81 (.con (.bool false))) 67 false,
 zo 26 83 (.pick 67 (.con (.bool true)) 82)])
 (.cond 83
 (.seq (.reg [zo 0 3 (.mv (.con (.int .i32 48)))])
 (.exit 1))
 (.skip)))
 (.seq (.seq (.reg [zm 0 84 0,
 zm 1 85 4,
 zo 2 86 (.idxS 9 84 85),
 zo 3 87 (.bin .eql 5 true 86 (.con (.int .u8 95)))])
 (.cond 87
 (.seq (.seq (.reg [zm 0 88 3,
 zo 1 89 (.bin .neq 21 true 88 (.con (.int .i32 48)))])
 (.cond 89
 (.seq (.reg [zo 0 2 (.mv (.con (.bool false)))])
 (.ret))
 (.skip)))
 (.seq (.reg [zo 0 3 (.mv (.con (.int .i32 95)))])
 (.exit 1)))
 (.skip)))
 (.seq (.seq (.reg [zm 0 90 3,
 zo 1 91 (.bin .eql 21 true 90 (.con (.int .i32 95)))])
 (.cond 91
 (.seq (.reg [zo 0 2 (.mv (.con (.bool false)))])
 (.ret))
 (.skip)))
 (.reg [zo 0 3 (.mv (.con (.int .i32 33)))])))))
 (.reg [zm 0 55 4,
 zo 1 56 (.bin .add 3 true 55 (zi 1)),
 zm 2 4 56])))))
 (.seq (.reg [zm 0 92 3,
 zo 1 93 (.bin .neq 21 true 92 (.con (.int .i32 95))),
 zm 2 2 93])
 (.ret)))))))),
 [.tmp 2]⟩
theorem p109u : PR Go.Proofs.Tryd.f109 = some v109u:=by kernel_rfl

def v111u : VFun :=
⟨.seq (.reg [zo 0 2 (.mv (.con .nilIface))])
 (.seq (.reg [zm 0 3 0,
 zo 1 4 (.build [(.string ⟨#[]⟩)] [(0,1,3)]),
 zo 2 5 (.box 4),
 zo 3 6 (.mkif 182 5),
 zm 4 2 6])
 (.ret)),
 [.tmp 2]⟩
theorem p111u : PR Go.Proofs.Tryd.f111 = some v111u:=by kernel_rfl

end Go.VX.Seat
end
section
set_option maxRecDepth 20000
namespace Go.VX.Seat
abbrev FK (n : FuncId) (v : VFun) : Prop:=FunOk Go.Proofs.Tryd.prog [1,0,2,3,8,9] n v
def fns : List (Nat × VFun):=[(4,v_l07_CodeString),(9,v_code_Text),(10,v_code_Check),(11,v11u),(12,v_code_Parse),(20,v20u),(21,v21u),(22,v_code_opText),(23,v_code_endText),(26,v_code_lines_unit),(34,v_code_within),(38,v38u),(39,v_code_of),(40,v_code_Read),(41,v_word_Show),(43,v_code_checker_unit),(44,v_code_lines_peek),(45,v_code_headed),(46,v_code_lines_take),(47,v_code_lines_block),(52,v52u),(53,v53u),(54,v_code_checker_must),(55,v_slices_ContainsFunc_int),(56,v_code_checker_unit_c1),(57,v_code_checker_op),(58,v_code_checker_end),(59,v_strings_Cut),(60,v_strings_Split),(61,v_code_numbers),(62,v_strings_CutPrefix),(63,v_code_readEnd),(64,v_code_readOp),(66,v66u),(67,v67u),(68,v68u),(69,v69u),(70,v_slices_IndexFunc_int),(71,v_code_checker_reg),(72,v_internal_stringslite_Cut),(73,v_strings_genSplit),(74,v_word_Read),(75,v_internal_stringslite_CutPrefix),(76,v_slices_IndexFunc_form),(77,v_code_readOp_c1),(78,v78u),(79,v79u),(80,v80u),(81,v81u),(82,v82u),(83,v_internal_stringslite_Index),(84,v84u),(85,v_strings_Count),(86,v_strings_Index),(87,v87u),(88,v_internal_stringslite_HasPrefix),(91,v_internal_stringslite_IndexByte),(93,v93u),(94,v94u),(96,v96u),(98,v98u),(99,v99u),(101,v101u),(103,v103u),(104,v104u),(105,v105u),(106,v106u),(107,v107u),(108,v108u),(109,v109u),(111,v111u)]
def fnOf1 (f : FuncId) : Option VFun:=match f with
  | 80=>some v80u
  | 81=>some v81u
  | 82=>some v82u
  | 83=>some v_internal_stringslite_Index
  | 84=>some v84u
  | 85=>some v_strings_Count
  | 86=>some v_strings_Index
  | 87=>some v87u
  | 88=>some v_internal_stringslite_HasPrefix
  | 91=>some v_internal_stringslite_IndexByte
  | 93=>some v93u
  | 94=>some v94u
  | 96=>some v96u
  | 98=>some v98u
  | 99=>some v99u
  | 101=>some v101u
  | 103=>some v103u
  | 104=>some v104u
  | 105=>some v105u
  | 106=>some v106u
  | 107=>some v107u
  | 108=>some v108u
  | 109=>some v109u
  | 111=>some v111u
  | _=>none
def fnOf (f : FuncId) : Option VFun:=match f with
  | 4=>some v_l07_CodeString
  | 9=>some v_code_Text
  | 10=>some v_code_Check
  | 11=>some v11u
  | 12=>some v_code_Parse
  | 20=>some v20u
  | 21=>some v21u
  | 22=>some v_code_opText
  | 23=>some v_code_endText
  | 26=>some v_code_lines_unit
  | 34=>some v_code_within
  | 38=>some v38u
  | 39=>some v_code_of
  | 40=>some v_code_Read
  | 41=>some v_word_Show
  | 43=>some v_code_checker_unit
  | 44=>some v_code_lines_peek
  | 45=>some v_code_headed
  | 46=>some v_code_lines_take
  | 47=>some v_code_lines_block
  | 52=>some v52u
  | 53=>some v53u
  | 54=>some v_code_checker_must
  | 55=>some v_slices_ContainsFunc_int
  | 56=>some v_code_checker_unit_c1
  | 57=>some v_code_checker_op
  | 58=>some v_code_checker_end
  | 59=>some v_strings_Cut
  | 60=>some v_strings_Split
  | 61=>some v_code_numbers
  | 62=>some v_strings_CutPrefix
  | 63=>some v_code_readEnd
  | 64=>some v_code_readOp
  | 66=>some v66u
  | 67=>some v67u
  | 68=>some v68u
  | 69=>some v69u
  | 70=>some v_slices_IndexFunc_int
  | 71=>some v_code_checker_reg
  | 72=>some v_internal_stringslite_Cut
  | 73=>some v_strings_genSplit
  | 74=>some v_word_Read
  | 75=>some v_internal_stringslite_CutPrefix
  | 76=>some v_slices_IndexFunc_form
  | 77=>some v_code_readOp_c1
  | 78=>some v78u
  | 79=>some v79u
  | f=>fnOf1 f
theorem o_l07_CodeString : FK 4 v_l07_CodeString:=⟨⟨Go.Proofs.Tryd.f4,_,by kernel_rfl,rfl,by kernel_rfl,p_l07_CodeString⟩⟩
theorem o_code_Text : FK 9 v_code_Text:=⟨⟨Go.Proofs.Tryd.f9,_,by kernel_rfl,rfl,by kernel_rfl,p_code_Text⟩⟩
theorem o_code_Check : FK 10 v_code_Check:=⟨⟨Go.Proofs.Tryd.f10,_,by kernel_rfl,rfl,by kernel_rfl,p_code_Check⟩⟩
theorem o11u : FK 11 v11u:=⟨⟨Go.Proofs.Tryd.f11,_,by kernel_rfl,rfl,by kernel_rfl,p11u⟩⟩
theorem o_code_Parse : FK 12 v_code_Parse:=⟨⟨Go.Proofs.Tryd.f12,_,by kernel_rfl,rfl,by kernel_rfl,p_code_Parse⟩⟩
theorem o20u : FK 20 v20u:=⟨⟨Go.Proofs.Tryd.f20,_,by kernel_rfl,rfl,by kernel_rfl,p20u⟩⟩
theorem o21u : FK 21 v21u:=⟨⟨Go.Proofs.Tryd.f21,_,by kernel_rfl,rfl,by kernel_rfl,p21u⟩⟩
theorem o_code_opText : FK 22 v_code_opText:=⟨⟨Go.Proofs.Tryd.f22,_,by kernel_rfl,rfl,by kernel_rfl,p_code_opText⟩⟩
theorem o_code_endText : FK 23 v_code_endText:=⟨⟨Go.Proofs.Tryd.f23,_,by kernel_rfl,rfl,by kernel_rfl,p_code_endText⟩⟩
theorem o_code_lines_unit : FK 26 v_code_lines_unit:=⟨⟨Go.Proofs.Tryd.f26,_,by kernel_rfl,rfl,by kernel_rfl,p_code_lines_unit⟩⟩
theorem o_code_within : FK 34 v_code_within:=⟨⟨Go.Proofs.Tryd.f34,_,by kernel_rfl,rfl,by kernel_rfl,p_code_within⟩⟩
theorem o38u : FK 38 v38u:=⟨⟨Go.Proofs.Tryd.f38,_,by kernel_rfl,rfl,by kernel_rfl,p38u⟩⟩
theorem o_code_of : FK 39 v_code_of:=⟨⟨Go.Proofs.Tryd.f39,_,by kernel_rfl,rfl,by kernel_rfl,p_code_of⟩⟩
theorem o_code_Read : FK 40 v_code_Read:=⟨⟨Go.Proofs.Tryd.f40,_,by kernel_rfl,rfl,by kernel_rfl,p_code_Read⟩⟩
theorem o_word_Show : FK 41 v_word_Show:=⟨⟨Go.Proofs.Tryd.f41,_,by kernel_rfl,rfl,by kernel_rfl,p_word_Show⟩⟩
theorem o_code_checker_unit : FK 43 v_code_checker_unit:=⟨⟨Go.Proofs.Tryd.f43,_,by kernel_rfl,rfl,by kernel_rfl,p_code_checker_unit⟩⟩
theorem o_code_lines_peek : FK 44 v_code_lines_peek:=⟨⟨Go.Proofs.Tryd.f44,_,by kernel_rfl,rfl,by kernel_rfl,p_code_lines_peek⟩⟩
theorem o_code_headed : FK 45 v_code_headed:=⟨⟨Go.Proofs.Tryd.f45,_,by kernel_rfl,rfl,by kernel_rfl,p_code_headed⟩⟩
theorem o_code_lines_take : FK 46 v_code_lines_take:=⟨⟨Go.Proofs.Tryd.f46,_,by kernel_rfl,rfl,by kernel_rfl,p_code_lines_take⟩⟩
theorem o_code_lines_block : FK 47 v_code_lines_block:=⟨⟨Go.Proofs.Tryd.f47,_,by kernel_rfl,rfl,by kernel_rfl,p_code_lines_block⟩⟩
theorem o52u : FK 52 v52u:=⟨⟨Go.Proofs.Tryd.f52,_,by kernel_rfl,rfl,by kernel_rfl,p52u⟩⟩
theorem o53u : FK 53 v53u:=⟨⟨Go.Proofs.Tryd.f53,_,by kernel_rfl,rfl,by kernel_rfl,p53u⟩⟩
theorem o_code_checker_must : FK 54 v_code_checker_must:=⟨⟨Go.Proofs.Tryd.f54,_,by kernel_rfl,rfl,by kernel_rfl,p_code_checker_must⟩⟩
theorem o_slices_ContainsFunc_int : FK 55 v_slices_ContainsFunc_int:=⟨⟨Go.Proofs.Tryd.f55,_,by kernel_rfl,rfl,by kernel_rfl,p_slices_ContainsFunc_int⟩⟩
theorem o_code_checker_unit_c1 : FK 56 v_code_checker_unit_c1:=⟨⟨Go.Proofs.Tryd.f56,_,by kernel_rfl,rfl,by kernel_rfl,p_code_checker_unit_c1⟩⟩
theorem o_code_checker_op : FK 57 v_code_checker_op:=⟨⟨Go.Proofs.Tryd.f57,_,by kernel_rfl,rfl,by kernel_rfl,p_code_checker_op⟩⟩
theorem o_code_checker_end : FK 58 v_code_checker_end:=⟨⟨Go.Proofs.Tryd.f58,_,by kernel_rfl,rfl,by kernel_rfl,p_code_checker_end⟩⟩
theorem o_strings_Cut : FK 59 v_strings_Cut:=⟨⟨Go.Proofs.Tryd.f59,_,by kernel_rfl,rfl,by kernel_rfl,p_strings_Cut⟩⟩
theorem o_strings_Split : FK 60 v_strings_Split:=⟨⟨Go.Proofs.Tryd.f60,_,by kernel_rfl,rfl,by kernel_rfl,p_strings_Split⟩⟩
theorem o_code_numbers : FK 61 v_code_numbers:=⟨⟨Go.Proofs.Tryd.f61,_,by kernel_rfl,rfl,by kernel_rfl,p_code_numbers⟩⟩
theorem o_strings_CutPrefix : FK 62 v_strings_CutPrefix:=⟨⟨Go.Proofs.Tryd.f62,_,by kernel_rfl,rfl,by kernel_rfl,p_strings_CutPrefix⟩⟩
theorem o_code_readEnd : FK 63 v_code_readEnd:=⟨⟨Go.Proofs.Tryd.f63,_,by kernel_rfl,rfl,by kernel_rfl,p_code_readEnd⟩⟩
theorem o_code_readOp : FK 64 v_code_readOp:=⟨⟨Go.Proofs.Tryd.f64,_,by kernel_rfl,rfl,by kernel_rfl,p_code_readOp⟩⟩
theorem o66u : FK 66 v66u:=⟨⟨Go.Proofs.Tryd.f66,_,by kernel_rfl,rfl,by kernel_rfl,p66u⟩⟩
theorem o67u : FK 67 v67u:=⟨⟨Go.Proofs.Tryd.f67,_,by kernel_rfl,rfl,by kernel_rfl,p67u⟩⟩
theorem o68u : FK 68 v68u:=⟨⟨Go.Proofs.Tryd.f68,_,by kernel_rfl,rfl,by kernel_rfl,p68u⟩⟩
theorem o69u : FK 69 v69u:=⟨⟨Go.Proofs.Tryd.f69,_,by kernel_rfl,rfl,by kernel_rfl,p69u⟩⟩
theorem o_slices_IndexFunc_int : FK 70 v_slices_IndexFunc_int:=⟨⟨Go.Proofs.Tryd.f70,_,by kernel_rfl,rfl,by kernel_rfl,p_slices_IndexFunc_int⟩⟩
theorem o_code_checker_reg : FK 71 v_code_checker_reg:=⟨⟨Go.Proofs.Tryd.f71,_,by kernel_rfl,rfl,by kernel_rfl,p_code_checker_reg⟩⟩
theorem o_internal_stringslite_Cut : FK 72 v_internal_stringslite_Cut:=⟨⟨Go.Proofs.Tryd.f72,_,by kernel_rfl,rfl,by kernel_rfl,p_internal_stringslite_Cut⟩⟩
theorem o_strings_genSplit : FK 73 v_strings_genSplit:=⟨⟨Go.Proofs.Tryd.f73,_,by kernel_rfl,rfl,by kernel_rfl,p_strings_genSplit⟩⟩
theorem o_word_Read : FK 74 v_word_Read:=⟨⟨Go.Proofs.Tryd.f74,_,by kernel_rfl,rfl,by kernel_rfl,p_word_Read⟩⟩
theorem o_internal_stringslite_CutPrefix : FK 75 v_internal_stringslite_CutPrefix:=⟨⟨Go.Proofs.Tryd.f75,_,by kernel_rfl,rfl,by kernel_rfl,p_internal_stringslite_CutPrefix⟩⟩
theorem o_slices_IndexFunc_form : FK 76 v_slices_IndexFunc_form:=⟨⟨Go.Proofs.Tryd.f76,_,by kernel_rfl,rfl,by kernel_rfl,p_slices_IndexFunc_form⟩⟩
theorem o_code_readOp_c1 : FK 77 v_code_readOp_c1:=⟨⟨Go.Proofs.Tryd.f77,_,by kernel_rfl,rfl,by kernel_rfl,p_code_readOp_c1⟩⟩
theorem o78u : FK 78 v78u:=⟨⟨Go.Proofs.Tryd.f78,_,by kernel_rfl,rfl,by kernel_rfl,p78u⟩⟩
theorem o79u : FK 79 v79u:=⟨⟨Go.Proofs.Tryd.f79,_,by kernel_rfl,rfl,by kernel_rfl,p79u⟩⟩
theorem o80u : FK 80 v80u:=⟨⟨Go.Proofs.Tryd.f80,_,by kernel_rfl,rfl,by kernel_rfl,p80u⟩⟩
theorem o81u : FK 81 v81u:=⟨⟨Go.Proofs.Tryd.f81,_,by kernel_rfl,rfl,by kernel_rfl,p81u⟩⟩
theorem o82u : FK 82 v82u:=⟨⟨Go.Proofs.Tryd.f82,_,by kernel_rfl,rfl,by kernel_rfl,p82u⟩⟩
theorem o_internal_stringslite_Index : FK 83 v_internal_stringslite_Index:=⟨⟨Go.Proofs.Tryd.f83,_,by kernel_rfl,rfl,by kernel_rfl,p_internal_stringslite_Index⟩⟩
theorem o84u : FK 84 v84u:=⟨⟨Go.Proofs.Tryd.f84,_,by kernel_rfl,rfl,by kernel_rfl,p84u⟩⟩
theorem o_strings_Count : FK 85 v_strings_Count:=⟨⟨Go.Proofs.Tryd.f85,_,by kernel_rfl,rfl,by kernel_rfl,p_strings_Count⟩⟩
theorem o_strings_Index : FK 86 v_strings_Index:=⟨⟨Go.Proofs.Tryd.f86,_,by kernel_rfl,rfl,by kernel_rfl,p_strings_Index⟩⟩
theorem o87u : FK 87 v87u:=⟨⟨Go.Proofs.Tryd.f87,_,by kernel_rfl,rfl,by kernel_rfl,p87u⟩⟩
theorem o_internal_stringslite_HasPrefix : FK 88 v_internal_stringslite_HasPrefix:=⟨⟨Go.Proofs.Tryd.f88,_,by kernel_rfl,rfl,by kernel_rfl,p_internal_stringslite_HasPrefix⟩⟩
theorem o_internal_stringslite_IndexByte : FK 91 v_internal_stringslite_IndexByte:=⟨⟨Go.Proofs.Tryd.f91,_,by kernel_rfl,rfl,by kernel_rfl,p_internal_stringslite_IndexByte⟩⟩
theorem o93u : FK 93 v93u:=⟨⟨Go.Proofs.Tryd.f93,_,by kernel_rfl,rfl,by kernel_rfl,p93u⟩⟩
theorem o94u : FK 94 v94u:=⟨⟨Go.Proofs.Tryd.f94,_,by kernel_rfl,rfl,by kernel_rfl,p94u⟩⟩
theorem o96u : FK 96 v96u:=⟨⟨Go.Proofs.Tryd.f96,_,by kernel_rfl,rfl,by kernel_rfl,p96u⟩⟩
theorem o98u : FK 98 v98u:=⟨⟨Go.Proofs.Tryd.f98,_,by kernel_rfl,rfl,by kernel_rfl,p98u⟩⟩
theorem o99u : FK 99 v99u:=⟨⟨Go.Proofs.Tryd.f99,_,by kernel_rfl,rfl,by kernel_rfl,p99u⟩⟩
theorem o101u : FK 101 v101u:=⟨⟨Go.Proofs.Tryd.f101,_,by kernel_rfl,rfl,by kernel_rfl,p101u⟩⟩
theorem o103u : FK 103 v103u:=⟨⟨Go.Proofs.Tryd.f103,_,by kernel_rfl,rfl,by kernel_rfl,p103u⟩⟩
theorem o104u : FK 104 v104u:=⟨⟨Go.Proofs.Tryd.f104,_,by kernel_rfl,rfl,by kernel_rfl,p104u⟩⟩
theorem o105u : FK 105 v105u:=⟨⟨Go.Proofs.Tryd.f105,_,by kernel_rfl,rfl,by kernel_rfl,p105u⟩⟩
theorem o106u : FK 106 v106u:=⟨⟨Go.Proofs.Tryd.f106,_,by kernel_rfl,rfl,by kernel_rfl,p106u⟩⟩
theorem o107u : FK 107 v107u:=⟨⟨Go.Proofs.Tryd.f107,_,by kernel_rfl,rfl,by kernel_rfl,p107u⟩⟩
theorem o108u : FK 108 v108u:=⟨⟨Go.Proofs.Tryd.f108,_,by kernel_rfl,rfl,by kernel_rfl,p108u⟩⟩
theorem o109u : FK 109 v109u:=⟨⟨Go.Proofs.Tryd.f109,_,by kernel_rfl,rfl,by kernel_rfl,p109u⟩⟩
theorem o111u : FK 111 v111u:=⟨⟨Go.Proofs.Tryd.f111,_,by kernel_rfl,rfl,by kernel_rfl,p111u⟩⟩
theorem fn_ok1 (f : FuncId) (fn : VFun) (h : fnOf1 f = some fn) : FunOk Go.Proofs.Tryd.prog [1,0,2,3,8,9] f fn:=by
  unfold fnOf1 at h
  split at h
  · cases h; exact o80u
  · cases h; exact o81u
  · cases h; exact o82u
  · cases h; exact o_internal_stringslite_Index
  · cases h; exact o84u
  · cases h; exact o_strings_Count
  · cases h; exact o_strings_Index
  · cases h; exact o87u
  · cases h; exact o_internal_stringslite_HasPrefix
  · cases h; exact o_internal_stringslite_IndexByte
  · cases h; exact o93u
  · cases h; exact o94u
  · cases h; exact o96u
  · cases h; exact o98u
  · cases h; exact o99u
  · cases h; exact o101u
  · cases h; exact o103u
  · cases h; exact o104u
  · cases h; exact o105u
  · cases h; exact o106u
  · cases h; exact o107u
  · cases h; exact o108u
  · cases h; exact o109u
  · cases h; exact o111u
  · cases h
theorem fn_ok (f : FuncId) (fn : VFun) (h : fnOf f = some fn) : FunOk Go.Proofs.Tryd.prog [1,0,2,3,8,9] f fn:=by
  unfold fnOf at h
  split at h
  · cases h; exact o_l07_CodeString
  · cases h; exact o_code_Text
  · cases h; exact o_code_Check
  · cases h; exact o11u
  · cases h; exact o_code_Parse
  · cases h; exact o20u
  · cases h; exact o21u
  · cases h; exact o_code_opText
  · cases h; exact o_code_endText
  · cases h; exact o_code_lines_unit
  · cases h; exact o_code_within
  · cases h; exact o38u
  · cases h; exact o_code_of
  · cases h; exact o_code_Read
  · cases h; exact o_word_Show
  · cases h; exact o_code_checker_unit
  · cases h; exact o_code_lines_peek
  · cases h; exact o_code_headed
  · cases h; exact o_code_lines_take
  · cases h; exact o_code_lines_block
  · cases h; exact o52u
  · cases h; exact o53u
  · cases h; exact o_code_checker_must
  · cases h; exact o_slices_ContainsFunc_int
  · cases h; exact o_code_checker_unit_c1
  · cases h; exact o_code_checker_op
  · cases h; exact o_code_checker_end
  · cases h; exact o_strings_Cut
  · cases h; exact o_strings_Split
  · cases h; exact o_code_numbers
  · cases h; exact o_strings_CutPrefix
  · cases h; exact o_code_readEnd
  · cases h; exact o_code_readOp
  · cases h; exact o66u
  · cases h; exact o67u
  · cases h; exact o68u
  · cases h; exact o69u
  · cases h; exact o_slices_IndexFunc_int
  · cases h; exact o_code_checker_reg
  · cases h; exact o_internal_stringslite_Cut
  · cases h; exact o_strings_genSplit
  · cases h; exact o_word_Read
  · cases h; exact o_internal_stringslite_CutPrefix
  · cases h; exact o_slices_IndexFunc_form
  · cases h; exact o_code_readOp_c1
  · cases h; exact o78u
  · cases h; exact o79u
  · exact fn_ok1 _ fn h
structure On (X : Cx) : Prop where
  F : X.F = fnOf
  P : X.P = Go.Proofs.Tryd.prog
end Go.VX.Seat
end
section
namespace Go.VX.Seat
def oneK (k : Int) : Bool:=decide (1≤k) && decide (k≤25)
def hasDst (k : Int) : Bool:=decide (k≠17) && decide (k≠19) && decide (k≠20) && decide (k≠21) && decide (k≠22)
def hasA (k : Int) : Bool:=decide (k≠1) && decide (k≠18)
def hasB (k : Int) : Bool:=decide (3≤k) && decide (k≤15) || decide (k = 17) || decide (k = 23) || decide (k = 24)
def hasC (k : Int) : Bool:=decide (k = 12)
def arrK (k : Int) : Bool:=decide (k = 16) || decide (k = 17) || decide (k = 25)
def cellK (k : Int) : Bool:=decide (k = 18) || decide (k = 19)
def endA (k : Int) : Bool:=decide (k≠1)
def endTo (k : Int) : Bool:=decide (k = 1) || decide (k = 2)
def endElse (k : Int) : Bool:=decide (k = 2)
section
variable {X : Cx} {st : St}
end
end Go.VX.Seat
end
section
namespace Go.VX.Seat
def regOkA (regs r : Int) : Bool:=decide (0≤r) && decide (r < regs)
section
variable {X : Cx} {st : St}
def hasN (k : Int) : Bool:=decide (k = 1) || arrK k || cellK k || decide (k = 21)
def manyOf (ns nb : Nat) (spill k : Int) : Int:=if arrK k then ns else if cellK k then spill else if decide (k = 21) then nb else -1
def opErr (ns nb : Nat) (regs spill k d a b c n g : Int) : Int :=
  if oneK k = false then 4 else
  if (hasDst k && !regOkA regs d) || (hasA k && !regOkA regs a) || (hasB k && !regOkA regs b) || (hasC k && !regOkA regs c) then 2 else
  if decide (g≠-1) && !regOkA regs g then 2 else
  if decide (0≤manyOf ns nb spill k) && (decide (n < 0) || decide (manyOf ns nb spill k≤n)) then 5 else
  if (!hasDst k && decide (d≠0)) || (!hasA k && decide (a≠0)) || (!hasB k && decide (b≠0)) || (!hasC k && decide (c≠0)) then 4 else
  if !hasN k && decide (n≠0) then 4 else 0
end
end Go.VX.Seat
end
section
set_option maxRecDepth 4000
namespace Go.VX.Seat
def endErr (nb : Nat) (regs k a t e : Int) : Int :=
  if decide (k < 1) || decide (4 < k) then 4 else
  if endA k && !regOkA regs a then 2 else
  if (endTo k && !regOkA nb t) || (endElse k && !regOkA nb e) then 5 else
  if (!endA k && decide (a≠0)) || (!endTo k && decide (t≠0)) || (!endElse k && decide (e≠0)) then 4 else 0
section
variable {X : Cx} {st : St}
end
end Go.VX.Seat
end
section
set_option maxRecDepth 4000
namespace Go.VX.Seat
open Go.Proofs
structure OpV where
  k : Int
  d : Int
  a : Int
  b : Int
  c : Int
  n : Int
  g : Int
  deriving DecidableEq
structure EndV where
  k : Int
  a : Int
  t : Int
  e : Int
  deriving DecidableEq
structure BlkV where
  ops : List OpV
  e : EndV
  catch_ : Int
  deriving DecidableEq
structure UnitV where
  sizes : List Int
  params : Int
  regs : Int
  code : Int
  spill : Int
  blocks : List BlkV
  deriving DecidableEq
def OpV.row (o : OpV) : List AV:=[iA o.k,iA o.d,iA o.a,iA o.b,iA o.c,iA o.n,iA o.g]
def BlkV.row (b : BlkV) (v : AV) : List AV:=[v,iA b.e.k,iA b.e.a,iA b.e.t,iA b.e.e,iA b.catch_]
abbrev OpsAt (st : St) (lo hi : Nat) (v : AV) (l : List OpV) : Prop:=ArrAt st lo hi v 7 (l.map OpV.row)
abbrev IntsAt (st : St) (lo hi : Nat) (v : AV) (l : List Int) : Prop:=ArrAt st lo hi v 1 (l.map fun n=>[iA n])
def BlksAt (st : St) (lo hi : Nat) (v : AV) (l : List BlkV) : Prop:=∃ f : Nat→AV,ArrAt st lo hi v 6 (l.mapIdx fun i b=>b.row (f i))∧∀ i (h : i < l.length),OpsAt st lo hi (f i) l[i].ops
def UnitAt (st : St) (lo hi : Nat) (v : AV) (u : UnitV) : Prop:=∃ s bl,v = .agg [s,iA u.params,iA u.regs,iA u.code,iA u.spill,bl]∧IntsAt st lo hi s u.sizes∧BlksAt st lo hi bl u.blocks
section
variable {X : Cx} {st : St}
end
end Go.VX.Seat
end
section
set_option maxRecDepth 4000
namespace Go.VX.Seat
open Go.Proofs
theorem BlksAt.mono {st : St} {lo hi : Nat} {v : AV} {l : List BlkV} (h : BlksAt st lo hi v l) (m : St) : BlksAt (st++m) lo hi v l :=
  let ⟨f,h1,h2⟩:=h; ⟨f,h1.mono m,fun i hi=>(h2 i hi).mono m⟩
theorem UnitAt.mono {st : St} {lo hi : Nat} {v : AV} {U : UnitV} (h : UnitAt st lo hi v U) (m : St) : UnitAt (st++m) lo hi v U :=
  let ⟨s,bl,h1,h2,h3⟩:=h; ⟨s,bl,h1,h2.mono m,h3.mono m⟩
theorem BlksAt.ext {st s : St} {lo hi : Nat} {v : AV} {l : List BlkV} (h : BlksAt st lo hi v l) (he : Ext st s) : BlksAt s lo hi v l:=by obtain ⟨L,rfl⟩:=he; exact h.mono L
theorem UnitAt.ext {st s : St} {lo hi : Nat} {v : AV} {U : UnitV} (h : UnitAt st lo hi v U) (he : Ext st s) : UnitAt s lo hi v U:=by obtain ⟨L,rfl⟩:=he; exact h.mono L
theorem isCell_len {v : AV} {n : Nat} (h : lenA v = some n) : AV.isCell v = true:=by
  unfold lenA at h
  split at h
  · rfl
  · rfl
  · cases h
section
variable {X : Cx} {st : St}
end
end Go.VX.Seat
end
section
set_option maxRecDepth 4000
namespace Go.VX.Seat
open Go.Proofs
def opErrU (U : UnitV) (o : OpV) : Int:=opErr U.sizes.length U.blocks.length U.regs U.spill o.k o.d o.a o.b o.c o.n o.g
def endErrU (U : UnitV) (e : EndV) : Int:=endErr U.blocks.length U.regs e.k e.a e.t e.e
def opsFind (U : UnitV) (i : Nat) : Nat→List OpV→Option (Int × Int × Int)
  | _,[]=>none
  | k,o :: r=>if decide (opErrU U o≠0) then some (opErrU U o,i,k) else opsFind U i (k + 1) r
def blkFind (U : UnitV) : Nat→List BlkV→Option (Int × Int × Int)
  | _,[]=>none
  | i,b :: r =>
    if decide (b.catch_ < -1) || decide ((U.blocks.length : Int)≤b.catch_) then some (2,i,b.ops.length) else
    if decide (400 < (b.ops.length : Int)) then some (3,i,b.ops.length) else
    match opsFind U i 0 b.ops with
    | some x=>some x
    | none=>if decide (endErrU U b.e≠0) then some (endErrU U b.e,i,b.ops.length) else blkFind U (i + 1) r
def total (l : List BlkV) : Nat:=(l.map (·.ops.length)).sum
def badSize (n : Int) : Bool:=decide (n < 1) || decide (65536 < n)
def limitsU (U : UnitV) : Bool:=decide (16 < (U.sizes.length : Int)) || decide (2000 < (U.blocks.length : Int)) || decide ((U.blocks.length : Int) = 0) || decide (4096 < U.regs) || decide (4096 < U.spill)
def headU (U : UnitV) : Bool:=decide (U.regs < 1) || decide (U.spill < 0) || decide (U.params < 0) || decide (8 < U.params) || decide (U.regs < U.params) || !regOkA U.regs U.code
def findU (U : UnitV) : Int × Int × Int :=
  if limitsU U then (3,0,0) else
  if U.sizes.any badSize then (2,0,0) else
  if headU U then (2,0,0) else
  match blkFind U 0 U.blocks with
  | some x=>x
  | none=>if decide (20000 < (total U.blocks : Int)) then (3,0,0) else (0,0,0)
section
variable {X : Cx} {st : St}
end
end Go.VX.Seat
end
section
set_option maxRecDepth 4000
namespace Go.VX.Seat
open Go.Proofs
section
variable {X : Cx} {st : St}
def chkU (U : UnitV) : Int:=(findU U).1
end
end Go.VX.Seat
end
open Go.VX.AV renaming cell? → xa, toV → xb
open Int renaming reduceAdd → xc, reduceLE → xd, reduceLT → xe, reduceNeg → xf, reduceToNat → xg
open Nat renaming reduceAdd → xh, reduceEqDiff → xi, reduceLeDiff → xj, reduceMul → xk, reduceSub → xl
open Go.VX.VOpd renaming ev → xm
open Go.VX renaming asInt? → xn, asNat? → xp, cellVal → xq, cellsV → xr, fillA → xu, partsEv → xv, resOf → xw, splice → xy, tupOf → xz, zeroes → ya
section
set_option maxRecDepth 4000
namespace Go.VX.Seat
open Go.Proofs
def outC (blk at_ e : Int) : CRes:=if decide (e≠0) then .pan (.iface 68 (.agg [iA blk,iA at_,iA e])) else .ret (.tup [])
theorem outC_flat (blk at_ e : Int) : (outC blk at_ e).flat = true:=by
  unfold outC
  split<;>rfl
theorem outC_zero (blk at_ : Int) : outC blk at_ 0 = .ret (.tup []):=rfl
theorem outC_ne {blk at_ e : Int} (h : e≠0) : outC blk at_ e = .pan (.iface 68 (.agg [iA blk,iA at_,iA e])):=by
  unfold outC
  simp [h]
theorem out_intro {X : Cx} {st : St} {f : FuncId} {fn : VFun} {args : List AV} {r : CRes} (hF : X.F f = some fn) (hr : r.flat = true) (h : xC X fn.body (envOf args) (st++[]) (bodK fn.res fun r' s=>r' = r∧∃ m,s = st++m)) : J X.P X.F X.H (.call f args st r st):=by
  rw [List.append_nil] at h
  obtain ⟨r',s,j,rfl,m,rfl⟩:=wpF_intro hF h
  exact .forget j hr
theorem callO_out {X : Cx} {env : Env} {st : St} {Q : Post3} {K : Env→St→Post3→Prop} {f : FuncId} {args : List AV} {blk at_ e : Int} {dst : Option Nat} {keep : List VOpd} (h : J X.P X.F X.H (.call f args st (outC blk at_ e) st)) (h1 : e = 0→K (env.put dst (.tup [])) st Q) (h2 : e≠0→Q (.pan (.iface 68 (.agg [iA blk,iA at_,iA e]))) env st) : callO X f args dst keep K env st Q:=by
  by_cases he : e = 0
  · subst he
    exact callO_same h (h1 rfl)
  · rw [outC_ne he] at h
    exact callO_pan h (h2 he)
section
variable {X : Cx} {st : St}
theorem j_code_within (h : On X) (n size : Int) : J X.P X.F X.H (.call 34 [iA n,iA size] st (.ret (bA (regOkA size n))) st):=by
  refine pure_intro (by rw [h.F]; rfl) rfl ?_
  unfold regOkA
  simp only [v_code_within,kB,kC,cellsOf,kE,xl,xg,xk,xc,xd,xe,xf,xj,xi,xh,reduceIte,reduceCtorEq,xy,xw,xq]
  repeat' first | (refine gO_t ?_ ?_<;>(intro hc; simp only [*,kB,kC,cellsOf,kE,xl,xg,xk,xc,xd,xe,xf,xj,xi,xh,reduceIte,reduceCtorEq,xy,xw,xq])) | (refine gO_f ?_ ?_<;>(intro hc; simp only [*,kB,kC,cellsOf,kE,xl,xg,xk,xc,xd,xe,xf,xj,xi,xh,reduceIte,reduceCtorEq,xy,xw,xq])) | (refine condO_intro ?_ ?_<;>(intro hc; simp only [*,kB,kC,cellsOf,kE,xl,xg,xk,xc,xd,xe,xf,xj,xi,xh,reduceIte,reduceCtorEq,xy,xw,xq]))
  all_goals first | exact ⟨_,rfl⟩ | exact ⟨rfl,_,rfl⟩ | exact ⟨trivial,_,rfl⟩ | exact ⟨[],(List.append_nil _).symm⟩
theorem j_code_must (h : On X) {cb : Nat} {s bl : AV} {p r cd sp blk at_ : Int} (hc : BoxAt st cb [s,iA p,iA r,iA cd,iA sp,bl,iA blk,iA at_]) (ok : Bool) (e : Int) (he : e≠0) :
    J X.P X.F X.H (.call 54 [.ptr cb 0,bA ok,iA e] st (outC blk at_ (if ok then 0 else e)) st):=by
  refine out_intro (by rw [h.F]; rfl) (outC_flat _ _ _) ?_
  have x1:=hc.at1
  simp only [v_code_checker_must,kB,kC,cellsOf,kE,xl,xg,xk,xc,xd,xe,xf,xj,xi,xh,reduceIte,reduceCtorEq,xy,xw,xq]
  refine condO_intro ?_ ?_<;>intro hq
  · have hok : ok = false:=by simpa using hq
    subst hok
    simp only [x1,outC_ne he,kB,kC,cellsOf,kE,xl,xg,xk,xc,xd,xe,xf,xj,xi,xh,reduceIte,reduceCtorEq,xy,xw,xq]
    first | exact ⟨_,rfl⟩ | exact ⟨rfl,_,rfl⟩ | exact ⟨trivial,_,rfl⟩ | exact ⟨[],(List.append_nil _).symm⟩
  · have hok : ok = true:=by simpa using hq
    subst hok
    simp only [outC_zero,kB,kC,cellsOf,kE,xl,xg,xk,xc,xd,xe,xf,xj,xi,xh,reduceIte,reduceCtorEq,xy,xw,xq]
    first | exact ⟨_,rfl⟩ | exact ⟨rfl,_,rfl⟩ | exact ⟨trivial,_,rfl⟩ | exact ⟨[],(List.append_nil _).symm⟩
theorem j_code_reg (h : On X) {cb : Nat} {s bl : AV} {p rg cd sp blk at_ : Int} (hc : BoxAt st cb [s,iA p,iA rg,iA cd,iA sp,bl,iA blk,iA at_]) (r : Int) (used : Bool) :
    J X.P X.F X.H (.call 71 [.ptr cb 0,iA r,bA used] st (outC blk at_ (if used && !regOkA rg r then 2 else 0)) st):=by
  refine out_intro (by rw [h.F]; rfl) (outC_flat _ _ _) ?_
  have x1:=hc.at1
  simp only [v_code_checker_reg,kB,kC,cellsOf,kE,xl,xg,xk,xc,xd,xe,xf,xj,xi,xh,reduceIte,reduceCtorEq,xy,xw,xq]
  refine gO_f ?_ ?_<;>intro hq
  · have hu : used = false:=by simpa using hq
    subst hu
    simp only [x1,kB,kC,cellsOf,kE,xl,xg,xk,xc,xd,xe,xf,xj,xi,xh,reduceIte,reduceCtorEq,xy,xw,xq]
    refine callO_out (j_code_must h (hc.ext (Ext.of _ _)) true 2 (by decide)) ?_ ?_<;>intro he
    · simp only [outC_zero,kB,kC,cellsOf,kE,xl,xg,xk,xc,xd,xe,xf,xj,xi,xh,reduceIte,reduceCtorEq,xy,xw,xq]
      first | exact ⟨_,rfl⟩ | exact ⟨rfl,_,rfl⟩ | exact ⟨trivial,_,rfl⟩ | exact ⟨[],(List.append_nil _).symm⟩
    · exact absurd rfl he
  · have hu : used = true:=by simpa using hq
    subst hu
    simp only [x1,kB,kC,cellsOf,kE,xl,xg,xk,xc,xd,xe,xf,xj,xi,xh,reduceIte,reduceCtorEq,xy,xw,xq]
    refine callO_same (j_code_within h _ _) ?_
    simp only [x1,kB,kC,cellsOf,kE,xl,xg,xk,xc,xd,xe,xf,xj,xi,xh,reduceIte,reduceCtorEq,xy,xw,xq]
    refine callO_out (j_code_must h (hc.ext (Ext.of _ _)) (regOkA rg r) 2 (by decide)) ?_ ?_<;>intro he
    · have hk : regOkA rg r = true:=by
        by_cases hk : regOkA rg r = true
        · exact hk
        · simp [hk] at he
      simp only [hk,outC_zero,kB,kC,cellsOf,kE,xl,xg,xk,xc,xd,xe,xf,xj,xi,xh,reduceIte,reduceCtorEq,xy,xw,xq]
      first | exact ⟨_,rfl⟩ | exact ⟨rfl,_,rfl⟩ | exact ⟨trivial,_,rfl⟩ | exact ⟨[],(List.append_nil _).symm⟩
    · have hk : regOkA rg r = false:=by
        by_cases hk : regOkA rg r = true
        · simp [hk] at he
        · simpa using hk
      simp only [hk,outC_ne (e:=2) (by decide),kB,kC,cellsOf,kE,xl,xg,xk,xc,xd,xe,xf,xj,xi,xh,reduceIte,reduceCtorEq,xy,xw,xq]
      first | exact ⟨_,rfl⟩ | exact ⟨rfl,_,rfl⟩ | exact ⟨trivial,_,rfl⟩ | exact ⟨[],(List.append_nil _).symm⟩
end
end Go.VX.Seat
end
section
set_option maxRecDepth 4000
namespace Go.VX.Seat
open Go.Proofs
def usesL : List Int:=[17,3,7,7,7,7,7,7,7,7,7,15,7,7,7,35,38,65,66,2,130,2,7,7,35]
def classL : List Int:=[0,0,0,0,0,0,0,0,0,0,0,0,1,1,1,2,2,2,2,3,3,3,1,1,2]
def nameL : List ByteArray:=[⟨#[99,111,110,115,116]⟩,⟨#[109,111,118,101]⟩,⟨#[97,100,100]⟩,⟨#[115,117,98]⟩,⟨#[97,110,100]⟩,⟨#[111,114]⟩,⟨#[120,111,114]⟩,⟨#[115,104,108]⟩,⟨#[115,104,114]⟩,⟨#[108,101,115,115]⟩,⟨#[101,113,117,97,108]⟩,⟨#[112,105,99,107]⟩,⟨#[109,117,108]⟩,⟨#[100,105,118]⟩,⟨#[114,101,109]⟩,⟨#[108,111,97,100]⟩,⟨#[115,116,111,114,101]⟩,⟨#[102,101,116,99,104]⟩,⟨#[107,101,101,112]⟩,⟨#[112,114,105,110,116]⟩,⟨#[101,120,105,116]⟩,⟨#[99,104,101,99,107]⟩,⟨#[100,105,118,115]⟩,⟨#[114,101,109,115]⟩,⟨#[108,111,97,100,115]⟩]
def formCells : List AV:=[iA 17,iA 0,.sc (.string ⟨#[99,111,110,115,116]⟩),iA 3,iA 0,.sc (.string ⟨#[109,111,118,101]⟩),iA 7,iA 0,.sc (.string ⟨#[97,100,100]⟩),iA 7,iA 0,.sc (.string ⟨#[115,117,98]⟩),iA 7,iA 0,.sc (.string ⟨#[97,110,100]⟩),iA 7,iA 0,.sc (.string ⟨#[111,114]⟩),iA 7,iA 0,.sc (.string ⟨#[120,111,114]⟩),iA 7,iA 0,.sc (.string ⟨#[115,104,108]⟩),iA 7,iA 0,.sc (.string ⟨#[115,104,114]⟩),iA 7,iA 0,.sc (.string ⟨#[108,101,115,115]⟩),iA 7,iA 0,.sc (.string ⟨#[101,113,117,97,108]⟩),iA 15,iA 0,.sc (.string ⟨#[112,105,99,107]⟩),iA 7,iA 1,.sc (.string ⟨#[109,117,108]⟩),iA 7,iA 1,.sc (.string ⟨#[100,105,118]⟩),iA 7,iA 1,.sc (.string ⟨#[114,101,109]⟩),iA 35,iA 2,.sc (.string ⟨#[108,111,97,100]⟩),iA 38,iA 2,.sc (.string ⟨#[115,116,111,114,101]⟩),iA 65,iA 2,.sc (.string ⟨#[102,101,116,99,104]⟩),iA 66,iA 2,.sc (.string ⟨#[107,101,101,112]⟩),iA 2,iA 3,.sc (.string ⟨#[112,114,105,110,116]⟩),iA 130,iA 3,.sc (.string ⟨#[101,120,105,116]⟩),iA 2,iA 3,.sc (.string ⟨#[99,104,101,99,107]⟩),iA 7,iA 1,.sc (.string ⟨#[100,105,118,115]⟩),iA 7,iA 1,.sc (.string ⟨#[114,101,109,115]⟩),iA 35,iA 2,.sc (.string ⟨#[108,111,97,100,115]⟩)]
theorem form_row : ∀ j : Nat,j < 25→(formCells.drop (0 + j * 3)).take 3 = [iA (usesL.getD j 0),iA (classL.getD j 0),.sc (.string (nameL.getD j ⟨#[]⟩))]
  | 0,_=>rfl
  | 1,_=>rfl
  | 2,_=>rfl
  | 3,_=>rfl
  | 4,_=>rfl
  | 5,_=>rfl
  | 6,_=>rfl
  | 7,_=>rfl
  | 8,_=>rfl
  | 9,_=>rfl
  | 10,_=>rfl
  | 11,_=>rfl
  | 12,_=>rfl
  | 13,_=>rfl
  | 14,_=>rfl
  | 15,_=>rfl
  | 16,_=>rfl
  | 17,_=>rfl
  | 18,_=>rfl
  | 19,_=>rfl
  | 20,_=>rfl
  | 21,_=>rfl
  | 22,_=>rfl
  | 23,_=>rfl
  | 24,_=>rfl
  | j + 25,h=>absurd h (by omega)
def usesK (k : Int) : Int:=if oneK k then usesL.getD (k - 1).toNat 0 else 0
def classK (k : Int) : Int:=if oneK k then classL.getD (k - 1).toNat 0 else 0
def nameK (k : Int) : ByteArray:=if oneK k then nameL.getD (k - 1).toNat ⟨#[]⟩ else ⟨#[]⟩
def GlobAt (st : St) : Prop:=BoxAt st 0 formCells
section
variable {X : Cx} {st : St}
theorem j_code_of (h : On X) (hg : GlobAt st) (k : Int) : J X.P X.F X.H (.call 39 [iA k] st (.ret (.tup [.agg [iA (usesK k),iA (classK k),.sc (.string (nameK k))],bA (oneK k)])) st):=by
  refine pure_intro (by rw [h.F]; rfl) rfl ?_
  simp only [v_code_of,kB,kC,cellsOf,kE,xl,xg,xk,xc,xd,xe,xf,xj,xi,xh,reduceIte,reduceCtorEq,xy,xw,xq]
  refine cutG (mS m0) [0,2] (fun _=>oneK k = true) ?_ ?_
  · have hk : (decide (k < 1) || decide (25 < k)) = !oneK k:=by
      unfold oneK
      by_cases h1 : k < 1<;>by_cases h2 : 25 < k<;>simp [h1,h2]<;>omega
    by_cases ho : oneK k = true
    · have hk2 : decide (k < 1) = false∧decide (25 < k) = false:=by
        rw [ho] at hk
        simpa using hk
      simp only [hk2.1,hk2.2,ho,kB,kC,cellsOf,kE,xl,xg,xk,xc,xd,xe,xf,xj,xi,xh,reduceIte,reduceCtorEq,xy,xw,xq]
    · have ho : oneK k = false:=by simpa using ho
      unfold usesK classK nameK
      rw [ho] at hk
      simp only [ho]
      refine gO_f ?_ ?_<;>intro hq<;>simp only [hq,kB,kC,cellsOf,kE,xl,xg,xk,xc,xd,xe,xf,xj,xi,xh,reduceIte,reduceCtorEq,xy,xw,xq]
      · first | exact ⟨_,rfl⟩ | exact ⟨rfl,_,rfl⟩ | exact ⟨trivial,_,rfl⟩ | exact ⟨[],(List.append_nil _).symm⟩
      · have h2 : decide (25 < k) = true:=by
          rw [hq] at hk
          simpa using hk
        simp only [h2,kB,kC,cellsOf,kE,xl,xg,xk,xc,xd,xe,xf,xj,xi,xh,reduceIte,reduceCtorEq,xy,xw,xq]
        first | exact ⟨_,rfl⟩ | exact ⟨rfl,_,rfl⟩ | exact ⟨trivial,_,rfl⟩ | exact ⟨[],(List.append_nil _).symm⟩
  · intro e hL ho
    simp only [kB,kC,cellsOf,kE,xl,xg,xk,xc,xd,xe,xf,xj,xi,xh,reduceIte,reduceCtorEq,xy,xw,xq] at hL ⊢
    obtain ⟨h0,h2⟩:=hL
    have hk : 1≤k∧k≤25:=by
      unfold oneK at ho
      simp at ho
      exact ho
    have hr:=form_row (k - 1).toNat (by omega)
    have hlen : formCells.length = 75:=rfl
    have xN:=fun L=>hg.atN L (0 + (k - 1).toNat * 3) 3 (by rw [hlen]; omega)
    rw [hr] at xN
    simp only [Nat.zero_add] at xN
    have hi1 : 0≤k - 1:=by omega
    have hi2 : k - 1 < 25:=by omega
    unfold usesK classK nameK
    simp only [h0,h2,kB,kC,cellsOf,kE,xl,xg,xk,xc,xd,xe,xf,xj,xi,xh,reduceIte,reduceCtorEq,xy,xw,xq]
    rw [wrap_small (by omega) (by omega)]
    simp only [hi1,hi2,xN,h0,h2,ho,kB,kC,cellsOf,kE,xl,xg,xk,xc,xd,xe,xf,xj,xi,xh,reduceIte,reduceCtorEq,xy,xw,xq]
    first | exact ⟨_,rfl⟩ | exact ⟨rfl,_,rfl⟩ | exact ⟨trivial,_,rfl⟩ | exact ⟨[],(List.append_nil _).symm⟩
end
end Go.VX.Seat
end
section
set_option maxRecDepth 4000
namespace Go.VX.Seat
open Go.Proofs
def andI (a b : Int) : Int:=IntKind.i64.wrap ((BitVec.ofInt 64 a &&& BitVec.ofInt 64 b).toNat : Int)
theorem c_and (P : Program) (t : TypeId) (a b : Int) (ox oy : Operand) : closed P (do eqGuard .and t ox oy (.int .i64 a) (.int .i64 b); binOp .and t (.int .i64 a) (.int .i64 b)) = some (.int .i64 (andI a b)):=rfl
def bitsOk (k : Int) : Bool :=
  (decide (andI (usesK k) 1≠0) == hasDst k) && (decide (andI (usesK k) 2≠0) == hasA k) && (decide (andI (usesK k) 4≠0) == hasB k) && (decide (andI (usesK k) 8≠0) == hasC k) &&
  (decide (andI (usesK k) 32≠0) == arrK k) && (decide (andI (usesK k) 64≠0) == cellK k) && (decide (andI (usesK k) 128≠0) == decide (k = 21)) && (decide (andI (usesK k) 16≠0) == decide (k = 1))
theorem bits_all : ∀ j : Fin 25,bitsOk ((j.val : Int) + 1) = true:=by decide +kernel
theorem bits {k : Int} (h : oneK k = true) : decide (andI (usesK k) 1≠0) = hasDst k∧decide (andI (usesK k) 2≠0) = hasA k∧decide (andI (usesK k) 4≠0) = hasB k∧decide (andI (usesK k) 8≠0) = hasC k ∧
    decide (andI (usesK k) 32≠0) = arrK k∧decide (andI (usesK k) 64≠0) = cellK k∧decide (andI (usesK k) 128≠0) = decide (k = 21)∧decide (andI (usesK k) 16≠0) = decide (k = 1):=by
  have hk : 1≤k∧k≤25:=by
    unfold oneK at h
    simp at h
    exact h
  have:=bits_all ⟨(k - 1).toNat,by omega⟩
  simp only at this
  rw [show (((k - 1).toNat : Nat) : Int) + 1 = k by omega] at this
  unfold bitsOk at this
  simp only [Bool.and_eq_true,beq_iff_eq] at this
  obtain ⟨⟨⟨⟨⟨⟨⟨a1,a2⟩,a3⟩,a4⟩,a5⟩,a6⟩,a7⟩,a8⟩:=this
  exact ⟨a1,a2,a3,a4,a5,a6,a7,a8⟩
theorem dec_eq_zero (x : Int) : decide (x = 0) = !decide (x≠0):=by by_cases h : x = 0<;>simp [h]
theorem if_ne {b : Bool} {e : Int} (h : (if b = true then e else 0)≠0) : b = true:=by cases b<;>simp_all
theorem if_eq {b : Bool} {e : Int} (he : e≠0) (h : (if b = true then e else 0) = 0) : b = false:=by cases b<;>simp_all
section
variable {X : Cx} {st : St}
set_option maxHeartbeats 4000000 in
theorem j_code_op (h : On X) (hg : GlobAt st) {cb : Nat} {s bl : AV} {ns nb : Nat} (l1 : lenA s = some ns) (l2 : lenA bl = some nb) {p rg cd sp blk at_ : Int} (hsp : 0≤sp) (hc : BoxAt st cb [s,iA p,iA rg,iA cd,iA sp,bl,iA blk,iA at_]) (k d a b c n g : Int) :
    J X.P X.F X.H (.call 57 [.ptr cb 0,.agg [iA k,iA d,iA a,iA b,iA c,iA n,iA g]] st (outC blk at_ (opErr ns nb rg sp k d a b c n g)) st):=by
  refine out_intro (by rw [h.F]; rfl) (outC_flat _ _ _) ?_
  have x1:=hc.at1
  simp only [v_code_checker_op,kB,kC,cellsOf,kE,xl,xg,xk,xc,xd,xe,xf,xj,xi,xh,reduceIte,reduceCtorEq,xy,xw,xq]
  refine callO_same (j_code_of h (hg.ext (Ext.of _ _)) k) ?_
  simp only [kB,kC,cellsOf,kE,xl,xg,xk,xc,xd,xe,xf,xj,xi,xh,reduceIte,reduceCtorEq,xy,xw,xq]
  refine callO_out (j_code_must h (hc.ext (Ext.of _ _)) (oneK k) 4 (by decide)) ?_ ?_<;>intro he
  case refine_2 =>
    have ho : oneK k = false:=by
      cases hk : oneK k
      · rfl
      · simp [hk] at he
    have : opErr ns nb rg sp k d a b c n g = 4:=by unfold opErr; simp [ho]
    simp only [this,ho,outC_ne (e:=4) (by decide),kB,kC,cellsOf,kE,xl,xg,xk,xc,xd,xe,xf,xj,xi,xh,reduceIte,reduceCtorEq,xy,xw,xq]
    first | exact ⟨_,rfl⟩ | exact ⟨rfl,_,rfl⟩ | exact ⟨trivial,_,rfl⟩ | exact ⟨[],(List.append_nil _).symm⟩
  have ho : oneK k = true:=by
    cases hk : oneK k
    · simp [hk] at he
    · rfl
  obtain ⟨t1,t2,t3,t4,t5,t6,t7,t8⟩:=bits ho
  simp only [c_and,t1,ho,kB,kC,cellsOf,kE,xl,xg,xk,xc,xd,xe,xf,xj,xi,xh,reduceIte,reduceCtorEq,xy,xw,xq]
  refine callO_out (j_code_reg h (hc.ext (Ext.of _ _)) d (hasDst k)) ?_ ?_<;>intro he
  case refine_2 =>
    have hq : (hasDst k && !regOkA rg d) = true:=if_ne he
    have : opErr ns nb rg sp k d a b c n g = 2:=by
      unfold opErr
      simp only [ho,hq,Bool.true_eq_false,if_false,Bool.true_or,Bool.or_true,Bool.false_or,Bool.or_false,Bool.false_eq_true,if_true,ite_self]
    simp only [hq,if_true,this,outC_ne (e:=2) (by decide),kB,kC,cellsOf,kE,xl,xg,xk,xc,xd,xe,xf,xj,xi,xh,reduceIte,reduceCtorEq,xy,xw,xq]
    first | exact ⟨_,rfl⟩ | exact ⟨rfl,_,rfl⟩ | exact ⟨trivial,_,rfl⟩ | exact ⟨[],(List.append_nil _).symm⟩
  have fd : (hasDst k && !regOkA rg d) = false:=if_eq (by decide) he
  simp only [c_and,t2,ho,kB,kC,cellsOf,kE,xl,xg,xk,xc,xd,xe,xf,xj,xi,xh,reduceIte,reduceCtorEq,xy,xw,xq]
  refine callO_out (j_code_reg h (hc.ext (Ext.of _ _)) a (hasA k)) ?_ ?_<;>intro he
  case refine_2 =>
    have hq : (hasA k && !regOkA rg a) = true:=if_ne he
    have : opErr ns nb rg sp k d a b c n g = 2:=by
      unfold opErr
      simp only [ho,hq,fd,Bool.true_eq_false,if_false,Bool.true_or,Bool.or_true,Bool.false_or,Bool.or_false,Bool.false_eq_true,if_true,ite_self]
    simp only [hq,if_true,this,outC_ne (e:=2) (by decide),kB,kC,cellsOf,kE,xl,xg,xk,xc,xd,xe,xf,xj,xi,xh,reduceIte,reduceCtorEq,xy,xw,xq]
    first | exact ⟨_,rfl⟩ | exact ⟨rfl,_,rfl⟩ | exact ⟨trivial,_,rfl⟩ | exact ⟨[],(List.append_nil _).symm⟩
  have fa : (hasA k && !regOkA rg a) = false:=if_eq (by decide) he
  simp only [c_and,t3,ho,kB,kC,cellsOf,kE,xl,xg,xk,xc,xd,xe,xf,xj,xi,xh,reduceIte,reduceCtorEq,xy,xw,xq]
  refine callO_out (j_code_reg h (hc.ext (Ext.of _ _)) b (hasB k)) ?_ ?_<;>intro he
  case refine_2 =>
    have hq : (hasB k && !regOkA rg b) = true:=if_ne he
    have : opErr ns nb rg sp k d a b c n g = 2:=by
      unfold opErr
      simp only [ho,hq,fd,fa,Bool.true_eq_false,if_false,Bool.true_or,Bool.or_true,Bool.false_or,Bool.or_false,Bool.false_eq_true,if_true,ite_self]
    simp only [hq,if_true,this,outC_ne (e:=2) (by decide),kB,kC,cellsOf,kE,xl,xg,xk,xc,xd,xe,xf,xj,xi,xh,reduceIte,reduceCtorEq,xy,xw,xq]
    first | exact ⟨_,rfl⟩ | exact ⟨rfl,_,rfl⟩ | exact ⟨trivial,_,rfl⟩ | exact ⟨[],(List.append_nil _).symm⟩
  have fb : (hasB k && !regOkA rg b) = false:=if_eq (by decide) he
  simp only [c_and,t4,ho,kB,kC,cellsOf,kE,xl,xg,xk,xc,xd,xe,xf,xj,xi,xh,reduceIte,reduceCtorEq,xy,xw,xq]
  refine callO_out (j_code_reg h (hc.ext (Ext.of _ _)) c (hasC k)) ?_ ?_<;>intro he
  case refine_2 =>
    have hq : (hasC k && !regOkA rg c) = true:=if_ne he
    have : opErr ns nb rg sp k d a b c n g = 2:=by
      unfold opErr
      simp only [ho,hq,fd,fa,fb,Bool.true_eq_false,if_false,Bool.true_or,Bool.or_true,Bool.false_or,Bool.or_false,Bool.false_eq_true,if_true,ite_self]
    simp only [hq,if_true,this,outC_ne (e:=2) (by decide),kB,kC,cellsOf,kE,xl,xg,xk,xc,xd,xe,xf,xj,xi,xh,reduceIte,reduceCtorEq,xy,xw,xq]
    first | exact ⟨_,rfl⟩ | exact ⟨rfl,_,rfl⟩ | exact ⟨trivial,_,rfl⟩ | exact ⟨[],(List.append_nil _).symm⟩
  have fc : (hasC k && !regOkA rg c) = false:=if_eq (by decide) he
  simp only [c_and,ho,kB,kC,cellsOf,kE,xl,xg,xk,xc,xd,xe,xf,xj,xi,xh,reduceIte,reduceCtorEq,xy,xw,xq]
  refine callO_out (j_code_reg h (hc.ext (Ext.of _ _)) g (decide (g≠-1))) ?_ ?_<;>intro he
  case refine_2 =>
    have hq : (decide (g≠-1) && !regOkA rg g) = true:=if_ne he
    have : opErr ns nb rg sp k d a b c n g = 2:=by
      unfold opErr
      simp only [ho,hq,fd,fa,fb,fc,Bool.true_eq_false,if_false,Bool.true_or,Bool.or_true,Bool.false_or,Bool.or_false,Bool.false_eq_true,if_true,ite_self]
    simp only [hq,if_true,this,outC_ne (e:=2) (by decide),kB,kC,cellsOf,kE,xl,xg,xk,xc,xd,xe,xf,xj,xi,xh,reduceIte,reduceCtorEq,xy,xw,xq]
    first | exact ⟨_,rfl⟩ | exact ⟨rfl,_,rfl⟩ | exact ⟨trivial,_,rfl⟩ | exact ⟨[],(List.append_nil _).symm⟩
  have fg : (decide (g≠-1) && !regOkA rg g) = false:=if_eq (by decide) he
  simp only [c_and,ho,kB,kC,cellsOf,kE,xl,xg,xk,xc,xd,xe,xf,xj,xi,xh,reduceIte,reduceCtorEq,xy,xw,xq]
  refine cutCond (mB m0) [0,3,4] (fun e=>e 6 = iA (manyOf ns nb sp k)) ?_ ?_
  · unfold manyOf
    simp only [t5]
    repeat' first
      | first | (refine gO_t ?_ ?_<;>(intro hc; simp only [*,kB,kC,cellsOf,kE,xl,xg,xk,xc,xd,xe,xf,xj,xi,xh,reduceIte,reduceCtorEq,xy,xw,xq])) | (refine gO_f ?_ ?_<;>(intro hc; simp only [*,kB,kC,cellsOf,kE,xl,xg,xk,xc,xd,xe,xf,xj,xi,xh,reduceIte,reduceCtorEq,xy,xw,xq])) | (refine condO_intro ?_ ?_<;>(intro hc; simp only [*,kB,kC,cellsOf,kE,xl,xg,xk,xc,xd,xe,xf,xj,xi,xh,reduceIte,reduceCtorEq,xy,xw,xq]))
      | simp only [c_and,t6,t7, *,kB,kC,cellsOf,kE,xl,xg,xk,xc,xd,xe,xf,xj,xi,xh,reduceIte,reduceCtorEq,xy,xw,xq]
  · intro e hL h6
    simp only [kB,kC,cellsOf,kE,xl,xg,xk,xc,xd,xe,xf,xj,xi,xh,reduceIte,reduceCtorEq,xy,xw,xq] at hL
    obtain ⟨h0,h3,h4⟩:=hL
    generalize hmm : manyOf ns nb sp k = mm at *
    have h5 : (decide (0≤mm) && (decide (n < 0) || decide (mm≤n))) = true→opErr ns nb rg sp k d a b c n g = 5:=fun hq=>by
      unfold opErr
      simp only [ho,fd,fa,fb,fc,fg,hmm,hq,Bool.or_self,Bool.true_eq_false,Bool.false_eq_true,if_false,if_true]
    simp only [h0,h3,h4,h6,kB,kC,cellsOf,kE,xl,xg,xk,xc,xd,xe,xf,xj,xi,xh,reduceIte,reduceCtorEq,xy,xw,xq]
    refine cutG m0 [0,3,4,6] (fun _=>(decide (0≤mm) && (decide (n < 0) || decide (mm≤n))) = false) ?_ ?_
    · refine gO_f ?_ ?_<;>intro hq1
      · have hq : ¬ (0≤mm):=by have:=of_decide_eq_true hq1; omega
        simp only [h0,h3,h4,h6,hq1,kB,kC,cellsOf,kE,xl,xg,xk,xc,xd,xe,xf,xj,xi,xh,reduceIte,reduceCtorEq,xy,xw,xq]
        refine callO_out (j_code_must h (hc.ext (Ext.of _ _)) _ 5 (by decide)) ?_ ?_<;>intro he
        · simp only [h0,h3,h4,h6,hq,kB,kC,cellsOf,kE,xl,xg,xk,xc,xd,xe,xf,xj,xi,xh,reduceIte,reduceCtorEq,xy,xw,xq]
        · exact absurd rfl he
      · have hq : 0≤mm:=by have:=of_decide_eq_false hq1; omega
        simp only [h0,h3,h4,h6,hq1,kB,kC,cellsOf,kE,xl,xg,xk,xc,xd,xe,xf,xj,xi,xh,reduceIte,reduceCtorEq,xy,xw,xq]
        refine gO_t ?_ ?_<;>intro hq2
        · have hq3 : ¬ (n < 0):=by have:=of_decide_eq_true hq2; omega
          simp only [h0,h3,h4,h6,hq1,hq2,kB,kC,cellsOf,kE,xl,xg,xk,xc,xd,xe,xf,xj,xi,xh,reduceIte,reduceCtorEq,xy,xw,xq]
          refine callO_out (j_code_must h (hc.ext (Ext.of _ _)) _ 5 (by decide)) ?_ ?_<;>intro he
          · have hq4 : ¬ (mm≤n):=by
              by_cases hq4 : n < mm
              · omega
              · simp [hq4] at he
            simp only [h0,h3,h4,h6,hq,hq3,hq4,kB,kC,cellsOf,kE,xl,xg,xk,xc,xd,xe,xf,xj,xi,xh,reduceIte,reduceCtorEq,xy,xw,xq]
          · have hq4 : mm≤n:=by
              by_cases hq4 : n < mm
              · simp [hq4] at he
              · omega
            have hq5 : ¬ (n < mm):=by omega
            rw [h5 (by simp [hq,hq4])]
            simp only [hq5,outC_ne (e:=5) (by decide),kB,kC,cellsOf,kE,xl,xg,xk,xc,xd,xe,xf,xj,xi,xh,reduceIte,reduceCtorEq,xy,xw,xq]
            first | exact ⟨_,rfl⟩ | exact ⟨rfl,_,rfl⟩ | exact ⟨trivial,_,rfl⟩ | exact ⟨[],(List.append_nil _).symm⟩
        · have hq3 : n < 0:=by have:=of_decide_eq_false hq2; omega
          simp only [h0,h3,h4,h6,hq1,hq2,kB,kC,cellsOf,kE,xl,xg,xk,xc,xd,xe,xf,xj,xi,xh,reduceIte,reduceCtorEq,xy,xw,xq]
          refine callO_out (j_code_must h (hc.ext (Ext.of _ _)) _ 5 (by decide)) ?_ ?_<;>intro he
          · simp at he
          · rw [h5 (by simp [hq,hq3])]
            simp only [outC_ne (e:=5) (by decide),kB,kC,cellsOf,kE,xl,xg,xk,xc,xd,xe,xf,xj,xi,xh,reduceIte,reduceCtorEq,xy,xw,xq]
            first | exact ⟨_,rfl⟩ | exact ⟨rfl,_,rfl⟩ | exact ⟨trivial,_,rfl⟩ | exact ⟨[],(List.append_nil _).symm⟩
    · intro e2 hL hf5
      simp only [kB,kC,cellsOf,kE,xl,xg,xk,xc,xd,xe,xf,xj,xi,xh,reduceIte,reduceCtorEq,xy,xw,xq] at hL
      simp only [h0,h3,h4,h6] at hL
      obtain ⟨g0,g3,g4,g6⟩:=hL
      have hN : (decide (mm < 0) && !decide (k = 1)) = !hasN k:=by
        rw [←hmm]
        unfold manyOf hasN
        cases ha : arrK k
        · cases hce : cellK k
          · cases hk21 : decide (k = 21)
            · simp
            · have : ¬ ((nb : Int) < 0):=by omega
              simp [this]
          · have : ¬ (sp < 0):=by omega
            simp [this]
        · have : ¬ ((ns : Int) < 0):=by omega
          simp [this]
      have hop : opErr ns nb rg sp k d a b c n g = if ((!hasDst k && decide (d≠0)) || (!hasA k && decide (a≠0)) || (!hasB k && decide (b≠0)) || (!hasC k && decide (c≠0)) || (decide (mm < 0) && !decide (k = 1) && decide (n≠0))) = true then 4 else 0:=by
        rw [hN]
        unfold opErr
        simp only [ho,fd,fa,fb,fc,fg,hmm,hf5,Bool.or_self,Bool.true_eq_false,Bool.false_eq_true,if_false]
        cases ((!hasDst k && decide (d≠0)) || (!hasA k && decide (a≠0)) || (!hasB k && decide (b≠0)) || (!hasC k && decide (c≠0)))<;>simp
      rw [hop]
      clear hop hN hf5 h5 h0 h3 h4 h6 fd fa fb fc fg t5 t6 t7 hmm
      simp only [g0,g3,g4,g6,c_and,dec_eq_zero,t1,t2,t3,t4,t8,kB,kC,cellsOf,kE,xl,xg,xk,xc,xd,xe,xf,xj,xi,xh,reduceIte,reduceCtorEq,xy,xw,xq]
      generalize hasDst k = B1 at *
      generalize hasA k = B2 at *
      generalize hasB k = B3 at *
      generalize hasC k = B4 at *
      have hbox:=hc
      clear hc he
      repeat' first
        | (refine gO_t ?_ ?_<;>(intro hc; simp only [*,c_and,dec_eq_zero,kB,kC,cellsOf,kE,xl,xg,xk,xc,xd,xe,xf,xj,xi,xh,reduceIte,reduceCtorEq,xy,xw,xq]))
        | (refine gO_f ?_ ?_<;>(intro hc; simp only [*,c_and,dec_eq_zero,kB,kC,cellsOf,kE,xl,xg,xk,xc,xd,xe,xf,xj,xi,xh,reduceIte,reduceCtorEq,xy,xw,xq]))
      all_goals (refine callO_out (j_code_must h (hbox.ext (Ext.of _ _)) _ 4 (by decide)) ?_ ?_<;>intro he)
      all_goals first
        | exact absurd rfl he
        | (simp at he; done)
        | (simp only [outC_zero,kB,kC,cellsOf,kE,xl,xg,xk,xc,xd,xe,xf,xj,xi,xh,reduceIte,reduceCtorEq,xy,xw,xq]; first | exact ⟨_,rfl⟩ | exact ⟨rfl,_,rfl⟩ | exact ⟨trivial,_,rfl⟩ | exact ⟨[],(List.append_nil _).symm⟩)
        | (simp only [outC_ne (e:=4) (by decide),kB,kC,cellsOf,kE,xl,xg,xk,xc,xd,xe,xf,xj,xi,xh,reduceIte,reduceCtorEq,xy,xw,xq]; first | exact ⟨_,rfl⟩ | exact ⟨rfl,_,rfl⟩ | exact ⟨trivial,_,rfl⟩ | exact ⟨[],(List.append_nil _).symm⟩)
        | (generalize decide (n≠0) = B5 at he ⊢
           cases B5
           · first
               | (exact absurd rfl he)
               | (simp only [outC_zero,Bool.false_eq_true,if_false,kB,kC,cellsOf,kE,xl,xg,xk,xc,xd,xe,xf,xj,xi,xh,reduceIte,reduceCtorEq,xy,xw,xq]; first | exact ⟨_,rfl⟩ | exact ⟨rfl,_,rfl⟩ | exact ⟨trivial,_,rfl⟩ | exact ⟨[],(List.append_nil _).symm⟩)
           · first
               | (simp at he; done)
               | (simp only [outC_ne (e:=4) (by decide),Bool.not_true,Bool.false_eq_true,if_false,if_true,kB,kC,cellsOf,kE,xl,xg,xk,xc,xd,xe,xf,xj,xi,xh,reduceIte,reduceCtorEq,xy,xw,xq]; first | exact ⟨_,rfl⟩ | exact ⟨rfl,_,rfl⟩ | exact ⟨trivial,_,rfl⟩ | exact ⟨[],(List.append_nil _).symm⟩))
end
end Go.VX.Seat
end
section
set_option maxRecDepth 4000
namespace Go.VX.Seat
open Go.Proofs
section
variable {X : Cx} {st : St}
theorem if_ne' {b : Bool} {e : Int} (h : (if b = true then 0 else e)≠0) : b = false:=by cases b<;>simp_all
theorem if_eq' {b : Bool} {e : Int} (he : e≠0) (h : (if b = true then 0 else e) = 0) : b = true:=by cases b<;>simp_all
theorem callO_must {env : Env} {Q : Post3} {K : Env→St→Post3→Prop} {dst : Option Nat} {keep : List VOpd} (h : On X) {cb : Nat} {s bl : AV} {p r cd sp blk at_ : Int} (hc : BoxAt st cb [s,iA p,iA r,iA cd,iA sp,bl,iA blk,iA at_]) {ok : Bool} {e : Int} (he : e≠0)
    (h1 : ok = true→K (env.put dst (.tup [])) st Q) (h2 : ok = false→Q (.pan (.iface 68 (.agg [iA blk,iA at_,iA e]))) env st) : callO X 54 [.ptr cb 0,bA ok,iA e] dst keep K env st Q :=
  callO_out (j_code_must h hc ok e he) (fun hq=>h1 (if_eq' he hq)) fun hq=>by
    have:=if_ne' hq
    subst this
    exact h2 rfl
theorem callO_reg {env : Env} {Q : Post3} {K : Env→St→Post3→Prop} {dst : Option Nat} {keep : List VOpd} (h : On X) {cb : Nat} {s bl : AV} {p rg cd sp blk at_ : Int} (hc : BoxAt st cb [s,iA p,iA rg,iA cd,iA sp,bl,iA blk,iA at_]) {r : Int} {used : Bool}
    (h1 : (used && !regOkA rg r) = false→K (env.put dst (.tup [])) st Q) (h2 : (used && !regOkA rg r) = true→Q (.pan (.iface 68 (.agg [iA blk,iA at_,iA 2]))) env st) : callO X 71 [.ptr cb 0,iA r,bA used] dst keep K env st Q:=by
  refine callO_out (j_code_reg h hc r used) (fun hq=>h1 ?_) fun hq=>?_
  · cases hb : (used && !regOkA rg r)
    · rfl
    · simp [hb] at hq
  · have : (used && !regOkA rg r) = true:=by
      cases hb : (used && !regOkA rg r)
      · simp [hb] at hq
      · rfl
    rw [this]
    exact h2 this
set_option maxHeartbeats 1000000 in
theorem j_code_end (h : On X) {cb : Nat} {s bl : AV} {nb : Nat} (l2 : lenA bl = some nb) {p rg cd sp blk at_ : Int} (hbox : BoxAt st cb [s,iA p,iA rg,iA cd,iA sp,bl,iA blk,iA at_]) (k a t e : Int) :
    J X.P X.F X.H (.call 58 [.ptr cb 0,.agg [iA k,iA a,iA t,iA e]] st (outC blk at_ (endErr nb rg k a t e)) st):=by
  refine out_intro (by rw [h.F]; rfl) (outC_flat _ _ _) ?_
  have x1:=hbox.at1
  by_cases hk : 1≤k∧k≤4
  case neg =>
    have he4 : endErr nb rg k a t e = 4:=by
      unfold endErr
      rw [if_pos]
      simp
      omega
    simp only [v_code_checker_end,kB,kC,cellsOf,kE,xl,xg,xk,xc,xd,xe,xf,xj,xi,xh,reduceIte,reduceCtorEq,xy,xw,xq]
    refine gO_t ?_ ?_<;>intro hc<;>simp only [x1,hc,kB,kC,cellsOf,kE,xl,xg,xk,xc,xd,xe,xf,xj,xi,xh,reduceIte,reduceCtorEq,xy,xw,xq]
    · have h2 : ¬ (k≤4):=by have:=of_decide_eq_true hc; omega
      simp only [h2,kB,kC,cellsOf,kE,xl,xg,xk,xc,xd,xe,xf,xj,xi,xh,reduceIte,reduceCtorEq,xy,xw,xq]
      refine callO_out (j_code_must h (hbox.ext (Ext.of _ _)) false 4 (by decide)) ?_ ?_<;>intro he
      · cases he
      · simp only [he4,outC_ne (e:=4) (by decide),Bool.false_eq_true,if_false,kB,kC,cellsOf,kE,xl,xg,xk,xc,xd,xe,xf,xj,xi,xh,reduceIte,reduceCtorEq,xy,xw,xq]
        first | exact ⟨_,rfl⟩ | exact ⟨rfl,_,rfl⟩ | exact ⟨trivial,_,rfl⟩ | exact ⟨[],(List.append_nil _).symm⟩
    · refine callO_out (j_code_must h (hbox.ext (Ext.of _ _)) false 4 (by decide)) ?_ ?_<;>intro he
      · cases he
      · simp only [he4,outC_ne (e:=4) (by decide),Bool.false_eq_true,if_false,kB,kC,cellsOf,kE,xl,xg,xk,xc,xd,xe,xf,xj,xi,xh,reduceIte,reduceCtorEq,xy,xw,xq]
        first | exact ⟨_,rfl⟩ | exact ⟨rfl,_,rfl⟩ | exact ⟨trivial,_,rfl⟩ | exact ⟨[],(List.append_nil _).symm⟩
  have hk4 : k = 1∨k = 2∨k = 3∨k = 4:=by omega
  rcases hk4 with rfl | rfl | rfl | rfl
  all_goals
    unfold endErr endA endTo endElse
    simp only [v_code_checker_end,x1,Int.reduceEq,Int.reduceNe,kB,kC,cellsOf,kE,xl,xg,xk,xc,xd,xe,xf,xj,xi,xh,reduceIte,reduceCtorEq,xy,xw,xq]
    repeat' first
      | (refine callO_must h (hbox.ext (Ext.of _ _)) (by decide) ?_ ?_<;>(intro hc; simp only [*,Int.reduceEq,Int.reduceNe,kB,kC,cellsOf,kE,xl,xg,xk,xc,xd,xe,xf,xj,xi,xh,reduceIte,reduceCtorEq,xy,xw,xq]))
      | (refine callO_reg h (hbox.ext (Ext.of _ _)) ?_ ?_<;>(intro hc; simp only [*,Int.reduceEq,Int.reduceNe,kB,kC,cellsOf,kE,xl,xg,xk,xc,xd,xe,xf,xj,xi,xh,reduceIte,reduceCtorEq,xy,xw,xq]))
      | (refine callO_same (j_code_within h _ _) ?_; simp only [*,Int.reduceEq,Int.reduceNe,kB,kC,cellsOf,kE,xl,xg,xk,xc,xd,xe,xf,xj,xi,xh,reduceIte,reduceCtorEq,xy,xw,xq])
      | first | (refine gO_t ?_ ?_<;>(intro hc; simp only [*,kB,kC,cellsOf,kE,xl,xg,xk,xc,xd,xe,xf,xj,xi,xh,reduceIte,reduceCtorEq,xy,xw,xq])) | (refine gO_f ?_ ?_<;>(intro hc; simp only [*,kB,kC,cellsOf,kE,xl,xg,xk,xc,xd,xe,xf,xj,xi,xh,reduceIte,reduceCtorEq,xy,xw,xq])) | (refine condO_intro ?_ ?_<;>(intro hc; simp only [*,kB,kC,cellsOf,kE,xl,xg,xk,xc,xd,xe,xf,xj,xi,xh,reduceIte,reduceCtorEq,xy,xw,xq]))
    all_goals first
      | (cases hc; done)
      | first | exact ⟨_,rfl⟩ | exact ⟨rfl,_,rfl⟩ | exact ⟨trivial,_,rfl⟩ | exact ⟨[],(List.append_nil _).symm⟩
      | (simp only [outC_zero,outC_ne (e:=2) (by decide),outC_ne (e:=4) (by decide),outC_ne (e:=5) (by decide),Int.reduceEq,Int.reduceNe,kB,kC,cellsOf,kE,xl,xg,xk,xc,xd,xe,xf,xj,xi,xh,reduceIte,reduceCtorEq,xy,xw,xq]; first | exact ⟨_,rfl⟩ | exact ⟨rfl,_,rfl⟩ | exact ⟨trivial,_,rfl⟩ | exact ⟨[],(List.append_nil _).symm⟩)
      | (refine ⟨?_,_,rfl⟩; clear x1 hbox l2 h; simp_all [outC])
      | fail
end
end Go.VX.Seat
end
section
set_option maxRecDepth 4000
namespace Go.VX.Seat
open Go.Proofs
def idxF (xs : List Int) : Int:=if xs.any badSize then (xs.findIdx badSize : Int) else -1
section
variable {X : Cx} {st : St}
theorem j_code_unit_c1 (h : On X) (n : Int) : J X.P X.F X.H (.call 56 [iA n] st (.ret (bA (badSize n))) st):=by
  refine pure_intro (by rw [h.F]; rfl) rfl ?_
  unfold badSize
  simp only [v_code_checker_unit_c1,kB,kC,cellsOf,kE,xl,xg,xk,xc,xd,xe,xf,xj,xi,xh,reduceIte,reduceCtorEq,xy,xw,xq]
  repeat' first | (refine gO_t ?_ ?_<;>(intro hc; simp only [*,kB,kC,cellsOf,kE,xl,xg,xk,xc,xd,xe,xf,xj,xi,xh,reduceIte,reduceCtorEq,xy,xw,xq])) | (refine gO_f ?_ ?_<;>(intro hc; simp only [*,kB,kC,cellsOf,kE,xl,xg,xk,xc,xd,xe,xf,xj,xi,xh,reduceIte,reduceCtorEq,xy,xw,xq])) | (refine condO_intro ?_ ?_<;>(intro hc; simp only [*,kB,kC,cellsOf,kE,xl,xg,xk,xc,xd,xe,xf,xj,xi,xh,reduceIte,reduceCtorEq,xy,xw,xq]))
  all_goals first | exact ⟨_,rfl⟩ | exact ⟨rfl,_,rfl⟩ | exact ⟨trivial,_,rfl⟩ | exact ⟨[],(List.append_nil _).symm⟩
theorem j_IndexFunc (h : On X) {lo hi : Nat} {v : AV} {xs : List Int} (hv : IntsAt st lo hi v xs) (hlen : (xs.length : Int) < 4611686018427387904) :
    J X.P X.F X.H (.call 70 [v,.fn 56 [] []] st (.ret (iA (idxF xs))) st):=by
  refine pure_intro (by rw [h.F]; rfl) rfl ?_
  have l1:=hv.len
  simp only [List.length_map] at l1
  simp only [v_slices_IndexFunc_int,l1,kB,kC,cellsOf,kE,xl,xg,xk,xc,xd,xe,xf,xj,xi,xh,reduceIte,reduceCtorEq,xy,xw,xq]
  refine loop_live [0,1,7] (fun m e=>∃ i : Nat,i + m = xs.length∧e 8 = iA i∧∀ j (h1 : j < xs.length),j < i→badSize xs[j] = false) xs.length ?_ ?_
  · exact ⟨0,by omega,by simp only [kB,kC,cellsOf,kE,xl,xg,xk,xc,xd,xe,xf,xj,xi,xh,reduceIte,reduceCtorEq,xy,xw,xq],fun j _ hj=>absurd hj (by omega)⟩
  · intro m e hL ⟨i,him,h8,hpre⟩
    simp only [kB,kC,cellsOf,kE,xl,xg,xk,xc,xd,xe,xf,xj,xi,xh,reduceIte,reduceCtorEq,xy,xw,xq] at hL
    obtain ⟨h0,h1,h7⟩:=hL
    simp only [h0,h1,h7,h8,kB,kC,cellsOf,kE,xl,xg,xk,xc,xd,xe,xf,xj,xi,xh,reduceIte,reduceCtorEq,xy,xw,xq]
    refine condO_intro ?_ ?_<;>intro hc<;>simp only [kB,kC,cellsOf,kE,xl,xg,xk,xc,xd,xe,xf,xj,xi,xh,reduceIte,reduceCtorEq,xy,xw,xq]
    · have hi : i < xs.length:=by have:=of_decide_eq_true hc; omega
      obtain ⟨b1,o1,he1,hn1,ha1,hm1⟩:=hv.get i (by simpa using hi)
      have p1:=fun L=>ha1 L 0 (by omega)
      simp only [List.getElem_map,Nat.add_zero,kB,kC,cellsOf,kE,xl,xg,xk,xc,xd,xe,xf,xj,xi,xh,reduceIte,reduceCtorEq,xy,xw,xq] at p1
      simp only [h0,h1,h7,h8,l1,he1,p1,kB,kC,cellsOf,kE,xl,xg,xk,xc,xd,xe,xf,xj,xi,xh,reduceIte,reduceCtorEq,xy,xw,xq]
      refine callO_same (j_code_unit_c1 h _) ?_
      simp only [h0,h1,h7,h8,kB,kC,cellsOf,kE,xl,xg,xk,xc,xd,xe,xf,xj,xi,xh,reduceIte,reduceCtorEq,xy,xw,xq]
      refine condO_intro ?_ ?_<;>intro hq<;>simp only [h0,h1,h7,h8,kB,kC,cellsOf,kE,xl,xg,xk,xc,xd,xe,xf,xj,xi,xh,reduceIte,reduceCtorEq,xy,xw,xq]
      · have hany : xs.any badSize = true:=List.any_eq_true.2 ⟨_,List.getElem_mem hi,hq⟩
        have hfi : xs.findIdx badSize = i:=(List.findIdx_eq hi).2 ⟨hq,fun j hj=>hpre j (by omega) hj⟩
        unfold idxF
        rw [hany,hfi]
        first
          | first | exact ⟨_,rfl⟩ | exact ⟨rfl,_,rfl⟩ | exact ⟨trivial,_,rfl⟩ | exact ⟨[],(List.append_nil _).symm⟩
          | exact ⟨rfl,_,rfl⟩
      · rw [wrap_small (by omega) (by omega)]
        refine ⟨m - 1,by omega,i + 1,by omega,by simp,fun j h1 hj=>?_⟩
        by_cases hji : j = i
        · subst hji; exact hq
        · exact hpre j (by omega) (by omega)
    · have hi : i = xs.length:=by have:=of_decide_eq_false hc; omega
      have hany : xs.any badSize = false:=by
        rw [List.any_eq_false]
        intro x hx
        obtain ⟨j,hj,rfl⟩:=List.getElem_of_mem hx
        rw [hpre j hj (by omega)]
        decide
      unfold idxF
      rw [hany]
      simp only [Bool.false_eq_true,if_false]
      first | exact ⟨_,rfl⟩ | exact ⟨rfl,_,rfl⟩ | exact ⟨trivial,_,rfl⟩ | exact ⟨[],(List.append_nil _).symm⟩
theorem j_ContainsFunc (h : On X) {lo hi : Nat} {v : AV} {xs : List Int} (hv : IntsAt st lo hi v xs) (hlen : (xs.length : Int) < 4611686018427387904) :
    J X.P X.F X.H (.call 55 [v,.fn 56 [] []] st (.ret (bA (xs.any badSize))) st):=by
  refine pure_intro (by rw [h.F]; rfl) rfl ?_
  simp only [v_slices_ContainsFunc_int,kB,kC,cellsOf,kE,xl,xg,xk,xc,xd,xe,xf,xj,xi,xh,reduceIte,reduceCtorEq,xy,xw,xq]
  refine callO_same (j_IndexFunc h (hv.mono _) hlen) ?_
  have : decide (0≤idxF xs) = xs.any badSize:=by
    unfold idxF
    cases xs.any badSize<;>simp
  simp only [this,kB,kC,cellsOf,kE,xl,xg,xk,xc,xd,xe,xf,xj,xi,xh,reduceIte,reduceCtorEq,xy,xw,xq]
  first | exact ⟨_,rfl⟩ | exact ⟨rfl,_,rfl⟩ | exact ⟨trivial,_,rfl⟩ | exact ⟨[],(List.append_nil _).symm⟩
end
end Go.VX.Seat
end
section
set_option maxRecDepth 4000
namespace Go.VX.Seat
open Go.Proofs
def outF (x : Int × Int × Int) : CRes:=outC x.2.1 x.2.2 x.1
theorem BoxAt.head (st : St) (cs : List AV) (v : Nat) (L : St) : BoxAt (st++(⟨cs,0,v⟩ :: L)) (st.length + 0) cs:=BoxAt.of (m:=0) (v:=v) (by simp) (by decide)
theorem BoxAt.first (cs : List AV) (v : Nat) (L : St) : BoxAt (⟨cs,0,v⟩ :: L) 0 cs:=BoxAt.of (m:=0) (v:=v) (by simp) (by decide)
theorem kept_loc {env : Env} {st M : St} {C C' : Box} {j o : Nat} {x : VOpd} (h : x.ev env = .ptr (st.length + (j + 1)) o) : keptA env (st++(C :: M)) (st++(C' :: M)) [x] = true:=by
  unfold keptA
  simp only [List.all_cons,List.all_nil,Bool.and_true,h,adrBox]
  rw [List.getElem?_append_right (by omega),List.getElem?_append_right (by omega),Nat.add_sub_cancel_left,List.getElem?_cons_succ,List.getElem?_cons_succ]
  cases M[j]? with
  | none=>rfl
  | some b=>simp
section
variable {X : Cx}
set_option maxHeartbeats 4000000 in
theorem w_code_unit (h : On X) {st : St} (hg : GlobAt st) {lo hi : Nat} {s bl : AV} {U : UnitV} (hs : IntsAt st lo hi s U.sizes) (hb : BlksAt st lo hi bl U.blocks) :
    wpF X 43 [.ptr (st.length + 0) 0] (st++[⟨[s,iA U.params,iA U.regs,iA U.code,iA U.spill,bl,iA 0,iA 0],0,0⟩]) fun r s=>r = outF (findU U)∧∃ m,s = st++m:=by
  refine wpF_intro (fn:=v_code_checker_unit) (by rw [h.F]; rfl) ?_
  have l1:=hs.len
  have l2 : lenA bl = some U.blocks.length:=by
    obtain ⟨f,hb,_⟩:=hb
    have:=hb.len
    simpa using this
  have hcs:=isCell_len l1
  have hcb:=isCell_len l2
  simp only [List.length_map] at l1
  simp only [v_code_checker_unit,l1,l2,hcs,hcb,kB,kC,cellsOf,kE,xl,xg,xk,xc,xd,xe,xf,xj,xi,xh,reduceIte,reduceCtorEq,xy,xw,xq]
  have hex : ∀ {r : CRes} {s' : St},(∃ L,s' = st++L)→r = outF (findU U)→(r = outF (findU U)∧∃ m,s' = st++m):=fun h1 h2=>⟨h2,h1⟩
  refine cutG m0 [0,2] (fun _=>limitsU U = false) ?_ ?_
  · have hval : limitsU U = true→outF (findU U) = outC 0 0 3:=fun hq=>by
      unfold findU
      rw [hq]
      rfl
    unfold limitsU at hval ⊢
    simp only [Bool.or_eq_true,Bool.or_eq_false_iff,decide_eq_true_eq,decide_eq_false_iff_not] at hval ⊢
    repeat' first
      | (refine gO_t ?_ ?_<;>(intro hc; simp only [hc,l1,l2,kB,kC,cellsOf,kE,xl,xg,xk,xc,xd,xe,xf,xj,xi,xh,reduceIte,reduceCtorEq,xy,xw,xq]))
      | (refine callO_must h (BoxAt.head _ _ _ _) (by decide) ?_ ?_<;>(intro hc; simp only [kB,kC,cellsOf,kE,xl,xg,xk,xc,xd,xe,xf,xj,xi,xh,reduceIte,reduceCtorEq,xy,xw,xq]))
    all_goals first
      | (cases hc; done)
      | (simp only [decide_eq_true_eq,decide_eq_false_iff_not] at *
         omega)
      | (rw [hval (by simp only [decide_eq_true_eq,decide_eq_false_iff_not] at *; omega),outC_ne (by decide)]
         first | exact ⟨_,rfl⟩ | exact ⟨rfl,_,rfl⟩ | exact ⟨trivial,_,rfl⟩ | exact ⟨[],(List.append_nil _).symm⟩)
      | fail
  · intro e1 hL hlim
    simp only [kB,kC,cellsOf,kE,xl,xg,xk,xc,xd,xe,xf,xj,xi,xh,reduceIte,reduceCtorEq,xy,xw,xq] at hL
    obtain ⟨h0,h2⟩:=hL
    have hnb : (U.blocks.length : Int)≤2000∧1≤U.blocks.length:=by
      simp only [limitsU,Bool.or_eq_false_iff,decide_eq_false_iff_not] at hlim
      omega
    have hns : (U.sizes.length : Int)≤16:=by
      simp only [limitsU,Bool.or_eq_false_iff,decide_eq_false_iff_not] at hlim
      omega
    simp only [h0,h2,l1,l2,kB,kC,cellsOf,kE,xl,xg,xk,xc,xd,xe,xf,xj,xi,xh,reduceIte,reduceCtorEq,xy,xw,xq]
    refine callO_same (j_ContainsFunc h (hs.mono _) (by omega)) ?_
    simp only [h0,h2,l1,l2,kB,kC,cellsOf,kE,xl,xg,xk,xc,xd,xe,xf,xj,xi,xh,reduceIte,reduceCtorEq,xy,xw,xq]
    refine callO_must h (BoxAt.head _ _ _ _) (by decide) ?_ ?_<;>intro hsz
    case refine_2 =>
      have : outF (findU U) = outC 0 0 2:=by
        have hsz : U.sizes.any badSize = true:=by simpa using hsz
        unfold findU
        rw [hlim,hsz]
        rfl
      simp only [this,outC_ne (e:=2) (by decide),kB,kC,cellsOf,kE,xl,xg,xk,xc,xd,xe,xf,xj,xi,xh,reduceIte,reduceCtorEq,xy,xw,xq]
      first | exact ⟨_,rfl⟩ | exact ⟨rfl,_,rfl⟩ | exact ⟨trivial,_,rfl⟩ | exact ⟨[],(List.append_nil _).symm⟩
    have hsz : U.sizes.any badSize = false:=by simpa using hsz
    simp only [h0,h2,l1,l2,kB,kC,cellsOf,kE,xl,xg,xk,xc,xd,xe,xf,xj,xi,xh,reduceIte,reduceCtorEq,xy,xw,xq]
    refine cutG m0 [0,2] (fun _=>headU U = false) ?_ ?_
    · have hval : headU U = true→outF (findU U) = outC 0 0 2:=fun hq=>by
        unfold findU
        rw [hlim,hsz,hq]
        rfl
      unfold headU at hval ⊢
      simp only [Bool.or_eq_true,Bool.or_eq_false_iff,decide_eq_true_eq,decide_eq_false_iff_not,Bool.not_eq_eq_eq_not,Bool.not_true,Bool.not_false] at hval ⊢
      repeat' first
        | (refine gO_t ?_ ?_<;>(intro hc; simp only [hc,h0,h2,l1,l2,kB,kC,cellsOf,kE,xl,xg,xk,xc,xd,xe,xf,xj,xi,xh,reduceIte,reduceCtorEq,xy,xw,xq]))
        | (refine callO_same (j_code_within h _ _) ?_; simp only [h0,h2,kB,kC,cellsOf,kE,xl,xg,xk,xc,xd,xe,xf,xj,xi,xh,reduceIte,reduceCtorEq,xy,xw,xq])
        | (refine callO_must h (BoxAt.head _ _ _ _) (by decide) ?_ ?_<;>(intro hc; simp only [h0,h2,kB,kC,cellsOf,kE,xl,xg,xk,xc,xd,xe,xf,xj,xi,xh,reduceIte,reduceCtorEq,xy,xw,xq]))
      all_goals first
        | (cases hc; done)
        | (refine ⟨?_,hc⟩
           simp only [decide_eq_true_eq,decide_eq_false_iff_not] at *
           omega)
        | (rw [hval (Or.inr hc),outC_ne (by decide)]
           first | exact ⟨_,rfl⟩ | exact ⟨rfl,_,rfl⟩ | exact ⟨trivial,_,rfl⟩ | exact ⟨[],(List.append_nil _).symm⟩)
        | (rw [hval (Or.inl (by simp only [decide_eq_true_eq,decide_eq_false_iff_not] at *; omega)),outC_ne (by decide)]
           first | exact ⟨_,rfl⟩ | exact ⟨rfl,_,rfl⟩ | exact ⟨trivial,_,rfl⟩ | exact ⟨[],(List.append_nil _).symm⟩)
        | fail
    · intro e2 hL hhd
      simp only [kB,kC,cellsOf,kE,xl,xg,xk,xc,xd,xe,xf,xj,xi,xh,reduceIte,reduceCtorEq,xy,xw,xq] at hL
      simp only [h0,h2] at hL
      obtain ⟨g0,g2⟩:=hL
      simp only [g0,g2,l1,l2,kB,kC,cellsOf,kE,xl,xg,xk,xc,xd,xe,xf,xj,xi,xh,reduceIte,reduceCtorEq,xy,xw,xq]
      have hsp : 0≤U.spill:=by
        simp only [headU,Bool.or_eq_false_iff,decide_eq_false_iff_not] at hhd
        omega
      have hval : findU U = match blkFind U 0 U.blocks with
          | some x=>x
          | none=>if decide (20000 < (total U.blocks : Int)) then (3,0,0) else (0,0,0):=by
        unfold findU
        simp only [hlim,hsz,hhd,Bool.false_eq_true,if_false]
        try rfl
      refine loop_inv (fun n e s'=>∃ (L : St) (ver : Nat) (blk at_ : Int),s' = st++(⟨[s,iA U.params,iA U.regs,iA U.code,iA U.spill,bl,iA blk,iA at_],0,ver⟩ :: L)∧BoxAt L 0 [s,iA U.params,iA U.regs,iA U.code,iA U.spill,bl]∧e 0 = .ptr (st.length + 0) 0∧e 2 = .ptr (st.length + 1) 0∧e 81 = bl∧e 82 = iA U.blocks.length ∧
        ∃ i : Nat,i + n = U.blocks.length∧e 83 = iA i∧e 3 = iA (total (U.blocks.take i))∧total (U.blocks.take i)≤400 * i∧blkFind U i (U.blocks.drop i) = blkFind U 0 U.blocks) ?_ U.blocks.length ?_
      case refine_2 =>
        exact ⟨[⟨[s,iA U.params,iA U.regs,iA U.code,iA U.spill,bl],0,1⟩],0,0,0,rfl,BoxAt.first _ _ _,by simp only [g0,kB,kC,cellsOf,kE,xl,xg,xk,xc,xd,xe,xf,xj,xi,xh,reduceIte,reduceCtorEq,xy,xw,xq],by simp only [g2,kB,kC,cellsOf,kE,xl,xg,xk,xc,xd,xe,xf,xj,xi,xh,reduceIte,reduceCtorEq,xy,xw,xq],by simp only [kB,kC,cellsOf,kE,xl,xg,xk,xc,xd,xe,xf,xj,xi,xh,reduceIte,reduceCtorEq,xy,xw,xq],by simp only [kB,kC,cellsOf,kE,xl,xg,xk,xc,xd,xe,xf,xj,xi,xh,reduceIte,reduceCtorEq,xy,xw,xq],0,by omega,by simp only [kB,kC,cellsOf,kE,xl,xg,xk,xc,xd,xe,xf,xj,xi,xh,reduceIte,reduceCtorEq,xy,xw,xq],by simp only [kB,kC,cellsOf,kE,xl,xg,xk,xc,xd,xe,xf,xj,xi,xh,reduceIte,reduceCtorEq,xy,xw,xq]; rfl,by simp [total],rfl⟩
      intro n e s' ⟨L,ver,blk,at_,hs',hB2,k0,k2,k81,k82,i,hin,k83,k3,htot,hfind⟩
      rw [show s' = st++(⟨[s,iA U.params,iA U.regs,iA U.code,iA U.spill,bl,iA blk,iA at_],0,ver⟩ :: (L++[])) by rw [hs',List.append_nil]]
      clear hs' s' g0 g2 h0 h2 e1 e2
      have y1:=hB2.at1
      have yN:=hB2.atN
      obtain ⟨f,hb1,hbo⟩:=hb
      simp only [k0,k2,k81,k82,k83,k3,kB,kC,cellsOf,kE,xl,xg,xk,xc,xd,xe,xf,xj,xi,xh,reduceIte,reduceCtorEq,xy,xw,xq]
      refine condO_intro ?_ ?_<;>intro hc<;>simp only [kB,kC,cellsOf,kE,xl,xg,xk,xc,xd,xe,xf,xj,xi,xh,reduceIte,reduceCtorEq,xy,xw,xq]
      · have hi : i < U.blocks.length:=by have:=of_decide_eq_true hc; omega
        obtain ⟨b1,o1,he1,hn1,_,_⟩:=hb1.get i (by simpa using hi)
        simp only [List.getElem_mapIdx,BlkV.row] at hn1
        have hcell:=isCell_len (hbo i hi).len
        have l3:=(hbo i hi).len
        simp only [List.length_map] at l3
        rw [List.drop_eq_getElem_cons hi] at hfind
        simp only [blkFind] at hfind
        simp only [k0,k2,k81,k82,k83,k3,y1,l2,he1,hn1,hcell,l3,kZ,kB,kC,cellsOf,kE,xl,xg,xk,xc,xd,xe,xf,xj,xi,xh,reduceIte,reduceCtorEq,xy,xw,xq]
        have hbad : (decide (U.blocks[i].catch_ < -1) || decide ((U.blocks.length : Int)≤U.blocks[i].catch_)) = true→outF (findU U) = outC i U.blocks[i].ops.length 2:=fun hb=>by
          rw [hval,← hfind]
          simp only [hb,if_true]
          rfl
        have hcat : (decide (U.blocks[i].catch_ = -1) || regOkA U.blocks.length U.blocks[i].catch_) = !(decide (U.blocks[i].catch_ < -1) || decide ((U.blocks.length : Int)≤U.blocks[i].catch_)):=by
          unfold regOkA
          by_cases q1 : U.blocks[i].catch_ = -1
          · have q2 : ¬ (U.blocks[i].catch_ < -1):=by omega
            have q3 : ¬ ((U.blocks.length : Int)≤U.blocks[i].catch_):=by omega
            simp [q1]
            omega
          · by_cases q2 : U.blocks[i].catch_ < -1
            · have q3 : ¬ (0≤U.blocks[i].catch_):=by omega
              simp [q1,q2,q3]
            · have q3 : 0≤U.blocks[i].catch_:=by omega
              by_cases q4 : (U.blocks.length : Int)≤U.blocks[i].catch_
              · have q5 : ¬ (U.blocks[i].catch_ < U.blocks.length):=by omega
                simp [q1,q2,q3,q4,q5]
              · have q5 : U.blocks[i].catch_ < U.blocks.length:=by omega
                simp [q1,q2,q3,q4,q5]
        refine ⟨kept_loc (j:=L.length + 0) (o:=0) (by simp only [kZ,kB,kC,cellsOf,kE,xl,xg,xk,xc,xd,xe,xf,xj,xi,xh,reduceIte,reduceCtorEq,xy,xw,xq]),?_⟩
        try simp only [k0,k2,k81,k82,k83,k3,y1,l2,he1,hn1,hcell,l3,kZ,kB,kC,cellsOf,kE,xl,xg,xk,xc,xd,xe,xf,xj,xi,xh,reduceIte,reduceCtorEq,xy,xw,xq]
        have hB2a : BoxAt (L++[⟨[f i,iA U.blocks[i].e.k,iA U.blocks[i].e.a,iA U.blocks[i].e.t,iA U.blocks[i].e.e,iA U.blocks[i].catch_],0,1⟩]) 0 [s,iA U.params,iA U.regs,iA U.code,iA U.spill,bl]:=hB2.ext (Ext.of _ _)
        have hB5a : BoxAt (L++[⟨[f i,iA U.blocks[i].e.k,iA U.blocks[i].e.a,iA U.blocks[i].e.t,iA U.blocks[i].e.e,iA U.blocks[i].catch_],0,1⟩]) (L.length + 0) [f i,iA U.blocks[i].e.k,iA U.blocks[i].e.a,iA U.blocks[i].e.t,iA U.blocks[i].e.e,iA U.blocks[i].catch_]:=BoxAt.last _ _ _
        refine cutG m0 [0,2,3,4,5,81,82,83] (fun _=>(decide (U.blocks[i].catch_ < -1) || decide ((U.blocks.length : Int)≤U.blocks[i].catch_)) = false) ?_ ?_
        · refine gO_f ?_ ?_<;>intro hq<;>simp only [k0,k2,k81,k82,k83,k3,y1,l2,hq,kZ,kB,kC,cellsOf,kE,xl,xg,xk,xc,xd,xe,xf,xj,xi,xh,reduceIte,reduceCtorEq,xy,xw,xq]
          · refine callO_must h (BoxAt.head _ _ _ _) (by decide) ?_ ?_<;>intro hq2
            · rw [hq,Bool.true_or] at hcat
              have:=congrArg (! ·) hcat
              simp only [Bool.not_not,Bool.not_true] at this
              simp only [←this,kZ,kB,kC,cellsOf,kE,xl,xg,xk,xc,xd,xe,xf,xj,xi,xh,reduceIte,reduceCtorEq,xy,xw,xq]
            · cases hq2
          · refine callO_same (j_code_within h _ _) ?_
            simp only [k0,k2,k81,k82,k83,k3,kZ,kB,kC,cellsOf,kE,xl,xg,xk,xc,xd,xe,xf,xj,xi,xh,reduceIte,reduceCtorEq,xy,xw,xq]
            refine callO_must h (BoxAt.head _ _ _ _) (by decide) ?_ ?_<;>intro hq2
            · rw [hq2,Bool.or_true] at hcat
              have:=congrArg (! ·) hcat
              simp only [Bool.not_not,Bool.not_true] at this
              simp only [←this,kZ,kB,kC,cellsOf,kE,xl,xg,xk,xc,xd,xe,xf,xj,xi,xh,reduceIte,reduceCtorEq,xy,xw,xq]
            · rw [hq,hq2,Bool.or_self] at hcat
              have:=congrArg (! ·) hcat
              simp only [Bool.not_not,Bool.not_false] at this
              simp only [hbad this.symm,outC_ne (e:=2) (by decide),kZ,kB,kC,cellsOf,kE,xl,xg,xk,xc,xd,xe,xf,xj,xi,xh,reduceIte,reduceCtorEq,xy,xw,xq]
              first | exact ⟨_,rfl⟩ | exact ⟨rfl,_,rfl⟩ | exact ⟨trivial,_,rfl⟩ | exact ⟨[],(List.append_nil _).symm⟩
        · intro e5 hL5 hcatok
          simp only [hcatok,Bool.false_eq_true,if_false] at hfind
          clear hbad hcat
          simp only [k0,k2,k81,k82,k83,k3,kZ,kB,kC,cellsOf,kE,xl,xg,xk,xc,xd,xe,xf,xj,xi,xh,reduceIte,reduceCtorEq,xy,xw,xq] at hL5
          obtain ⟨m0',m2,m3,m4,m5,m81,m82,m83⟩:=hL5
          clear k0 k2 k81 k82 k83 k3
          have z1:=hB2a.at1
          have z5:=hB5a.at1
          have z5N:=hB5a.atN
          generalize hL2 : L++[⟨[f i,iA U.blocks[i].e.k,iA U.blocks[i].e.a,iA U.blocks[i].e.t,iA U.blocks[i].e.e,iA U.blocks[i].catch_],0,1⟩] = L2 at *
          simp only [Nat.add_zero] at z5 z5N
          rw [show L2 = L2++[] by simp]
          simp only [m0',m2,m3,m4,m5,m81,m82,m83,z1,z5,l3,kB,kC,cellsOf,kE,xl,xg,xk,xc,xd,xe,xf,xj,xi,xh,reduceIte,reduceCtorEq,xy,xw,xq]
          refine callO_must h (BoxAt.head _ _ _ _) (by decide) ?_ ?_<;>intro hq4
          case refine_2 =>
            have h400 : decide (400 < (U.blocks[i].ops.length : Int)) = true:=by
              have:=of_decide_eq_false hq4
              exact decide_eq_true (by omega)
            have : outF (findU U) = outC i U.blocks[i].ops.length 3:=by
              rw [hval,← hfind]
              simp only [h400,if_true]
              rfl
            simp only [this,outC_ne (e:=3) (by decide),kB,kC,cellsOf,kE,xl,xg,xk,xc,xd,xe,xf,xj,xi,xh,reduceIte,reduceCtorEq,xy,xw,xq]
            first | exact ⟨_,rfl⟩ | exact ⟨rfl,_,rfl⟩ | exact ⟨trivial,_,rfl⟩ | exact ⟨[],(List.append_nil _).symm⟩
          have hle : U.blocks[i].ops.length≤400:=by have:=of_decide_eq_true hq4; omega
          have h400 : decide (400 < (U.blocks[i].ops.length : Int)) = false:=decide_eq_false (by omega)
          simp only [h400,Bool.false_eq_true,if_false] at hfind
          simp only [m0',m2,m3,m4,m5,m81,m82,m83,z1,z5,l3,kB,kC,cellsOf,kE,xl,xg,xk,xc,xd,xe,xf,xj,xi,xh,reduceIte,reduceCtorEq,xy,xw,xq]
          refine loop_inv (fun n e s'=>∃ (L3 : St) (ver : Nat) (at_ : Int),s' = st++(⟨[s,iA U.params,iA U.regs,iA U.code,iA U.spill,bl,iA i,iA at_],0,ver⟩ :: L3)∧BoxAt L3 0 [s,iA U.params,iA U.regs,iA U.code,iA U.spill,bl]∧BoxAt L3 L.length [f i,iA U.blocks[i].e.k,iA U.blocks[i].e.a,iA U.blocks[i].e.t,iA U.blocks[i].e.e,iA U.blocks[i].catch_] ∧
            e 0 = .ptr (st.length + 0) 0∧e 2 = .ptr (st.length + 1) 0∧e 3 = iA (total (U.blocks.take i))∧e 5 = .ptr (st.length + (L.length + 0 + 1)) 0∧e 81 = bl∧e 82 = iA U.blocks.length∧e 83 = iA i∧e 118 = f i∧e 119 = iA U.blocks[i].ops.length ∧
            ∃ k : Nat,k + n = U.blocks[i].ops.length∧e 120 = iA k∧opsFind U i k (U.blocks[i].ops.drop k) = opsFind U i 0 U.blocks[i].ops) ?_ U.blocks[i].ops.length ?_
          case refine_2 =>
            refine ⟨L2,_,_,by rw [List.append_nil],hB2a,by simpa using hB5a,?_,?_,?_,?_,?_,?_,?_,?_,?_,0,by omega,?_,rfl⟩
            all_goals simp only [m0',m2,m3,m4,m5,m81,m82,m83,kB,kC,cellsOf,kE,xl,xg,xk,xc,xd,xe,xf,xj,xi,xh,reduceIte,reduceCtorEq,xy,xw,xq]
            all_goals rfl
          clear z1 z5 z5N m0' m2 m3 m4 m5 m81 m82 m83 e5 hB2a hB5a y1 yN hL2
          intro n2 e6 s6 ⟨L3,ver3,at3,hs6,c2,c5,k0,k2,k3,k5,k81,k82,k83,k118,k119,k,hk,k120,hof⟩
          rw [show s6 = st++(⟨[s,iA U.params,iA U.regs,iA U.code,iA U.spill,bl,iA i,iA at3],0,ver3⟩ :: (L3++[])) by rw [hs6,List.append_nil]]
          clear hs6 s6
          have z1:=c2.at1
          have z5:=c5.at1
          have z5N:=c5.atN
          simp only [k0,k2,k3,k5,k81,k82,k83,k118,k119,k120,kB,kC,cellsOf,kE,xl,xg,xk,xc,xd,xe,xf,xj,xi,xh,reduceIte,reduceCtorEq,xy,xw,xq]
          refine condO_intro ?_ ?_<;>intro hc6<;>simp only [kB,kC,cellsOf,kE,xl,xg,xk,xc,xd,xe,xf,xj,xi,xh,reduceIte,reduceCtorEq,xy,xw,xq]
          · have hk2 : k < U.blocks[i].ops.length:=by have:=of_decide_eq_true hc6; omega
            obtain ⟨b2,o2,he2,hn2,_,_⟩:=(hbo i hi).get k (by simpa using hk2)
            simp only [List.getElem_map,OpV.row] at hn2
            rw [List.drop_eq_getElem_cons hk2] at hof
            simp only [opsFind] at hof
            simp only [k0,k2,k3,k5,k81,k82,k83,k118,k119,k120,l3,he2,hn2,kZ,kB,kC,cellsOf,kE,xl,xg,xk,xc,xd,xe,xf,xj,xi,xh,reduceIte,reduceCtorEq,xy,xw,xq]
            refine callO_out (j_code_op h (hg.ext (Ext.of _ _)) l1 l2 hsp (BoxAt.head _ _ _ _) _ _ _ _ _ _ _) ?_ ?_<;>intro hq7
            · have hx : opsFind U i (k + 1) ((U.blocks[i].ops).drop (k + 1)) = opsFind U i 0 U.blocks[i].ops:=by
                rw [←hof]
                refine (if_neg ?_).symm
                intro hd
                exact (of_decide_eq_true hd) hq7
              simp only [k0,k2,k3,k5,k81,k82,k83,k118,k119,k120,kZ,kB,kC,cellsOf,kE,xl,xg,xk,xc,xd,xe,xf,xj,xi,xh,reduceIte,reduceCtorEq,xy,xw,xq]
              rw [wrap_small (by omega) (by omega)]
              exact ⟨n2 - 1,by omega,_,_,_,rfl,c2.ext (Ext.of _ _),c5.ext (Ext.of _ _),k + 1,by omega,by simp,hx⟩
            · have hx : opsFind U i 0 U.blocks[i].ops = some (opErrU U (U.blocks[i].ops)[k],(i : Int),(k : Int)):=by
                rw [←hof]
                exact if_pos (decide_eq_true hq7)
              rw [hx] at hfind
              simp only at hfind
              have : outF (findU U) = outC i k (opErrU U (U.blocks[i].ops)[k]):=by
                rw [hval,← hfind]
                rfl
              have hq8 : opErrU U (U.blocks[i].ops)[k]≠0:=hq7
              simp only [this,outC_ne hq8,kZ,kB,kC,cellsOf,kE,xl,xg,xk,xc,xd,xe,xf,xj,xi,xh,reduceIte,reduceCtorEq,xy,xw,xq]
              first
                | first | exact ⟨_,rfl⟩ | exact ⟨rfl,_,rfl⟩ | exact ⟨trivial,_,rfl⟩ | exact ⟨[],(List.append_nil _).symm⟩
                | fail
          · have hk2 : k = U.blocks[i].ops.length:=by have:=of_decide_eq_false hc6; omega
            rw [←hof,List.drop_eq_nil_of_le (by omega)] at hfind
            simp only [opsFind] at hfind
            simp only [k0,k2,k3,k5,k81,k82,k83,k118,k119,k120,z1,z5,z5N,l3,kZ,kB,kC,cellsOf,kE,xl,xg,xk,xc,xd,xe,xf,xj,xi,xh,reduceIte,reduceCtorEq,xy,xw,xq]
            refine callO_out (j_code_end h l2 (BoxAt.head _ _ _ _) _ _ _ _) ?_ ?_<;>intro hq7
            · have hd : decide (endErrU U U.blocks[i].e≠0) = false:=decide_eq_false (fun hn=>hn hq7)
              simp only [hd,Bool.false_eq_true,if_false] at hfind
              have htk : total (U.blocks.take (i + 1)) = total (U.blocks.take i) + U.blocks[i].ops.length:=by
                unfold total
                rw [List.take_succ_eq_append_getElem hi]
                simp only [List.map_append,List.map_cons,List.map_nil,List.sum_append,List.sum_cons,List.sum_nil,Nat.add_zero]
              simp only [k0,k2,k3,k5,k81,k82,k83,k118,k119,k120,z1,z5,z5N,l3,kZ,kB,kC,cellsOf,kE,xl,xg,xk,xc,xd,xe,xf,xj,xi,xh,reduceIte,reduceCtorEq,xy,xw,xq]
              rw [wrap_small (by omega) (by omega)]
              try rw [wrap_small (by omega) (by omega)]
              refine ⟨n - 1,by omega,_,_,_,_,rfl,c2.ext (Ext.of _ _),i + 1,by omega,by simp,by rw [htk]; simp,by omega,hfind⟩
            · have hd : decide (endErrU U U.blocks[i].e≠0) = true:=decide_eq_true hq7
              have : outF (findU U) = outC i U.blocks[i].ops.length (endErrU U U.blocks[i].e):=by
                rw [hval,← hfind]
                simp only [hd,if_true]
                rfl
              have hq8 : endErrU U U.blocks[i].e≠0:=hq7
              simp only [this,outC_ne hq8,kZ,kB,kC,cellsOf,kE,xl,xg,xk,xc,xd,xe,xf,xj,xi,xh,reduceIte,reduceCtorEq,xy,xw,xq]
              first
                | first | exact ⟨_,rfl⟩ | exact ⟨rfl,_,rfl⟩ | exact ⟨trivial,_,rfl⟩ | exact ⟨[],(List.append_nil _).symm⟩
                | fail
      · have hi : i = U.blocks.length:=by have:=of_decide_eq_false hc; omega
        have t1 : U.blocks.take i = U.blocks:=List.take_of_length_le (by omega)
        have t2 : U.blocks.drop i = []:=List.drop_eq_nil_of_le (by omega)
        rw [t1] at k3
        rw [t2] at hfind
        simp only [blkFind] at hfind
        rw [←hfind] at hval
        simp only at hval
        simp only [k0,k2,k3,kZ,kB,kC,cellsOf,kE,xl,xg,xk,xc,xd,xe,xf,xj,xi,xh,reduceIte,reduceCtorEq,xy,xw,xq]
        refine callO_must h (BoxAt.head _ _ _ _) (by decide) ?_ ?_<;>intro hq
        · have : outF (findU U) = .ret (.tup []):=by
            have h2 : decide (20000 < (total U.blocks : Int)) = false:=by
              have:=of_decide_eq_true hq
              exact decide_eq_false (by omega)
            rw [hval,h2]
            rfl
          simp only [this,kZ,kB,kC,cellsOf,kE,xl,xg,xk,xc,xd,xe,xf,xj,xi,xh,reduceIte,reduceCtorEq,xy,xw,xq]
          first | exact ⟨_,rfl⟩ | exact ⟨rfl,_,rfl⟩ | exact ⟨trivial,_,rfl⟩ | exact ⟨[],(List.append_nil _).symm⟩
        · have : outF (findU U) = outC 0 0 3:=by
            have h2 : decide (20000 < (total U.blocks : Int)) = true:=by
              have:=of_decide_eq_false hq
              exact decide_eq_true (by omega)
            rw [hval,h2]
            rfl
          simp only [this,outC_ne (e:=3) (by decide),kZ,kB,kC,cellsOf,kE,xl,xg,xk,xc,xd,xe,xf,xj,xi,xh,reduceIte,reduceCtorEq,xy,xw,xq]
          first | exact ⟨_,rfl⟩ | exact ⟨rfl,_,rfl⟩ | exact ⟨trivial,_,rfl⟩ | exact ⟨[],(List.append_nil _).symm⟩
end
end Go.VX.Seat
end
section
set_option maxRecDepth 4000
namespace Go.VX.Seat
open Go.Proofs
def AppOk (s : St) (w : AV) : Prop:=∀ b o n e full,w = .sl b o n e full→full = true∨((s[b]?).map (·.mode)) = some 0
structure OwnS (s : St) (lo : Nat) (w : AV) (esz : Nat) (rows : List (List AV)) : Prop where
  arr : ArrAt s lo s.length w esz rows
  bnd : ∀ b,boxOf w = some b→lo≤b∧b < s.length
  app : AppOk s w
def ExactBox (s : St) (w : AV) (esz : Nat) (rows : List (List AV)) : Prop:=rows≠[]→∃ b full ver,w = .sl b 0 rows.length esz full∧s[b]? = some ⟨rows.flatten,0,ver⟩
theorem nil_or_sl {v : AV} {n : Nat} (h : lenA v = some n) : (v = .sc (.slice none 0 0)∧n = 0)∨∃ b o e f,v = .sl b o n e f:=by
  unfold lenA at h
  split at h
  · cases h; exact .inr ⟨_,_,_,_,rfl⟩
  · cases h; exact .inl ⟨rfl,rfl⟩
  · cases h
theorem emptyArr (st : St) (lo hi esz : Nat) : ArrAt st lo hi (.sc (.slice none 0 0)) esz [] where
  len:=rfl
  size:=fun b o len e f h=>by cases h
  row:=fun i h=>absurd h (by simp)
theorem _root_.Go.VX.ArrAt.wide' {st : St} {lo hi lo' hi' : Nat} {v : AV} {esz : Nat} {rows : List (List AV)} (h : ArrAt st lo hi v esz rows) (h1 : lo'≤lo) (h2 : hi≤hi') : ArrAt st lo' hi' v esz rows where
  len:=h.len
  size:=h.size
  row:=fun i hi=>by
    obtain ⟨b,o,a1,a2,a3,a4⟩:=h.row i hi
    exact ⟨b,o,a1,by omega,by omega,a4⟩
theorem _root_.Go.VX.ArrAt.wide {st : St} {lo hi hi' : Nat} {v : AV} {esz : Nat} {rows : List (List AV)} (h : ArrAt st lo hi v esz rows) (h2 : hi≤hi') : ArrAt st lo hi' v esz rows:=h.wide' (Nat.le_refl _) h2
theorem own_nil (s : St) (lo esz : Nat) : OwnS s lo (.sc (.slice none 0 0)) esz []:=⟨emptyArr _ _ _ _,fun b h=>(by cases h),fun b o n e full h=>(by cases h)⟩
section
variable {X : Cx} {st : St}
end
end Go.VX.Seat
end
section
set_option maxRecDepth 4000
namespace Go.VX.Seat
open Go.Proofs
theorem OwnS.agree {X : Nat→Prop} {s s' : St} {lo esz : Nat} {w : AV} {rows : List (List AV)} (h : OwnS s lo w esz rows) (ha : Agree X s s') (hx : ∀ b,boxOf w = some b→¬ X b) : OwnS s' lo w esz rows where
  arr:=(h.arr.agree ha hx).wide ha.len
  bnd:=fun b hb=>⟨(h.bnd b hb).1,Nat.lt_of_lt_of_le (h.bnd b hb).2 ha.len⟩
  app:=fun b o n e full hw=>by
    have hb : boxOf w = some b:=by rw [hw]; rfl
    rcases h.app b o n e full hw with h1 | h1
    · exact .inl h1
    · exact .inr (by rw [ha.eq b (h.bnd b hb).2 (hx b hb)]; exact h1)
theorem OwnS.low {s : St} {lo lo' esz : Nat} {w : AV} {rows : List (List AV)} (h : OwnS s lo w esz rows) (hl : lo'≤lo) : OwnS s lo' w esz rows where
  arr:=h.arr.wide' hl (Nat.le_refl _)
  bnd:=fun b hb=>⟨Nat.le_trans hl (h.bnd b hb).1,(h.bnd b hb).2⟩
  app:=h.app
theorem ExactBox.agree {X : Nat→Prop} {s s' : St} {esz : Nat} {w : AV} {rows : List (List AV)} (h : ExactBox s w esz rows) (ha : Agree X s s') (hx : ∀ b,boxOf w = some b→¬ X b) : ExactBox s' w esz rows:=fun hne=>by
  obtain ⟨b,full,ver,rfl,hb⟩:=h hne
  exact ⟨b,full,ver,rfl,by rw [ha.eq b (List.getElem?_eq_some_iff.1 hb).1 (hx b rfl)]; exact hb⟩
def blkRows (l : List BlkV) (f : Nat→AV) : List (List AV):=l.mapIdx fun i b=>b.row (f i)
theorem blkRows_length (l : List BlkV) (f : Nat→AV) : (blkRows l f).length = l.length:=by simp [blkRows]
structure OwnB (s : St) (lo : Nat) (bl : AV) (f : Nat→AV) (l : List BlkV) : Prop where
  own : OwnS s lo bl 6 (blkRows l f)
  box : ExactBox s bl 6 (blkRows l f)
  ops : ∀ i (h : i < l.length),OwnS s lo (f i) 7 (l[i].ops.map OpV.row)
  sep1 : ∀ i,i < l.length→∀ b,boxOf bl = some b→boxOf (f i)≠some b
  sep2 : ∀ i j,i < l.length→j < l.length→i≠j→∀ b,boxOf (f i) = some b→boxOf (f j)≠some b
structure OwnZ (s : St) (lo : Nat) (sz bl : AV) (f : Nat→AV) (zs : List Int) (l : List BlkV) : Prop where
  own : OwnS s lo sz 1 (zs.map fun n=>[iA n])
  sep : ∀ b,boxOf sz = some b→boxOf bl≠some b∧∀ i,i < l.length→boxOf (f i)≠some b
structure OwnU (s : St) (lo : Nat) (v : AV) (U : UnitV) : Prop where
  ex : ∃ sz bl f,v = .agg [sz,iA U.params,iA U.regs,iA U.code,iA U.spill,bl]∧OwnZ s lo sz bl f U.sizes U.blocks∧OwnB s lo bl f U.blocks
theorem OwnB.agree {X : Nat→Prop} {s s' : St} {lo : Nat} {bl : AV} {f : Nat→AV} {l : List BlkV} (h : OwnB s lo bl f l) (ha : Agree X s s') (hx : ∀ b,lo≤b→b < s.length→¬ X b) : OwnB s' lo bl f l where
  own:=h.own.agree ha fun b hb=>hx b (h.own.bnd b hb).1 (h.own.bnd b hb).2
  box:=h.box.agree ha fun b hb=>hx b (h.own.bnd b hb).1 (h.own.bnd b hb).2
  ops:=fun i hi=>(h.ops i hi).agree ha fun b hb=>hx b ((h.ops i hi).bnd b hb).1 ((h.ops i hi).bnd b hb).2
  sep1:=h.sep1
  sep2:=h.sep2
theorem OwnZ.agree {X : Nat→Prop} {s s' : St} {lo : Nat} {sz bl : AV} {f : Nat→AV} {zs : List Int} {l : List BlkV} (h : OwnZ s lo sz bl f zs l) (ha : Agree X s s') (hx : ∀ b,lo≤b→b < s.length→¬ X b) : OwnZ s' lo sz bl f zs l where
  own:=h.own.agree ha fun b hb=>hx b (h.own.bnd b hb).1 (h.own.bnd b hb).2
  sep:=h.sep
theorem OwnU.agree {X : Nat→Prop} {s s' : St} {lo : Nat} {v : AV} {U : UnitV} (h : OwnU s lo v U) (ha : Agree X s s') (hx : ∀ b,lo≤b→b < s.length→¬ X b) : OwnU s' lo v U :=
  let ⟨sz,bl,f,e,hz,hb⟩:=h.ex
  ⟨sz,bl,f,e,hz.agree ha hx,hb.agree ha hx⟩
theorem OwnB.blks {s : St} {lo : Nat} {bl : AV} {f : Nat→AV} {l : List BlkV} (h : OwnB s lo bl f l) : BlksAt s lo s.length bl l:=⟨f,h.own.arr,fun i hi=>(h.ops i hi).arr⟩
theorem OwnU.unit {s : St} {lo : Nat} {v : AV} {U : UnitV} (h : OwnU s lo v U) : UnitAt s lo s.length v U :=
  let ⟨sz,bl,f,e,hz,hb⟩:=h.ex
  ⟨sz,bl,e,hz.own.arr,hb.blks⟩
theorem blkRows_snoc (l : List BlkV) (f : Nat→AV) (b : BlkV) (w : AV) : blkRows (l++[b]) (fun j=>if j = l.length then w else f j) = blkRows l f++[b.row w]:=by
  unfold blkRows
  apply List.ext_getElem
  · simp
  · intro i h1 h2
    simp only [List.getElem_mapIdx]
    by_cases hi : i < l.length
    · rw [List.getElem_append_left hi,List.getElem_append_left (by simpa using hi),List.getElem_mapIdx,if_neg (by omega)]
    · simp at h1
      have : i = l.length:=by omega
      subst this
      simp
theorem OwnB.snoc {X : Nat→Prop} {s s3 : St} {lo : Nat} {bl bl' w : AV} {f : Nat→AV} {l : List BlkV} {b : BlkV} (hB : OwnB s lo bl f l) (ha : Agree X s s3) (hX : ∀ n,n < s.length→X n→boxOf bl = some n) (hw : OwnS s3 lo w 7 (b.ops.map OpV.row)) (hwn : ∀ n,boxOf w = some n→s.length≤n)
    (hown : OwnS s3 lo bl' 6 (blkRows l f++[b.row w])) (hex : ExactBox s3 bl' 6 (blkRows l f++[b.row w])) (hbl : ∀ n,boxOf bl' = some n→s.length≤n∧boxOf w≠some n) : OwnB s3 lo bl' (fun j=>if j = l.length then w else f j) (l++[b]) where
  own:=by rw [blkRows_snoc]; exact hown
  box:=by rw [blkRows_snoc]; exact hex
  ops:=fun i hi=>by
    by_cases h : i < l.length
    · simp only [List.getElem_append_left h]
      rw [if_neg (by omega)]
      exact (hB.ops i h).agree ha fun n hn hx=>hB.sep1 i h n (hX n ((hB.ops i h).bnd n hn).2 hx) hn
    · simp at hi
      have : i = l.length:=by omega
      subst this
      simpa using hw
  sep1:=fun i hi n hn=>by
    have h1:=hbl n hn
    by_cases h : i < l.length
    · rw [if_neg (by omega)]
      intro h2
      have:=((hB.ops i h).bnd n h2).2
      omega
    · simp at hi
      rw [if_pos (by omega)]
      exact h1.2
  sep2:=fun i j hi hj hij n hn=>by
    simp at hi hj
    by_cases h : i < l.length<;>by_cases h' : j < l.length
    · rw [if_neg (by omega)] at hn ⊢
      exact hB.sep2 i j h h' hij n hn
    · rw [if_neg (by omega)] at hn
      rw [if_pos (by omega)]
      intro h2
      have:=((hB.ops i h).bnd n hn).2
      have:=hwn n h2
      omega
    · rw [if_pos (by omega)] at hn
      rw [if_neg (by omega)]
      intro h2
      have:=((hB.ops j h').bnd n h2).2
      have:=hwn n hn
      omega
    · omega
theorem OwnZ.snoc {X : Nat→Prop} {s s3 : St} {lo : Nat} {sz bl bl' w : AV} {f : Nat→AV} {zs : List Int} {l : List BlkV} {b : BlkV} (hZ : OwnZ s lo sz bl f zs l) (ha : Agree X s s3) (hX : ∀ n,n < s.length→X n→boxOf bl = some n) (hwn : ∀ n,boxOf w = some n→s.length≤n) (hbl : ∀ n,boxOf bl' = some n→s.length≤n) :
    OwnZ s3 lo sz bl' (fun j=>if j = l.length then w else f j) zs (l++[b]) where
  own:=hZ.own.agree ha fun n hn hx=>(hZ.sep n hn).1 (hX n (hZ.own.bnd n hn).2 hx)
  sep:=fun n hn=>by
    have h0:=(hZ.own.bnd n hn).2
    refine ⟨fun h=>by have:=hbl n h; omega,fun i hi h=>?_⟩
    simp at hi
    by_cases h' : i < l.length
    · rw [if_neg (by omega)] at h
      exact (hZ.sep n hn).2 i h' h
    · rw [if_pos (by omega)] at h
      have:=hwn n h
      omega
theorem OwnB.low {s : St} {lo lo' : Nat} {bl : AV} {f : Nat→AV} {l : List BlkV} (h : OwnB s lo bl f l) (hl : lo'≤lo) : OwnB s lo' bl f l :=
  ⟨h.own.low hl,h.box,fun i hi=>(h.ops i hi).low hl,h.sep1,h.sep2⟩
theorem OwnZ.low {s : St} {lo lo' : Nat} {sz bl : AV} {f : Nat→AV} {zs : List Int} {l : List BlkV} (h : OwnZ s lo sz bl f zs l) (hl : lo'≤lo) : OwnZ s lo' sz bl f zs l:=⟨h.own.low hl,h.sep⟩
theorem OwnU.low {s : St} {lo lo' : Nat} {v : AV} {U : UnitV} (h : OwnU s lo v U) (hl : lo'≤lo) : OwnU s lo' v U :=
  let ⟨sz,bl,f,e,hz,hb⟩:=h.ex
  ⟨sz,bl,f,e,hz.low hl,hb.low hl⟩
theorem srcCells_arr {s : St} {lo hi esz : Nat} {v : AV} {rows : List (List AV)} (h : ArrAt s lo hi v esz rows) : srcCells s esz rows.length v = some rows.flatten:=by
  by_cases hr : rows = []
  · subst hr
    have hl:=h.len
    rcases nil_or_sl hl with ⟨rfl,_⟩ | ⟨b,o,e,f,rfl⟩
    · rfl
    · obtain ⟨h1,h2⟩:=h.size _ _ _ _ _ rfl
      subst h1
      simp only [srcCells,List.length_nil,Nat.le_refl,true_and,if_true,Nat.zero_mul,h2,List.flatten_nil]
  · exact h.src hr
theorem append_own {P : Program} {env : Env} {s : St} {lo lo' hi' esz bytes : Nat} {x y : VOpd} {rows rows2 : List (List AV)} (hx : OwnS s lo (x.ev env) esz rows) (hlo : lo≤s.length) (hy : ArrAt s lo' hi' (y.ev env) esz rows2)
    (hsz : (rows.length + rows2.length) * (bytes + 1)≤1000000000) (hc : rows2.flatten.all AV.isCell = true) :
    ∃ w s',vop P (.append esz bytes x y) env s = some (.val w,s')∧Agree (fun b=>rows2≠[]∧boxOf (x.ev env) = some b) s s'∧OwnS s' lo w esz (rows++rows2) ∧
      ((rows2 = []∧w = x.ev env∧s' = s)∨(rows2≠[]∧boxOf w = some s.length∧ExactBox s' w esz (rows++rows2))):=by
  have l1:=hx.arr.len
  have l2:=hy.len
  have q1:=srcLen_len l1
  have q2:=srcLen_len l2
  have q3:=srcCells_arr hx.arr
  have q4:=srcCells_arr hy
  have hrl : ∀ r ∈ rows++rows2,r.length = esz:=fun r hr=>by
    rcases List.mem_append.1 hr with hr | hr
    · exact hx.arr.rowlen r hr
    · exact hy.rowlen r hr
  have key : ∀ (s1 : St) (X : Nat→Prop),s1.length = s.length→Agree X s s1→(∀ b,X b→boxOf (x.ev env) = some b)→rows2≠[]→vop P (.append esz bytes x y) env s = some (.val (.sl s.length 0 (rows.length + rows2.length) esz false),s1++[⟨rows.flatten++rows2.flatten,0,0⟩]) →
      ∃ w s',vop P (.append esz bytes x y) env s = some (.val w,s')∧Agree (fun b=>rows2≠[]∧boxOf (x.ev env) = some b) s s'∧OwnS s' lo w esz (rows++rows2) ∧
      ((rows2 = []∧w = x.ev env∧s' = s)∨(rows2≠[]∧boxOf w = some s.length∧ExactBox s' w esz (rows++rows2))):=by
    intro s1 X hl1 ha hX hne hv
    have hb : (s1++[⟨rows.flatten++rows2.flatten,0,0⟩])[s.length]? = some ⟨(rows++rows2).flatten,0,0⟩:=by
      rw [List.getElem?_append_right (by omega),hl1]; simp
    refine ⟨_,_,hv,?_,⟨(ArrAt.ofBox hb (by decide) hrl (by simp)).wide' hlo (by simp [hl1]),fun b h=>?_,fun b o n e full h=>?_⟩,.inr ⟨hne,rfl,fun _=>⟨_,_,_,by rw [List.length_append],hb⟩⟩⟩
    · have:=ha.trans (Agree.app (fun _=>False) s1 [⟨rows.flatten++rows2.flatten,0,0⟩])
      exact this.mono fun n _ h=>by
        rcases h with h | h
        · exact ⟨hne,hX n h⟩
        · exact h.elim
    · cases h
      simp [hl1]
      exact hlo
    · cases h
      exact .inr (by rw [hb]; rfl)
  rcases nil_or_sl l1 with ⟨he,h0⟩ | ⟨b,o,e,f,he⟩
  · have hr : rows = []:=List.length_eq_zero_iff.1 h0
    subst hr
    by_cases hne : rows2 = []
    · subst hne
      refine ⟨_,s,?_,Agree.refl _ _,by simpa using hx,.inl ⟨rfl,rfl,rfl⟩⟩
      simp only [List.length_nil] at q1 q2 q3 q4
      rw [he] at q1 q3 ⊢
      simp only [vop,he,q1,q2,q3,q4]
      rw [if_pos (by simp)]
      rfl
    · refine key s (fun _=>False) rfl (Agree.refl _ _) (fun _ h=>h.elim) hne ?_
      have hm : rows2.length≠0:=fun h=>hne (List.length_eq_zero_iff.1 h)
      simp only [List.length_nil] at q1 q3 hsz
      rw [he] at q1 q3
      simp only [vop,he,q1,q2,q3,q4]
      rw [if_pos (by simpa using hsz)]
      simp only [hm,if_false,List.length_nil,List.flatten_nil,List.nil_append]
  · have h1:=(hx.arr.size _ _ _ _ _ he).1
    subst h1
    by_cases hne : rows2 = []
    · subst hne
      refine ⟨_,s,?_,Agree.refl _ _,by simpa using hx,.inl ⟨rfl,rfl,rfl⟩⟩
      simp only [List.length_nil] at q2 q4
      rw [he] at q1 q3 ⊢
      simp only [vop,he,q1,q2,q3,q4]
      rw [if_pos (by simpa using hsz)]
      rfl
    · have hm : rows2.length≠0:=fun h=>hne (List.length_eq_zero_iff.1 h)
      rw [he] at q1 q3
      cases f with
      | true =>
        refine key s (fun _=>False) rfl (Agree.refl _ _) (fun _ h=>h.elim) hne ?_
        simp only [vop,he,q1,q2,q3,q4]
        rw [if_pos hsz]
        simp only [hm,if_false,if_true]
      | false =>
        have hm0 : ((s[b]?).map (·.mode)) = some 0:=by
          rcases hx.app _ _ _ _ _ he with h | h
          · cases h
          · exact h
        refine key (s.kill b) (fun n=>n = b) ?_ (Agree.kill s b) (fun n hn=>by rw [he,hn]; rfl) hne ?_
        · unfold St.kill
          split<;>simp
        · simp only [vop,he,q1,q2,q3,q4]
          rw [if_pos hsz]
          simp only [hm,if_false,Bool.false_eq_true]
          rw [if_pos ⟨hm0,hc⟩]
theorem opR_append {X : Cx} {K : Env→St→Post3→Prop} {Q : Post3} {d : Option Nat} {k : List VOpd} {env : Env} {s : St} {lo lo' hi' esz bytes : Nat} {x y : VOpd} {rows rows2 : List (List AV)} {vx vy : AV} (ex : x.ev env = vx) (ey : y.ev env = vy) (hx : OwnS s lo vx esz rows) (hlo : lo≤s.length) (hy : ArrAt s lo' hi' vy esz rows2)
    (hsz : (rows.length + rows2.length) * (bytes + 1)≤1000000000) (hc : rows2.flatten.all AV.isCell = true)
    (h : ∀ w s',Agree (fun b=>rows2≠[]∧boxOf vx = some b) s s'→OwnS s' lo w esz (rows++rows2)→((rows2 = []∧w = vx∧s' = s)∨(rows2≠[]∧boxOf w = some s.length∧ExactBox s' w esz (rows++rows2))) →
      keptA env s s' k = true∧K (env.put d w) s' Q) : opR X K d k env s Q (vop X.P (.append esz bytes x y) env s):=by
  subst ex; subst ey
  obtain ⟨w,s',hv,h1,h2,h3⟩:=append_own (P:=X.P) hx hlo hy hsz hc
  rw [hv]
  exact h w s' h1 h2 h3
theorem opR_pre {X : Cx} {K : Env→St→Post3→Prop} {Q : Post3} {d : Option Nat} {k : List VOpd} {env : Env} {s : St} {lo hi esz n : Nat} {x y : VOpd} {rows : List (List AV)} {vx : AV} (ex : x.ev env = vx) (ey : asNat? (y.ev env) = some n) (hx : ArrAt s lo hi vx esz rows) (hn : n≤rows.length)
    (h : ∀ w,ArrAt s lo hi w esz (rows.take n)→keptA env s s k = true∧K (env.put d w) s Q) : opR X K d k env s Q (vop X.P (.slice none esz x none (some y) none) env s):=by
  subst ex
  obtain ⟨w,hw,ha⟩:=hx.pre n hn
  rw [v_slice_pre X.P env s esz x y n ey,hw]
  exact h w ha
theorem wpF_go {X : Cx} {st : St} {f : FuncId} {fn : VFun} {args : List AV} {R : CRes→St→Prop} (hF : X.F f = some fn) (h : xC X fn.body (envOf args) (st++[]) (bodK fn.res R)) : wpF X f args st R:=by
  rw [List.append_nil] at h
  exact wpF_intro hF h
end Go.VX.Seat
end
section
set_option maxRecDepth 4000
namespace Go.VX.Seat
open Go.Proofs
theorem kept_app (env : Env) (st m : St) (l : List VOpd) : keptA env st (st++m) l = true:=by
  unfold keptA
  rw [List.all_eq_true]
  intro x _
  split
  · rename_i b o hb
    split
    · rename_i p hp
      rw [List.getElem?_append_left (List.getElem?_eq_some_iff.1 hp).1,hp]
      simp
    · rfl
  · rfl
theorem own_setrow {s : St} {lo esz : Nat} {v : AV} {rows : List (List AV)} (hown : OwnS s lo v esz rows) (hex : ExactBox s v esz rows) (i : Nat) (hi : i < rows.length) (k : Nat) (vs : List AV) (hk : k + vs.length≤esz) (hc : vs.all AV.isCell = true) :
    ∃ bb s',boxOf v = some bb∧elemA v esz (i : Int) = some (.ptr bb (i * esz))∧s.put bb (i * esz + k) vs = some s'∧Agree (fun n=>n = bb) s s'∧OwnS s' lo v esz (rows.set i (splice rows[i] k vs))∧ExactBox s' v esz (rows.set i (splice rows[i] k vs)):=by
  have hrl:=hown.arr.rowlen
  obtain ⟨bb,full,ver,rfl,hb⟩:=hex (fun h=>by rw [h] at hi; simp at hi)
  have hf:=flatten_row hrl i hi
  have hput:=put_box (o:=i * esz + k) (vs:=vs) hb (by omega) hc
  rw [flatten_set hrl i k hi vs hk] at hput
  have hlt:=(List.getElem?_eq_some_iff.1 hb).1
  have hb2 : (s.set bb ⟨(rows.set i (splice rows[i] k vs)).flatten,0,ver + 1⟩)[bb]? = some ⟨(rows.set i (splice rows[i] k vs)).flatten,0,ver + 1⟩:=by
    rw [List.getElem?_set_self hlt]
  have hrl2 : ∀ r ∈ rows.set i (splice rows[i] k vs),r.length = esz:=fun r hr=>by
    rcases List.mem_or_eq_of_mem_set hr with h | h
    · exact hrl r h
    · rw [h,splice_length _ _ _ (by rw [hrl _ (List.getElem_mem hi)]; exact hk)]
      exact hrl _ (List.getElem_mem hi)
  refine ⟨bb,_,rfl,?_,hput,Agree.set _ _ _,⟨?_,fun b h=>?_,fun b o n e f h=>?_⟩,fun _=>⟨bb,full,ver + 1,by rw [List.length_set],hb2⟩⟩
  · simp only [elemA,Int.toNat_natCast]
    rw [if_pos ⟨by omega,by omega,trivial⟩,Nat.zero_add]
  · have h1:=hown.bnd bb rfl
    exact (ArrAt.ofBox hb2 (by decide) hrl2 (by rw [List.length_set])).wide' h1.1 (by simp; exact h1.2)
  · have:=hown.bnd b h
    simpa using this
  · cases h
    exact .inr (by rw [hb2]; rfl)
theorem blkRows_set (l : List BlkV) (g : Nat→AV) (i : Nat) (b : BlkV) (w : AV) : (blkRows l g).set i (b.row w) = blkRows (l.set i b) (fun j=>if j = i then w else g j):=by
  unfold blkRows
  apply List.ext_getElem
  · simp
  · intro j h1 h2
    simp only [List.getElem_mapIdx,List.getElem_set]
    by_cases hj : i = j
    · subst hj; simp
    · rw [if_neg hj,if_neg hj,if_neg (fun e=>hj e.symm)]
theorem blkRows_get (l : List BlkV) (g : Nat→AV) (i : Nat) (hi : i < l.length) : (blkRows l g)[i]'(by simpa [blkRows] using hi) = l[i].row (g i):=by simp [blkRows]
theorem blkRows_congr {l : List BlkV} {f g : Nat→AV} (h : ∀ j,j < l.length→f j = g j) : blkRows l f = blkRows l g:=by
  unfold blkRows
  apply List.ext_getElem
  · simp
  · intro j h1 h2
    simp only [List.getElem_mapIdx]
    rw [h j (by simpa using h1)]
theorem own_setops {s : St} {lo : Nat} {v w : AV} {l : List BlkV} {g : Nat→AV} (hown : OwnS s lo v 6 (blkRows l g)) (hex : ExactBox s v 6 (blkRows l g)) (i : Nat) (hi : i < l.length) (ops : List OpV) (hc : w.isCell = true) :
    ∃ bb s',boxOf v = some bb∧elemA v 6 (i : Int) = some (.ptr bb (i * 6))∧s.put bb (i * 6 + 0) [w] = some s'∧Agree (fun n=>n = bb) s s'∧OwnS s' lo v 6 (blkRows (l.set i { l[i] with ops:=ops }) (fun j=>if j = i then w else g j))∧ExactBox s' v 6 (blkRows (l.set i { l[i] with ops:=ops }) (fun j=>if j = i then w else g j)):=by
  have:=own_setrow hown hex i (by rw [blkRows_length]; exact hi) 0 [w] (by simp) (by simp [hc])
  rw [blkRows_get l g i hi] at this
  rw [←blkRows_set]
  exact this
theorem own_setend {s : St} {lo : Nat} {v : AV} {l : List BlkV} {g : Nat→AV} (hown : OwnS s lo v 6 (blkRows l g)) (hex : ExactBox s v 6 (blkRows l g)) (i : Nat) (hi : i < l.length) (e : EndV) :
    ∃ bb s',boxOf v = some bb∧elemA v 6 (i : Int) = some (.ptr bb (i * 6))∧s.put bb (i * 6 + 1) [iA e.k,iA e.a,iA e.t,iA e.e] = some s'∧Agree (fun n=>n = bb) s s'∧OwnS s' lo v 6 (blkRows (l.set i { l[i] with e:=e }) g)∧ExactBox s' v 6 (blkRows (l.set i { l[i] with e:=e }) g):=by
  have:=own_setrow hown hex i (by rw [blkRows_length]; exact hi) 1 [iA e.k,iA e.a,iA e.t,iA e.e] (by simp) rfl
  rw [blkRows_get l g i hi] at this
  have he : blkRows (l.set i { l[i] with e:=e }) g = (blkRows l g).set i (splice (l[i].row (g i)) 1 [iA e.k,iA e.a,iA e.t,iA e.e]):=by
    rw [show splice (l[i].row (g i)) 1 [iA e.k,iA e.a,iA e.t,iA e.e] = ({ l[i] with e:=e } : BlkV).row (g i) from rfl,blkRows_set]
    exact blkRows_congr fun j _=>by
      by_cases h : j = i
      · subst h; simp
      · simp [h]
  rw [he]
  exact this
section
variable {X : Cx} {st : St}
end
end Go.VX.Seat
end
section
namespace Go.VX
inductive Tr where
  | lf
  | nd (l : Tr) (v : AV) (r : Tr)
  deriving Inhabited
def Tr.get : Tr→Nat→AV
  | .lf,_=>undefA
  | .nd l v r,n=>bif Nat.beq n 0 then v else bif Nat.beq (n % 2) 1 then l.get (n / 2) else r.get (n / 2 - 1)
def Tr.put : Nat→Tr→Nat→AV→Tr
  | 0,t,_,_=>t
  | d + 1,.lf,n,v=>bif Nat.beq n 0 then .nd .lf v .lf else bif Nat.beq (n % 2) 1 then .nd (Tr.put d .lf (n / 2) v) undefA .lf else .nd .lf undefA (Tr.put d .lf (n / 2 - 1) v)
  | d + 1,.nd l x r,n,v=>bif Nat.beq n 0 then .nd l v r else bif Nat.beq (n % 2) 1 then .nd (l.put d (n / 2) v) x r else .nd l x (r.put d (n / 2 - 1) v)
theorem Tr.get_put : ∀ (d : Nat) (t : Tr) (n : Nat) (v : AV) (m : Nat),n + 1 < 2 ^ d→(Tr.put d t n v).get m = if m = n then v else t.get m
  | 0,t,n,v,m,h=>by simp at h
  | d + 1,.lf,n,v,m,h=>by
    have hp : 2 ^ (d + 1) = 2 * 2 ^ d:=by rw [Nat.pow_succ]; omega
    unfold Tr.put
    by_cases h0 : n = 0
    · subst h0
      have : Nat.beq 0 0 = true:=rfl
      simp only [this,cond_true,Tr.get]
      by_cases hm : m = 0
      · subst hm; simp
      · have : Nat.beq m 0 = false:=by cases hb : Nat.beq m 0 with | false=>rfl | true=>exact absurd (Nat.eq_of_beq_eq_true hb) hm
        simp [this,hm]
    · have hb0 : Nat.beq n 0 = false:=by cases hb : Nat.beq n 0 with | false=>rfl | true=>exact absurd (Nat.eq_of_beq_eq_true hb) h0
      simp only [hb0,cond_false]
      cases hb1 : Nat.beq (n % 2) 1 with
      | true =>
        have h1:=Nat.eq_of_beq_eq_true hb1
        simp only [cond_true,Tr.get]
        by_cases hm : m = 0
        · subst hm
          have : Nat.beq 0 0 = true:=rfl
          simp only [this,cond_true]
          rw [if_neg (by omega)]
        · have hm0 : Nat.beq m 0 = false:=by cases hb : Nat.beq m 0 with | false=>rfl | true=>exact absurd (Nat.eq_of_beq_eq_true hb) hm
          simp only [hm0,cond_false]
          cases hb2 : Nat.beq (m % 2) 1 with
          | true =>
            have h2:=Nat.eq_of_beq_eq_true hb2
            simp only [cond_true]
            rw [Tr.get_put d .lf (n / 2) v (m / 2) (by omega)]
            by_cases hmn : m = n
            · subst hmn; simp
            · rw [if_neg (by omega),if_neg hmn]; rfl
          | false =>
            have h2 : m % 2≠1:=fun e=>by rw [e] at hb2; cases hb2
            simp only [cond_false]
            rw [if_neg (by omega)]
      | false =>
        have h1 : n % 2≠1:=fun e=>by rw [e] at hb1; cases hb1
        simp only [cond_false,Tr.get]
        by_cases hm : m = 0
        · subst hm
          have : Nat.beq 0 0 = true:=rfl
          simp only [this,cond_true]
          rw [if_neg (by omega)]
        · have hm0 : Nat.beq m 0 = false:=by cases hb : Nat.beq m 0 with | false=>rfl | true=>exact absurd (Nat.eq_of_beq_eq_true hb) hm
          simp only [hm0,cond_false]
          cases hb2 : Nat.beq (m % 2) 1 with
          | true =>
            have h2:=Nat.eq_of_beq_eq_true hb2
            simp only [cond_true]
            rw [if_neg (by omega)]
          | false =>
            have h2 : m % 2≠1:=fun e=>by rw [e] at hb2; cases hb2
            simp only [cond_false]
            rw [Tr.get_put d .lf (n / 2 - 1) v (m / 2 - 1) (by omega)]
            by_cases hmn : m = n
            · subst hmn; simp
            · rw [if_neg (by omega),if_neg hmn]; rfl
  | d + 1,.nd l x r,n,v,m,h=>by
    have hp : 2 ^ (d + 1) = 2 * 2 ^ d:=by rw [Nat.pow_succ]; omega
    unfold Tr.put
    by_cases h0 : n = 0
    · subst h0
      have : Nat.beq 0 0 = true:=rfl
      simp only [this,cond_true,Tr.get]
      by_cases hm : m = 0
      · subst hm; simp
      · have : Nat.beq m 0 = false:=by cases hb : Nat.beq m 0 with | false=>rfl | true=>exact absurd (Nat.eq_of_beq_eq_true hb) hm
        simp [this,hm]
    · have hb0 : Nat.beq n 0 = false:=by cases hb : Nat.beq n 0 with | false=>rfl | true=>exact absurd (Nat.eq_of_beq_eq_true hb) h0
      simp only [hb0,cond_false]
      cases hb1 : Nat.beq (n % 2) 1 with
      | true =>
        have h1:=Nat.eq_of_beq_eq_true hb1
        simp only [cond_true,Tr.get]
        by_cases hm : m = 0
        · subst hm
          have : Nat.beq 0 0 = true:=rfl
          simp only [this,cond_true]
          rw [if_neg (by omega)]
        · have hm0 : Nat.beq m 0 = false:=by cases hb : Nat.beq m 0 with | false=>rfl | true=>exact absurd (Nat.eq_of_beq_eq_true hb) hm
          simp only [hm0,cond_false]
          cases hb2 : Nat.beq (m % 2) 1 with
          | true =>
            have h2:=Nat.eq_of_beq_eq_true hb2
            simp only [cond_true]
            rw [Tr.get_put d l (n / 2) v (m / 2) (by omega)]
            by_cases hmn : m = n
            · subst hmn; simp
            · rw [if_neg (by omega),if_neg hmn]
          | false =>
            have h2 : m % 2≠1:=fun e=>by rw [e] at hb2; cases hb2
            simp only [cond_false]
            rw [if_neg (by omega)]
      | false =>
        have h1 : n % 2≠1:=fun e=>by rw [e] at hb1; cases hb1
        simp only [cond_false,Tr.get]
        by_cases hm : m = 0
        · subst hm
          have : Nat.beq 0 0 = true:=rfl
          simp only [this,cond_true]
          rw [if_neg (by omega)]
        · have hm0 : Nat.beq m 0 = false:=by cases hb : Nat.beq m 0 with | false=>rfl | true=>exact absurd (Nat.eq_of_beq_eq_true hb) hm
          simp only [hm0,cond_false]
          cases hb2 : Nat.beq (m % 2) 1 with
          | true =>
            have h2:=Nat.eq_of_beq_eq_true hb2
            simp only [cond_true]
            rw [if_neg (by omega)]
          | false =>
            have h2 : m % 2≠1:=fun e=>by rw [e] at hb2; cases hb2
            simp only [cond_false]
            rw [Tr.get_put d r (n / 2 - 1) v (m / 2 - 1) (by omega)]
            by_cases hmn : m = n
            · subst hmn; simp
            · rw [if_neg (by omega),if_neg hmn]
def Tr.set (t : Tr) : Option Nat→AV→Option Tr
  | none,_=>some t
  | some d,v=>bif Nat.blt d 65535 then some (t.put 16 d v) else none
theorem Tr.set_ok {t t' : Tr} {d : Option Nat} {v : AV} (h : t.set d v = some t') : t'.get = Env.put t.get d v:=by
  cases d with
  | none=>simp [Tr.set] at h; subst h; rfl
  | some d =>
    cases hb : Nat.blt d 65535 with
    | false=>simp [Tr.set,hb] at h
    | true =>
      simp only [Tr.set,hb,cond_true,Option.some.injEq] at h
      subst h
      have : d < 65535:=Nat.lt_of_lt_of_le (Nat.lt_succ_self d) (Nat.le_of_ble_eq_true hb)
      funext m
      exact Tr.get_put 16 t d v m (by omega)
def trOf : Nat→Tr→List AV→Option Tr
  | _,t,[]=>some t
  | k,t,a :: r=>match t.set (some k) a with
    | some t'=>trOf (k + 1) t' r
    | none=>none
theorem trOf_ok : ∀ {l : List AV} {k : Nat} {t t' : Tr},trOf k t l = some t'→∀ m,t'.get m = if k≤m∧m < k + l.length then l.getD (m - k) undefA else t.get m
  | [],k,t,t',h,m=>by
    simp [trOf] at h; subst h
    rw [if_neg]
    rintro ⟨h1,h2⟩
    simp at h2
    omega
  | a :: r,k,t,t',h,m=>by
    unfold trOf at h
    split at h
    · rename_i t1 h1
      rw [trOf_ok h m,Tr.set_ok h1]
      simp only [List.length_cons,Env.put]
      by_cases hm : m = k
      · subst hm
        rw [if_neg (by omega),if_pos rfl,if_pos (by omega)]
        simp
      · by_cases h2 : k + 1≤m∧m < k + 1 + r.length
        · rw [if_pos h2,if_pos (by omega),show m - k = (m - (k + 1)) + 1 by omega]
          simp
        · rw [if_neg h2,if_neg hm,if_neg (by omega)]
    · cases h
theorem trOf_env {l : List AV} {t : Tr} (h : trOf 0 .lf l = some t) : t.get = envOf l:=by
  funext m
  rw [trOf_ok h m]
  unfold envOf
  by_cases hm : m < l.length
  · rw [if_pos (by omega)]; rfl
  · rw [if_neg (by omega),List.getD_eq_getElem?_getD,List.getElem?_eq_none (by omega)]; rfl
def keepsB : St→St→Bool
  | [],_=>true
  | _ :: _,[]=>false
  | x :: s,y :: s'=>Nat.beq x.ver y.ver && (Nat.beq x.mode y.mode && keepsB s s')
theorem keepsB_ok : ∀ {st st' : St},keepsB st st' = true→(∀ (b : Nat) (x : Box),st[b]? = some x→∃ y : Box,st'[b]? = some y∧(x.ver = y.ver→x.mode = y.mode→x = y))→st' = st++st'.drop st.length
  | [],st',_,_=>by simp
  | x :: s,[],h,_=>by cases h
  | x :: s,y :: s',h,he=>by
    simp only [keepsB,Bool.and_eq_true] at h
    obtain ⟨z,hz,hxy⟩:=he 0 x (by simp)
    simp at hz; subst hz
    have h1:=hxy (Nat.eq_of_beq_eq_true h.1) (Nat.eq_of_beq_eq_true h.2.1)
    have:=keepsB_ok h.2.2 (fun b z hb=>by simpa using he (b + 1) z (by simpa using hb))
    subst h1
    simp only [List.cons_append,List.length_cons,List.drop_succ_cons]
    rw [←this]
abbrev EvC:=VC→Tr→St→Option (VX × Tr × St)
abbrev EvF:=FuncId→List AV→St→Option (CRes × St)
def evO (P : Program) (call : EvF) : List VOper→Tr→St→Option (VX × Tr × St)
  | [],t,st=>some (.norm,t,st)
  | o :: l,t,st =>
    match wantedA t.get o.guard with
    | false=>match t.set o.dst undefA with
      | some t'=>evO P call l t' st
      | none=>none
    | true=>match vop P o.op t.get st with
      | some (.val v,st1)=>match keptA t.get st st1 o.keep with
        | true=>match t.set o.dst v with
          | some t'=>evO P call l t' st1
          | none=>none
        | false=>none
      | some (.skip,st1)=>match keptA t.get st st1 o.keep with
        | true=>match t.set o.dst undefA with
          | some t'=>evO P call l t' st1
          | none=>none
        | false=>none
      | some (.call f args,_)=>match call f args st with
        | some (.ret v,st1)=>match keptA t.get st st1 o.keep with
          | true=>match t.set o.dst v with
            | some t'=>evO P call l t' st1
            | none=>none
          | false=>none
        | some (.pan v,st1)=>some (.pan v,t,st1)
        | none=>none
      | some (.pan v,_)=>some (.pan v,t,st)
      | none=>none
def trim (r : CRes) (st st' : St) : CRes × St:=match r.flat && keepsB st st' with
  | true=>(r,st)
  | false=>(r,st')
def evF (F : FuncId→Option VFun) (rec : EvC) (f : FuncId) (args : List AV) (st : St) : Option (CRes × St) :=
  match F f with
  | some fn=>match trOf 0 .lf args with
    | some t=>match rec fn.body t st with
      | some (.norm,t',st')=>match resOf t'.get st' fn.res with
        | some vs=>some (trim (.ret (tupOf vs)) st st')
        | none=>none
      | some (.ret,t',st')=>match resOf t'.get st' fn.res with
        | some vs=>some (trim (.ret (tupOf vs)) st st')
        | none=>none
      | some (.pan v,_,st')=>some (.pan v,st')
      | _=>none
    | none=>none
  | none=>none
def evC (P : Program) (F : FuncId→Option VFun) (hk : EvF→EvF) : Nat→EvC
  | 0,_,_,_=>none
  | n + 1,.skip,t,st=>some (.norm,t,st)
  | n + 1,.reg l,t,st=>evO P (hk (evF F (evC P F hk n))) l t st
  | n + 1,.seq a b,t,st=>match evC P F hk n a t st with
    | some (.norm,t1,st1)=>evC P F hk n b t1 st1
    | r=>r
  | n + 1,.cond c a b,t,st=>match c.ev t.get with
    | .sc (.bool true)=>evC P F hk n a t st
    | .sc (.bool false)=>evC P F hk n b t st
    | _=>none
  | n + 1,.block id a,t,st=>match evC P F hk n a t st with
    | some (x,t1,st1)=>some (x.unblock id,t1,st1)
    | none=>none
  | n + 1,.loop a,t,st=>match evC P F hk n a t st with
    | some (.norm,t1,st1)=>evC P F hk n (.loop a) t1 st1
    | r=>r
  | n + 1,.exit id,t,st=>some (.exit id,t,st)
  | n + 1,.ret,t,st=>some (.ret,t,st)
section
variable {P : Program} {F : FuncId→Option VFun} {H : FuncId→List AV→St→CRes→St→Prop} {hk : EvF→EvF}
def CallOk (P : Program) (F : FuncId→Option VFun) (H : FuncId→List AV→St→CRes→St→Prop) (call : EvF) : Prop:=∀ f args st r st',call f args st = some (r,st')→J P F H (.call f args st r st')
def CodeOk (P : Program) (F : FuncId→Option VFun) (H : FuncId→List AV→St→CRes→St→Prop) (rec : EvC) : Prop:=∀ c t st x t' st',rec c t st = some (x,t',st')→J P F H (.code c t.get st x t'.get st')
theorem evO_ok {call : EvF} (hc : CallOk P F H call) : ∀ {l : List VOper} {t : Tr} {st : St} {x : VX} {t' : Tr} {st' : St},evO P call l t st = some (x,t',st')→J P F H (.ops l t.get st x t'.get st')
  | [],t,st,x,t',st',h=>by
    simp only [evO,Option.some.injEq,Prod.mk.injEq] at h
    obtain ⟨rfl,rfl,rfl⟩:=h
    exact .nil
  | o :: l,t,st,x,t',st',h=>by
    unfold evO at h
    split at h
    · rename_i hw
      split at h
      · rename_i t1 ht
        have:=evO_ok hc h
        rw [Tr.set_ok ht] at this
        exact .idle hw this
      · cases h
    · rename_i hw
      split at h
      · rename_i v st1 hv
        split at h
        · rename_i hk1
          split at h
          · rename_i t1 ht
            have:=evO_ok hc h
            rw [Tr.set_ok ht] at this
            exact .val hw hv hk1 this
          · cases h
        · cases h
      · rename_i st1 hv
        split at h
        · rename_i hk1
          split at h
          · rename_i t1 ht
            have:=evO_ok hc h
            rw [Tr.set_ok ht] at this
            exact .done hw hv hk1 this
          · cases h
        · cases h
      · rename_i f args st1 hv
        have e1:=vop_call_st hv
        subst e1
        split at h
        · rename_i v st2 hcall
          split at h
          · rename_i hk1
            split at h
            · rename_i t1 ht
              have:=evO_ok hc h
              rw [Tr.set_ok ht] at this
              exact .callR hw hv (hc _ _ _ _ _ hcall) hk1 this
            · cases h
          · cases h
        · rename_i v st2 hcall
          simp only [Option.some.injEq,Prod.mk.injEq] at h
          obtain ⟨rfl,rfl,rfl⟩:=h
          exact .callP hw hv (hc _ _ _ _ _ hcall)
        · cases h
      · rename_i v st1 hv
        have e1:=vop_pan_st hv
        subst e1
        simp only [Option.some.injEq,Prod.mk.injEq] at h
        obtain ⟨rfl,rfl,rfl⟩:=h
        exact .panic hw hv
      · cases h
theorem trim_ok (hE : ∀ f args st r st',H f args st r st'→Evo st st') {f : FuncId} {args : List AV} {st st' st2 : St} {r r' : CRes} (h : J P F H (.call f args st r st')) (ht : trim r st st' = (r',st2)) : J P F H (.call f args st r' st2):=by
  unfold trim at ht
  split at ht
  · rename_i hb
    simp only [Bool.and_eq_true] at hb
    cases ht
    have he:=J_evo hE h
    have:=keepsB_ok hb.2 (fun b x hx=>let ⟨y,h1,_,_,h4⟩:=he b x hx; ⟨y,h1,h4⟩)
    rw [this] at h
    exact .forget h hb.1
  · cases ht; exact h
theorem evF_ok (hE : ∀ f args st r st',H f args st r st'→Evo st st') {rec : EvC} (hr : CodeOk P F H rec) : CallOk P F H (evF F rec):=by
  intro f args st r st' h
  unfold evF at h
  split at h
  · rename_i fn hF
    split at h
    · rename_i t ht
      have he:=trOf_env ht
      split at h
      · rename_i t1 st1 hb
        split at h
        · rename_i vs hvs
          simp only [Option.some.injEq] at h
          have j:=hr _ _ _ _ _ _ hb
          rw [he] at j
          exact trim_ok hE (.call hF j (.inl rfl) hvs) h
        · cases h
      · rename_i t1 st1 hb
        split at h
        · rename_i vs hvs
          simp only [Option.some.injEq] at h
          have j:=hr _ _ _ _ _ _ hb
          rw [he] at j
          exact trim_ok hE (.call hF j (.inr rfl) hvs) h
        · cases h
      · rename_i v t1 st1 hb
        simp only [Option.some.injEq,Prod.mk.injEq] at h
        obtain ⟨rfl,rfl⟩:=h
        have j:=hr _ _ _ _ _ _ hb
        rw [he] at j
        exact .callX hF j
      · cases h
    · cases h
  · cases h
theorem evC_ok (hE : ∀ f args st r st',H f args st r st'→Evo st st') (hh : ∀ call,CallOk P F H call→CallOk P F H (hk call)) : ∀ n,CodeOk P F H (evC P F hk n)
  | 0=>fun c t st x t' st' h=>by simp [evC] at h
  | n + 1=>fun c t st x t' st' h=>by
    have ih:=evC_ok hE hh n
    cases c with
    | skip=>simp only [evC,Option.some.injEq,Prod.mk.injEq] at h; obtain ⟨rfl,rfl,rfl⟩:=h; exact .skip
    | reg l=>exact .reg (evO_ok (hh _ (evF_ok hE ih)) h)
    | seq a b =>
      simp only [evC] at h
      split at h
      · rename_i t1 st1 ha
        exact .seqN (ih _ _ _ _ _ _ ha) (ih _ _ _ _ _ _ h)
      · rename_i hno
        refine .seqX (ih _ _ _ _ _ _ h) ?_
        rintro rfl
        exact hno _ _ h
    | cond c a b =>
      simp only [evC] at h
      split at h
      · rename_i hc
        exact .cond (t:=true) hc (ih _ _ _ _ _ _ h)
      · rename_i hc
        exact .cond (t:=false) hc (ih _ _ _ _ _ _ h)
      · cases h
    | block id a =>
      simp only [evC] at h
      split at h
      · rename_i x1 t1 st1 ha
        simp only [Option.some.injEq,Prod.mk.injEq] at h
        obtain ⟨rfl,rfl,rfl⟩:=h
        exact .block (ih _ _ _ _ _ _ ha)
      · cases h
    | loop a =>
      simp only [evC] at h
      split at h
      · rename_i t1 st1 ha
        exact .loopN (ih _ _ _ _ _ _ ha) (ih _ _ _ _ _ _ h)
      · rename_i hno
        refine .loopX (ih _ _ _ _ _ _ h) ?_
        rintro rfl
        exact hno _ _ h
    | exit id=>simp only [evC,Option.some.injEq,Prod.mk.injEq] at h; obtain ⟨rfl,rfl,rfl⟩:=h; exact .exit
    | ret=>simp only [evC,Option.some.injEq,Prod.mk.injEq] at h; obtain ⟨rfl,rfl,rfl⟩:=h; exact .ret
end
end Go.VX
end
