/- A part of the proofs of the statements of one layer: L1, L2, L3, L4, L5, L6, L7, L8, L0, S1, S2, S3, S4, S5, S6, S7, S8. No condition is added here. -/
import Derived.Test.YtcemloapifojkaaGreatDoorChecked
import Derived.Test.YtcemloapifojkaaGreatDoorXC7
set_option linter.unusedVariables false
set_option linter.unusedSimpArgs false
section
set_option maxRecDepth 20000
namespace Go.VX.Seat
noncomputable abbrev PR (f : Func) : Option VFun:=prepFun Go.Proofs.Tryz.prog [1,0,2,3,8,9] f
instance (n : Nat) : OfNat VOpd n:=⟨.tmp n⟩
abbrev zi (n : Int) : VOpd:=.con (.int .i64 n)
abbrev zm (i d s : Nat) : VOper:=⟨i,some d,.mv (.tmp s),none,[]⟩
abbrev zl (i d s : Nat) : VOper:=⟨i,some d,.load none (.tmp s),none,[]⟩
abbrev zf (i d k s : Nat) : VOper:=⟨i,some d,.fieldA k (.tmp s),none,[]⟩
abbrev zo (i d : Nat) (x : VOp) : VOper:=⟨i,some d,x,none,[]⟩
abbrev zn (i : Nat) (x : VOp) : VOper:=⟨i,none,x,none,[]⟩
abbrev zg (i d : Nat) (x : VOp) (c : Nat) (b : Bool) : VOper:=⟨i,some d,x,some (c,b),[]⟩
def v_l07_CodeParses : VFun :=
⟨.seq (.reg [zo 0 2 (.mv (.con (.bool false)))])
 (.seq (.reg [zm 0 10 0,
 zm 1 11 0,
 zo 2 12 (.bi .len [9] 3 [(.tmp 11)]),
 zo 3 13 (.bi .min [3,3] 3 [(.tmp 12),(zi 2000001)]),
 zo 4 14 (.slS 9 (.tmp 10) none (some (.tmp 13))),
 zm 5 3 14])
 (.seq (.reg [zm 0 16 3,
 zo 1 17 (.call 14 [(.tmp 16)]),
 zm 2 15 17,
 zo 3 18 (.ext (.tmp 15) 0),
 zo 4 19 (.ext (.tmp 15) 1),
 zo 5 20 (.ext (.tmp 15) 2),
 zo 6 4 (.alloc [(.slice none 0 0),(.int .i64 0),(.int .i64 0),(.int .i64 0),(.int .i64 0),(.slice none 0 0)]),
 zn 7 (.store 6 (.tmp 4) (.tmp 18)),
 zm 8 5 19,
 zm 9 6 20])
 (.seq (.reg [zm 0 22 3,
 zo 1 23 (.call 15 [(.tmp 22)]),
 zm 2 21 23,
 zo 3 24 (.ext (.tmp 21) 0),
 zo 4 25 (.ext (.tmp 21) 1),
 zo 5 26 (.ext (.tmp 21) 2),
 zo 6 7 (.alloc [(.slice none 0 0),(.int .i64 0),(.int .i64 0),(.int .i64 0),(.int .i64 0),(.slice none 0 0)]),
 zn 7 (.store 6 (.tmp 7) (.tmp 24)),
 zm 8 8 25,
 zm 9 9 26])
 (.seq (.reg [zo 0 27 (.load (some 6) (.tmp 4)),
 zo 1 28 (.load (some 6) (.tmp 7)),
 zo 2 29 (.call 16 [(.tmp 27),(.tmp 28)]),
 zm 3 30 29,
 zg 4 31 (.mv (.tmp 5)) 30 true,
 zg 5 32 (.mv (.tmp 8)) 30 true,
 zg 6 33 (.bin .eql 3 false (.tmp 31) (.tmp 32)) 30 true,
 zo 7 34 (.pick (.tmp 30) (.tmp 33) (.con (.bool false))),
 zm 8 35 34,
 zg 9 36 (.mv (.tmp 6)) 35 true,
 zg 10 37 (.mv (.tmp 9)) 35 true,
 zg 11 38 (.bin .eql 27 false (.tmp 36) (.tmp 37)) 35 true,
 zo 12 39 (.pick (.tmp 35) (.tmp 38) (.con (.bool false))),
 zm 13 40 39,
 zg 14 41 (.call 12 []) 40 true,
 zo 15 42 (.pick (.tmp 40) (.tmp 41) (.con (.bool false))),
 zm 16 2 42])
 (.ret))))),
 [.tmp 2]⟩
theorem p_l07_CodeParses : PR Go.Proofs.Tryz.f4 = some v_l07_CodeParses:=by kernel_rfl

def v10u : VFun :=
⟨.seq (.reg [zo 0 1 (.box 0),
 zo 1 2 (.mv (.con (.string ⟨#[]⟩))),
 zo 2 3 (.mv (zi 0))])
 (.seq (.seq (.reg [zo 0 14 (.load (some 6) 1),
 zo 1 15 (.call 20 [14]),
 zm 2 4 15])
 (.seq (.reg [zm 0 16 4,
 zo 1 17 (.bin .neq 27 true 16 (zi 0))])
 (.cond 17
 (.seq (.reg [zm 0 18 4,
 zo 1 2 (.mv (.con (.string ⟨#[]⟩))),
 zm 2 3 18])
 (.ret))
 (.skip))))
 (.seq (.reg [zo 0 5 (.allocF [(.int .i64 1),(.int .i64 81),(.int .i64 5),(.string ⟨#[]⟩)])])
 (.seq (.reg [zo 0 19 (.call 39 [5,(.con (.string ⟨#[117,110,105,116]⟩))])])
 (.seq (.seq (.reg [zf 0 20 1 1,
 zl 1 21 20,
 zf 2 22 2 1,
 zl 3 23 22,
 zf 4 24 3 1,
 zl 5 25 24,
 zf 6 26 4 1,
 zl 7 27 26,
 zo 8 28 (.bslice 1 4 [(.int .i64 0)] [(0,1,21),(1,1,23),(2,1,25),(3,1,27)]),
 zo 9 29 (.len 28),
 zo 10 30 (.mv (zi 0))])
 (.block 0
 (.loop
 (.seq (.reg [zo 0 31 (.bin .lss 3 false 30 29)])
 (.seq (.cond 31
 (.skip)
 (.exit 0))
 (.seq (.block 1
 (.seq (.reg [zo 0 32 (.idxA none 1 28 30),
 zl 1 33 32,
 zm 2 7 33])
 (.reg [zm 0 34 7,
 zo 1 35 (.call 40 [34]),
 zo 2 36 (.bin .add 9 true (.con (.string ⟨#[32]⟩)) 35),
 zo 3 37 (.call 39 [5,36])])))
 (.reg [zo 0 38 (.bin .add 3 true 30 (zi 1)),
 zm 1 30 38])))))))
 (.seq (.reg [zo 0 39 (.call 39 [5,(.con (.string ⟨#[10]⟩))])])
 (.seq (.seq (.reg [zf 0 40 0 1,
 zl 1 41 40,
 zo 2 42 (.len 41),
 zo 3 43 (.mv (zi 0))])
 (.block 2
 (.loop
 (.seq (.reg [zo 0 44 (.bin .lss 3 false 43 42)])
 (.seq (.cond 44
 (.skip)
 (.exit 2))
 (.seq (.block 3
 (.seq (.reg [zo 0 45 (.idxA none 1 41 43),
 zl 1 46 45,
 zm 2 9 46])
 (.reg [zm 0 47 9,
 zo 1 48 (.call 40 [47]),
 zo 2 49 (.bin .add 9 true (.con (.string ⟨#[97,114,114,97,121,32]⟩)) 48),
 zo 3 50 (.bin .add 9 true 49 (.con (.string ⟨#[10]⟩))),
 zo 4 51 (.call 39 [5,50])])))
 (.reg [zo 0 52 (.bin .add 3 true 43 (zi 1)),
 zm 1 43 52])))))))
 (.seq (.seq (.reg [zf 0 53 5 1,
 zl 1 54 53,
 zo 2 55 (.len 54),
 zo 3 56 (.mv (zi 0))])
 (.block 4
 (.loop
 (.seq (.reg [zo 0 57 (.bin .lss 3 false 56 55)])
 (.seq (.cond 57
 (.skip)
 (.exit 4))
 (.seq (.block 5
 (.seq (.reg [zo 0 58 (.idxA none 6 54 56),
 zo 1 59 (.load (some 6) 58),
 zo 2 11 (.alloc [(.slice none 0 0),(.int .i64 0),(.int .i64 0),(.int .i64 0),(.int .i64 0),(.int .i64 0)]),
 zn 3 (.store 6 11 59)])
 (.seq (.reg [zf 0 60 5 11,
 zl 1 61 60,
 zo 2 62 (.call 40 [61]),
 zo 3 63 (.bin .add 9 true (.con (.string ⟨#[98,108,111,99,107,32]⟩)) 62),
 zo 4 64 (.bin .add 9 true 63 (.con (.string ⟨#[10]⟩))),
 zo 5 65 (.call 39 [5,64])])
 (.seq (.seq (.reg [zf 0 66 0 11,
 zl 1 67 66,
 zo 2 68 (.len 67),
 zo 3 69 (.mv (zi 0))])
 (.block 6
 (.loop
 (.seq (.reg [zo 0 70 (.bin .lss 3 false 69 68)])
 (.seq (.cond 70
 (.skip)
 (.exit 6))
 (.seq (.block 7
 (.seq (.reg [zo 0 71 (.idxA none 7 67 69),
 zo 1 72 (.load (some 7) 71),
 zo 2 13 (.alloc [(.int .i64 0),(.int .i64 0),(.int .i64 0),(.int .i64 0),(.int .i64 0),(.int .i64 0),(.int .i64 0)]),
 zn 3 (.store 7 13 72)])
 (.reg [zo 0 73 (.load (some 7) 13),
 zo 1 74 (.call 41 [73]),
 zo 2 75 (.bin .add 9 true (.con (.string ⟨#[32,32]⟩)) 74),
 zo 3 76 (.bin .add 9 true 75 (.con (.string ⟨#[10]⟩))),
 zo 4 77 (.call 39 [5,76])])))
 (.reg [zo 0 78 (.bin .add 3 true 69 (zi 1)),
 zm 1 69 78])))))))
 (.reg [zf 0 79 1 11,
 zo 1 80 (.load (some 4) 79),
 zo 2 81 (.call 42 [80]),
 zo 3 82 (.bin .add 9 true (.con (.string ⟨#[32,32]⟩)) 81),
 zo 4 83 (.bin .add 9 true 82 (.con (.string ⟨#[10]⟩))),
 zo 5 84 (.call 39 [5,83])])))))
 (.reg [zo 0 85 (.bin .add 3 true 56 (zi 1)),
 zm 1 56 85])))))))
 (.seq (.reg [zo 0 86 (.call 43 [5]),
 zm 1 2 86,
 zo 2 3 (.mv (zi 0))])
 (.ret))))))))),
 [.tmp 2,.tmp 3]⟩
theorem p10u : PR Go.Proofs.Tryz.f10 = some v10u:=by kernel_rfl

def v_r07_Check : VFun :=
⟨.seq (.reg [zo 0 1 (.box (.tmp 0)),
 zo 1 2 (.mv (zi 0))])
 (.seq (.reg [zo 0 7 (.load (some 6) (.tmp 1)),
 zo 1 8 (.call 17 [(.tmp 7)]),
 zm 2 6 8,
 zo 3 9 (.ext (.tmp 6) 0),
 zo 4 10 (.ext (.tmp 6) 1),
 zo 5 11 (.ext (.tmp 6) 2),
 zm 6 3 9,
 zm 7 4 10,
 zm 8 5 11])
 (.seq (.reg [zm 0 12 3,
 zm 1 2 12])
 (.ret))),
 [.tmp 2]⟩
theorem p_r07_Check : PR Go.Proofs.Tryz.f11 = some v_r07_Check:=by kernel_rfl

def v12u : VFun :=
⟨.seq (.reg [zo 0 0 (.mv (.con (.bool false)))])
 (.seq (.reg [zo 0 10 (.call 14 [(.con (.string ⟨#[117,110,105,116,32,49,32,51,32,48,32,48,10,98,108,111,99,107,32,45,49,10,32,32,49,32,61,32,99,111,110,115,116,32,50,10,32,32,50,32,61,32,109,117,108,32,48,32,49,10,32,32,112,114,105,110,116,32,50,10,32,32,114,101,116,117,114,110,32,50,10]⟩))]),
 zm 1 9 10,
 zo 2 11 (.ext 9 0),
 zo 3 12 (.ext 9 1),
 zo 4 13 (.ext 9 2),
 zo 5 1 (.alloc [(.slice none 0 0),(.int .i64 0),(.int .i64 0),(.int .i64 0),(.int .i64 0),(.slice none 0 0)]),
 zn 6 (.store 6 1 11),
 zm 7 2 12,
 zm 8 3 13])
 (.seq (.reg [zo 0 15 (.load (some 6) 1),
 zo 1 16 (.call 10 [15]),
 zm 2 14 16,
 zo 3 17 (.ext 14 0),
 zo 4 18 (.ext 14 1),
 zm 5 4 17,
 zm 6 5 18])
 (.seq (.reg [zo 0 20 (.call 14 [(.con (.string ⟨#[117,110,105,116,32,49,32,51,32,48,32,48,10,98,108,111,99,107,32,45,49,10,32,32,49,32,61,32,99,111,110,116,115,32,50,10]⟩))]),
 zm 1 19 20,
 zo 2 21 (.ext 19 0),
 zo 3 22 (.ext 19 1),
 zo 4 23 (.ext 19 2),
 zo 5 6 (.alloc [(.slice none 0 0),(.int .i64 0),(.int .i64 0),(.int .i64 0),(.int .i64 0),(.slice none 0 0)]),
 zn 6 (.store 6 6 21),
 zm 7 7 22,
 zm 8 8 23])
 (.seq (.reg [zm 0 24 3,
 zo 1 25 (.bin .eql 27 true 24 (zi 0)),
 zm 2 26 25,
 zg 3 27 (.mv 2) 26 true,
 zg 4 28 (.bin .eql 3 true 27 (zi 0)) 26 true,
 zo 5 29 (.pick 26 28 (.con (.bool false))),
 zm 6 30 29,
 zg 7 31 (.mv 5) 30 true,
 zg 8 32 (.bin .eql 27 true 31 (zi 0)) 30 true,
 zo 9 33 (.pick 30 32 (.con (.bool false))),
 zm 10 34 33,
 zg 11 35 (.mv 4) 34 true,
 zg 12 36 (.bin .eql 9 true 35 (.con (.string ⟨#[117,110,105,116,32,49,32,51,32,48,32,48,10,98,108,111,99,107,32,45,49,10,32,32,49,32,61,32,99,111,110,115,116,32,50,10,32,32,50,32,61,32,109,117,108,32,48,32,49,10,32,32,112,114,105,110,116,32,50,10,32,32,114,101,116,117,114,110,32,50,10]⟩))) 34 true,
 zo 13 37 (.pick 34 36 (.con (.bool false))),
 zm 14 38 37,
 zg 15 39 (.mv 8) 38 true,
 zg 16 40 (.bin .eql 27 true 39 (zi 4)) 38 true,
 zo 17 41 (.pick 38 40 (.con (.bool false))),
 zm 18 42 41,
 zg 19 43 (.mv 7) 42 true,
 zg 20 44 (.bin .eql 3 true 43 (zi 3)) 42 true,
 zo 21 45 (.pick 42 44 (.con (.bool false))),
 zm 22 46 45,
 zg 23 47 (.build [(.slice none 0 0),(.int .i64 0),(.int .i64 0),(.int .i64 0),(.int .i64 0),(.slice none 0 0)] []) 46 true,
 zg 24 48 (.call 20 [47]) 46 true,
 zg 25 49 (.bin .eql 27 true 48 (zi 3)) 46 true,
 zo 26 50 (.pick 46 49 (.con (.bool false))),
 zm 27 0 50])
 (.ret))))),
 [.tmp 0]⟩
theorem p12u : PR Go.Proofs.Tryz.f12 = some v12u:=by kernel_rfl

def v_code_Parse : VFun :=
⟨.seq (.reg [zo 0 2 (.alloc [(.slice none 0 0),(.int .i64 0),(.int .i64 0),(.int .i64 0),(.int .i64 0),(.slice none 0 0)]),
 zo 1 3 (.mv (zi 0)),
 zo 2 4 (.mv (zi 0))])
 (.seq (.seq (.reg [zm 0 8 0,
 zo 1 9 (.bi .len [9] 3 [(.tmp 8)]),
 zo 2 10 (.bin .gtr 3 true (.tmp 9) (zi 2000000))])
 (.cond (.tmp 10)
 (.seq (.reg [zo 0 11 (.build [(.slice none 0 0),(.int .i64 0),(.int .i64 0),(.int .i64 0),(.int .i64 0),(.slice none 0 0)] []),
 zn 1 (.store 6 (.tmp 2) (.tmp 11)),
 zo 2 3 (.mv (zi 0)),
 zo 3 4 (.mv (zi 3))])
 (.ret))
 (.skip)))
 (.seq (.reg [zo 0 5 (.alloc [(.slice none 0 0),(.int .i64 0),(.int .i64 0),(.int .i64 0),(.int .i64 0),(.slice none 0 0)])])
 (.seq (.reg [zm 0 12 0,
 zo 1 13 (.build [(.string ⟨#[]⟩),(.int .i64 0)] [(0,1,(.tmp 12)),(1,1,(zi 1))]),
 zo 2 14 (.box (.tmp 13)),
 zm 3 6 14])
 (.seq (.seq (.reg [zm 0 15 6,
 zo 1 16 (.call 46 [(.tmp 15),(.tmp 5)]),
 zo 2 17 (.un .not (.tmp 16))])
 (.cond (.tmp 17)
 (.seq (.reg [zo 0 18 (.build [(.slice none 0 0),(.int .i64 0),(.int .i64 0),(.int .i64 0),(.int .i64 0),(.slice none 0 0)] []),
 zm 1 19 6,
 zo 2 20 (.nilck (.tmp 19)),
 zf 3 21 1 20,
 zl 4 22 21,
 ⟨5,none,.store 6 (.tmp 2) (.tmp 18),none,[(.tmp 21)]⟩,
 zm 6 3 22,
 zo 7 4 (.mv (zi 4))])
 (.ret))
 (.skip)))
 (.seq (.seq (.reg [zo 0 23 (.load (some 6) (.tmp 5)),
 zo 1 24 (.call 20 [(.tmp 23)]),
 zm 2 7 24])
 (.seq (.reg [zm 0 25 7,
 zo 1 26 (.bin .neq 27 true (.tmp 25) (zi 0))])
 (.cond (.tmp 26)
 (.seq (.reg [zo 0 27 (.build [(.slice none 0 0),(.int .i64 0),(.int .i64 0),(.int .i64 0),(.int .i64 0),(.slice none 0 0)] []),
 zm 1 28 7,
 zn 2 (.store 6 (.tmp 2) (.tmp 27)),
 zo 3 3 (.mv (zi 0)),
 zm 4 4 28])
 (.ret))
 (.skip))))
 (.seq (.reg [zo 0 29 (.load (some 6) (.tmp 5)),
 zn 1 (.store 6 (.tmp 2) (.tmp 29)),
 zo 2 3 (.mv (zi 0)),
 zo 3 4 (.mv (zi 0))])
 (.ret))))))),
 [.cell 2 (some 6),.tmp 3,.tmp 4]⟩
theorem p_code_Parse : PR Go.Proofs.Tryz.f14 = some v_code_Parse:=by kernel_rfl

end Go.VX.Seat
end
section
set_option maxRecDepth 20000
namespace Go.VX.Seat
def v_r07_Parse : VFun :=
⟨.seq (.reg [zo 0 2 (.alloc [(.slice none 0 0),(.int .i64 0),(.int .i64 0),(.int .i64 0),(.int .i64 0),(.slice none 0 0)]),
 zo 1 3 (.mv (zi 0)),
 zo 2 4 (.mv (zi 0))])
 (.seq (.seq (.reg [zm 0 11 0,
 zo 1 12 (.bi .len [9] 3 [(.tmp 11)]),
 zo 2 13 (.bin .gtr 3 true (.tmp 12) (zi 2000000))])
 (.cond (.tmp 13)
 (.seq (.reg [zo 0 14 (.build [(.slice none 0 0),(.int .i64 0),(.int .i64 0),(.int .i64 0),(.int .i64 0),(.slice none 0 0)] []),
 zn 1 (.store 6 (.tmp 2) (.tmp 14)),
 zo 2 3 (.mv (zi 0)),
 zo 3 4 (.mv (zi 3))])
 (.ret))
 (.skip)))
 (.seq (.reg [zm 0 15 0,
 zo 1 16 (.call 47 [(.tmp 15),(.con (.string ⟨#[10]⟩))]),
 zm 2 5 16])
 (.seq (.reg [zm 0 17 5,
 zm 1 18 5,
 zo 2 19 (.len (.tmp 18)),
 zo 3 20 (.bin .sub 3 true (.tmp 19) (zi 1)),
 zo 4 21 (.idxA none 1 (.tmp 17) (.tmp 20)),
 zl 5 22 21,
 zm 6 6 22])
 (.seq (.reg [zm 0 23 5,
 zm 1 24 5,
 zo 2 25 (.len (.tmp 24)),
 zo 3 26 (.bin .sub 3 true (.tmp 25) (zi 1)),
 zo 4 27 (.slice none 1 (.tmp 23) none (some (.tmp 26)) none),
 zm 5 5 27])
 (.seq (.reg [zo 0 7 (.alloc [(.slice none 0 0),(.int .i64 0),(.int .i64 0),(.int .i64 0),(.int .i64 0),(.slice none 0 0)])])
 (.seq (.reg [zo 0 8 (.alloc [(.int .i64 0)]),
 zn 1 (.store 1 (.tmp 8) (zi 0))])
 (.seq (.seq (.reg [zo 0 9 (.mv (zi 0))])
 (.block 0
 (.loop
 (.seq (.seq (.reg [zm 0 28 9,
 zm 1 29 5,
 zo 2 30 (.len (.tmp 29)),
 zo 3 31 (.bin .lss 3 false (.tmp 28) (.tmp 30))])
 (.cond (.tmp 31)
 (.skip)
 (.exit 0)))
 (.seq (.block 1
 (.seq (.reg [zm 0 34 5,
 zm 1 35 9,
 zo 2 36 (.idxA none 1 (.tmp 34) (.tmp 35)),
 zl 3 37 36,
 zo 4 38 (.call 48 [(.tmp 7),(.tmp 8),(.tmp 37)]),
 zo 5 39 (.un .not (.tmp 38))])
 (.cond (.tmp 39)
 (.seq (.reg [zo 0 40 (.build [(.slice none 0 0),(.int .i64 0),(.int .i64 0),(.int .i64 0),(.int .i64 0),(.slice none 0 0)] []),
 zm 1 41 9,
 zo 2 42 (.bin .add 3 true (.tmp 41) (zi 1)),
 zn 3 (.store 6 (.tmp 2) (.tmp 40)),
 zm 4 3 42,
 zo 5 4 (.mv (zi 4))])
 (.ret))
 (.skip))))
 (.reg [zm 0 32 9,
 zo 1 33 (.bin .add 3 true (.tmp 32) (zi 1)),
 zm 2 9 33]))))))
 (.seq (.seq (.reg [zm 0 43 6,
 zo 1 44 (.bin .neq 9 true (.tmp 43) (.con (.string ⟨#[]⟩))),
 zm 2 45 44,
 zg 3 46 (.load none (.tmp 8)) 45 false,
 zg 4 47 (.bin .eql 3 true (.tmp 46) (zi 0)) 45 false,
 zo 5 48 (.pick (.tmp 45) (.con (.bool true)) (.tmp 47)),
 zm 6 49 48,
 zg 7 50 (.load none (.tmp 8)) 49 false,
 zg 8 51 (.bin .eql 3 true (.tmp 50) (zi 3)) 49 false,
 zo 9 52 (.pick (.tmp 49) (.con (.bool true)) (.tmp 51))])
 (.cond (.tmp 52)
 (.seq (.reg [zo 0 53 (.build [(.slice none 0 0),(.int .i64 0),(.int .i64 0),(.int .i64 0),(.int .i64 0),(.slice none 0 0)] []),
 zm 1 54 5,
 zo 2 55 (.len (.tmp 54)),
 zo 3 56 (.bin .add 3 true (.tmp 55) (zi 1)),
 zn 4 (.store 6 (.tmp 2) (.tmp 53)),
 zm 5 3 56,
 zo 6 4 (.mv (zi 4))])
 (.ret))
 (.skip)))
 (.seq (.seq (.reg [zo 0 57 (.load (some 6) (.tmp 7)),
 zo 1 58 (.call 11 [(.tmp 57)]),
 zm 2 10 58])
 (.seq (.reg [zm 0 59 10,
 zo 1 60 (.bin .neq 27 true (.tmp 59) (zi 0))])
 (.cond (.tmp 60)
 (.seq (.reg [zo 0 61 (.build [(.slice none 0 0),(.int .i64 0),(.int .i64 0),(.int .i64 0),(.int .i64 0),(.slice none 0 0)] []),
 zm 1 62 10,
 zn 2 (.store 6 (.tmp 2) (.tmp 61)),
 zo 3 3 (.mv (zi 0)),
 zm 4 4 62])
 (.ret))
 (.skip))))
 (.seq (.reg [zo 0 63 (.load (some 6) (.tmp 7)),
 zn 1 (.store 6 (.tmp 2) (.tmp 63)),
 zo 2 3 (.mv (zi 0)),
 zo 3 4 (.mv (zi 0))])
 (.ret))))))))))),
 [.cell 2 (some 6),.tmp 3,.tmp 4]⟩
theorem p_r07_Parse : PR Go.Proofs.Tryz.f15 = some v_r07_Parse:=by kernel_rfl

def v_r07_Same : VFun :=
⟨.seq (.reg [zo 0 2 (.box (.tmp 0)),
 zo 1 3 (.box (.tmp 1)),
 zo 2 4 (.mv (.con (.bool false)))])
 (.seq (.seq (.reg [zf 0 6 0 2,
 zl 1 7 6,
 zo 2 8 (.len (.tmp 7)),
 zf 3 9 0 3,
 zl 4 10 9,
 zo 5 11 (.len (.tmp 10)),
 zo 6 12 (.bin .neq 3 false (.tmp 8) (.tmp 11)),
 zm 7 13 12,
 zg 8 14 (.fieldA 1 (.tmp 2)) 13 false,
 zg 9 15 (.load none (.tmp 14)) 13 false,
 zg 10 16 (.fieldA 1 (.tmp 3)) 13 false,
 zg 11 17 (.load none (.tmp 16)) 13 false,
 zg 12 18 (.bin .neq 3 false (.tmp 15) (.tmp 17)) 13 false,
 zo 13 19 (.pick (.tmp 13) (.con (.bool true)) (.tmp 18)),
 zm 14 20 19,
 zg 15 21 (.fieldA 2 (.tmp 2)) 20 false,
 zg 16 22 (.load none (.tmp 21)) 20 false,
 zg 17 23 (.fieldA 2 (.tmp 3)) 20 false,
 zg 18 24 (.load none (.tmp 23)) 20 false,
 zg 19 25 (.bin .neq 3 false (.tmp 22) (.tmp 24)) 20 false,
 zo 20 26 (.pick (.tmp 20) (.con (.bool true)) (.tmp 25)),
 zm 21 27 26,
 zg 22 28 (.fieldA 3 (.tmp 2)) 27 false,
 zg 23 29 (.load none (.tmp 28)) 27 false,
 zg 24 30 (.fieldA 3 (.tmp 3)) 27 false,
 zg 25 31 (.load none (.tmp 30)) 27 false,
 zg 26 32 (.bin .neq 3 false (.tmp 29) (.tmp 31)) 27 false,
 zo 27 33 (.pick (.tmp 27) (.con (.bool true)) (.tmp 32)),
 zm 28 34 33,
 zg 29 35 (.fieldA 4 (.tmp 2)) 34 false,
 zg 30 36 (.load none (.tmp 35)) 34 false,
 zg 31 37 (.fieldA 4 (.tmp 3)) 34 false,
 zg 32 38 (.load none (.tmp 37)) 34 false,
 zg 33 39 (.bin .neq 3 false (.tmp 36) (.tmp 38)) 34 false,
 zo 34 40 (.pick (.tmp 34) (.con (.bool true)) (.tmp 39))])
 (.cond (.tmp 40)
 (.seq (.reg [zo 0 4 (.mv (.con (.bool false)))])
 (.ret))
 (.skip)))
 (.seq (.seq (.reg [zo 0 5 (.mv (zi 0))])
 (.block 0
 (.loop
 (.seq (.seq (.reg [zm 0 41 5,
 zf 1 42 0 2,
 zl 2 43 42,
 zo 3 44 (.len (.tmp 43)),
 zo 4 45 (.bin .lss 3 false (.tmp 41) (.tmp 44))])
 (.cond (.tmp 45)
 (.skip)
 (.exit 0)))
 (.seq (.block 1
 (.seq (.reg [zf 0 48 0 2,
 zl 1 49 48,
 zm 2 50 5,
 zo 3 51 (.idxA none 1 (.tmp 49) (.tmp 50)),
 zl 4 52 51,
 zf 5 53 0 3,
 zl 6 54 53,
 zm 7 55 5,
 zo 8 56 (.idxA none 1 (.tmp 54) (.tmp 55)),
 zl 9 57 56,
 zo 10 58 (.bin .neq 3 false (.tmp 52) (.tmp 57))])
 (.cond (.tmp 58)
 (.seq (.reg [zo 0 4 (.mv (.con (.bool false)))])
 (.ret))
 (.skip))))
 (.reg [zm 0 46 5,
 zo 1 47 (.bin .add 3 true (.tmp 46) (zi 1)),
 zm 2 5 47]))))))
 (.seq (.reg [zf 0 59 5 2,
 zl 1 60 59,
 zf 2 61 5 3,
 zl 3 62 61,
 zo 4 63 (.call 49 [(.tmp 60),(.tmp 62)]),
 zm 5 4 63])
 (.ret)))),
 [.tmp 4]⟩
theorem p_r07_Same : PR Go.Proofs.Tryz.f16 = some v_r07_Same:=by kernel_rfl

def v_r07_Find : VFun :=
⟨.seq (.reg [zo 0 1 (.box (.tmp 0)),
 zo 1 2 (.mv (zi 0)),
 zo 2 3 (.mv (zi 0)),
 zo 3 4 (.mv (zi 0))])
 (.seq (.seq (.reg [zf 0 12 0 1,
 zl 1 13 12,
 zo 2 14 (.len (.tmp 13)),
 zo 3 15 (.bin .gtr 3 true (.tmp 14) (zi 16)),
 zm 4 16 15,
 zg 5 17 (.fieldA 5 (.tmp 1)) 16 false,
 zg 6 18 (.load none (.tmp 17)) 16 false,
 zg 7 19 (.len (.tmp 18)) 16 false,
 zg 8 20 (.bin .gtr 3 true (.tmp 19) (zi 2000)) 16 false,
 zo 9 21 (.pick (.tmp 16) (.con (.bool true)) (.tmp 20)),
 zm 10 22 21,
 zg 11 23 (.fieldA 5 (.tmp 1)) 22 false,
 zg 12 24 (.load none (.tmp 23)) 22 false,
 zg 13 25 (.len (.tmp 24)) 22 false,
 zg 14 26 (.bin .eql 3 true (.tmp 25) (zi 0)) 22 false,
 zo 15 27 (.pick (.tmp 22) (.con (.bool true)) (.tmp 26)),
 zm 16 28 27,
 zg 17 29 (.fieldA 2 (.tmp 1)) 28 false,
 zg 18 30 (.load none (.tmp 29)) 28 false,
 zg 19 31 (.bin .gtr 3 true (.tmp 30) (zi 4096)) 28 false,
 zo 20 32 (.pick (.tmp 28) (.con (.bool true)) (.tmp 31)),
 zm 21 33 32,
 zg 22 34 (.fieldA 4 (.tmp 1)) 33 false,
 zg 23 35 (.load none (.tmp 34)) 33 false,
 zg 24 36 (.bin .gtr 3 true (.tmp 35) (zi 4096)) 33 false,
 zo 25 37 (.pick (.tmp 33) (.con (.bool true)) (.tmp 36))])
 (.cond (.tmp 37)
 (.seq (.reg [zo 0 2 (.mv (zi 3)),
 zo 1 3 (.mv (zi 0)),
 zo 2 4 (.mv (zi 0))])
 (.ret))
 (.skip)))
 (.seq (.seq (.reg [zo 0 5 (.mv (zi 0))])
 (.block 0
 (.loop
 (.seq (.seq (.reg [zm 0 38 5,
 zf 1 39 0 1,
 zl 2 40 39,
 zo 3 41 (.len (.tmp 40)),
 zo 4 42 (.bin .lss 3 false (.tmp 38) (.tmp 41))])
 (.cond (.tmp 42)
 (.skip)
 (.exit 0)))
 (.seq (.block 1
 (.seq (.reg [zf 0 45 0 1,
 zl 1 46 45,
 zm 2 47 5,
 zo 3 48 (.idxA none 1 (.tmp 46) (.tmp 47)),
 zl 4 49 48,
 zo 5 50 (.bin .lss 3 true (.tmp 49) (zi 1)),
 zm 6 51 50,
 zg 7 52 (.fieldA 0 (.tmp 1)) 51 false,
 zg 8 53 (.load none (.tmp 52)) 51 false,
 zg 9 54 (.mv (.tmp 5)) 51 false,
 zg 10 55 (.idxA none 1 (.tmp 53) (.tmp 54)) 51 false,
 zg 11 56 (.load none (.tmp 55)) 51 false,
 zg 12 57 (.bin .gtr 3 true (.tmp 56) (zi 65536)) 51 false,
 zo 13 58 (.pick (.tmp 51) (.con (.bool true)) (.tmp 57))])
 (.cond (.tmp 58)
 (.seq (.reg [zo 0 2 (.mv (zi 2)),
 zo 1 3 (.mv (zi 0)),
 zo 2 4 (.mv (zi 0))])
 (.ret))
 (.skip))))
 (.reg [zm 0 43 5,
 zo 1 44 (.bin .add 3 true (.tmp 43) (zi 1)),
 zm 2 5 44]))))))
 (.seq (.seq (.reg [zf 0 59 2 1,
 zl 1 60 59,
 zo 2 61 (.bin .lss 3 true (.tmp 60) (zi 1)),
 zm 3 62 61,
 zg 4 63 (.fieldA 4 (.tmp 1)) 62 false,
 zg 5 64 (.load none (.tmp 63)) 62 false,
 zg 6 65 (.bin .lss 3 true (.tmp 64) (zi 0)) 62 false,
 zo 7 66 (.pick (.tmp 62) (.con (.bool true)) (.tmp 65)),
 zm 8 67 66,
 zg 9 68 (.fieldA 1 (.tmp 1)) 67 false,
 zg 10 69 (.load none (.tmp 68)) 67 false,
 zg 11 70 (.bin .lss 3 true (.tmp 69) (zi 0)) 67 false,
 zo 12 71 (.pick (.tmp 67) (.con (.bool true)) (.tmp 70)),
 zm 13 72 71,
 zg 14 73 (.fieldA 1 (.tmp 1)) 72 false,
 zg 15 74 (.load none (.tmp 73)) 72 false,
 zg 16 75 (.bin .gtr 3 true (.tmp 74) (zi 8)) 72 false,
 zo 17 76 (.pick (.tmp 72) (.con (.bool true)) (.tmp 75)),
 zm 18 77 76,
 zg 19 78 (.fieldA 1 (.tmp 1)) 77 false,
 zg 20 79 (.load none (.tmp 78)) 77 false,
 zg 21 80 (.fieldA 2 (.tmp 1)) 77 false,
 zg 22 81 (.load none (.tmp 80)) 77 false,
 zg 23 82 (.bin .gtr 3 false (.tmp 79) (.tmp 81)) 77 false,
 zo 24 83 (.pick (.tmp 77) (.con (.bool true)) (.tmp 82)),
 zm 25 84 83,
 zg 26 85 (.load (some 6) (.tmp 1)) 84 false,
 zg 27 86 (.fieldA 3 (.tmp 1)) 84 false,
 zg 28 87 (.load none (.tmp 86)) 84 false,
 zg 29 88 (.call 50 [(.tmp 85),(.tmp 87)]) 84 false,
 zg 30 89 (.un .not (.tmp 88)) 84 false,
 zo 31 90 (.pick (.tmp 84) (.con (.bool true)) (.tmp 89))])
 (.cond (.tmp 90)
 (.seq (.reg [zo 0 2 (.mv (zi 2)),
 zo 1 3 (.mv (zi 0)),
 zo 2 4 (.mv (zi 0))])
 (.ret))
 (.skip)))
 (.seq (.reg [zo 0 6 (.mv (zi 0))])
 (.seq (.seq (.reg [zo 0 7 (.mv (zi 0))])
 (.block 2
 (.loop
 (.seq (.seq (.reg [zm 0 91 7,
 zf 1 92 5 1,
 zl 2 93 92,
 zo 3 94 (.len (.tmp 93)),
 zo 4 95 (.bin .lss 3 false (.tmp 91) (.tmp 94))])
 (.cond (.tmp 95)
 (.skip)
 (.exit 2)))
 (.seq (.block 3
 (.seq (.reg [zf 0 98 5 1,
 zl 1 99 98,
 zm 2 100 7,
 zo 3 101 (.idxA none 6 (.tmp 99) (.tmp 100)),
 zo 4 102 (.load (some 6) (.tmp 101)),
 zo 5 8 (.alloc [(.slice none 0 0),(.int .i64 0),(.int .i64 0),(.int .i64 0),(.int .i64 0),(.int .i64 0)]),
 zn 6 (.store 6 (.tmp 8) (.tmp 102))])
 (.seq (.seq (.reg [zf 0 103 5 8,
 zl 1 104 103,
 zo 2 105 (.bin .lss 3 true (.tmp 104) (zi (-1))),
 zm 3 106 105,
 zg 4 107 (.fieldA 5 (.tmp 8)) 106 false,
 zg 5 108 (.load none (.tmp 107)) 106 false,
 zg 6 109 (.fieldA 5 (.tmp 1)) 106 false,
 zg 7 110 (.load none (.tmp 109)) 106 false,
 zg 8 111 (.len (.tmp 110)) 106 false,
 zg 9 112 (.bin .geq 3 false (.tmp 108) (.tmp 111)) 106 false,
 zo 10 113 (.pick (.tmp 106) (.con (.bool true)) (.tmp 112))])
 (.cond (.tmp 113)
 (.seq (.reg [zm 0 114 7,
 zf 1 115 0 8,
 zl 2 116 115,
 zo 3 117 (.len (.tmp 116)),
 ⟨4,(some 2),.mv (zi 2),none,[(.tmp 115)]⟩,
 ⟨5,(some 3),.mv (.tmp 114),none,[(.tmp 115)]⟩,
 zm 6 4 117])
 (.ret))
 (.skip)))
 (.seq (.seq (.reg [zf 0 118 0 8,
 zl 1 119 118,
 zo 2 120 (.len (.tmp 119)),
 zo 3 121 (.bin .gtr 3 true (.tmp 120) (zi 400))])
 (.cond (.tmp 121)
 (.seq (.reg [zm 0 122 7,
 zf 1 123 0 8,
 zl 2 124 123,
 zo 3 125 (.len (.tmp 124)),
 ⟨4,(some 2),.mv (zi 3),none,[(.tmp 123)]⟩,
 ⟨5,(some 3),.mv (.tmp 122),none,[(.tmp 123)]⟩,
 zm 6 4 125])
 (.ret))
 (.skip)))
 (.seq (.reg [zm 0 126 6,
 zf 1 127 0 8,
 zl 2 128 127,
 zo 3 129 (.len (.tmp 128)),
 zo 4 130 (.bin .add 3 false (.tmp 126) (.tmp 129)),
 zm 5 6 130])
 (.seq (.seq (.reg [zo 0 9 (.mv (zi 0))])
 (.block 4
 (.loop
 (.seq (.seq (.reg [zm 0 131 9,
 zf 1 132 0 8,
 zl 2 133 132,
 zo 3 134 (.len (.tmp 133)),
 zo 4 135 (.bin .lss 3 false (.tmp 131) (.tmp 134))])
 (.cond (.tmp 135)
 (.skip)
 (.exit 4)))
 (.seq (.block 5
 (.seq (.reg [zo 0 138 (.load (some 6) (.tmp 1)),
 zf 1 139 0 8,
 zl 2 140 139,
 zm 3 141 9,
 zo 4 142 (.idxA none 7 (.tmp 140) (.tmp 141)),
 zo 5 143 (.load (some 7) (.tmp 142)),
 zo 6 144 (.call 51 [(.tmp 138),(.tmp 143)]),
 zm 7 10 144])
 (.seq (.reg [zm 0 145 10,
 zo 1 146 (.bin .neq 27 true (.tmp 145) (zi 0))])
 (.cond (.tmp 146)
 (.seq (.reg [zm 0 147 10,
 zm 1 148 7,
 zm 2 149 9,
 zm 3 2 147,
 zm 4 3 148,
 zm 5 4 149])
 (.ret))
 (.skip)))))
 (.reg [zm 0 136 9,
 zo 1 137 (.bin .add 3 true (.tmp 136) (zi 1)),
 zm 2 9 137]))))))
 (.seq (.reg [zo 0 150 (.load (some 6) (.tmp 1)),
 zf 1 151 1 8,
 zo 2 152 (.load (some 4) (.tmp 151)),
 zo 3 153 (.call 52 [(.tmp 150),(.tmp 152)]),
 zm 4 11 153])
 (.seq (.reg [zm 0 154 11,
 zo 1 155 (.bin .neq 27 true (.tmp 154) (zi 0))])
 (.cond (.tmp 155)
 (.seq (.reg [zm 0 156 11,
 zm 1 157 7,
 zf 2 158 0 8,
 zl 3 159 158,
 zo 4 160 (.len (.tmp 159)),
 ⟨5,(some 2),.mv (.tmp 156),none,[(.tmp 158)]⟩,
 ⟨6,(some 3),.mv (.tmp 157),none,[(.tmp 158)]⟩,
 zm 7 4 160])
 (.ret))
 (.skip))))))))))
 (.reg [zm 0 96 7,
 zo 1 97 (.bin .add 3 true (.tmp 96) (zi 1)),
 zm 2 7 97]))))))
 (.seq (.seq (.reg [zm 0 161 6,
 zo 1 162 (.bin .gtr 3 true (.tmp 161) (zi 20000))])
 (.cond (.tmp 162)
 (.seq (.reg [zo 0 2 (.mv (zi 3)),
 zo 1 3 (.mv (zi 0)),
 zo 2 4 (.mv (zi 0))])
 (.ret))
 (.skip)))
 (.seq (.reg [zo 0 2 (.mv (zi 0)),
 zo 1 3 (.mv (zi 0)),
 zo 2 4 (.mv (zi 0))])
 (.ret)))))))),
 [.tmp 2,.tmp 3,.tmp 4]⟩
theorem p_r07_Find : PR Go.Proofs.Tryz.f17 = some v_r07_Find:=by kernel_rfl

def v_code_Check : VFun :=
⟨.seq (.reg [zo 0 1 (.box (.tmp 0)),
 zo 1 2 (.mv (zi 0))])
 (.seq (.reg [zo 0 3 (.load (some 6) (.tmp 1)),
 zo 1 4 (.call 53 [(.tmp 3)]),
 zo 2 5 (.field 2 none (.tmp 4)),
 zm 3 2 5])
 (.ret)),
 [.tmp 2]⟩
theorem p_code_Check : PR Go.Proofs.Tryz.f20 = some v_code_Check:=by kernel_rfl

def v_r07_One : VFun :=
⟨.seq (.reg [zo 0 2 (.mv (.con (.bool false)))])
 (.seq (.reg [zm 0 3 0,
 zo 1 4 (.bin .geq 3 true (.tmp 3) (zi 1)),
 zm 2 5 4,
 zg 3 6 (.mv (.tmp 0)) 5 true,
 zg 4 7 (.bin .leq 3 true (.tmp 6) (zi 25)) 5 true,
 zo 5 8 (.pick (.tmp 5) (.tmp 7) (.con (.bool false))),
 zm 6 2 8])
 (.ret)),
 [.tmp 2]⟩
theorem p_r07_One : PR Go.Proofs.Tryz.f26 = some v_r07_One:=by kernel_rfl

def v_r07_Names : VFun :=
⟨.seq (.reg [zo 0 0 (.mv (.con (.slice none 0 0)))])
 (.seq (.reg [zo 0 1 (.bslice 1 25 [(.string ⟨#[]⟩)] [(0,1,(.con (.string ⟨#[99,111,110,115,116]⟩))),(1,1,(.con (.string ⟨#[109,111,118,101]⟩))),(2,1,(.con (.string ⟨#[97,100,100]⟩))),(3,1,(.con (.string ⟨#[115,117,98]⟩))),(4,1,(.con (.string ⟨#[97,110,100]⟩))),(5,1,(.con (.string ⟨#[111,114]⟩))),(6,1,(.con (.string ⟨#[120,111,114]⟩))),(7,1,(.con (.string ⟨#[115,104,108]⟩))),(8,1,(.con (.string ⟨#[115,104,114]⟩))),(9,1,(.con (.string ⟨#[108,101,115,115]⟩))),(10,1,(.con (.string ⟨#[101,113,117,97,108]⟩))),(11,1,(.con (.string ⟨#[112,105,99,107]⟩))),(12,1,(.con (.string ⟨#[109,117,108]⟩))),(13,1,(.con (.string ⟨#[100,105,118]⟩))),(14,1,(.con (.string ⟨#[114,101,109]⟩))),(15,1,(.con (.string ⟨#[108,111,97,100]⟩))),(16,1,(.con (.string ⟨#[115,116,111,114,101]⟩))),(17,1,(.con (.string ⟨#[102,101,116,99,104]⟩))),(18,1,(.con (.string ⟨#[107,101,101,112]⟩))),(19,1,(.con (.string ⟨#[112,114,105,110,116]⟩))),(20,1,(.con (.string ⟨#[101,120,105,116]⟩))),(21,1,(.con (.string ⟨#[99,104,101,99,107]⟩))),(22,1,(.con (.string ⟨#[100,105,118,115]⟩))),(23,1,(.con (.string ⟨#[114,101,109,115]⟩))),(24,1,(.con (.string ⟨#[108,111,97,100,115]⟩)))]),
 zm 1 0 1])
 (.ret)),
 [.tmp 0]⟩
theorem p_r07_Names : PR Go.Proofs.Tryz.f31 = some v_r07_Names:=by kernel_rfl

end Go.VX.Seat
end
section
set_option maxRecDepth 20000
namespace Go.VX.Seat
def v39u : VFun :=
⟨.seq (.reg [zo 0 4 (.mv (zi 0)),
 zo 1 5 (.mv (.con .nilIface))])
 (.seq (.reg [zm 0 6 0,
 zo 1 7 (.call 72 [6])])
 (.seq (.reg [zm 0 8 0,
 zm 1 9 0,
 zo 2 10 (.nilck 9),
 zf 3 11 1 10,
 zl 4 12 11,
 zm 5 13 1,
 zo 6 14 (.append 1 1 12 13),
 zo 7 15 (.nilck 8),
 zf 8 16 1 15,
 zn 9 (.store 1 16 14)])
 (.seq (.reg [zm 0 17 1,
 zo 1 18 (.bi .len [9] 3 [17]),
 zm 2 4 18,
 zo 3 5 (.mv (.con .nilIface))])
 (.ret)))),
 [.tmp 4,.tmp 5]⟩
theorem p39u : PR Go.Proofs.Tryz.f39 = some v39u:=by kernel_rfl

def v40u : VFun :=
⟨.seq (.reg [zo 0 2 (.mv (.con (.string ⟨#[]⟩)))])
 (.seq (.reg [zm 0 3 0,
 zo 1 4 (.call 73 [3]),
 zm 2 2 4])
 (.ret)),
 [.tmp 2]⟩
theorem p40u : PR Go.Proofs.Tryz.f40 = some v40u:=by kernel_rfl

def v41u : VFun :=
⟨.seq (.reg [zo 0 1 (.box 0),
 zo 1 2 (.mv (.con (.string ⟨#[]⟩)))])
 (.seq (.reg [zf 0 9 0 1,
 zl 1 10 9,
 zo 2 11 (.call 55 [10]),
 zm 3 8 11,
 zo 4 12 (.ext 8 0),
 zo 5 13 (.ext 8 1),
 zo 6 3 (.alloc [(.int .i64 0),(.int .i64 0),(.string ⟨#[]⟩)]),
 zn 7 (.store 3 3 12),
 zm 8 4 13])
 (.seq (.reg [zo 0 5 (.allocF [(.int .i64 1),(.int .i64 81),(.int .i64 5),(.string ⟨#[]⟩)])])
 (.seq (.seq (.reg [zf 0 14 6 1,
 zl 1 15 14,
 zo 2 16 (.bin .neq 3 true 15 (zi (-1)))])
 (.cond 16
 (.reg [zf 0 17 6 1,
 zl 1 18 17,
 zo 2 19 (.call 40 [18]),
 zo 3 20 (.bin .add 9 true (.con (.string ⟨#[63,32]⟩)) 19),
 zo 4 21 (.bin .add 9 true 20 (.con (.string ⟨#[32]⟩))),
 zo 5 22 (.call 39 [5,21])])
 (.skip)))
 (.seq (.seq (.reg [zf 0 23 0 3,
 zl 1 24 23,
 zo 2 25 (.bin .and 3 true 24 (zi 1)),
 zo 3 26 (.bin .neq 3 true 25 (zi 0))])
 (.cond 26
 (.reg [zf 0 27 1 1,
 zl 1 28 27,
 zo 2 29 (.call 40 [28]),
 zo 3 30 (.bin .add 9 true 29 (.con (.string ⟨#[32,61,32]⟩))),
 zo 4 31 (.call 39 [5,30])])
 (.skip)))
 (.seq (.reg [zf 0 32 2 3,
 zl 1 33 32,
 zo 2 34 (.call 39 [5,33])])
 (.seq (.seq (.reg [zo 0 35 (.load (some 7) 1),
 zo 1 36 (.call 56 [35]),
 zo 2 37 (.len 36),
 zo 3 38 (.mv (zi 0))])
 (.block 0
 (.loop
 (.seq (.reg [zo 0 39 (.bin .lss 3 false 38 37)])
 (.seq (.cond 39
 (.skip)
 (.exit 0))
 (.seq (.block 1
 (.seq (.reg [zo 0 40 (.idxA none 1 36 38),
 zl 1 41 40,
 zm 2 7 41])
 (.reg [zm 0 42 7,
 zo 1 43 (.call 40 [42]),
 zo 2 44 (.bin .add 9 true (.con (.string ⟨#[32]⟩)) 43),
 zo 3 45 (.call 39 [5,44])])))
 (.reg [zo 0 46 (.bin .add 3 true 38 (zi 1)),
 zm 1 38 46])))))))
 (.seq (.seq (.reg [zf 0 47 0 3,
 zl 1 48 47,
 zo 2 49 (.bin .and 3 true 48 (zi 240)),
 zo 3 50 (.bin .neq 3 true 49 (zi 0))])
 (.cond 50
 (.reg [zf 0 51 5 1,
 zl 1 52 51,
 zo 2 53 (.call 74 [52]),
 zo 3 54 (.bin .add 9 true (.con (.string ⟨#[32]⟩)) 53),
 zo 4 55 (.call 39 [5,54])])
 (.skip)))
 (.seq (.reg [zo 0 56 (.call 43 [5]),
 zm 1 2 56])
 (.ret))))))))),
 [.tmp 2]⟩
theorem p41u : PR Go.Proofs.Tryz.f41 = some v41u:=by kernel_rfl

def v42u : VFun :=
⟨.seq (.reg [zo 0 1 (.box 0),
 zo 1 2 (.mv (.con (.string ⟨#[]⟩)))])
 (.seq (.reg [zf 0 7 1 1,
 zl 1 8 7,
 zf 2 9 2 1,
 zl 3 10 9,
 zf 4 11 3 1,
 zl 5 12 11,
 zo 6 13 (.bslice 1 3 [(.int .i64 0)] [(0,1,8),(1,1,10),(2,1,12)]),
 zm 7 3 13])
 (.seq (.seq (.reg [zf 0 14 0 1,
 zl 1 15 14,
 zo 2 16 (.bin .eql 3 true 15 (zi 1))])
 (.cond 16
 (.reg [zm 0 17 3,
 zo 1 18 (.slice none 1 17 (some (zi 1)) none none),
 zm 2 3 18])
 (.skip)))
 (.seq (.reg [zf 0 19 0 1,
 zl 1 20 19,
 zo 2 21 (.bin .sub 3 true 20 (zi 1)),
 zo 3 22 (.idxA (some 4) 2 (.glo 1) 21),
 zf 4 23 0 22,
 zl 5 24 23,
 zm 6 4 24])
 (.seq (.seq (.reg [zm 0 25 3,
 zf 1 26 0 1,
 zl 2 27 26,
 zo 3 28 (.bin .sub 3 true 27 (zi 1)),
 zo 4 29 (.idxA (some 4) 2 (.glo 1) 28),
 zf 5 30 1 29,
 zl 6 31 30,
 zo 7 32 (.slice none 1 25 none (some 31) none),
 zo 8 33 (.len 32),
 zo 9 34 (.mv (zi 0))])
 (.block 0
 (.loop
 (.seq (.reg [zo 0 35 (.bin .lss 3 false 34 33)])
 (.seq (.cond 35
 (.skip)
 (.exit 0))
 (.seq (.block 1
 (.seq (.reg [zo 0 36 (.idxA none 1 32 34),
 zl 1 37 36,
 zm 2 6 37])
 (.reg [zm 0 38 4,
 zm 1 39 6,
 zo 2 40 (.call 40 [39]),
 zo 3 41 (.bin .add 9 true (.con (.string ⟨#[32]⟩)) 40),
 zo 4 42 (.bin .add 9 false 38 41),
 zm 5 4 42])))
 (.reg [zo 0 43 (.bin .add 3 true 34 (zi 1)),
 zm 1 34 43])))))))
 (.seq (.reg [zm 0 44 4,
 zm 1 2 44])
 (.ret)))))),
 [.tmp 2]⟩
theorem p42u : PR Go.Proofs.Tryz.f42 = some v42u:=by kernel_rfl

def v_r07_opText : VFun :=
⟨.seq (.reg [zo 0 1 (.box (.tmp 0)),
 zo 1 2 (.mv (.con (.string ⟨#[]⟩)))])
 (.seq (.reg [zo 0 3 (.mv (.con (.string ⟨#[]⟩)))])
 (.seq (.seq (.reg [zf 0 6 6 1,
 zl 1 7 6,
 zo 2 8 (.bin .neq 3 true (.tmp 7) (zi (-1)))])
 (.cond (.tmp 8)
 (.reg [zf 0 9 6 1,
 zl 1 10 9,
 zo 2 11 (.call 40 [(.tmp 10)]),
 zo 3 12 (.bin .add 9 true (.con (.string ⟨#[63,32]⟩)) (.tmp 11)),
 zo 4 13 (.bin .add 9 true (.tmp 12) (.con (.string ⟨#[32]⟩))),
 zm 5 3 13])
 (.skip)))
 (.seq (.seq (.reg [zf 0 14 0 1,
 zl 1 15 14,
 zo 2 16 (.call 57 [(.tmp 15)])])
 (.cond (.tmp 16)
 (.reg [zm 0 17 3,
 zf 1 18 1 1,
 zl 2 19 18,
 zo 3 20 (.call 40 [(.tmp 19)]),
 zo 4 21 (.bin .add 9 true (.tmp 20) (.con (.string ⟨#[32,61,32]⟩))),
 zo 5 22 (.bin .add 9 false (.tmp 17) (.tmp 21)),
 zm 6 3 22])
 (.skip)))
 (.seq (.reg [zm 0 23 3,
 zf 2 25 0 1,
 zl 3 26 25,
 zo 4 27 (.bin .sub 3 true (.tmp 26) (zi 1)),
 ⟨1,(some 24),.call 31 [],none,[(.tmp 25)]⟩,
 zo 5 28 (.idxA none 1 (.tmp 24) (.tmp 27)),
 zl 6 29 28,
 zo 7 30 (.bin .add 9 false (.tmp 23) (.tmp 29)),
 zm 8 3 30])
 (.seq (.reg [zo 0 31 (.load (some 7) (.tmp 1)),
 zo 1 32 (.call 58 [(.tmp 31)]),
 zm 2 4 32])
 (.seq (.seq (.reg [zo 0 5 (.mv (zi 0))])
 (.block 0
 (.loop
 (.seq (.seq (.reg [zm 0 33 5,
 zm 1 34 4,
 zo 2 35 (.len (.tmp 34)),
 zo 3 36 (.bin .lss 3 false (.tmp 33) (.tmp 35))])
 (.cond (.tmp 36)
 (.skip)
 (.exit 0)))
 (.seq (.block 1
 (.reg [zm 0 39 3,
 zm 1 40 4,
 zm 2 41 5,
 zo 3 42 (.idxA none 1 (.tmp 40) (.tmp 41)),
 zl 4 43 42,
 zo 5 44 (.call 40 [(.tmp 43)]),
 zo 6 45 (.bin .add 9 true (.con (.string ⟨#[32]⟩)) (.tmp 44)),
 zo 7 46 (.bin .add 9 false (.tmp 39) (.tmp 45)),
 zm 8 3 46]))
 (.reg [zm 0 37 5,
 zo 1 38 (.bin .add 3 true (.tmp 37) (zi 1)),
 zm 2 5 38]))))))
 (.seq (.seq (.reg [zf 0 47 0 1,
 zl 1 48 47,
 zo 2 49 (.call 75 [(.tmp 48)])])
 (.cond (.tmp 49)
 (.reg [zm 0 50 3,
 zf 1 51 5 1,
 zl 2 52 51,
 zo 3 53 (.call 76 [(.tmp 52)]),
 zo 4 54 (.bin .add 9 true (.con (.string ⟨#[32]⟩)) (.tmp 53)),
 zo 5 55 (.bin .add 9 false (.tmp 50) (.tmp 54)),
 zm 6 3 55])
 (.skip)))
 (.seq (.reg [zm 0 56 3,
 zm 1 2 56])
 (.ret))))))))),
 [.tmp 2]⟩
theorem p_r07_opText : PR Go.Proofs.Tryz.f44 = some v_r07_opText:=by kernel_rfl

def v_code_lines_unit : VFun :=
⟨.seq (.reg [zo 0 4 (.mv (.con (.bool false)))])
 (.seq (.reg [zm 0 18 0,
 zo 1 19 (.call 77 [(.tmp 18)]),
 zm 2 17 19,
 zo 3 20 (.ext (.tmp 17) 0),
 zo 4 21 (.ext (.tmp 17) 1),
 zm 5 5 20,
 zm 6 6 21])
 (.seq (.reg [zm 0 23 5,
 zo 1 24 (.call 78 [(.tmp 23),(.con (.string ⟨#[117,110,105,116]⟩)),(zi 4)]),
 zm 2 22 24,
 zo 3 25 (.ext (.tmp 22) 0),
 zo 4 26 (.ext (.tmp 22) 1),
 zm 5 7 25,
 zm 6 8 26])
 (.seq (.seq (.reg [zm 0 28 0,
 zo 1 29 (.call 77 [(.tmp 28)]),
 zm 2 27 29,
 zo 3 30 (.ext (.tmp 27) 0),
 zo 4 31 (.ext (.tmp 27) 1),
 zm 5 9 30,
 zm 6 10 31])
 (.seq (.reg [zm 0 32 8,
 zo 1 33 (.un .not (.tmp 32)),
 zm 2 34 33,
 zg 3 35 (.mv (.tmp 10)) 34 false,
 zg 4 36 (.un .not (.tmp 35)) 34 false,
 zo 5 37 (.pick (.tmp 34) (.con (.bool true)) (.tmp 36))])
 (.cond (.tmp 37)
 (.seq (.reg [zo 0 4 (.mv (.con (.bool false)))])
 (.ret))
 (.skip))))
 (.seq (.reg [zm 0 38 1,
 zm 1 39 1,
 zm 2 40 1,
 zm 3 41 1,
 zm 4 42 7,
 zo 5 43 (.idxA none 1 (.tmp 42) (zi 0)),
 zl 6 44 43,
 zm 7 45 7,
 zo 8 46 (.idxA none 1 (.tmp 45) (zi 1)),
 zl 9 47 46,
 zm 10 48 7,
 zo 11 49 (.idxA none 1 (.tmp 48) (zi 2)),
 zl 12 50 49,
 zm 13 51 7,
 zo 14 52 (.idxA none 1 (.tmp 51) (zi 3)),
 zl 15 53 52,
 zo 16 54 (.nilck (.tmp 38)),
 zf 17 55 1 54,
 zn 18 (.store 1 (.tmp 55) (.tmp 44)),
 zo 19 56 (.nilck (.tmp 39)),
 zf 20 57 2 56,
 zn 21 (.store 1 (.tmp 57) (.tmp 47)),
 zo 22 58 (.nilck (.tmp 40)),
 zf 23 59 3 58,
 zn 24 (.store 1 (.tmp 59) (.tmp 50)),
 zo 25 60 (.nilck (.tmp 41)),
 zf 26 61 4 60,
 zn 27 (.store 1 (.tmp 61) (.tmp 53))])
 (.seq (.reg [zm 0 62 0,
 zo 1 63 (.call 79 [(.tmp 62)])])
 (.seq (.block 0
 (.loop
 (.seq (.seq (.reg [zm 0 64 0,
 zo 1 65 (.nilck (.tmp 64)),
 zf 2 66 0 65,
 zl 3 67 66,
 zo 4 68 (.bin .neq 9 true (.tmp 67) (.con (.string ⟨#[]⟩)))])
 (.cond (.tmp 68)
 (.skip)
 (.exit 0)))
 (.block 1
 (.seq (.reg [zm 0 70 0,
 zo 1 71 (.call 77 [(.tmp 70)]),
 zm 2 69 71,
 zo 3 72 (.ext (.tmp 69) 0),
 zo 4 73 (.ext (.tmp 69) 1),
 zm 5 11 72,
 zm 6 12 73])
 (.seq (.reg [zm 0 75 11,
 zo 1 76 (.call 78 [(.tmp 75),(.con (.string ⟨#[97,114,114,97,121]⟩)),(zi 1)]),
 zm 2 74 76,
 zo 3 77 (.ext (.tmp 74) 0),
 zo 4 78 (.ext (.tmp 74) 1),
 zm 5 13 77,
 zm 6 14 78])
 (.seq (.reg [zm 0 80 11,
 zo 1 81 (.call 78 [(.tmp 80),(.con (.string ⟨#[98,108,111,99,107]⟩)),(zi 1)]),
 zm 2 79 81,
 zo 3 82 (.ext (.tmp 79) 0),
 zo 4 83 (.ext (.tmp 79) 1),
 zm 5 15 82,
 zm 6 16 83])
 (.block 2
 (.seq (.reg [zm 0 85 12,
 zo 1 86 (.un .not (.tmp 85)),
 zm 2 84 86])
 (.cond (.tmp 84)
 (.seq (.reg [zo 0 4 (.mv (.con (.bool false)))])
 (.ret))
 (.seq (.reg [zm 0 88 14,
 zm 1 89 88,
 zg 2 90 (.mv (.tmp 1)) 89 true,
 zg 3 91 (.nilck (.tmp 90)) 89 true,
 zg 4 92 (.fieldA 5 (.tmp 91)) 89 true,
 zg 5 93 (.load none (.tmp 92)) 89 true,
 zg 6 94 (.len (.tmp 93)) 89 true,
 zg 7 95 (.bin .eql 3 true (.tmp 94) (zi 0)) 89 true,
 zo 8 96 (.pick (.tmp 89) (.tmp 95) (.con (.bool false))),
 zm 9 87 96])
 (.cond (.tmp 87)
 (.seq (.reg [zm 0 97 1,
 zm 1 98 1,
 zo 2 99 (.nilck (.tmp 98)),
 zf 3 100 0 99,
 zl 4 101 100,
 zm 5 102 13,
 zo 6 103 (.idxA none 1 (.tmp 102) (zi 0)),
 zl 7 104 103,
 zo 8 105 (.bslice 1 1 [(.int .i64 0)] [(0,1,(.tmp 104))]),
 zo 9 106 (.append 1 8 (.tmp 101) (.tmp 105)),
 zo 10 107 (.nilck (.tmp 97)),
 zf 11 108 0 107,
 zn 12 (.store 1 (.tmp 108) (.tmp 106))])
 (.reg [zm 0 109 0,
 zo 1 110 (.call 79 [(.tmp 109)])]))
 (.seq (.reg [zm 0 112 16,
 zm 1 111 112])
 (.cond (.tmp 111)
 (.seq (.reg [zm 0 113 1,
 zm 1 114 1,
 zo 2 115 (.nilck (.tmp 114)),
 zf 3 116 5 115,
 zl 4 117 116,
 zm 5 118 15,
 zo 6 119 (.idxA none 1 (.tmp 118) (zi 0)),
 zl 7 120 119,
 zo 8 121 (.build [(.slice none 0 0),(.int .i64 0),(.int .i64 0),(.int .i64 0),(.int .i64 0),(.int .i64 0)] [(5,1,(.tmp 120))]),
 zo 9 122 (.bslice 6 1 [(.slice none 0 0),(.int .i64 0),(.int .i64 0),(.int .i64 0),(.int .i64 0),(.int .i64 0)] [(0,6,(.tmp 121))]),
 zo 10 123 (.append 6 64 (.tmp 117) (.tmp 122)),
 zo 11 124 (.nilck (.tmp 113)),
 zf 12 125 5 124,
 zn 13 (.store 1 (.tmp 125) (.tmp 123))])
 (.seq (.reg [zm 0 126 0,
 zo 1 127 (.call 79 [(.tmp 126)])])
 (.seq (.reg [zm 0 128 0,
 zm 1 129 1,
 zo 2 130 (.nilck (.tmp 129)),
 zf 3 131 5 130,
 zl 4 132 131,
 zm 5 133 1,
 zo 6 134 (.nilck (.tmp 133)),
 zf 7 135 5 134,
 zl 8 136 135,
 zo 9 137 (.len (.tmp 136)),
 zo 10 138 (.bin .sub 3 true (.tmp 137) (zi 1)),
 zo 11 139 (.idxA none 6 (.tmp 132) (.tmp 138)),
 zo 12 140 (.call 80 [(.tmp 128),(.tmp 139)]),
 zo 13 141 (.un .not (.tmp 140))])
 (.cond (.tmp 141)
 (.seq (.reg [zo 0 4 (.mv (.con (.bool false)))])
 (.ret))
 (.skip)))))
 (.seq (.reg [zo 0 4 (.mv (.con (.bool false)))])
 (.ret))))))))))))))))
 (.seq (.reg [zo 0 4 (.mv (.con (.bool true)))])
 (.ret)))))))),
 [.tmp 4]⟩
theorem p_code_lines_unit : PR Go.Proofs.Tryz.f46 = some v_code_lines_unit:=by kernel_rfl

def v_strings_Split : VFun :=
⟨.seq (.reg [zo 0 4 (.mv (.con (.slice none 0 0)))])
 (.seq (.reg [zm 0 5 0,
 zm 1 6 1,
 zo 2 7 (.call 81 [(.tmp 5),(.tmp 6),(zi 0),(zi (-1))]),
 zm 3 4 7])
 (.ret)),
 [.tmp 4]⟩
theorem p_strings_Split : PR Go.Proofs.Tryz.f47 = some v_strings_Split:=by kernel_rfl

def v_r07_u0 : VFun :=
⟨.seq (.reg [zo 0 6 (.mv (.con (.bool false)))])
 (.seq (.seq (.reg [zm 0 22 1,
 zo 1 23 (.nilck (.tmp 22)),
 zl 2 24 23,
 zo 3 25 (.bin .eql 3 true (.tmp 24) (zi 0))])
 (.cond (.tmp 25)
 (.seq (.reg [zm 0 27 2,
 zo 1 28 (.call 82 [(.tmp 27),(.con (.string ⟨#[117,110,105,116]⟩)),(zi 4)]),
 zm 2 26 28,
 zo 3 29 (.ext (.tmp 26) 0),
 zo 4 30 (.ext (.tmp 26) 1),
 zm 5 7 29,
 zm 6 8 30])
 (.seq (.seq (.reg [zm 0 31 8,
 zo 1 32 (.un .not (.tmp 31))])
 (.cond (.tmp 32)
 (.seq (.reg [zo 0 6 (.mv (.con (.bool false)))])
 (.ret))
 (.skip)))
 (.seq (.reg [zm 0 33 0,
 zm 1 34 0,
 zm 2 35 0,
 zm 3 36 0,
 zm 4 37 7,
 zo 5 38 (.idxA none 1 (.tmp 37) (zi 0)),
 zl 6 39 38,
 zm 7 40 7,
 zo 8 41 (.idxA none 1 (.tmp 40) (zi 1)),
 zl 9 42 41,
 zm 10 43 7,
 zo 11 44 (.idxA none 1 (.tmp 43) (zi 2)),
 zl 12 45 44,
 zm 13 46 7,
 zo 14 47 (.idxA none 1 (.tmp 46) (zi 3)),
 zl 15 48 47,
 zo 16 49 (.nilck (.tmp 33)),
 zf 17 50 1 49,
 zn 18 (.store 1 (.tmp 50) (.tmp 39)),
 zo 19 51 (.nilck (.tmp 34)),
 zf 20 52 2 51,
 zn 21 (.store 1 (.tmp 52) (.tmp 42)),
 zo 22 53 (.nilck (.tmp 35)),
 zf 23 54 3 53,
 zn 24 (.store 1 (.tmp 54) (.tmp 45)),
 zo 25 55 (.nilck (.tmp 36)),
 zf 26 56 4 55,
 zn 27 (.store 1 (.tmp 56) (.tmp 48))])
 (.seq (.reg [zm 0 57 1,
 zo 1 58 (.nilck (.tmp 57)),
 zn 2 (.store 1 (.tmp 58) (zi 1))])
 (.seq (.reg [zo 0 6 (.mv (.con (.bool true)))])
 (.ret))))))
 (.skip)))
 (.seq (.seq (.reg [zm 0 59 1,
 zo 1 60 (.nilck (.tmp 59)),
 zl 2 61 60,
 zo 3 62 (.bin .eql 3 true (.tmp 61) (zi 3))])
 (.cond (.tmp 62)
 (.seq (.seq (.reg [zm 0 63 2,
 zo 1 64 (.call 83 [(.tmp 63),(.con (.string ⟨#[32,32]⟩))]),
 zo 2 65 (.un .not (.tmp 64))])
 (.cond (.tmp 65)
 (.seq (.reg [zo 0 6 (.mv (.con (.bool false)))])
 (.ret))
 (.skip)))
 (.seq (.reg [zm 0 66 0,
 zo 1 67 (.nilck (.tmp 66)),
 zf 2 68 5 67,
 zl 3 69 68,
 zo 4 70 (.len (.tmp 69)),
 zo 5 71 (.bin .sub 3 true (.tmp 70) (zi 1)),
 zm 6 9 71])
 (.seq (.reg [zm 0 72 0,
 zo 1 73 (.nilck (.tmp 72)),
 zf 2 74 5 73,
 zl 3 75 74,
 zm 4 76 9,
 zo 5 77 (.idxA none 6 (.tmp 75) (.tmp 76)),
 zo 6 78 (.load (some 6) (.tmp 77)),
 zo 7 10 (.alloc [(.slice none 0 0),(.int .i64 0),(.int .i64 0),(.int .i64 0),(.int .i64 0),(.int .i64 0)]),
 zn 8 (.store 6 (.tmp 10) (.tmp 78))])
 (.seq (.seq (.reg [zm 0 80 2,
 zo 1 81 (.slS 9 (.tmp 80) (some (zi 2)) none),
 zo 2 82 (.call 84 [(.tmp 81)]),
 zm 3 79 82,
 zo 4 83 (.ext (.tmp 79) 0),
 zo 5 84 (.ext (.tmp 79) 1),
 zo 6 11 (.alloc [(.int .i64 0),(.int .i64 0),(.int .i64 0),(.int .i64 0)]),
 zn 7 (.store 4 (.tmp 11) (.tmp 83)),
 zm 8 12 84])
 (.seq (.reg [zm 0 85 12])
 (.cond (.tmp 85)
 (.seq (.reg [zo 0 86 (.load (some 4) (.tmp 11)),
 zf 1 87 1 10,
 zn 2 (.store 4 (.tmp 87) (.tmp 86))])
 (.seq (.reg [zm 0 88 0,
 zo 1 89 (.nilck (.tmp 88)),
 zf 2 90 5 89,
 zl 3 91 90,
 zm 4 92 9,
 zo 5 93 (.load (some 6) (.tmp 10)),
 zo 6 94 (.idxA none 6 (.tmp 91) (.tmp 92)),
 zn 7 (.store 6 (.tmp 94) (.tmp 93))])
 (.seq (.reg [zm 0 95 1,
 zo 1 96 (.nilck (.tmp 95)),
 zn 2 (.store 1 (.tmp 96) (zi 2))])
 (.seq (.reg [zo 0 6 (.mv (.con (.bool true)))])
 (.ret)))))
 (.skip))))
 (.seq (.reg [zm 0 98 2,
 zo 1 99 (.slS 9 (.tmp 98) (some (zi 2)) none),
 zo 2 100 (.call 85 [(.tmp 99)]),
 zm 3 97 100,
 zo 4 101 (.ext (.tmp 97) 0),
 zo 5 102 (.ext (.tmp 97) 1),
 zo 6 13 (.alloc [(.int .i64 0),(.int .i64 0),(.int .i64 0),(.int .i64 0),(.int .i64 0),(.int .i64 0),(.int .i64 0)]),
 zn 7 (.store 7 (.tmp 13) (.tmp 101)),
 zm 8 14 102])
 (.seq (.reg [zf 0 103 0 10,
 zl 1 104 103,
 zm 2 15 104])
 (.seq (.reg [zm 0 105 15,
 zo 1 106 (.load (some 7) (.tmp 13)),
 zo 2 107 (.bslice 7 1 [(.int .i64 0),(.int .i64 0),(.int .i64 0),(.int .i64 0),(.int .i64 0),(.int .i64 0),(.int .i64 0)] [(0,7,(.tmp 106))]),
 zo 3 108 (.append 7 56 (.tmp 105) (.tmp 107)),
 zf 4 109 0 10,
 zn 5 (.store 1 (.tmp 109) (.tmp 108))])
 (.seq (.reg [zm 0 110 0,
 zo 1 111 (.nilck (.tmp 110)),
 zf 2 112 5 111,
 zl 3 113 112,
 zm 4 114 9,
 zo 5 115 (.load (some 6) (.tmp 10)),
 zo 6 116 (.idxA none 6 (.tmp 113) (.tmp 114)),
 zn 7 (.store 6 (.tmp 116) (.tmp 115))])
 (.seq (.reg [zm 0 117 14,
 zm 1 6 117])
 (.ret))))))))))
 (.skip)))
 (.seq (.seq (.reg [zm 0 119 2,
 zo 1 120 (.call 82 [(.tmp 119),(.con (.string ⟨#[97,114,114,97,121]⟩)),(zi 1)]),
 zm 2 118 120,
 zo 3 121 (.ext (.tmp 118) 0),
 zo 4 122 (.ext (.tmp 118) 1),
 zm 5 16 121,
 zm 6 17 122])
 (.seq (.reg [zm 0 123 17,
 zm 1 124 123,
 zg 2 125 (.mv (.tmp 1)) 124 true,
 zg 3 126 (.nilck (.tmp 125)) 124 true,
 zg 4 127 (.load none (.tmp 126)) 124 true,
 zg 5 128 (.bin .eql 3 true (.tmp 127) (zi 1)) 124 true,
 zo 6 129 (.pick (.tmp 124) (.tmp 128) (.con (.bool false)))])
 (.cond (.tmp 129)
 (.seq (.reg [zm 0 130 0,
 zo 1 131 (.nilck (.tmp 130)),
 zf 2 132 0 131,
 zl 3 133 132,
 zm 4 18 133])
 (.seq (.reg [zm 0 134 0,
 zm 1 135 18,
 zm 2 136 16,
 zo 3 137 (.idxA none 1 (.tmp 136) (zi 0)),
 zl 4 138 137,
 zo 5 139 (.bslice 1 1 [(.int .i64 0)] [(0,1,(.tmp 138))]),
 zo 6 140 (.append 1 8 (.tmp 135) (.tmp 139)),
 zo 7 141 (.nilck (.tmp 134)),
 zf 8 142 0 141,
 zn 9 (.store 1 (.tmp 142) (.tmp 140))])
 (.seq (.reg [zo 0 6 (.mv (.con (.bool true)))])
 (.ret))))
 (.skip))))
 (.seq (.reg [zm 0 144 2,
 zo 1 145 (.call 82 [(.tmp 144),(.con (.string ⟨#[98,108,111,99,107]⟩)),(zi 1)]),
 zm 2 143 145,
 zo 3 146 (.ext (.tmp 143) 0),
 zo 4 147 (.ext (.tmp 143) 1),
 zm 5 19 146,
 zm 6 20 147])
 (.seq (.seq (.reg [zm 0 148 20,
 zo 1 149 (.un .not (.tmp 148))])
 (.cond (.tmp 149)
 (.seq (.reg [zo 0 6 (.mv (.con (.bool false)))])
 (.ret))
 (.skip)))
 (.seq (.reg [zm 0 150 0,
 zo 1 151 (.nilck (.tmp 150)),
 zf 2 152 5 151,
 zl 3 153 152,
 zm 4 21 153])
 (.seq (.reg [zm 0 154 0,
 zm 1 155 21,
 zm 2 156 19,
 zo 3 157 (.idxA none 1 (.tmp 156) (zi 0)),
 zl 4 158 157,
 zo 5 159 (.build [(.slice none 0 0),(.int .i64 0),(.int .i64 0),(.int .i64 0),(.int .i64 0),(.int .i64 0)] [(5,1,(.tmp 158))]),
 zo 6 160 (.bslice 6 1 [(.slice none 0 0),(.int .i64 0),(.int .i64 0),(.int .i64 0),(.int .i64 0),(.int .i64 0)] [(0,6,(.tmp 159))]),
 zo 7 161 (.append 6 64 (.tmp 155) (.tmp 160)),
 zo 8 162 (.nilck (.tmp 154)),
 zf 9 163 5 162,
 zn 10 (.store 1 (.tmp 163) (.tmp 161))])
 (.seq (.reg [zm 0 164 1,
 zo 1 165 (.nilck (.tmp 164)),
 zn 2 (.store 1 (.tmp 165) (zi 3))])
 (.seq (.reg [zo 0 6 (.mv (.con (.bool true)))])
 (.ret)))))))))),
 [.tmp 6]⟩
theorem p_r07_u0 : PR Go.Proofs.Tryz.f48 = some v_r07_u0:=by kernel_rfl

end Go.VX.Seat
end
section
set_option maxRecDepth 20000
namespace Go.VX.Seat
def v_r07_SameBlocks : VFun :=
⟨.seq (.reg [zo 0 4 (.mv (.con (.bool false)))])
 (.seq (.seq (.reg [zm 0 6 0,
 zo 1 7 (.len (.tmp 6)),
 zm 2 8 1,
 zo 3 9 (.len (.tmp 8)),
 zo 4 10 (.bin .neq 3 false (.tmp 7) (.tmp 9))])
 (.cond (.tmp 10)
 (.seq (.reg [zo 0 4 (.mv (.con (.bool false)))])
 (.ret))
 (.skip)))
 (.seq (.seq (.reg [zo 0 5 (.mv (zi 0))])
 (.block 0
 (.loop
 (.seq (.seq (.reg [zm 0 11 5,
 zm 1 12 0,
 zo 2 13 (.len (.tmp 12)),
 zo 3 14 (.bin .lss 3 false (.tmp 11) (.tmp 13))])
 (.cond (.tmp 14)
 (.skip)
 (.exit 0)))
 (.seq (.block 1
 (.seq (.reg [zm 0 17 0,
 zm 1 18 5,
 zo 2 19 (.idxA none 6 (.tmp 17) (.tmp 18)),
 zf 3 20 0 19,
 zl 4 21 20,
 zm 5 22 1,
 zm 6 23 5,
 zo 7 24 (.idxA none 6 (.tmp 22) (.tmp 23)),
 zf 8 25 0 24,
 zl 9 26 25,
 zo 10 27 (.call 86 [(.tmp 21),(.tmp 26)]),
 zo 11 28 (.un .not (.tmp 27)),
 zm 12 29 28,
 zg 13 30 (.mv (.tmp 0)) 29 false,
 zg 14 31 (.mv (.tmp 5)) 29 false,
 zg 15 32 (.idxA none 6 (.tmp 30) (.tmp 31)) 29 false,
 zg 16 33 (.fieldA 1 (.tmp 32)) 29 false,
 zg 17 34 (.load (some 4) (.tmp 33)) 29 false,
 zg 18 35 (.mv (.tmp 1)) 29 false,
 zg 19 36 (.mv (.tmp 5)) 29 false,
 zg 20 37 (.idxA none 6 (.tmp 35) (.tmp 36)) 29 false,
 zg 21 38 (.fieldA 1 (.tmp 37)) 29 false,
 zg 22 39 (.load (some 4) (.tmp 38)) 29 false,
 zg 23 40 (.bin .neq 75 false (.tmp 34) (.tmp 39)) 29 false,
 zo 24 41 (.pick (.tmp 29) (.con (.bool true)) (.tmp 40)),
 zm 25 42 41,
 zg 26 43 (.mv (.tmp 0)) 42 false,
 zg 27 44 (.mv (.tmp 5)) 42 false,
 zg 28 45 (.idxA none 6 (.tmp 43) (.tmp 44)) 42 false,
 zg 29 46 (.fieldA 5 (.tmp 45)) 42 false,
 zg 30 47 (.load none (.tmp 46)) 42 false,
 zg 31 48 (.mv (.tmp 1)) 42 false,
 zg 32 49 (.mv (.tmp 5)) 42 false,
 zg 33 50 (.idxA none 6 (.tmp 48) (.tmp 49)) 42 false,
 zg 34 51 (.fieldA 5 (.tmp 50)) 42 false,
 zg 35 52 (.load none (.tmp 51)) 42 false,
 zg 36 53 (.bin .neq 3 false (.tmp 47) (.tmp 52)) 42 false,
 zo 37 54 (.pick (.tmp 42) (.con (.bool true)) (.tmp 53))])
 (.cond (.tmp 54)
 (.seq (.reg [zo 0 4 (.mv (.con (.bool false)))])
 (.ret))
 (.skip))))
 (.reg [zm 0 15 5,
 zo 1 16 (.bin .add 3 true (.tmp 15) (zi 1)),
 zm 2 5 16]))))))
 (.seq (.reg [zo 0 4 (.mv (.con (.bool true)))])
 (.ret)))),
 [.tmp 4]⟩
theorem p_r07_SameBlocks : PR Go.Proofs.Tryz.f49 = some v_r07_SameBlocks:=by kernel_rfl

def v_r07_register : VFun :=
⟨.seq (.reg [zo 0 2 (.box (.tmp 0)),
 zo 1 4 (.mv (.con (.bool false)))])
 (.seq (.reg [zm 0 5 1,
 zo 1 6 (.bin .geq 3 true (.tmp 5) (zi 0)),
 zm 2 7 6,
 zg 3 8 (.mv (.tmp 1)) 7 true,
 zg 4 9 (.fieldA 2 (.tmp 2)) 7 true,
 zg 5 10 (.load none (.tmp 9)) 7 true,
 zg 6 11 (.bin .lss 3 false (.tmp 8) (.tmp 10)) 7 true,
 zo 7 12 (.pick (.tmp 7) (.tmp 11) (.con (.bool false))),
 zm 8 4 12])
 (.ret)),
 [.tmp 4]⟩
theorem p_r07_register : PR Go.Proofs.Tryz.f50 = some v_r07_register:=by kernel_rfl

def v_r07_op : VFun :=
⟨.seq (.reg [zo 0 2 (.box (.tmp 0)),
 zo 1 3 (.box (.tmp 1)),
 zo 2 4 (.mv (zi 0))])
 (.seq (.seq (.reg [zf 0 10 0 3,
 zl 1 11 10,
 zo 2 12 (.call 26 [(.tmp 11)]),
 zo 3 13 (.un .not (.tmp 12))])
 (.cond (.tmp 13)
 (.seq (.reg [zo 0 4 (.mv (zi 4))])
 (.ret))
 (.skip)))
 (.seq (.reg [zf 0 14 0 3,
 zl 1 15 14,
 zf 3 17 0 3,
 zl 4 18 17,
 zf 6 20 0 3,
 zl 7 21 20,
 zf 9 23 0 3,
 zl 10 24 23,
 ⟨2,(some 16),.call 57 [(.tmp 15)],none,[(.tmp 17),(.tmp 20),(.tmp 23)]⟩,
 ⟨5,(some 19),.call 60 [(.tmp 18)],none,[(.tmp 20),(.tmp 23)]⟩,
 ⟨8,(some 22),.call 61 [(.tmp 21)],none,[(.tmp 23)]⟩,
 zo 11 25 (.call 62 [(.tmp 24)]),
 zo 12 26 (.bslice 1 4 [(.bool false)] [(0,1,(.tmp 16)),(1,1,(.tmp 19)),(2,1,(.tmp 22)),(3,1,(.tmp 25))]),
 zm 13 5 26])
 (.seq (.reg [zf 0 27 1 3,
 zl 1 28 27,
 zf 2 29 2 3,
 zl 3 30 29,
 zf 4 31 3 3,
 zl 5 32 31,
 zf 6 33 4 3,
 zl 7 34 33,
 zo 8 35 (.bslice 1 4 [(.int .i64 0)] [(0,1,(.tmp 28)),(1,1,(.tmp 30)),(2,1,(.tmp 32)),(3,1,(.tmp 34))]),
 zm 9 6 35])
 (.seq (.seq (.reg [zo 0 7 (.mv (zi 0))])
 (.block 0
 (.loop
 (.seq (.seq (.reg [zm 0 36 7,
 zo 1 37 (.bin .lss 3 true (.tmp 36) (zi 4))])
 (.cond (.tmp 37)
 (.skip)
 (.exit 0)))
 (.seq (.block 1
 (.seq (.reg [zm 0 40 5,
 zm 1 41 7,
 zo 2 42 (.idxA none 1 (.tmp 40) (.tmp 41)),
 zl 3 43 42,
 zm 4 44 43,
 zg 5 45 (.load (some 6) (.tmp 2)) 44 true,
 zg 6 46 (.mv (.tmp 6)) 44 true,
 zg 7 47 (.mv (.tmp 7)) 44 true,
 zg 8 48 (.idxA none 1 (.tmp 46) (.tmp 47)) 44 true,
 zg 9 49 (.load none (.tmp 48)) 44 true,
 zg 10 50 (.call 50 [(.tmp 45),(.tmp 49)]) 44 true,
 zg 11 51 (.un .not (.tmp 50)) 44 true,
 zo 12 52 (.pick (.tmp 44) (.tmp 51) (.con (.bool false)))])
 (.cond (.tmp 52)
 (.seq (.reg [zo 0 4 (.mv (zi 2))])
 (.ret))
 (.skip))))
 (.reg [zm 0 38 7,
 zo 1 39 (.bin .add 3 true (.tmp 38) (zi 1)),
 zm 2 7 39]))))))
 (.seq (.seq (.reg [zf 0 53 6 3,
 zl 1 54 53,
 zo 2 55 (.bin .neq 3 true (.tmp 54) (zi (-1))),
 zm 3 56 55,
 zg 4 57 (.load (some 6) (.tmp 2)) 56 true,
 zg 5 58 (.fieldA 6 (.tmp 3)) 56 true,
 zg 6 59 (.load none (.tmp 58)) 56 true,
 zg 7 60 (.call 50 [(.tmp 57),(.tmp 59)]) 56 true,
 zg 8 61 (.un .not (.tmp 60)) 56 true,
 zo 9 62 (.pick (.tmp 56) (.tmp 61) (.con (.bool false)))])
 (.cond (.tmp 62)
 (.seq (.reg [zo 0 4 (.mv (zi 2))])
 (.ret))
 (.skip)))
 (.seq (.reg [zo 0 8 (.mv (zi (-1)))])
 (.seq (.block 2
 (.seq (.reg [zf 0 64 0 3,
 zl 1 65 64,
 zo 2 66 (.call 87 [(.tmp 65)]),
 zm 3 63 66])
 (.cond (.tmp 63)
 (.reg [zf 0 67 0 2,
 zl 1 68 67,
 zo 2 69 (.len (.tmp 68)),
 zm 3 8 69])
 (.seq (.reg [zf 0 71 0 3,
 zl 1 72 71,
 zo 2 73 (.call 88 [(.tmp 72)]),
 zm 3 70 73])
 (.cond (.tmp 70)
 (.reg [zf 0 74 4 2,
 zl 1 75 74,
 zm 2 8 75])
 (.seq (.reg [zf 0 77 0 3,
 zl 1 78 77,
 zo 2 79 (.bin .eql 3 true (.tmp 78) (zi 21)),
 zm 3 76 79])
 (.cond (.tmp 76)
 (.reg [zf 0 80 5 2,
 zl 1 81 80,
 zo 2 82 (.len (.tmp 81)),
 zm 3 8 82])
 (.skip))))))))
 (.seq (.seq (.reg [zm 0 83 8,
 zo 1 84 (.bin .geq 3 true (.tmp 83) (zi 0)),
 zm 2 85 84,
 zg 3 86 (.fieldA 5 (.tmp 3)) 85 true,
 zg 4 87 (.load none (.tmp 86)) 85 true,
 zg 5 88 (.bin .lss 2 true (.tmp 87) (zi 0)) 85 true,
 zg 6 89 (.mv (.tmp 88)) 85 true,
 zg 7 90 (.fieldA 5 (.tmp 3)) 89 false,
 zg 8 91 (.load none (.tmp 90)) 89 false,
 zg 9 92 (.mv (.tmp 8)) 89 false,
 zg 10 93 (.bin .geq 2 false (.tmp 91) (.tmp 92)) 89 false,
 zg 11 94 (.pick (.tmp 89) (.con (.bool true)) (.tmp 93)) 85 true,
 zo 12 95 (.pick (.tmp 85) (.tmp 94) (.con (.bool false)))])
 (.cond (.tmp 95)
 (.seq (.reg [zo 0 4 (.mv (zi 5))])
 (.ret))
 (.skip)))
 (.seq (.seq (.reg [zo 0 9 (.mv (zi 0))])
 (.block 3
 (.loop
 (.seq (.seq (.reg [zm 0 96 9,
 zo 1 97 (.bin .lss 3 true (.tmp 96) (zi 4))])
 (.cond (.tmp 97)
 (.skip)
 (.exit 3)))
 (.seq (.block 4
 (.seq (.reg [zm 0 100 5,
 zm 1 101 9,
 zo 2 102 (.idxA none 1 (.tmp 100) (.tmp 101)),
 zl 3 103 102,
 zo 4 104 (.un .not (.tmp 103)),
 zm 5 105 104,
 zg 6 106 (.mv (.tmp 6)) 105 true,
 zg 7 107 (.mv (.tmp 9)) 105 true,
 zg 8 108 (.idxA none 1 (.tmp 106) (.tmp 107)) 105 true,
 zg 9 109 (.load none (.tmp 108)) 105 true,
 zg 10 110 (.bin .neq 3 true (.tmp 109) (zi 0)) 105 true,
 zo 11 111 (.pick (.tmp 105) (.tmp 110) (.con (.bool false)))])
 (.cond (.tmp 111)
 (.seq (.reg [zo 0 4 (.mv (zi 4))])
 (.ret))
 (.skip))))
 (.reg [zm 0 98 9,
 zo 1 99 (.bin .add 3 true (.tmp 98) (zi 1)),
 zm 2 9 99]))))))
 (.seq (.seq (.reg [zf 0 112 0 3,
 zl 1 113 112,
 zo 2 114 (.call 75 [(.tmp 113)]),
 zo 3 115 (.un .not (.tmp 114)),
 zm 4 116 115,
 zg 5 117 (.fieldA 5 (.tmp 3)) 116 true,
 zg 6 118 (.load none (.tmp 117)) 116 true,
 zg 7 119 (.bin .neq 2 true (.tmp 118) (zi 0)) 116 true,
 zo 8 120 (.pick (.tmp 116) (.tmp 119) (.con (.bool false)))])
 (.cond (.tmp 120)
 (.seq (.reg [zo 0 4 (.mv (zi 4))])
 (.ret))
 (.skip)))
 (.seq (.reg [zo 0 4 (.mv (zi 0))])
 (.ret)))))))))))),
 [.tmp 4]⟩
theorem p_r07_op : PR Go.Proofs.Tryz.f51 = some v_r07_op:=by kernel_rfl

def v_r07_end : VFun :=
⟨.seq (.reg [zo 0 2 (.box (.tmp 0)),
 zo 1 3 (.box (.tmp 1)),
 zo 2 4 (.mv (zi 0))])
 (.seq (.seq (.reg [zf 0 5 0 3,
 zl 1 6 5,
 zo 2 7 (.bin .lss 3 true (.tmp 6) (zi 1)),
 zm 3 8 7,
 zg 4 9 (.fieldA 0 (.tmp 3)) 8 false,
 zg 5 10 (.load none (.tmp 9)) 8 false,
 zg 6 11 (.bin .gtr 3 true (.tmp 10) (zi 4)) 8 false,
 zo 7 12 (.pick (.tmp 8) (.con (.bool true)) (.tmp 11))])
 (.cond (.tmp 12)
 (.seq (.reg [zo 0 4 (.mv (zi 4))])
 (.ret))
 (.skip)))
 (.seq (.seq (.reg [zf 0 13 0 3,
 zl 1 14 13,
 zo 2 15 (.call 63 [(.tmp 14)]),
 zm 3 16 15,
 zg 4 17 (.load (some 6) (.tmp 2)) 16 true,
 zg 5 18 (.fieldA 1 (.tmp 3)) 16 true,
 zg 6 19 (.load none (.tmp 18)) 16 true,
 zg 7 20 (.call 50 [(.tmp 17),(.tmp 19)]) 16 true,
 zg 8 21 (.un .not (.tmp 20)) 16 true,
 zo 9 22 (.pick (.tmp 16) (.tmp 21) (.con (.bool false)))])
 (.cond (.tmp 22)
 (.seq (.reg [zo 0 4 (.mv (zi 2))])
 (.ret))
 (.skip)))
 (.seq (.seq (.reg [zf 0 23 0 3,
 zl 1 24 23,
 zo 2 25 (.call 64 [(.tmp 24)]),
 zm 3 26 25,
 zg 4 27 (.load (some 6) (.tmp 2)) 26 true,
 zg 5 28 (.fieldA 2 (.tmp 3)) 26 true,
 zg 6 29 (.load none (.tmp 28)) 26 true,
 zg 7 30 (.call 89 [(.tmp 27),(.tmp 29)]) 26 true,
 zg 8 31 (.un .not (.tmp 30)) 26 true,
 zo 9 32 (.pick (.tmp 26) (.tmp 31) (.con (.bool false))),
 zm 10 33 32,
 zg 11 34 (.fieldA 0 (.tmp 3)) 33 false,
 zg 12 35 (.load none (.tmp 34)) 33 false,
 zg 13 36 (.call 65 [(.tmp 35)]) 33 false,
 zg 14 37 (.mv (.tmp 36)) 33 false,
 zg 15 38 (.load (some 6) (.tmp 2)) 37 true,
 zg 16 39 (.fieldA 3 (.tmp 3)) 37 true,
 zg 17 40 (.load none (.tmp 39)) 37 true,
 zg 18 41 (.call 89 [(.tmp 38),(.tmp 40)]) 37 true,
 zg 19 42 (.un .not (.tmp 41)) 37 true,
 zg 20 43 (.pick (.tmp 37) (.tmp 42) (.con (.bool false))) 33 false,
 zo 21 44 (.pick (.tmp 33) (.con (.bool true)) (.tmp 43))])
 (.cond (.tmp 44)
 (.seq (.reg [zo 0 4 (.mv (zi 5))])
 (.ret))
 (.skip)))
 (.seq (.seq (.reg [zf 0 45 0 3,
 zl 1 46 45,
 zo 2 47 (.call 63 [(.tmp 46)]),
 zo 3 48 (.un .not (.tmp 47)),
 zm 4 49 48,
 zg 5 50 (.fieldA 1 (.tmp 3)) 49 true,
 zg 6 51 (.load none (.tmp 50)) 49 true,
 zg 7 52 (.bin .neq 3 true (.tmp 51) (zi 0)) 49 true,
 zo 8 53 (.pick (.tmp 49) (.tmp 52) (.con (.bool false))),
 zm 9 54 53,
 zg 10 55 (.fieldA 0 (.tmp 3)) 54 false,
 zg 11 56 (.load none (.tmp 55)) 54 false,
 zg 12 57 (.call 64 [(.tmp 56)]) 54 false,
 zg 13 58 (.un .not (.tmp 57)) 54 false,
 zg 14 59 (.mv (.tmp 58)) 54 false,
 zg 15 60 (.fieldA 2 (.tmp 3)) 59 true,
 zg 16 61 (.load none (.tmp 60)) 59 true,
 zg 17 62 (.bin .neq 3 true (.tmp 61) (zi 0)) 59 true,
 zg 18 63 (.pick (.tmp 59) (.tmp 62) (.con (.bool false))) 54 false,
 zo 19 64 (.pick (.tmp 54) (.con (.bool true)) (.tmp 63)),
 zm 20 65 64,
 zg 21 66 (.fieldA 0 (.tmp 3)) 65 false,
 zg 22 67 (.load none (.tmp 66)) 65 false,
 zg 23 68 (.call 65 [(.tmp 67)]) 65 false,
 zg 24 69 (.un .not (.tmp 68)) 65 false,
 zg 25 70 (.mv (.tmp 69)) 65 false,
 zg 26 71 (.fieldA 3 (.tmp 3)) 70 true,
 zg 27 72 (.load none (.tmp 71)) 70 true,
 zg 28 73 (.bin .neq 3 true (.tmp 72) (zi 0)) 70 true,
 zg 29 74 (.pick (.tmp 70) (.tmp 73) (.con (.bool false))) 65 false,
 zo 30 75 (.pick (.tmp 65) (.con (.bool true)) (.tmp 74))])
 (.cond (.tmp 75)
 (.seq (.reg [zo 0 4 (.mv (zi 4))])
 (.ret))
 (.skip)))
 (.seq (.reg [zo 0 4 (.mv (zi 0))])
 (.ret)))))),
 [.tmp 4]⟩
theorem p_r07_end : PR Go.Proofs.Tryz.f52 = some v_r07_end:=by kernel_rfl

def v_code_of : VFun :=
⟨.seq (.reg [zo 0 2 (.alloc [(.int .i64 0),(.int .i64 0),(.string ⟨#[]⟩)]),
 zo 1 3 (.mv (.con (.bool false)))])
 (.seq (.seq (.reg [zm 0 4 0,
 zo 1 5 (.bin .lss 3 true (.tmp 4) (zi 1)),
 zm 2 6 5,
 zg 3 7 (.mv (.tmp 0)) 6 false,
 zg 4 8 (.bin .gtr 3 true (.tmp 7) (zi 25)) 6 false,
 zo 5 9 (.pick (.tmp 6) (.con (.bool true)) (.tmp 8))])
 (.cond (.tmp 9)
 (.seq (.reg [zo 0 10 (.build [(.int .i64 0),(.int .i64 0),(.string ⟨#[]⟩)] []),
 zn 1 (.store 3 (.tmp 2) (.tmp 10)),
 zo 2 3 (.mv (.con (.bool false)))])
 (.ret))
 (.skip)))
 (.seq (.reg [zm 0 11 0,
 zo 1 12 (.bin .sub 3 true (.tmp 11) (zi 1)),
 zo 2 13 (.idxA (some 25) 3 (.glo 0) (.tmp 12)),
 zo 3 14 (.load (some 3) (.tmp 13)),
 zn 4 (.store 3 (.tmp 2) (.tmp 14)),
 zo 5 3 (.mv (.con (.bool true)))])
 (.ret))),
 [.cell 2 (some 3),.tmp 3]⟩
theorem p_code_of : PR Go.Proofs.Tryz.f55 = some v_code_of:=by kernel_rfl

def v56u : VFun :=
⟨.seq (.reg [zo 0 1 (.box 0),
 zo 1 2 (.mv (.con (.slice none 0 0)))])
 (.seq (.reg [zf 0 9 0 1,
 zl 1 10 9,
 zo 2 11 (.call 55 [10]),
 zm 3 8 11,
 zo 4 12 (.ext 8 0),
 zo 5 13 (.ext 8 1),
 zo 6 3 (.alloc [(.int .i64 0),(.int .i64 0),(.string ⟨#[]⟩)]),
 zn 7 (.store 3 3 12),
 zm 8 4 13])
 (.seq (.reg [zo 0 5 (.mv (.con (.slice none 0 0)))])
 (.seq (.seq (.reg [zf 0 14 2 1,
 zl 1 15 14,
 zf 2 16 3 1,
 zl 3 17 16,
 zf 4 18 4 1,
 zl 5 19 18,
 zo 6 20 (.build [(.int .i64 0),(.int .i64 0),(.int .i64 0)] [(0,1,15),(1,1,17),(2,1,19)]),
 zo 7 21 (.mv (zi 0))])
 (.block 0
 (.loop
 (.seq (.reg [zo 0 22 (.bin .lss 3 true 21 (zi 3))])
 (.seq (.cond 22
 (.skip)
 (.exit 0))
 (.seq (.block 1
 (.seq (.reg [zm 0 23 21,
 zo 1 24 (.idx 3 none 1 20 21),
 zm 2 6 23,
 zm 3 7 24])
 (.seq (.reg [zf 0 25 0 3,
 zl 1 26 25,
 zm 2 27 6,
 zo 3 28 (.bin .shl 3 true (zi 2) 27),
 zo 4 29 (.bin .and 3 false 26 28),
 zo 5 30 (.bin .neq 3 true 29 (zi 0))])
 (.cond 30
 (.reg [zm 0 31 5,
 zm 1 32 7,
 zo 2 33 (.bslice 1 1 [(.int .i64 0)] [(0,1,32)]),
 zo 3 34 (.append 1 8 31 33),
 zm 4 5 34])
 (.skip)))))
 (.reg [zo 0 35 (.bin .add 3 true 21 (zi 1)),
 zm 1 21 35])))))))
 (.seq (.reg [zm 0 36 5,
 zm 1 2 36])
 (.ret))))),
 [.tmp 2]⟩
theorem p56u : PR Go.Proofs.Tryz.f56 = some v56u:=by kernel_rfl

def v_r07_HasDst : VFun :=
⟨.seq (.reg [zo 0 2 (.mv (.con (.bool false)))])
 (.seq (.reg [zm 0 3 0,
 zo 1 4 (.bin .neq 3 true (.tmp 3) (zi 17)),
 zm 2 5 4,
 zg 3 6 (.mv (.tmp 0)) 5 true,
 zg 4 7 (.bin .neq 3 true (.tmp 6) (zi 19)) 5 true,
 zo 5 8 (.pick (.tmp 5) (.tmp 7) (.con (.bool false))),
 zm 6 9 8,
 zg 7 10 (.mv (.tmp 0)) 9 true,
 zg 8 11 (.bin .neq 3 true (.tmp 10) (zi 20)) 9 true,
 zo 9 12 (.pick (.tmp 9) (.tmp 11) (.con (.bool false))),
 zm 10 13 12,
 zg 11 14 (.mv (.tmp 0)) 13 true,
 zg 12 15 (.bin .neq 3 true (.tmp 14) (zi 21)) 13 true,
 zo 13 16 (.pick (.tmp 13) (.tmp 15) (.con (.bool false))),
 zm 14 17 16,
 zg 15 18 (.mv (.tmp 0)) 17 true,
 zg 16 19 (.bin .neq 3 true (.tmp 18) (zi 22)) 17 true,
 zo 17 20 (.pick (.tmp 17) (.tmp 19) (.con (.bool false))),
 zm 18 2 20])
 (.ret)),
 [.tmp 2]⟩
theorem p_r07_HasDst : PR Go.Proofs.Tryz.f57 = some v_r07_HasDst:=by kernel_rfl

def v_r07_Operands : VFun :=
⟨.seq (.reg [zo 0 1 (.box (.tmp 0)),
 zo 1 2 (.mv (.con (.slice none 0 0)))])
 (.seq (.reg [zo 0 3 (.mv (.con (.slice none 0 0)))])
 (.seq (.seq (.reg [zf 0 4 0 1,
 zl 1 5 4,
 zo 2 6 (.call 60 [(.tmp 5)])])
 (.cond (.tmp 6)
 (.reg [zm 0 7 3,
 zf 1 8 2 1,
 zl 2 9 8,
 zo 3 10 (.bslice 1 1 [(.int .i64 0)] [(0,1,(.tmp 9))]),
 zo 4 11 (.append 1 8 (.tmp 7) (.tmp 10)),
 zm 5 3 11])
 (.skip)))
 (.seq (.seq (.reg [zf 0 12 0 1,
 zl 1 13 12,
 zo 2 14 (.call 61 [(.tmp 13)])])
 (.cond (.tmp 14)
 (.reg [zm 0 15 3,
 zf 1 16 3 1,
 zl 2 17 16,
 zo 3 18 (.bslice 1 1 [(.int .i64 0)] [(0,1,(.tmp 17))]),
 zo 4 19 (.append 1 8 (.tmp 15) (.tmp 18)),
 zm 5 3 19])
 (.skip)))
 (.seq (.seq (.reg [zf 0 20 0 1,
 zl 1 21 20,
 zo 2 22 (.call 62 [(.tmp 21)])])
 (.cond (.tmp 22)
 (.reg [zm 0 23 3,
 zf 1 24 4 1,
 zl 2 25 24,
 zo 3 26 (.bslice 1 1 [(.int .i64 0)] [(0,1,(.tmp 25))]),
 zo 4 27 (.append 1 8 (.tmp 23) (.tmp 26)),
 zm 5 3 27])
 (.skip)))
 (.seq (.reg [zm 0 28 3,
 zm 1 2 28])
 (.ret)))))),
 [.tmp 2]⟩
theorem p_r07_Operands : PR Go.Proofs.Tryz.f58 = some v_r07_Operands:=by kernel_rfl

def v_r07_HasA : VFun :=
⟨.seq (.reg [zo 0 2 (.mv (.con (.bool false)))])
 (.seq (.reg [zm 0 3 0,
 zo 1 4 (.bin .neq 3 true (.tmp 3) (zi 1)),
 zm 2 5 4,
 zg 3 6 (.mv (.tmp 0)) 5 true,
 zg 4 7 (.bin .neq 3 true (.tmp 6) (zi 18)) 5 true,
 zo 5 8 (.pick (.tmp 5) (.tmp 7) (.con (.bool false))),
 zm 6 2 8])
 (.ret)),
 [.tmp 2]⟩
theorem p_r07_HasA : PR Go.Proofs.Tryz.f60 = some v_r07_HasA:=by kernel_rfl

def v_r07_HasB : VFun :=
⟨.seq (.reg [zo 0 2 (.mv (.con (.bool false)))])
 (.seq (.reg [zm 0 3 0,
 zo 1 4 (.bin .geq 3 true (.tmp 3) (zi 3)),
 zm 2 5 4,
 zg 3 6 (.mv (.tmp 0)) 5 true,
 zg 4 7 (.bin .leq 3 true (.tmp 6) (zi 15)) 5 true,
 zo 5 8 (.pick (.tmp 5) (.tmp 7) (.con (.bool false))),
 zm 6 9 8,
 zg 7 10 (.mv (.tmp 0)) 9 false,
 zg 8 11 (.bin .eql 3 true (.tmp 10) (zi 17)) 9 false,
 zo 9 12 (.pick (.tmp 9) (.con (.bool true)) (.tmp 11)),
 zm 10 13 12,
 zg 11 14 (.mv (.tmp 0)) 13 false,
 zg 12 15 (.bin .eql 3 true (.tmp 14) (zi 23)) 13 false,
 zo 13 16 (.pick (.tmp 13) (.con (.bool true)) (.tmp 15)),
 zm 14 17 16,
 zg 15 18 (.mv (.tmp 0)) 17 false,
 zg 16 19 (.bin .eql 3 true (.tmp 18) (zi 24)) 17 false,
 zo 17 20 (.pick (.tmp 17) (.con (.bool true)) (.tmp 19)),
 zm 18 2 20])
 (.ret)),
 [.tmp 2]⟩
theorem p_r07_HasB : PR Go.Proofs.Tryz.f61 = some v_r07_HasB:=by kernel_rfl

def v_r07_HasC : VFun :=
⟨.seq (.reg [zo 0 2 (.mv (.con (.bool false)))])
 (.seq (.reg [zm 0 3 0,
 zo 1 4 (.bin .eql 3 true (.tmp 3) (zi 12)),
 zm 2 2 4])
 (.ret)),
 [.tmp 2]⟩
theorem p_r07_HasC : PR Go.Proofs.Tryz.f62 = some v_r07_HasC:=by kernel_rfl

def v_r07_EndA : VFun :=
⟨.seq (.reg [zo 0 2 (.mv (.con (.bool false)))])
 (.seq (.reg [zm 0 3 0,
 zo 1 4 (.bin .neq 3 true (.tmp 3) (zi 1)),
 zm 2 2 4])
 (.ret)),
 [.tmp 2]⟩
theorem p_r07_EndA : PR Go.Proofs.Tryz.f63 = some v_r07_EndA:=by kernel_rfl

def v_r07_EndTo : VFun :=
⟨.seq (.reg [zo 0 2 (.mv (.con (.bool false)))])
 (.seq (.reg [zm 0 3 0,
 zo 1 4 (.bin .eql 3 true (.tmp 3) (zi 1)),
 zm 2 5 4,
 zg 3 6 (.mv (.tmp 0)) 5 false,
 zg 4 7 (.bin .eql 3 true (.tmp 6) (zi 2)) 5 false,
 zo 5 8 (.pick (.tmp 5) (.con (.bool true)) (.tmp 7)),
 zm 6 2 8])
 (.ret)),
 [.tmp 2]⟩
theorem p_r07_EndTo : PR Go.Proofs.Tryz.f64 = some v_r07_EndTo:=by kernel_rfl

def v_r07_EndElse : VFun :=
⟨.seq (.reg [zo 0 2 (.mv (.con (.bool false)))])
 (.seq (.reg [zm 0 3 0,
 zo 1 4 (.bin .eql 3 true (.tmp 3) (zi 2)),
 zm 2 2 4])
 (.ret)),
 [.tmp 2]⟩
theorem p_r07_EndElse : PR Go.Proofs.Tryz.f65 = some v_r07_EndElse:=by kernel_rfl

def v_code_within : VFun :=
⟨.seq (.reg [zo 0 4 (.mv (.con (.bool false)))])
 (.seq (.reg [zm 0 5 0,
 zo 1 6 (.bin .geq 3 true (.tmp 5) (zi 0)),
 zm 2 7 6,
 zg 3 8 (.mv (.tmp 0)) 7 true,
 zg 4 9 (.mv (.tmp 1)) 7 true,
 zg 5 10 (.bin .lss 3 false (.tmp 8) (.tmp 9)) 7 true,
 zo 6 11 (.pick (.tmp 7) (.tmp 10) (.con (.bool false))),
 zm 7 4 11])
 (.ret)),
 [.tmp 4]⟩
theorem p_code_within : PR Go.Proofs.Tryz.f67 = some v_code_within:=by kernel_rfl

def v73u : VFun :=
⟨.seq (.reg [zo 0 2 (.mv (.con (.string ⟨#[]⟩)))])
 (.seq (.reg [zm 0 3 0,
 zo 1 4 (.call 95 [3,(zi 10)]),
 zm 2 2 4])
 (.ret)),
 [.tmp 2]⟩
theorem p73u : PR Go.Proofs.Tryz.f73 = some v73u:=by kernel_rfl

def v_word_Show : VFun :=
⟨.seq (.reg [zo 0 2 (.mv (.con (.string ⟨#[]⟩)))])
 (.seq (.reg [zm 0 3 0,
 zo 1 4 (.call 96 [(.tmp 3),(zi 10)]),
 zm 2 2 4])
 (.ret)),
 [.tmp 2]⟩
theorem p_word_Show : PR Go.Proofs.Tryz.f74 = some v_word_Show:=by kernel_rfl

def v_r07_HasN : VFun :=
⟨.seq (.reg [zo 0 2 (.mv (.con (.bool false)))])
 (.seq (.reg [zm 0 3 0,
 zo 1 4 (.bin .eql 3 true (.tmp 3) (zi 1)),
 zm 2 5 4,
 zg 3 6 (.mv (.tmp 0)) 5 false,
 zg 4 7 (.call 87 [(.tmp 6)]) 5 false,
 zo 5 8 (.pick (.tmp 5) (.con (.bool true)) (.tmp 7)),
 zm 6 9 8,
 zg 7 10 (.mv (.tmp 0)) 9 false,
 zg 8 11 (.call 88 [(.tmp 10)]) 9 false,
 zo 9 12 (.pick (.tmp 9) (.con (.bool true)) (.tmp 11)),
 zm 10 13 12,
 zg 11 14 (.mv (.tmp 0)) 13 false,
 zg 12 15 (.bin .eql 3 true (.tmp 14) (zi 21)) 13 false,
 zo 13 16 (.pick (.tmp 13) (.con (.bool true)) (.tmp 15)),
 zm 14 2 16])
 (.ret)),
 [.tmp 2]⟩
theorem p_r07_HasN : PR Go.Proofs.Tryz.f75 = some v_r07_HasN:=by kernel_rfl

def v_r01_Show : VFun :=
⟨.seq (.reg [zo 0 2 (.mv (.con (.string ⟨#[]⟩)))])
 (.seq (.reg [zm 0 3 0,
 zo 1 4 (.call 96 [(.tmp 3),(zi 10)]),
 zm 2 2 4])
 (.ret)),
 [.tmp 2]⟩
theorem p_r01_Show : PR Go.Proofs.Tryz.f76 = some v_r01_Show:=by kernel_rfl

def v_code_lines_peek : VFun :=
⟨.seq (.reg [zo 0 2 (.mv (.con (.string ⟨#[]⟩))),
 zo 1 3 (.mv (.con (.bool false)))])
 (.seq (.reg [zm 0 8 0,
 zo 1 9 (.nilck (.tmp 8)),
 zf 2 10 0 9,
 zl 3 11 10,
 zo 4 12 (.call 97 [(.tmp 11),(.con (.string ⟨#[10]⟩))]),
 zm 5 7 12,
 zo 6 13 (.ext (.tmp 7) 0),
 zo 7 14 (.ext (.tmp 7) 1),
 zo 8 15 (.ext (.tmp 7) 2),
 zm 9 4 13,
 zm 10 5 14,
 zm 11 6 15])
 (.seq (.reg [zm 0 16 4,
 zm 1 17 6,
 zm 2 2 16,
 zm 3 3 17])
 (.ret))),
 [.tmp 2,.tmp 3]⟩
theorem p_code_lines_peek : PR Go.Proofs.Tryz.f77 = some v_code_lines_peek:=by kernel_rfl

def v_code_headed : VFun :=
⟨.seq (.reg [zo 0 6 (.mv (.con (.slice none 0 0))),
 zo 1 7 (.mv (.con (.bool false)))])
 (.seq (.reg [zm 0 9 0,
 zo 1 10 (.call 47 [(.tmp 9),(.con (.string ⟨#[32]⟩))]),
 zm 2 8 10])
 (.seq (.seq (.reg [zm 0 11 8,
 zo 1 12 (.idxA none 1 (.tmp 11) (zi 0)),
 zl 2 13 12,
 zm 3 14 1,
 zo 4 15 (.bin .neq 9 false (.tmp 13) (.tmp 14))])
 (.cond (.tmp 15)
 (.seq (.reg [zo 0 6 (.mv (.con (.slice none 0 0))),
 zo 1 7 (.mv (.con (.bool false)))])
 (.ret))
 (.skip)))
 (.seq (.reg [zm 0 16 8,
 zo 1 17 (.slice none 1 (.tmp 16) (some (zi 1)) none none),
 zm 2 18 2,
 zo 3 19 (.call 98 [(.tmp 17),(.tmp 18)]),
 zo 4 20 (.ext (.tmp 19) 0),
 zo 5 21 (.ext (.tmp 19) 1),
 zm 6 6 20,
 zm 7 7 21])
 (.ret)))),
 [.tmp 6,.tmp 7]⟩
theorem p_code_headed : PR Go.Proofs.Tryz.f78 = some v_code_headed:=by kernel_rfl

def v_code_lines_take : VFun :=
⟨.seq (.reg [zm 0 3 0,
 zm 1 4 0,
 zo 2 5 (.nilck (.tmp 4)),
 zf 3 6 0 5,
 zl 4 7 6,
 zo 5 8 (.call 97 [(.tmp 7),(.con (.string ⟨#[10]⟩))]),
 zm 6 2 8,
 zo 7 9 (.ext (.tmp 2) 0),
 zo 8 10 (.ext (.tmp 2) 1),
 zo 9 11 (.ext (.tmp 2) 2),
 zo 10 12 (.nilck (.tmp 3)),
 zf 11 13 0 12,
 zn 12 (.store 1 (.tmp 13) (.tmp 10))])
 (.reg [zm 0 14 0,
 zo 1 15 (.nilck (.tmp 14)),
 zf 2 16 1 15,
 zl 3 17 16,
 zo 4 18 (.bin .add 3 true (.tmp 17) (zi 1)),
 zo 5 19 (.nilck (.tmp 14)),
 zf 6 20 1 19,
 zn 7 (.store 1 (.tmp 20) (.tmp 18))]),
 []⟩
theorem p_code_lines_take : PR Go.Proofs.Tryz.f79 = some v_code_lines_take:=by kernel_rfl

def v_code_lines_block : VFun :=
⟨.seq (.reg [zo 0 4 (.mv (.con (.bool false)))])
 (.block 0
 (.loop
 (.block 1
 (.seq (.reg [zm 0 13 0,
 zo 1 14 (.call 77 [(.tmp 13)]),
 zm 2 12 14,
 zo 3 15 (.ext (.tmp 12) 0),
 zo 4 16 (.ext (.tmp 12) 1),
 zm 5 5 15,
 zm 6 6 16])
 (.seq (.reg [zm 0 18 5,
 zo 1 19 (.call 99 [(.tmp 18),(.con (.string ⟨#[32,32]⟩))]),
 zm 2 17 19,
 zo 3 20 (.ext (.tmp 17) 0),
 zo 4 21 (.ext (.tmp 17) 1),
 zm 5 5 20,
 zm 6 7 21])
 (.seq (.seq (.reg [zm 0 22 6,
 zo 1 23 (.un .not (.tmp 22)),
 zm 2 24 23,
 zg 3 25 (.mv (.tmp 7)) 24 false,
 zg 4 26 (.un .not (.tmp 25)) 24 false,
 zo 5 27 (.pick (.tmp 24) (.con (.bool true)) (.tmp 26))])
 (.cond (.tmp 27)
 (.seq (.reg [zo 0 4 (.mv (.con (.bool false)))])
 (.ret))
 (.skip)))
 (.seq (.seq (.reg [zm 0 29 5,
 zo 1 30 (.call 100 [(.tmp 29)]),
 zm 2 28 30,
 zo 3 31 (.ext (.tmp 28) 0),
 zo 4 32 (.ext (.tmp 28) 1),
 zo 5 8 (.alloc [(.int .i64 0),(.int .i64 0),(.int .i64 0),(.int .i64 0)]),
 zn 6 (.store 4 (.tmp 8) (.tmp 31)),
 zm 7 9 32])
 (.seq (.reg [zm 0 33 9])
 (.cond (.tmp 33)
 (.seq (.reg [zm 0 34 1,
 zo 1 35 (.load (some 4) (.tmp 8)),
 zo 2 36 (.nilck (.tmp 34)),
 zf 3 37 1 36,
 zn 4 (.store 4 (.tmp 37) (.tmp 35))])
 (.seq (.reg [zm 0 38 0,
 zo 1 39 (.call 79 [(.tmp 38)])])
 (.seq (.reg [zo 0 4 (.mv (.con (.bool true)))])
 (.ret))))
 (.skip))))
 (.seq (.reg [zm 0 41 5,
 zo 1 42 (.call 101 [(.tmp 41)]),
 zm 2 40 42,
 zo 3 43 (.ext (.tmp 40) 0),
 zo 4 44 (.ext (.tmp 40) 1),
 zo 5 10 (.alloc [(.int .i64 0),(.int .i64 0),(.int .i64 0),(.int .i64 0),(.int .i64 0),(.int .i64 0),(.int .i64 0)]),
 zn 6 (.store 7 (.tmp 10) (.tmp 43)),
 zm 7 11 44])
 (.seq (.seq (.reg [zm 0 45 11,
 zo 1 46 (.un .not (.tmp 45))])
 (.cond (.tmp 46)
 (.seq (.reg [zo 0 4 (.mv (.con (.bool false)))])
 (.ret))
 (.skip)))
 (.seq (.reg [zm 0 47 1,
 zm 1 48 1,
 zo 2 49 (.nilck (.tmp 48)),
 zf 3 50 0 49,
 zl 4 51 50,
 zo 5 52 (.load (some 7) (.tmp 10)),
 zo 6 53 (.bslice 7 1 [(.int .i64 0),(.int .i64 0),(.int .i64 0),(.int .i64 0),(.int .i64 0),(.int .i64 0),(.int .i64 0)] [(0,7,(.tmp 52))]),
 zo 7 54 (.append 7 56 (.tmp 51) (.tmp 53)),
 zo 8 55 (.nilck (.tmp 47)),
 zf 9 56 0 55,
 zn 10 (.store 1 (.tmp 56) (.tmp 54))])
 (.reg [zm 0 57 0,
 zo 1 58 (.call 79 [(.tmp 57)])]))))))))))),
 [.tmp 4]⟩
theorem p_code_lines_block : PR Go.Proofs.Tryz.f80 = some v_code_lines_block:=by kernel_rfl

def v_strings_genSplit : VFun :=
⟨.seq (.reg [zo 0 8 (.mv (.con (.slice none 0 0)))])
 (.seq (.seq (.reg [zm 0 12 3,
 zo 1 13 (.bin .eql 3 true (.tmp 12) (zi 0))])
 (.cond (.tmp 13)
 (.seq (.reg [zo 0 8 (.mv (.con (.slice none 0 0)))])
 (.ret))
 (.skip)))
 (.seq (.seq (.reg [zm 0 14 1,
 zo 1 15 (.bin .eql 9 true (.tmp 14) (.con (.string ⟨#[]⟩)))])
 (.cond (.tmp 15)
 (.seq (.reg [zm 0 16 0,
 zm 1 17 3,
 zo 2 18 (.call 102 [(.tmp 16),(.tmp 17)]),
 zm 3 8 18])
 (.ret))
 (.skip)))
 (.seq (.seq (.reg [zm 0 19 3,
 zo 1 20 (.bin .lss 3 true (.tmp 19) (zi 0))])
 (.cond (.tmp 20)
 (.reg [zm 0 21 0,
 zm 1 22 1,
 zo 2 23 (.call 103 [(.tmp 21),(.tmp 22)]),
 zo 3 24 (.bin .add 3 true (.tmp 23) (zi 1)),
 zm 4 3 24])
 (.skip)))
 (.seq (.reg [zm 0 25 3,
 zm 1 26 0,
 zo 2 27 (.bi .len [9] 3 [(.tmp 26)]),
 zo 3 28 (.bin .add 3 true (.tmp 27) (zi 1)),
 zo 4 29 (.bi .min [3,3] 3 [(.tmp 25),(.tmp 28)]),
 zm 5 3 29])
 (.seq (.reg [zm 0 30 3,
 zo 1 31 (.mksl 1 16 [(.string ⟨#[]⟩)] (.tmp 30) (.tmp 30)),
 zm 2 9 31])
 (.seq (.reg [zm 0 32 3,
 zo 1 33 (.bin .sub 3 true (.tmp 32) (zi 1)),
 zm 2 3 33])
 (.seq (.reg [zo 0 10 (.mv (zi 0))])
 (.seq (.block 0
 (.loop
 (.seq (.seq (.reg [zm 0 34 10,
 zm 1 35 3,
 zo 2 36 (.bin .lss 3 false (.tmp 34) (.tmp 35))])
 (.cond (.tmp 36)
 (.skip)
 (.exit 0)))
 (.block 1
 (.seq (.reg [zm 0 37 0,
 zm 1 38 1,
 zo 2 39 (.call 104 [(.tmp 37),(.tmp 38)]),
 zm 3 11 39])
 (.seq (.seq (.reg [zm 0 40 11,
 zo 1 41 (.bin .lss 3 true (.tmp 40) (zi 0))])
 (.cond (.tmp 41)
 (.exit 0)
 (.skip)))
 (.seq (.reg [zm 0 42 9,
 zm 1 43 10,
 zm 2 44 0,
 zm 3 45 11,
 zm 4 46 2,
 zo 5 47 (.bin .add 3 false (.tmp 45) (.tmp 46)),
 zo 6 48 (.slS 9 (.tmp 44) none (some (.tmp 47))),
 zo 7 49 (.idxA none 1 (.tmp 42) (.tmp 43)),
 zn 8 (.store 1 (.tmp 49) (.tmp 48))])
 (.seq (.reg [zm 0 50 0,
 zm 1 51 11,
 zm 2 52 1,
 zo 3 53 (.bi .len [9] 3 [(.tmp 52)]),
 zo 4 54 (.bin .add 3 false (.tmp 51) (.tmp 53)),
 zo 5 55 (.slS 9 (.tmp 50) (some (.tmp 54)) none),
 zm 6 0 55])
 (.reg [zm 0 56 10,
 zo 1 57 (.bin .add 3 true (.tmp 56) (zi 1)),
 zm 2 10 57])))))))))
 (.seq (.reg [zm 0 58 9,
 zm 1 59 10,
 zm 2 60 0,
 zo 3 61 (.idxA none 1 (.tmp 58) (.tmp 59)),
 zn 4 (.store 1 (.tmp 61) (.tmp 60))])
 (.seq (.reg [zm 0 62 9,
 zm 1 63 10,
 zo 2 64 (.bin .add 3 true (.tmp 63) (zi 1)),
 zo 3 65 (.slice none 1 (.tmp 62) none (some (.tmp 64)) none),
 zm 4 8 65])
 (.ret))))))))))),
 [.tmp 8]⟩
theorem p_strings_genSplit : PR Go.Proofs.Tryz.f81 = some v_strings_genSplit:=by kernel_rfl

end Go.VX.Seat
end
section
set_option maxRecDepth 20000
namespace Go.VX.Seat
def v_r07_headed : VFun :=
⟨.seq (.reg [zo 0 6 (.mv (.con (.slice none 0 0))),
 zo 1 7 (.mv (.con (.bool false)))])
 (.seq (.reg [zm 0 9 0,
 zo 1 10 (.call 47 [(.tmp 9),(.con (.string ⟨#[32]⟩))]),
 zm 2 8 10])
 (.seq (.seq (.reg [zm 0 11 8,
 zo 1 12 (.idxA none 1 (.tmp 11) (zi 0)),
 zl 2 13 12,
 zm 3 14 1,
 zo 4 15 (.bin .neq 9 false (.tmp 13) (.tmp 14))])
 (.cond (.tmp 15)
 (.seq (.reg [zo 0 6 (.mv (.con (.slice none 0 0))),
 zo 1 7 (.mv (.con (.bool false)))])
 (.ret))
 (.skip)))
 (.seq (.reg [zm 0 16 8,
 zo 1 17 (.slice none 1 (.tmp 16) (some (zi 1)) none none),
 zm 2 18 2,
 zo 3 19 (.call 105 [(.tmp 17),(.tmp 18)]),
 zo 4 20 (.ext (.tmp 19) 0),
 zo 5 21 (.ext (.tmp 19) 1),
 zm 6 6 20,
 zm 7 7 21])
 (.ret)))),
 [.tmp 6,.tmp 7]⟩
theorem p_r07_headed : PR Go.Proofs.Tryz.f82 = some v_r07_headed:=by kernel_rfl

def v_strings_HasPrefix : VFun :=
⟨.seq (.reg [zo 0 4 (.mv (.con (.bool false)))])
 (.seq (.reg [zm 0 5 0,
 zm 1 6 1,
 zo 2 7 (.call 106 [(.tmp 5),(.tmp 6)]),
 zm 3 4 7])
 (.ret)),
 [.tmp 4]⟩
theorem p_strings_HasPrefix : PR Go.Proofs.Tryz.f83 = some v_strings_HasPrefix:=by kernel_rfl

def v_r07_readEnd : VFun :=
⟨.seq (.reg [zo 0 2 (.alloc [(.int .i64 0),(.int .i64 0),(.int .i64 0),(.int .i64 0)]),
 zo 1 3 (.mv (.con (.bool false)))])
 (.seq (.seq (.reg [zm 0 13 0,
 zo 1 14 (.call 82 [(.tmp 13),(.con (.string ⟨#[106,117,109,112]⟩)),(zi 1)]),
 zm 2 12 14,
 zo 3 15 (.ext (.tmp 12) 0),
 zo 4 16 (.ext (.tmp 12) 1),
 zm 5 4 15,
 zm 6 5 16])
 (.seq (.reg [zm 0 17 5])
 (.cond (.tmp 17)
 (.seq (.reg [zm 0 18 4,
 zo 1 19 (.idxA none 1 (.tmp 18) (zi 0)),
 zl 2 20 19,
 zo 3 21 (.build [(.int .i64 0),(.int .i64 0),(.int .i64 0),(.int .i64 0)] [(0,1,(zi 1)),(2,1,(.tmp 20))]),
 zn 4 (.store 4 (.tmp 2) (.tmp 21)),
 zo 5 3 (.mv (.con (.bool true)))])
 (.ret))
 (.skip))))
 (.seq (.seq (.reg [zm 0 23 0,
 zo 1 24 (.call 82 [(.tmp 23),(.con (.string ⟨#[98,114,97,110,99,104]⟩)),(zi 3)]),
 zm 2 22 24,
 zo 3 25 (.ext (.tmp 22) 0),
 zo 4 26 (.ext (.tmp 22) 1),
 zm 5 6 25,
 zm 6 7 26])
 (.seq (.reg [zm 0 27 7])
 (.cond (.tmp 27)
 (.seq (.reg [zm 0 28 6,
 zo 1 29 (.idxA none 1 (.tmp 28) (zi 0)),
 zl 2 30 29,
 zm 3 31 6,
 zo 4 32 (.idxA none 1 (.tmp 31) (zi 1)),
 zl 5 33 32,
 zm 6 34 6,
 zo 7 35 (.idxA none 1 (.tmp 34) (zi 2)),
 zl 8 36 35,
 zo 9 37 (.build [(.int .i64 0),(.int .i64 0),(.int .i64 0),(.int .i64 0)] [(0,1,(zi 2)),(1,1,(.tmp 30)),(2,1,(.tmp 33)),(3,1,(.tmp 36))]),
 zn 10 (.store 4 (.tmp 2) (.tmp 37)),
 zo 11 3 (.mv (.con (.bool true)))])
 (.ret))
 (.skip))))
 (.seq (.seq (.reg [zm 0 39 0,
 zo 1 40 (.call 82 [(.tmp 39),(.con (.string ⟨#[114,101,116,117,114,110]⟩)),(zi 1)]),
 zm 2 38 40,
 zo 3 41 (.ext (.tmp 38) 0),
 zo 4 42 (.ext (.tmp 38) 1),
 zm 5 8 41,
 zm 6 9 42])
 (.seq (.reg [zm 0 43 9])
 (.cond (.tmp 43)
 (.seq (.reg [zm 0 44 8,
 zo 1 45 (.idxA none 1 (.tmp 44) (zi 0)),
 zl 2 46 45,
 zo 3 47 (.build [(.int .i64 0),(.int .i64 0),(.int .i64 0),(.int .i64 0)] [(0,1,(zi 3)),(1,1,(.tmp 46))]),
 zn 4 (.store 4 (.tmp 2) (.tmp 47)),
 zo 5 3 (.mv (.con (.bool true)))])
 (.ret))
 (.skip))))
 (.seq (.seq (.reg [zm 0 49 0,
 zo 1 50 (.call 82 [(.tmp 49),(.con (.string ⟨#[116,104,114,111,119]⟩)),(zi 1)]),
 zm 2 48 50,
 zo 3 51 (.ext (.tmp 48) 0),
 zo 4 52 (.ext (.tmp 48) 1),
 zm 5 10 51,
 zm 6 11 52])
 (.seq (.reg [zm 0 53 11])
 (.cond (.tmp 53)
 (.seq (.reg [zm 0 54 10,
 zo 1 55 (.idxA none 1 (.tmp 54) (zi 0)),
 zl 2 56 55,
 zo 3 57 (.build [(.int .i64 0),(.int .i64 0),(.int .i64 0),(.int .i64 0)] [(0,1,(zi 4)),(1,1,(.tmp 56))]),
 zn 4 (.store 4 (.tmp 2) (.tmp 57)),
 zo 5 3 (.mv (.con (.bool true)))])
 (.ret))
 (.skip))))
 (.seq (.reg [zo 0 58 (.build [(.int .i64 0),(.int .i64 0),(.int .i64 0),(.int .i64 0)] []),
 zn 1 (.store 4 (.tmp 2) (.tmp 58)),
 zo 2 3 (.mv (.con (.bool false)))])
 (.ret)))))),
 [.cell 2 (some 4),.tmp 3]⟩
theorem p_r07_readEnd : PR Go.Proofs.Tryz.f84 = some v_r07_readEnd:=by kernel_rfl

def v_r07_readOp : VFun :=
⟨.seq (.reg [zo 0 2 (.alloc [(.int .i64 0),(.int .i64 0),(.int .i64 0),(.int .i64 0),(.int .i64 0),(.int .i64 0),(.int .i64 0)]),
 zo 1 3 (.mv (.con (.bool false)))])
 (.seq (.reg [zo 0 14 (.build [(.int .i64 0),(.int .i64 0),(.int .i64 0),(.int .i64 0),(.int .i64 0),(.int .i64 0),(.int .i64 0)] [(6,1,(zi (-1)))]),
 zo 1 4 (.alloc [(.int .i64 0),(.int .i64 0),(.int .i64 0),(.int .i64 0),(.int .i64 0),(.int .i64 0),(.int .i64 0)]),
 zn 2 (.store 7 (.tmp 4) (.tmp 14))])
 (.seq (.reg [zm 0 15 0,
 zo 1 16 (.call 47 [(.tmp 15),(.con (.string ⟨#[32]⟩))]),
 zm 2 5 16])
 (.seq (.seq (.reg [zm 0 17 5,
 zo 1 18 (.len (.tmp 17)),
 zo 2 19 (.bin .gtr 3 true (.tmp 18) (zi 2)),
 zm 3 20 19,
 zg 4 21 (.mv (.tmp 5)) 20 true,
 zg 5 22 (.idxA none 1 (.tmp 21) (zi 0)) 20 true,
 zg 6 23 (.load none (.tmp 22)) 20 true,
 zg 7 24 (.bin .eql 9 true (.tmp 23) (.con (.string ⟨#[63]⟩))) 20 true,
 zo 8 25 (.pick (.tmp 20) (.tmp 24) (.con (.bool false)))])
 (.cond (.tmp 25)
 (.seq (.reg [zm 0 27 5,
 zo 1 28 (.idxA none 1 (.tmp 27) (zi 1)),
 zl 2 29 28,
 zo 3 30 (.call 107 [(.tmp 29)]),
 zm 4 26 30,
 zo 5 31 (.ext (.tmp 26) 0),
 zo 6 32 (.ext (.tmp 26) 1),
 zm 7 6 31,
 zm 8 7 32])
 (.seq (.seq (.reg [zm 0 33 7,
 zo 1 34 (.un .not (.tmp 33)),
 zm 2 35 34,
 zg 3 36 (.mv (.tmp 6)) 35 false,
 zg 4 37 (.bin .eql 2 true (.tmp 36) (zi (-1))) 35 false,
 zo 5 38 (.pick (.tmp 35) (.con (.bool true)) (.tmp 37))])
 (.cond (.tmp 38)
 (.seq (.reg [zo 0 39 (.build [(.int .i64 0),(.int .i64 0),(.int .i64 0),(.int .i64 0),(.int .i64 0),(.int .i64 0),(.int .i64 0)] []),
 zn 1 (.store 7 (.tmp 2) (.tmp 39)),
 zo 2 3 (.mv (.con (.bool false)))])
 (.ret))
 (.skip)))
 (.seq (.reg [zm 0 40 6,
 zf 1 41 6 4,
 zn 2 (.store 1 (.tmp 41) (.tmp 40))])
 (.reg [zm 0 42 5,
 zo 1 43 (.slice none 1 (.tmp 42) (some (zi 2)) none none),
 zm 2 5 43]))))
 (.skip)))
 (.seq (.seq (.reg [zm 0 44 5,
 zo 1 45 (.len (.tmp 44)),
 zo 2 46 (.bin .gtr 3 true (.tmp 45) (zi 2)),
 zm 3 47 46,
 zg 4 48 (.mv (.tmp 5)) 47 true,
 zg 5 49 (.idxA none 1 (.tmp 48) (zi 1)) 47 true,
 zg 6 50 (.load none (.tmp 49)) 47 true,
 zg 7 51 (.bin .eql 9 true (.tmp 50) (.con (.string ⟨#[61]⟩))) 47 true,
 zo 8 52 (.pick (.tmp 47) (.tmp 51) (.con (.bool false)))])
 (.cond (.tmp 52)
 (.seq (.reg [zm 0 54 5,
 zo 1 55 (.idxA none 1 (.tmp 54) (zi 0)),
 zl 2 56 55,
 zo 3 57 (.call 107 [(.tmp 56)]),
 zm 4 53 57,
 zo 5 58 (.ext (.tmp 53) 0),
 zo 6 59 (.ext (.tmp 53) 1),
 zm 7 8 58,
 zm 8 9 59])
 (.seq (.seq (.reg [zm 0 60 9,
 zo 1 61 (.un .not (.tmp 60))])
 (.cond (.tmp 61)
 (.seq (.reg [zo 0 62 (.build [(.int .i64 0),(.int .i64 0),(.int .i64 0),(.int .i64 0),(.int .i64 0),(.int .i64 0),(.int .i64 0)] []),
 zn 1 (.store 7 (.tmp 2) (.tmp 62)),
 zo 2 3 (.mv (.con (.bool false)))])
 (.ret))
 (.skip)))
 (.seq (.reg [zm 0 63 8,
 zf 1 64 1 4,
 zn 2 (.store 1 (.tmp 64) (.tmp 63))])
 (.reg [zm 0 65 5,
 zo 1 66 (.slice none 1 (.tmp 65) (some (zi 2)) none none),
 zm 2 5 66]))))
 (.skip)))
 (.seq (.seq (.reg [zo 0 10 (.mv (zi 0))])
 (.block 0
 (.loop
 (.seq (.seq (.reg [zm 0 67 10,
 zo 1 68 (.call 31 []),
 zo 2 69 (.len (.tmp 68)),
 zo 3 70 (.bin .lss 3 false (.tmp 67) (.tmp 69))])
 (.cond (.tmp 70)
 (.skip)
 (.exit 0)))
 (.seq (.block 1
 (.seq (.reg [zm 1 74 10,
 zm 4 77 5,
 zo 5 78 (.idxA none 1 (.tmp 77) (zi 0)),
 zl 6 79 78,
 ⟨0,(some 73),.call 31 [],none,[(.tmp 78)]⟩,
 zo 2 75 (.idxA none 1 (.tmp 73) (.tmp 74)),
 zl 3 76 75,
 zo 7 80 (.bin .eql 9 false (.tmp 76) (.tmp 79))])
 (.cond (.tmp 80)
 (.reg [zm 0 81 10,
 zo 1 82 (.bin .add 3 true (.tmp 81) (zi 1)),
 zf 2 83 0 4,
 zn 3 (.store 1 (.tmp 83) (.tmp 82))])
 (.skip))))
 (.reg [zm 0 71 10,
 zo 1 72 (.bin .add 3 true (.tmp 71) (zi 1)),
 zm 2 10 72]))))))
 (.seq (.seq (.reg [zf 0 84 0 4,
 zl 1 85 84,
 zo 2 86 (.bin .eql 3 true (.tmp 85) (zi 0))])
 (.cond (.tmp 86)
 (.seq (.reg [zo 0 87 (.build [(.int .i64 0),(.int .i64 0),(.int .i64 0),(.int .i64 0),(.int .i64 0),(.int .i64 0),(.int .i64 0)] []),
 zn 1 (.store 7 (.tmp 2) (.tmp 87)),
 zo 2 3 (.mv (.con (.bool false)))])
 (.ret))
 (.skip)))
 (.seq (.reg [zo 0 88 (.load (some 7) (.tmp 4)),
 zo 1 89 (.call 58 [(.tmp 88)]),
 zo 2 90 (.len (.tmp 89)),
 zm 3 11 90])
 (.seq (.seq (.reg [zf 0 91 0 4,
 zl 1 92 91,
 zo 2 93 (.call 75 [(.tmp 92)])])
 (.cond (.tmp 93)
 (.reg [zm 0 94 11,
 zo 1 95 (.bin .add 3 true (.tmp 94) (zi 1)),
 zm 2 11 95])
 (.skip)))
 (.seq (.reg [zm 0 97 5,
 zo 1 98 (.slice none 1 (.tmp 97) (some (zi 1)) none none),
 zm 2 99 11,
 zo 3 100 (.call 105 [(.tmp 98),(.tmp 99)]),
 zm 4 96 100,
 zo 5 101 (.ext (.tmp 96) 0),
 zo 6 102 (.ext (.tmp 96) 1),
 zm 7 12 101,
 zm 8 13 102])
 (.seq (.seq (.reg [zm 0 103 13,
 zo 1 104 (.un .not (.tmp 103))])
 (.cond (.tmp 104)
 (.seq (.reg [zo 0 105 (.build [(.int .i64 0),(.int .i64 0),(.int .i64 0),(.int .i64 0),(.int .i64 0),(.int .i64 0),(.int .i64 0)] []),
 zn 1 (.store 7 (.tmp 2) (.tmp 105)),
 zo 2 3 (.mv (.con (.bool false)))])
 (.ret))
 (.skip)))
 (.seq (.seq (.reg [zf 0 106 0 4,
 zl 1 107 106,
 zo 2 108 (.call 75 [(.tmp 107)])])
 (.cond (.tmp 108)
 (.reg [zm 0 109 12,
 zm 1 110 12,
 zo 2 111 (.len (.tmp 110)),
 zo 3 112 (.bin .sub 3 true (.tmp 111) (zi 1)),
 zo 4 113 (.idxA none 1 (.tmp 109) (.tmp 112)),
 zl 5 114 113,
 zf 6 115 5 4,
 zn 7 (.store 1 (.tmp 115) (.tmp 114))])
 (.skip)))
 (.seq (.seq (.reg [zf 0 116 0 4,
 zl 1 117 116,
 zo 2 118 (.call 60 [(.tmp 117)])])
 (.cond (.tmp 118)
 (.reg [zm 0 119 12,
 zo 1 120 (.idxA none 1 (.tmp 119) (zi 0)),
 zl 2 121 120,
 zf 3 122 2 4,
 zn 4 (.store 1 (.tmp 122) (.tmp 121))])
 (.skip)))
 (.seq (.seq (.reg [zf 0 123 0 4,
 zl 1 124 123,
 zo 2 125 (.call 61 [(.tmp 124)])])
 (.cond (.tmp 125)
 (.reg [zm 0 126 12,
 zo 1 127 (.idxA none 1 (.tmp 126) (zi 1)),
 zl 2 128 127,
 zf 3 129 3 4,
 zn 4 (.store 1 (.tmp 129) (.tmp 128))])
 (.skip)))
 (.seq (.seq (.reg [zf 0 130 0 4,
 zl 1 131 130,
 zo 2 132 (.call 62 [(.tmp 131)])])
 (.cond (.tmp 132)
 (.reg [zm 0 133 12,
 zo 1 134 (.idxA none 1 (.tmp 133) (zi 2)),
 zl 2 135 134,
 zf 3 136 4 4,
 zn 4 (.store 1 (.tmp 136) (.tmp 135))])
 (.skip)))
 (.seq (.reg [zo 0 137 (.load (some 7) (.tmp 4)),
 zo 1 138 (.load (some 7) (.tmp 4)),
 zm 3 140 0,
 ⟨2,(some 139),.call 44 [(.tmp 138)],none,[(.tmp 4)]⟩,
 zo 4 141 (.bin .eql 9 false (.tmp 139) (.tmp 140)),
 zn 5 (.store 7 (.tmp 2) (.tmp 137)),
 zm 6 3 141])
 (.ret)))))))))))))))),
 [.cell 2 (some 7),.tmp 3]⟩
theorem p_r07_readOp : PR Go.Proofs.Tryz.f85 = some v_r07_readOp:=by kernel_rfl

def v_r07_SameOps : VFun :=
⟨.seq (.reg [zo 0 4 (.mv (.con (.bool false)))])
 (.seq (.seq (.reg [zm 0 6 0,
 zo 1 7 (.len (.tmp 6)),
 zm 2 8 1,
 zo 3 9 (.len (.tmp 8)),
 zo 4 10 (.bin .neq 3 false (.tmp 7) (.tmp 9))])
 (.cond (.tmp 10)
 (.seq (.reg [zo 0 4 (.mv (.con (.bool false)))])
 (.ret))
 (.skip)))
 (.seq (.seq (.reg [zo 0 5 (.mv (zi 0))])
 (.block 0
 (.loop
 (.seq (.seq (.reg [zm 0 11 5,
 zm 1 12 0,
 zo 2 13 (.len (.tmp 12)),
 zo 3 14 (.bin .lss 3 false (.tmp 11) (.tmp 13))])
 (.cond (.tmp 14)
 (.skip)
 (.exit 0)))
 (.seq (.block 1
 (.seq (.reg [zm 0 17 0,
 zm 1 18 5,
 zo 2 19 (.idxA none 7 (.tmp 17) (.tmp 18)),
 zo 3 20 (.load (some 7) (.tmp 19)),
 zm 4 21 1,
 zm 5 22 5,
 zo 6 23 (.idxA none 7 (.tmp 21) (.tmp 22)),
 zo 7 24 (.load (some 7) (.tmp 23)),
 zo 8 25 (.bin .neq 46 false (.tmp 20) (.tmp 24))])
 (.cond (.tmp 25)
 (.seq (.reg [zo 0 4 (.mv (.con (.bool false)))])
 (.ret))
 (.skip))))
 (.reg [zm 0 15 5,
 zo 1 16 (.bin .add 3 true (.tmp 15) (zi 1)),
 zm 2 5 16]))))))
 (.seq (.reg [zo 0 4 (.mv (.con (.bool true)))])
 (.ret)))),
 [.tmp 4]⟩
theorem p_r07_SameOps : PR Go.Proofs.Tryz.f86 = some v_r07_SameOps:=by kernel_rfl

def v_r07_Array : VFun :=
⟨.seq (.reg [zo 0 2 (.mv (.con (.bool false)))])
 (.seq (.reg [zm 0 3 0,
 zo 1 4 (.bin .eql 3 true (.tmp 3) (zi 16)),
 zm 2 5 4,
 zg 3 6 (.mv (.tmp 0)) 5 false,
 zg 4 7 (.bin .eql 3 true (.tmp 6) (zi 17)) 5 false,
 zo 5 8 (.pick (.tmp 5) (.con (.bool true)) (.tmp 7)),
 zm 6 9 8,
 zg 7 10 (.mv (.tmp 0)) 9 false,
 zg 8 11 (.bin .eql 3 true (.tmp 10) (zi 25)) 9 false,
 zo 9 12 (.pick (.tmp 9) (.con (.bool true)) (.tmp 11)),
 zm 10 2 12])
 (.ret)),
 [.tmp 2]⟩
theorem p_r07_Array : PR Go.Proofs.Tryz.f87 = some v_r07_Array:=by kernel_rfl

def v_r07_Cell : VFun :=
⟨.seq (.reg [zo 0 2 (.mv (.con (.bool false)))])
 (.seq (.reg [zm 0 3 0,
 zo 1 4 (.bin .eql 3 true (.tmp 3) (zi 18)),
 zm 2 5 4,
 zg 3 6 (.mv (.tmp 0)) 5 false,
 zg 4 7 (.bin .eql 3 true (.tmp 6) (zi 19)) 5 false,
 zo 5 8 (.pick (.tmp 5) (.con (.bool true)) (.tmp 7)),
 zm 6 2 8])
 (.ret)),
 [.tmp 2]⟩
theorem p_r07_Cell : PR Go.Proofs.Tryz.f88 = some v_r07_Cell:=by kernel_rfl

def v_r07_there : VFun :=
⟨.seq (.reg [zo 0 2 (.box (.tmp 0)),
 zo 1 4 (.mv (.con (.bool false)))])
 (.seq (.reg [zm 0 5 1,
 zo 1 6 (.bin .geq 3 true (.tmp 5) (zi 0)),
 zm 2 7 6,
 zg 3 8 (.mv (.tmp 1)) 7 true,
 zg 4 9 (.fieldA 5 (.tmp 2)) 7 true,
 zg 5 10 (.load none (.tmp 9)) 7 true,
 zg 6 11 (.len (.tmp 10)) 7 true,
 zg 7 12 (.bin .lss 3 false (.tmp 8) (.tmp 11)) 7 true,
 zo 8 13 (.pick (.tmp 7) (.tmp 12) (.con (.bool false))),
 zm 9 4 13])
 (.ret)),
 [.tmp 4]⟩
theorem p_r07_there : PR Go.Proofs.Tryz.f89 = some v_r07_there:=by kernel_rfl

def v_code_checker_unit : VFun :=
⟨.seq (.reg [zm 0 8 0,
 zo 1 9 (.nilck (.tmp 8)),
 zf 2 10 0 9,
 zo 3 11 (.load (some 6) (.tmp 10)),
 zo 4 2 (.alloc [(.slice none 0 0),(.int .i64 0),(.int .i64 0),(.int .i64 0),(.int .i64 0),(.slice none 0 0)]),
 zn 5 (.store 6 (.tmp 2) (.tmp 11))])
 (.seq (.reg [zm 0 12 0,
 zf 1 13 0 2,
 zl 2 14 13,
 zo 3 15 (.len (.tmp 14)),
 zo 4 16 (.bin .leq 3 true (.tmp 15) (zi 16)),
 zm 5 17 16,
 zg 6 18 (.fieldA 5 (.tmp 2)) 17 true,
 zg 7 19 (.load none (.tmp 18)) 17 true,
 zg 8 20 (.len (.tmp 19)) 17 true,
 zg 9 21 (.bin .geq 3 true (.tmp 20) (zi 1)) 17 true,
 zo 10 22 (.pick (.tmp 17) (.tmp 21) (.con (.bool false))),
 zm 11 23 22,
 zg 12 24 (.fieldA 5 (.tmp 2)) 23 true,
 zg 13 25 (.load none (.tmp 24)) 23 true,
 zg 14 26 (.len (.tmp 25)) 23 true,
 zg 15 27 (.bin .leq 3 true (.tmp 26) (zi 2000)) 23 true,
 zo 16 28 (.pick (.tmp 23) (.tmp 27) (.con (.bool false))),
 zm 17 29 28,
 zg 18 30 (.fieldA 2 (.tmp 2)) 29 true,
 zg 19 31 (.load none (.tmp 30)) 29 true,
 zg 20 32 (.bin .leq 3 true (.tmp 31) (zi 4096)) 29 true,
 zo 21 33 (.pick (.tmp 29) (.tmp 32) (.con (.bool false))),
 zm 22 34 33,
 zg 23 35 (.fieldA 4 (.tmp 2)) 34 true,
 zg 24 36 (.load none (.tmp 35)) 34 true,
 zg 25 37 (.bin .leq 3 true (.tmp 36) (zi 4096)) 34 true,
 zo 26 38 (.pick (.tmp 34) (.tmp 37) (.con (.bool false))),
 zo 27 39 (.call 108 [(.tmp 12),(.tmp 38),(zi 3)])])
 (.seq (.reg [zm 0 40 0,
 zf 1 41 0 2,
 zl 2 42 41,
 zo 3 43 (.call 109 [(.tmp 42),(.fn 110)]),
 zo 4 44 (.un .not (.tmp 43)),
 zo 5 45 (.call 108 [(.tmp 40),(.tmp 44),(zi 2)])])
 (.seq (.reg [zm 0 46 0,
 zf 1 47 2 2,
 zl 2 48 47,
 zo 3 49 (.bin .geq 3 true (.tmp 48) (zi 1)),
 zm 4 50 49,
 zg 5 51 (.fieldA 4 (.tmp 2)) 50 true,
 zg 6 52 (.load none (.tmp 51)) 50 true,
 zg 7 53 (.bin .geq 3 true (.tmp 52) (zi 0)) 50 true,
 zo 8 54 (.pick (.tmp 50) (.tmp 53) (.con (.bool false))),
 zm 9 55 54,
 zg 10 56 (.fieldA 1 (.tmp 2)) 55 true,
 zg 11 57 (.load none (.tmp 56)) 55 true,
 zg 12 58 (.bin .geq 3 true (.tmp 57) (zi 0)) 55 true,
 zo 13 59 (.pick (.tmp 55) (.tmp 58) (.con (.bool false))),
 zm 14 60 59,
 zg 15 61 (.fieldA 1 (.tmp 2)) 60 true,
 zg 16 62 (.load none (.tmp 61)) 60 true,
 zg 17 63 (.bin .leq 3 true (.tmp 62) (zi 8)) 60 true,
 zo 18 64 (.pick (.tmp 60) (.tmp 63) (.con (.bool false))),
 zm 19 65 64,
 zg 20 66 (.fieldA 1 (.tmp 2)) 65 true,
 zg 21 67 (.load none (.tmp 66)) 65 true,
 zg 22 68 (.fieldA 2 (.tmp 2)) 65 true,
 zg 23 69 (.load none (.tmp 68)) 65 true,
 zg 24 70 (.bin .leq 3 false (.tmp 67) (.tmp 69)) 65 true,
 zo 25 71 (.pick (.tmp 65) (.tmp 70) (.con (.bool false))),
 zm 26 72 71,
 zg 27 73 (.fieldA 3 (.tmp 2)) 72 true,
 zg 28 74 (.load none (.tmp 73)) 72 true,
 zg 29 75 (.fieldA 2 (.tmp 2)) 72 true,
 zg 30 76 (.load none (.tmp 75)) 72 true,
 zg 31 77 (.call 67 [(.tmp 74),(.tmp 76)]) 72 true,
 zo 32 78 (.pick (.tmp 72) (.tmp 77) (.con (.bool false))),
 zo 33 79 (.call 108 [(.tmp 46),(.tmp 78),(zi 2)])])
 (.seq (.reg [zo 0 3 (.mv (zi 0))])
 (.seq (.seq (.reg [zf 0 80 5 2,
 zl 1 81 80,
 zo 2 82 (.len (.tmp 81)),
 zo 3 83 (.mv (zi 0))])
 (.block 0
 (.loop
 (.seq (.reg [zo 0 84 (.bin .lss 3 false (.tmp 83) (.tmp 82))])
 (.seq (.cond (.tmp 84)
 (.skip)
 (.exit 0))
 (.seq (.block 1
 (.seq (.reg [zm 0 85 83,
 zo 1 86 (.idxA none 6 (.tmp 81) (.tmp 83)),
 zo 2 87 (.load (some 6) (.tmp 86)),
 zo 3 5 (.alloc [(.slice none 0 0),(.int .i64 0),(.int .i64 0),(.int .i64 0),(.int .i64 0),(.int .i64 0)]),
 zm 4 4 85,
 zn 5 (.store 6 (.tmp 5) (.tmp 87))])
 (.seq (.reg [zm 0 88 0,
 zm 1 89 0,
 zm 2 90 4,
 zf 3 91 0 5,
 zl 4 92 91,
 zo 5 93 (.len (.tmp 92)),
 zo 6 94 (.nilck (.tmp 88)),
 zf 7 95 6 94,
 ⟨8,none,.store 1 (.tmp 95) (.tmp 90),none,[(.tmp 91)]⟩,
 zo 9 96 (.nilck (.tmp 89)),
 zf 10 97 7 96,
 zn 11 (.store 1 (.tmp 97) (.tmp 93))])
 (.seq (.reg [zm 0 98 0,
 zf 1 99 5 5,
 zl 2 100 99,
 zo 3 101 (.bin .eql 3 true (.tmp 100) (zi (-1))),
 zm 4 102 101,
 zg 5 103 (.fieldA 5 (.tmp 5)) 102 false,
 zg 6 104 (.load none (.tmp 103)) 102 false,
 zg 7 105 (.fieldA 5 (.tmp 2)) 102 false,
 zg 8 106 (.load none (.tmp 105)) 102 false,
 zg 9 107 (.len (.tmp 106)) 102 false,
 zg 10 108 (.call 67 [(.tmp 104),(.tmp 107)]) 102 false,
 zo 11 109 (.pick (.tmp 102) (.con (.bool true)) (.tmp 108)),
 zo 12 110 (.call 108 [(.tmp 98),(.tmp 109),(zi 2)])])
 (.seq (.reg [zm 0 111 0,
 zf 1 112 0 5,
 zl 2 113 112,
 zo 3 114 (.len (.tmp 113)),
 zo 4 115 (.bin .leq 3 true (.tmp 114) (zi 400)),
 zo 5 116 (.call 108 [(.tmp 111),(.tmp 115),(zi 3)])])
 (.seq (.seq (.reg [zf 0 117 0 5,
 zl 1 118 117,
 zo 2 119 (.len (.tmp 118)),
 zo 3 120 (.mv (zi 0))])
 (.block 2
 (.loop
 (.seq (.reg [zo 0 121 (.bin .lss 3 false (.tmp 120) (.tmp 119))])
 (.seq (.cond (.tmp 121)
 (.skip)
 (.exit 2))
 (.seq (.block 3
 (.seq (.reg [zm 0 122 120,
 zo 1 123 (.idxA none 7 (.tmp 118) (.tmp 120)),
 zo 2 124 (.load (some 7) (.tmp 123)),
 zo 3 7 (.alloc [(.int .i64 0),(.int .i64 0),(.int .i64 0),(.int .i64 0),(.int .i64 0),(.int .i64 0),(.int .i64 0)]),
 zm 4 6 122,
 zn 5 (.store 7 (.tmp 7) (.tmp 124))])
 (.seq (.reg [zm 0 125 0,
 zm 1 126 6,
 zo 2 127 (.nilck (.tmp 125)),
 zf 3 128 7 127,
 zn 4 (.store 1 (.tmp 128) (.tmp 126))])
 (.reg [zm 0 129 0,
 zo 1 130 (.load (some 7) (.tmp 7)),
 zo 2 131 (.call 111 [(.tmp 129),(.tmp 130)])]))))
 (.reg [zo 0 132 (.bin .add 3 true (.tmp 120) (zi 1)),
 zm 1 120 132])))))))
 (.seq (.reg [zm 0 133 0,
 zf 1 134 0 5,
 zl 2 135 134,
 zo 3 136 (.len (.tmp 135)),
 zo 4 137 (.nilck (.tmp 133)),
 zf 5 138 7 137,
 zn 6 (.store 1 (.tmp 138) (.tmp 136))])
 (.seq (.reg [zm 0 139 0,
 zf 1 140 1 5,
 zo 2 141 (.load (some 4) (.tmp 140)),
 zo 3 142 (.call 112 [(.tmp 139),(.tmp 141)])])
 (.reg [zm 0 143 3,
 zf 1 144 0 5,
 zl 2 145 144,
 zo 3 146 (.len (.tmp 145)),
 zo 4 147 (.bin .add 3 false (.tmp 143) (.tmp 146)),
 zm 5 3 147])))))))))
 (.reg [zo 0 148 (.bin .add 3 true (.tmp 83) (zi 1)),
 zm 1 83 148])))))))
 (.seq (.reg [zm 0 149 0,
 zm 1 150 0,
 zo 2 151 (.nilck (.tmp 149)),
 zf 3 152 6 151,
 zn 4 (.store 1 (.tmp 152) (zi 0)),
 zo 5 153 (.nilck (.tmp 150)),
 zf 6 154 7 153,
 zn 7 (.store 1 (.tmp 154) (zi 0))])
 (.reg [zm 0 155 0,
 zm 1 156 3,
 zo 2 157 (.bin .leq 3 true (.tmp 156) (zi 20000)),
 zo 3 158 (.call 108 [(.tmp 155),(.tmp 157),(zi 3)])]))))))),
 []⟩
theorem p_code_checker_unit : PR Go.Proofs.Tryz.f91 = some v_code_checker_unit:=by kernel_rfl

def v95u : VFun :=
⟨.seq (.reg [zo 0 4 (.mv (.con (.string ⟨#[]⟩)))])
 (.seq (.seq (.reg [zm 0 10 1,
 zo 1 11 (.bin .eql 3 true 10 (zi 10))])
 (.cond 11
 (.seq (.seq (.reg [zm 0 12 0,
 zo 1 13 (.bin .leq 2 true (zi 0) 12),
 zm 2 14 13,
 zg 3 15 (.mv 0) 14 true,
 zg 4 16 (.bin .lss 2 true 15 (zi 100)) 14 true,
 zo 5 17 (.pick 14 16 (.con (.bool false)))])
 (.cond 17
 (.seq (.reg [zm 0 18 0,
 zo 1 19 (.call 114 [18]),
 zm 2 4 19])
 (.ret))
 (.skip)))
 (.seq (.reg [zo 0 5 (.alloc [(.int .u8 0),(.int .u8 0),(.int .u8 0),(.int .u8 0),(.int .u8 0),(.int .u8 0),(.int .u8 0),(.int .u8 0),(.int .u8 0),(.int .u8 0),(.int .u8 0),(.int .u8 0),(.int .u8 0),(.int .u8 0),(.int .u8 0),(.int .u8 0),(.int .u8 0),(.int .u8 0),(.int .u8 0),(.int .u8 0),(.int .u8 0),(.int .u8 0),(.int .u8 0),(.int .u8 0)])])
 (.seq (.reg [zm 0 20 0,
 zo 1 21 (.conv 2 160 20),
 zm 2 6 21])
 (.seq (.seq (.reg [zm 0 22 0,
 zo 1 23 (.bin .lss 2 true 22 (zi 0))])
 (.cond 23
 (.reg [zm 0 24 6,
 zo 1 25 (.un .neg 24),
 zm 2 6 25])
 (.skip)))
 (.seq (.reg [zm 0 26 6,
 zo 1 27 (.call 115 [26]),
 zm 2 7 27])
 (.seq (.reg [zm 0 28 7,
 zo 1 29 (.bin .add 3 true (zi 1) 28),
 zo 2 30 (.slice (some 24) 1 5 (some (zi 1)) (some 29) none),
 zm 3 31 6,
 zo 4 32 (.call 116 [30,31])])
 (.seq (.seq (.reg [zm 0 33 0,
 zo 1 34 (.bin .lss 2 true 33 (zi 0))])
 (.cond 34
 (.seq (.reg [zo 0 35 (.idxA (some 24) 1 5 (zi 0)),
 zn 1 (.store 1 35 (.con (.int .u8 45)))])
 (.seq (.reg [zm 0 36 7,
 zo 1 37 (.bin .add 3 true (zi 1) 36),
 zo 2 38 (.slice (some 24) 1 5 none (some 37) none),
 zo 3 39 (.b2s 38),
 zm 4 4 39])
 (.ret)))
 (.skip)))
 (.seq (.reg [zm 0 40 7,
 zo 1 41 (.bin .add 3 true (zi 1) 40),
 zo 2 42 (.slice (some 24) 1 5 (some (zi 1)) (some 41) none),
 zo 3 43 (.b2s 42),
 zm 4 4 43])
 (.ret)))))))))
 (.skip)))
 (.seq (.reg [zm 0 45 0,
 zo 1 46 (.conv 2 160 45),
 zm 2 47 1,
 zm 3 48 0,
 zo 4 49 (.bin .lss 2 true 48 (zi 0)),
 zo 5 50 (.call 117 [(.con (.slice none 0 0)),46,47,49,(.con (.bool false))]),
 zm 6 44 50,
 zo 7 51 (.ext 44 0),
 zo 8 52 (.ext 44 1),
 zm 9 8 51,
 zm 10 9 52])
 (.seq (.reg [zm 0 53 9,
 zm 1 4 53])
 (.ret)))),
 [.tmp 4]⟩
theorem p95u : PR Go.Proofs.Tryz.f95 = some v95u:=by kernel_rfl

def v96u : VFun :=
⟨.seq (.reg [zo 0 4 (.mv (.con (.string ⟨#[]⟩)))])
 (.seq (.reg [zm 0 5 0,
 zm 1 6 1,
 zo 2 7 (.call 95 [5,6]),
 zm 3 4 7])
 (.ret)),
 [.tmp 4]⟩
theorem p96u : PR Go.Proofs.Tryz.f96 = some v96u:=by kernel_rfl

def v_strings_Cut : VFun :=
⟨.seq (.reg [zo 0 4 (.mv (.con (.string ⟨#[]⟩))),
 zo 1 5 (.mv (.con (.string ⟨#[]⟩))),
 zo 2 6 (.mv (.con (.bool false)))])
 (.seq (.reg [zm 0 7 0,
 zm 1 8 1,
 zo 2 9 (.call 118 [(.tmp 7),(.tmp 8)]),
 zo 3 10 (.ext (.tmp 9) 0),
 zo 4 11 (.ext (.tmp 9) 1),
 zo 5 12 (.ext (.tmp 9) 2),
 zm 6 4 10,
 zm 7 5 11,
 zm 8 6 12])
 (.ret)),
 [.tmp 4,.tmp 5,.tmp 6]⟩
theorem p_strings_Cut : PR Go.Proofs.Tryz.f97 = some v_strings_Cut:=by kernel_rfl

def v_code_numbers : VFun :=
⟨.seq (.reg [zo 0 4 (.mv (.con (.slice none 0 0))),
 zo 1 5 (.mv (.con (.bool false)))])
 (.seq (.seq (.reg [zm 0 11 0,
 zo 1 12 (.len (.tmp 11)),
 zm 2 13 1,
 zo 3 14 (.bin .neq 3 false (.tmp 12) (.tmp 13))])
 (.cond (.tmp 14)
 (.seq (.reg [zo 0 4 (.mv (.con (.slice none 0 0))),
 zo 1 5 (.mv (.con (.bool false)))])
 (.ret))
 (.skip)))
 (.seq (.reg [zo 0 6 (.mv (.con (.slice none 0 0)))])
 (.seq (.seq (.reg [zm 0 15 0,
 zo 1 16 (.len (.tmp 15)),
 zo 2 17 (.mv (zi 0))])
 (.block 0
 (.loop
 (.seq (.reg [zo 0 18 (.bin .lss 3 false (.tmp 17) (.tmp 16))])
 (.seq (.cond (.tmp 18)
 (.skip)
 (.exit 0))
 (.seq (.block 1
 (.seq (.reg [zo 0 19 (.idxA none 1 (.tmp 15) (.tmp 17)),
 zl 1 20 19,
 zm 2 8 20])
 (.seq (.reg [zm 0 22 8,
 zo 1 23 (.call 119 [(.tmp 22)]),
 zm 2 21 23,
 zo 3 24 (.ext (.tmp 21) 0),
 zo 4 25 (.ext (.tmp 21) 1),
 zm 5 9 24,
 zm 6 10 25])
 (.seq (.seq (.reg [zm 0 26 10,
 zo 1 27 (.bin .neq 27 true (.tmp 26) (zi 0))])
 (.cond (.tmp 27)
 (.seq (.reg [zo 0 4 (.mv (.con (.slice none 0 0))),
 zo 1 5 (.mv (.con (.bool false)))])
 (.ret))
 (.skip)))
 (.reg [zm 0 28 6,
 zm 1 29 9,
 zo 2 30 (.bslice 1 1 [(.int .i64 0)] [(0,1,(.tmp 29))]),
 zo 3 31 (.append 1 8 (.tmp 28) (.tmp 30)),
 zm 4 6 31])))))
 (.reg [zo 0 32 (.bin .add 3 true (.tmp 17) (zi 1)),
 zm 1 17 32])))))))
 (.seq (.reg [zm 0 33 6,
 zm 1 4 33,
 zo 2 5 (.mv (.con (.bool true)))])
 (.ret))))),
 [.tmp 4,.tmp 5]⟩
theorem p_code_numbers : PR Go.Proofs.Tryz.f98 = some v_code_numbers:=by kernel_rfl

def v_strings_CutPrefix : VFun :=
⟨.seq (.reg [zo 0 4 (.mv (.con (.string ⟨#[]⟩))),
 zo 1 5 (.mv (.con (.bool false)))])
 (.seq (.reg [zm 0 6 0,
 zm 1 7 1,
 zo 2 8 (.call 120 [(.tmp 6),(.tmp 7)]),
 zo 3 9 (.ext (.tmp 8) 0),
 zo 4 10 (.ext (.tmp 8) 1),
 zm 5 4 9,
 zm 6 5 10])
 (.ret)),
 [.tmp 4,.tmp 5]⟩
theorem p_strings_CutPrefix : PR Go.Proofs.Tryz.f99 = some v_strings_CutPrefix:=by kernel_rfl

def v_code_readEnd : VFun :=
⟨.seq (.reg [zo 0 2 (.alloc [(.int .i64 0),(.int .i64 0),(.int .i64 0),(.int .i64 0)]),
 zo 1 3 (.mv (.con (.bool false)))])
 (.seq (.seq (.reg [zo 0 9 (.load (some 8) (.glo 1)),
 zo 1 10 (.mv (zi 0))])
 (.block 0
 (.loop
 (.seq (.reg [zo 0 11 (.bin .lss 3 true (.tmp 10) (zi 4))])
 (.seq (.cond (.tmp 11)
 (.skip)
 (.exit 0))
 (.seq (.block 1
 (.seq (.reg [zm 0 12 10,
 zo 1 13 (.idx 4 (some 2) 2 (.tmp 9) (.tmp 10)),
 zo 2 5 (.alloc [(.string ⟨#[]⟩),(.int .i64 0)]),
 zm 3 4 12,
 zn 4 (.store 2 (.tmp 5) (.tmp 13))])
 (.seq (.reg [zm 0 15 0,
 zf 1 16 0 5,
 zl 2 17 16,
 zf 3 18 1 5,
 zl 4 19 18,
 zo 5 20 (.call 78 [(.tmp 15),(.tmp 17),(.tmp 19)]),
 zm 6 14 20,
 zo 7 21 (.ext (.tmp 14) 0),
 zo 8 22 (.ext (.tmp 14) 1),
 zm 9 6 21,
 zm 10 7 22])
 (.seq (.seq (.reg [zm 0 23 7,
 zo 1 24 (.un .not (.tmp 23))])
 (.cond (.tmp 24)
 (.exit 1)
 (.skip)))
 (.seq (.reg [zm 0 25 4,
 zo 1 26 (.bin .add 3 true (.tmp 25) (zi 1)),
 zo 2 27 (.build [(.int .i64 0),(.int .i64 0),(.int .i64 0),(.int .i64 0)] [(0,1,(.tmp 26))]),
 zo 3 8 (.alloc [(.int .i64 0),(.int .i64 0),(.int .i64 0),(.int .i64 0)]),
 zn 4 (.store 4 (.tmp 8) (.tmp 27))])
 (.seq (.seq (.reg [zf 0 28 0 8,
 zl 1 29 28,
 zo 2 30 (.bin .eql 3 true (.tmp 29) (zi 1))])
 (.cond (.tmp 30)
 (.seq (.reg [zm 0 31 6,
 zo 1 32 (.idxA none 1 (.tmp 31) (zi 0)),
 zl 2 33 32,
 zf 3 34 2 8,
 zn 4 (.store 1 (.tmp 34) (.tmp 33))])
 (.seq (.reg [zo 0 35 (.load (some 4) (.tmp 8)),
 zn 1 (.store 4 (.tmp 2) (.tmp 35)),
 zo 2 3 (.mv (.con (.bool true)))])
 (.ret)))
 (.skip)))
 (.seq (.reg [zm 0 36 6,
 zo 1 37 (.idxA none 1 (.tmp 36) (zi 0)),
 zl 2 38 37,
 zf 3 39 1 8,
 zn 4 (.store 1 (.tmp 39) (.tmp 38))])
 (.seq (.seq (.reg [zf 0 40 0 8,
 zl 1 41 40,
 zo 2 42 (.bin .eql 3 true (.tmp 41) (zi 2))])
 (.cond (.tmp 42)
 (.reg [zm 0 43 6,
 zo 1 44 (.idxA none 1 (.tmp 43) (zi 1)),
 zl 2 45 44,
 zm 3 46 6,
 zo 4 47 (.idxA none 1 (.tmp 46) (zi 2)),
 zl 5 48 47,
 zf 6 49 2 8,
 ⟨7,none,.store 1 (.tmp 49) (.tmp 45),none,[(.tmp 47)]⟩,
 zf 8 50 3 8,
 zn 9 (.store 1 (.tmp 50) (.tmp 48))])
 (.skip)))
 (.seq (.reg [zo 0 51 (.load (some 4) (.tmp 8)),
 zn 1 (.store 4 (.tmp 2) (.tmp 51)),
 zo 2 3 (.mv (.con (.bool true)))])
 (.ret))))))))))
 (.reg [zo 0 52 (.bin .add 3 true (.tmp 10) (zi 1)),
 zm 1 10 52])))))))
 (.seq (.reg [zo 0 53 (.build [(.int .i64 0),(.int .i64 0),(.int .i64 0),(.int .i64 0)] []),
 zn 1 (.store 4 (.tmp 2) (.tmp 53)),
 zo 2 3 (.mv (.con (.bool false)))])
 (.ret))),
 [.cell 2 (some 4),.tmp 3]⟩
theorem p_code_readEnd : PR Go.Proofs.Tryz.f100 = some v_code_readEnd:=by kernel_rfl

def v_code_readOp : VFun :=
⟨.seq (.reg [zo 0 2 (.alloc [(.int .i64 0),(.int .i64 0),(.int .i64 0),(.int .i64 0),(.int .i64 0),(.int .i64 0),(.int .i64 0)]),
 zo 1 3 (.mv (.con (.bool false)))])
 (.seq (.reg [zo 0 21 (.build [(.int .i64 0),(.int .i64 0),(.int .i64 0),(.int .i64 0),(.int .i64 0),(.int .i64 0),(.int .i64 0)] [(6,1,(zi (-1)))]),
 zo 1 4 (.alloc [(.int .i64 0),(.int .i64 0),(.int .i64 0),(.int .i64 0),(.int .i64 0),(.int .i64 0),(.int .i64 0)]),
 zn 2 (.store 7 (.tmp 4) (.tmp 21))])
 (.seq (.reg [zm 0 22 0,
 zo 1 23 (.call 47 [(.tmp 22),(.con (.string ⟨#[32]⟩))]),
 zo 2 5 (.alloc [(.slice none 0 0)]),
 zn 3 (.store 1 (.tmp 5) (.tmp 23))])
 (.seq (.seq (.reg [zl 0 24 5,
 zo 1 25 (.idxA none 1 (.tmp 24) (zi 0)),
 zl 2 26 25,
 zo 3 27 (.bin .eql 9 true (.tmp 26) (.con (.string ⟨#[63]⟩))),
 zm 4 28 27,
 zg 5 29 (.load none (.tmp 5)) 28 true,
 zg 6 30 (.len (.tmp 29)) 28 true,
 zg 7 31 (.bin .gtr 3 true (.tmp 30) (zi 2)) 28 true,
 zo 8 32 (.pick (.tmp 28) (.tmp 31) (.con (.bool false)))])
 (.cond (.tmp 32)
 (.seq (.reg [zl 0 34 5,
 zo 1 35 (.slice none 1 (.tmp 34) (some (zi 1)) (some (zi 2)) none),
 zo 2 36 (.call 98 [(.tmp 35),(zi 1)]),
 zm 3 33 36,
 zo 4 37 (.ext (.tmp 33) 0),
 zo 5 38 (.ext (.tmp 33) 1),
 zm 6 6 37,
 zm 7 7 38])
 (.seq (.seq (.reg [zm 0 39 7,
 zo 1 40 (.un .not (.tmp 39)),
 zm 2 41 40,
 zg 3 42 (.mv (.tmp 6)) 41 false,
 zg 4 43 (.idxA none 1 (.tmp 42) (zi 0)) 41 false,
 zg 5 44 (.load none (.tmp 43)) 41 false,
 zg 6 45 (.bin .eql 2 true (.tmp 44) (zi (-1))) 41 false,
 zo 7 46 (.pick (.tmp 41) (.con (.bool true)) (.tmp 45))])
 (.cond (.tmp 46)
 (.seq (.reg [zo 0 47 (.load (some 7) (.tmp 4)),
 zn 1 (.store 7 (.tmp 2) (.tmp 47)),
 zo 2 3 (.mv (.con (.bool false)))])
 (.ret))
 (.skip)))
 (.reg [zm 0 48 6,
 zo 1 49 (.idxA none 1 (.tmp 48) (zi 0)),
 zl 2 50 49,
 zl 3 51 5,
 zo 4 52 (.slice none 1 (.tmp 51) (some (zi 2)) none none),
 zf 5 53 6 4,
 ⟨6,none,.store 1 (.tmp 53) (.tmp 50),none,[(.tmp 5)]⟩,
 zn 7 (.store 1 (.tmp 5) (.tmp 52))])))
 (.skip)))
 (.seq (.reg [zl 0 54 5,
 zo 1 55 (.len (.tmp 54)),
 zo 2 56 (.bin .gtr 3 true (.tmp 55) (zi 2)),
 zm 3 57 56,
 zg 4 58 (.load none (.tmp 5)) 57 true,
 zg 5 59 (.idxA none 1 (.tmp 58) (zi 1)) 57 true,
 zg 6 60 (.load none (.tmp 59)) 57 true,
 zg 7 61 (.bin .eql 9 true (.tmp 60) (.con (.string ⟨#[61]⟩))) 57 true,
 zo 8 62 (.pick (.tmp 57) (.tmp 61) (.con (.bool false))),
 zm 9 8 62])
 (.seq (.seq (.reg [zm 0 63 8])
 (.cond (.tmp 63)
 (.seq (.reg [zl 0 65 5,
 zo 1 66 (.slice none 1 (.tmp 65) none (some (zi 1)) none),
 zo 2 67 (.call 98 [(.tmp 66),(zi 1)]),
 zm 3 64 67,
 zo 4 68 (.ext (.tmp 64) 0),
 zo 5 69 (.ext (.tmp 64) 1),
 zm 6 9 68,
 zm 7 10 69])
 (.seq (.seq (.reg [zm 0 70 10,
 zo 1 71 (.un .not (.tmp 70))])
 (.cond (.tmp 71)
 (.seq (.reg [zo 0 72 (.load (some 7) (.tmp 4)),
 zn 1 (.store 7 (.tmp 2) (.tmp 72)),
 zo 2 3 (.mv (.con (.bool false)))])
 (.ret))
 (.skip)))
 (.reg [zm 0 73 9,
 zo 1 74 (.idxA none 1 (.tmp 73) (zi 0)),
 zl 2 75 74,
 zl 3 76 5,
 zo 4 77 (.slice none 1 (.tmp 76) (some (zi 2)) none none),
 zf 5 78 1 4,
 ⟨6,none,.store 1 (.tmp 78) (.tmp 75),none,[(.tmp 5)]⟩,
 zn 7 (.store 1 (.tmp 5) (.tmp 77))])))
 (.skip)))
 (.seq (.reg [zo 0 79 (.slice (some 25) 3 (.glo 0) none none none),
 zo 1 80 (.mkfn 122 [] [(.tmp 5)]),
 zo 2 81 (.call 121 [(.tmp 79),(.tmp 80)]),
 zm 3 11 81])
 (.seq (.seq (.reg [zm 0 82 11,
 zo 1 83 (.bin .lss 3 true (.tmp 82) (zi 0))])
 (.cond (.tmp 83)
 (.seq (.reg [zo 0 84 (.load (some 7) (.tmp 4)),
 zn 1 (.store 7 (.tmp 2) (.tmp 84)),
 zo 2 3 (.mv (.con (.bool false)))])
 (.ret))
 (.skip)))
 (.seq (.reg [zm 0 85 11,
 zo 1 86 (.idxA (some 25) 3 (.glo 0) (.tmp 85)),
 zo 2 87 (.load (some 3) (.tmp 86)),
 zo 3 12 (.alloc [(.int .i64 0),(.int .i64 0),(.string ⟨#[]⟩)]),
 zn 4 (.store 3 (.tmp 12) (.tmp 87))])
 (.seq (.reg [zm 0 88 11,
 zo 1 89 (.bin .add 3 true (.tmp 88) (zi 1)),
 zf 2 90 0 4,
 zn 3 (.store 1 (.tmp 90) (.tmp 89))])
 (.seq (.seq (.reg [zm 0 91 8,
 zf 1 92 0 12,
 zl 2 93 92,
 zo 3 94 (.bin .and 3 true (.tmp 93) (zi 1)),
 zo 4 95 (.bin .neq 3 true (.tmp 94) (zi 0)),
 zo 5 96 (.bin .neq 4 false (.tmp 91) (.tmp 95))])
 (.cond (.tmp 96)
 (.seq (.reg [zo 0 97 (.load (some 7) (.tmp 4)),
 zn 1 (.store 7 (.tmp 2) (.tmp 97)),
 zo 2 3 (.mv (.con (.bool false)))])
 (.ret))
 (.skip)))
 (.seq (.reg [zo 0 13 (.mv (.con (.slice none 0 0)))])
 (.seq (.seq (.reg [zf 0 98 2 4,
 zf 1 99 3 4,
 zf 2 100 4 4,
 zo 3 101 (.build [(.pointer none),(.pointer none),(.pointer none)] [(0,1,(.tmp 98)),(1,1,(.tmp 99)),(2,1,(.tmp 100))]),
 zo 4 102 (.mv (zi 0))])
 (.block 0
 (.loop
 (.seq (.reg [zo 0 103 (.bin .lss 3 true (.tmp 102) (zi 3))])
 (.seq (.cond (.tmp 103)
 (.skip)
 (.exit 0))
 (.seq (.block 1
 (.seq (.reg [zm 0 104 102,
 zo 1 105 (.idx 3 none 1 (.tmp 101) (.tmp 102)),
 zm 2 14 104,
 zm 3 15 105])
 (.seq (.reg [zf 0 106 0 12,
 zl 1 107 106,
 zm 2 108 14,
 zo 3 109 (.bin .shl 3 true (zi 2) (.tmp 108)),
 zo 4 110 (.bin .and 3 false (.tmp 107) (.tmp 109)),
 zo 5 111 (.bin .neq 3 true (.tmp 110) (zi 0))])
 (.cond (.tmp 111)
 (.reg [zm 0 112 13,
 zm 1 113 15,
 zo 2 114 (.bslice 1 1 [(.pointer none)] [(0,1,(.tmp 113))]),
 zo 3 115 (.append 1 8 (.tmp 112) (.tmp 114)),
 zm 4 13 115])
 (.skip)))))
 (.reg [zo 0 116 (.bin .add 3 true (.tmp 102) (zi 1)),
 zm 1 102 116])))))))
 (.seq (.reg [zm 0 117 13,
 zo 1 118 (.len (.tmp 117)),
 zm 2 16 118])
 (.seq (.seq (.reg [zf 0 119 0 12,
 zl 1 120 119,
 zo 2 121 (.bin .and 3 true (.tmp 120) (zi 240)),
 zo 3 122 (.bin .neq 3 true (.tmp 121) (zi 0))])
 (.cond (.tmp 122)
 (.reg [zm 0 123 16,
 zo 1 124 (.bin .add 3 true (.tmp 123) (zi 1)),
 zm 2 16 124])
 (.skip)))
 (.seq (.reg [zl 0 126 5,
 zo 1 127 (.slice none 1 (.tmp 126) (some (zi 1)) none none),
 zm 2 128 16,
 zo 3 129 (.call 98 [(.tmp 127),(.tmp 128)]),
 zm 4 125 129,
 zo 5 130 (.ext (.tmp 125) 0),
 zo 6 131 (.ext (.tmp 125) 1),
 zm 7 17 130,
 zm 8 18 131])
 (.seq (.seq (.reg [zm 0 132 18,
 zo 1 133 (.un .not (.tmp 132))])
 (.cond (.tmp 133)
 (.seq (.reg [zo 0 134 (.load (some 7) (.tmp 4)),
 zn 1 (.store 7 (.tmp 2) (.tmp 134)),
 zo 2 3 (.mv (.con (.bool false)))])
 (.ret))
 (.skip)))
 (.seq (.seq (.reg [zm 0 135 13,
 zo 1 136 (.len (.tmp 135)),
 zo 2 137 (.mv (zi 0))])
 (.block 2
 (.loop
 (.seq (.reg [zo 0 138 (.bin .lss 3 false (.tmp 137) (.tmp 136))])
 (.seq (.cond (.tmp 138)
 (.skip)
 (.exit 2))
 (.seq (.block 3
 (.seq (.reg [zm 0 139 137,
 zo 1 140 (.idxA none 1 (.tmp 135) (.tmp 137)),
 zl 2 141 140,
 zm 3 19 139,
 zm 4 20 141])
 (.reg [zm 0 142 20,
 zm 1 143 17,
 zm 2 144 19,
 zo 3 145 (.idxA none 1 (.tmp 143) (.tmp 144)),
 zl 4 146 145,
 zo 5 147 (.nilck (.tmp 142)),
 zn 6 (.store 1 (.tmp 147) (.tmp 146))])))
 (.reg [zo 0 148 (.bin .add 3 true (.tmp 137) (zi 1)),
 zm 1 137 148])))))))
 (.seq (.seq (.reg [zm 0 149 16,
 zm 1 150 13,
 zo 2 151 (.len (.tmp 150)),
 zo 3 152 (.bin .gtr 3 false (.tmp 149) (.tmp 151))])
 (.cond (.tmp 152)
 (.reg [zm 0 153 17,
 zm 1 154 16,
 zo 2 155 (.bin .sub 3 true (.tmp 154) (zi 1)),
 zo 3 156 (.idxA none 1 (.tmp 153) (.tmp 155)),
 zl 4 157 156,
 zf 5 158 5 4,
 zn 6 (.store 1 (.tmp 158) (.tmp 157))])
 (.skip)))
 (.seq (.reg [zo 0 159 (.load (some 7) (.tmp 4)),
 zn 1 (.store 7 (.tmp 2) (.tmp 159)),
 zo 2 3 (.mv (.con (.bool true)))])
 (.ret)))))))))))))))))))),
 [.cell 2 (some 7),.tmp 3]⟩
theorem p_code_readOp : PR Go.Proofs.Tryz.f101 = some v_code_readOp:=by kernel_rfl

end Go.VX.Seat
end
section
set_option maxRecDepth 20000
namespace Go.VX.Seat
def v102u : VFun :=
⟨.seq (.reg [zo 0 4 (.mv (.con (.slice none 0 0)))])
 (.seq (.reg [zm 0 10 0,
 zo 1 11 (.call 123 [10]),
 zm 2 5 11])
 (.seq (.seq (.reg [zm 0 12 1,
 zo 1 13 (.bin .lss 3 true 12 (zi 0)),
 zm 2 14 13,
 zg 3 15 (.mv 1) 14 false,
 zg 4 16 (.mv 5) 14 false,
 zg 5 17 (.bin .gtr 3 false 15 16) 14 false,
 zo 6 18 (.pick 14 (.con (.bool true)) 17)])
 (.cond 18
 (.reg [zm 0 19 5,
 zm 1 1 19])
 (.skip)))
 (.seq (.reg [zm 0 20 1,
 zo 1 21 (.mksl 1 16 [(.string ⟨#[]⟩)] 20 20),
 zm 2 6 21])
 (.seq (.seq (.reg [zo 0 7 (.mv (zi 0))])
 (.block 0
 (.loop
 (.seq (.seq (.reg [zm 0 22 7,
 zm 1 23 1,
 zo 2 24 (.bin .sub 3 true 23 (zi 1)),
 zo 3 25 (.bin .lss 3 false 22 24)])
 (.cond 25
 (.skip)
 (.exit 0)))
 (.seq (.block 1
 (.seq (.reg [zm 0 29 0,
 zo 1 30 (.call 124 [29]),
 zm 2 28 30,
 zo 3 31 (.ext 28 0),
 zo 4 32 (.ext 28 1),
 zm 5 8 31,
 zm 6 9 32])
 (.seq (.reg [zm 0 33 6,
 zm 1 34 7,
 zm 2 35 0,
 zm 3 36 9,
 zo 4 37 (.slS 9 35 none (some 36)),
 zo 5 38 (.idxA none 1 33 34),
 zn 6 (.store 1 38 37)])
 (.reg [zm 0 39 0,
 zm 1 40 9,
 zo 2 41 (.slS 9 39 (some 40) none),
 zm 3 0 41]))))
 (.reg [zm 0 26 7,
 zo 1 27 (.bin .add 3 true 26 (zi 1)),
 zm 2 7 27]))))))
 (.seq (.seq (.reg [zm 0 42 1,
 zo 1 43 (.bin .gtr 3 true 42 (zi 0))])
 (.cond 43
 (.reg [zm 0 44 6,
 zm 1 45 1,
 zo 2 46 (.bin .sub 3 true 45 (zi 1)),
 zm 3 47 0,
 zo 4 48 (.idxA none 1 44 46),
 zn 5 (.store 1 48 47)])
 (.skip)))
 (.seq (.reg [zm 0 49 6,
 zm 1 4 49])
 (.ret))))))),
 [.tmp 4]⟩
theorem p102u : PR Go.Proofs.Tryz.f102 = some v102u:=by kernel_rfl

def v_strings_Count : VFun :=
⟨.seq (.reg [zo 0 4 (.mv (zi 0))])
 (.seq (.seq (.reg [zm 0 7 1,
 zo 1 8 (.bi .len [9] 3 [(.tmp 7)]),
 zo 2 9 (.bin .eql 3 true (.tmp 8) (zi 0))])
 (.cond (.tmp 9)
 (.seq (.reg [zm 0 10 0,
 zo 1 11 (.call 123 [(.tmp 10)]),
 zo 2 12 (.bin .add 3 true (.tmp 11) (zi 1)),
 zm 3 4 12])
 (.ret))
 (.skip)))
 (.seq (.seq (.reg [zm 0 13 1,
 zo 1 14 (.bi .len [9] 3 [(.tmp 13)]),
 zo 2 15 (.bin .eql 3 true (.tmp 14) (zi 1))])
 (.cond (.tmp 15)
 (.seq (.reg [zm 0 16 0,
 zm 1 17 1,
 zo 2 18 (.idxS 9 (.tmp 17) (zi 0)),
 zo 3 19 (.call 125 [(.tmp 16),(.tmp 18)]),
 zm 4 4 19])
 (.ret))
 (.skip)))
 (.seq (.reg [zo 0 5 (.mv (zi 0))])
 (.block 0
 (.loop
 (.block 1
 (.seq (.reg [zm 0 20 0,
 zm 1 21 1,
 zo 2 22 (.call 104 [(.tmp 20),(.tmp 21)]),
 zm 3 6 22])
 (.seq (.seq (.reg [zm 0 23 6,
 zo 1 24 (.bin .eql 3 true (.tmp 23) (zi (-1)))])
 (.cond (.tmp 24)
 (.seq (.reg [zm 0 25 5,
 zm 1 4 25])
 (.ret))
 (.skip)))
 (.seq (.reg [zm 0 26 5,
 zo 1 27 (.bin .add 3 true (.tmp 26) (zi 1)),
 zm 2 5 27])
 (.reg [zm 0 28 0,
 zm 1 29 6,
 zm 2 30 1,
 zo 3 31 (.bi .len [9] 3 [(.tmp 30)]),
 zo 4 32 (.bin .add 3 false (.tmp 29) (.tmp 31)),
 zo 5 33 (.slS 9 (.tmp 28) (some (.tmp 32)) none),
 zm 6 0 33])))))))))),
 [.tmp 4]⟩
theorem p_strings_Count : PR Go.Proofs.Tryz.f103 = some v_strings_Count:=by kernel_rfl

def v_strings_Index : VFun :=
⟨.seq (.reg [zo 0 4 (.mv (zi 0))])
 (.seq (.reg [zm 0 5 0,
 zm 1 6 1,
 zo 2 7 (.call 126 [(.tmp 5),(.tmp 6)]),
 zm 3 4 7])
 (.ret)),
 [.tmp 4]⟩
theorem p_strings_Index : PR Go.Proofs.Tryz.f104 = some v_strings_Index:=by kernel_rfl

def v_r07_numbers : VFun :=
⟨.seq (.reg [zo 0 4 (.mv (.con (.slice none 0 0))),
 zo 1 5 (.mv (.con (.bool false)))])
 (.seq (.reg [zo 0 6 (.mv (.con (.slice none 0 0)))])
 (.seq (.seq (.reg [zm 0 10 0,
 zo 1 11 (.len (.tmp 10)),
 zm 2 12 1,
 zo 3 13 (.bin .neq 3 false (.tmp 11) (.tmp 12))])
 (.cond (.tmp 13)
 (.seq (.reg [zo 0 4 (.mv (.con (.slice none 0 0))),
 zo 1 5 (.mv (.con (.bool false)))])
 (.ret))
 (.skip)))
 (.seq (.seq (.reg [zo 0 7 (.mv (zi 0))])
 (.block 0
 (.loop
 (.seq (.seq (.reg [zm 0 14 7,
 zm 1 15 0,
 zo 2 16 (.len (.tmp 15)),
 zo 3 17 (.bin .lss 3 false (.tmp 14) (.tmp 16))])
 (.cond (.tmp 17)
 (.skip)
 (.exit 0)))
 (.seq (.block 1
 (.seq (.reg [zm 0 21 0,
 zm 1 22 7,
 zo 2 23 (.idxA none 1 (.tmp 21) (.tmp 22)),
 zl 3 24 23,
 zo 4 25 (.call 107 [(.tmp 24)]),
 zm 5 20 25,
 zo 6 26 (.ext (.tmp 20) 0),
 zo 7 27 (.ext (.tmp 20) 1),
 zm 8 8 26,
 zm 9 9 27])
 (.seq (.seq (.reg [zm 0 28 9,
 zo 1 29 (.un .not (.tmp 28))])
 (.cond (.tmp 29)
 (.seq (.reg [zo 0 4 (.mv (.con (.slice none 0 0))),
 zo 1 5 (.mv (.con (.bool false)))])
 (.ret))
 (.skip)))
 (.reg [zm 0 30 6,
 zm 1 31 8,
 zo 2 32 (.bslice 1 1 [(.int .i64 0)] [(0,1,(.tmp 31))]),
 zo 3 33 (.append 1 8 (.tmp 30) (.tmp 32)),
 zm 4 6 33]))))
 (.reg [zm 0 18 7,
 zo 1 19 (.bin .add 3 true (.tmp 18) (zi 1)),
 zm 2 7 19]))))))
 (.seq (.reg [zm 0 34 6,
 zm 1 4 34,
 zo 2 5 (.mv (.con (.bool true)))])
 (.ret))))),
 [.tmp 4,.tmp 5]⟩
theorem p_r07_numbers : PR Go.Proofs.Tryz.f105 = some v_r07_numbers:=by kernel_rfl

def v_internal_stringslite_HasPrefix : VFun :=
⟨.seq (.reg [zo 0 4 (.mv (.con (.bool false)))])
 (.seq (.reg [zm 0 5 0,
 zo 1 6 (.bi .len [9] 3 [(.tmp 5)]),
 zm 2 7 1,
 zo 3 8 (.bi .len [9] 3 [(.tmp 7)]),
 zo 4 9 (.bin .geq 3 false (.tmp 6) (.tmp 8)),
 zm 5 10 9,
 zg 6 11 (.mv (.tmp 0)) 10 true,
 zg 7 12 (.mv (.tmp 1)) 10 true,
 zg 8 13 (.bi .len [9] 3 [(.tmp 12)]) 10 true,
 zg 9 14 (.slS 9 (.tmp 11) none (some (.tmp 13))) 10 true,
 zg 10 15 (.mv (.tmp 1)) 10 true,
 zg 11 16 (.bin .eql 9 false (.tmp 14) (.tmp 15)) 10 true,
 zo 12 17 (.pick (.tmp 10) (.tmp 16) (.con (.bool false))),
 zm 13 4 17])
 (.ret)),
 [.tmp 4]⟩
theorem p_internal_stringslite_HasPrefix : PR Go.Proofs.Tryz.f106 = some v_internal_stringslite_HasPrefix:=by kernel_rfl

def v_r01_Read : VFun :=
⟨.seq (.reg [zo 0 2 (.mv (zi 0)),
 zo 1 3 (.mv (.con (.bool false)))])
 (.seq (.reg [zm 0 8 0,
 zm 1 4 8,
 zo 2 5 (.mv (zi (-1)))])
 (.seq (.seq (.reg [zm 0 9 0,
 zo 1 10 (.bi .len [9] 3 [(.tmp 9)]),
 zo 2 11 (.bin .gtr 3 true (.tmp 10) (zi 0)),
 zm 3 12 11,
 zg 4 13 (.mv (.tmp 0)) 12 true,
 zg 5 14 (.idxS 9 (.tmp 13) (zi 0)) 12 true,
 zg 6 15 (.bin .eql 5 true (.tmp 14) (.con (.int .u8 45))) 12 true,
 zo 7 16 (.pick (.tmp 12) (.tmp 15) (.con (.bool false)))])
 (.cond (.tmp 16)
 (.seq (.reg [zm 0 17 0,
 zo 1 18 (.slS 9 (.tmp 17) (some (zi 1)) none),
 zm 2 4 18])
 (.reg [zo 0 5 (.mv (zi 1))]))
 (.skip)))
 (.seq (.reg [zo 0 6 (.mv (zi 0))])
 (.seq (.seq (.reg [zo 0 7 (.mv (zi 0))])
 (.block 0
 (.loop
 (.seq (.seq (.reg [zm 0 19 7,
 zm 1 20 4,
 zo 2 21 (.bi .len [9] 3 [(.tmp 20)]),
 zo 3 22 (.bin .lss 3 false (.tmp 19) (.tmp 21))])
 (.cond (.tmp 22)
 (.skip)
 (.exit 0)))
 (.seq (.block 1
 (.seq (.seq (.reg [zm 0 25 4,
 zm 1 26 7,
 zo 2 27 (.idxS 9 (.tmp 25) (.tmp 26)),
 zo 3 28 (.bin .lss 5 true (.tmp 27) (.con (.int .u8 48))),
 zm 4 29 28,
 zg 5 30 (.mv (.tmp 4)) 29 false,
 zg 6 31 (.mv (.tmp 7)) 29 false,
 zg 7 32 (.idxS 9 (.tmp 30) (.tmp 31)) 29 false,
 zg 8 33 (.bin .gtr 5 true (.tmp 32) (.con (.int .u8 57))) 29 false,
 zo 9 34 (.pick (.tmp 29) (.con (.bool true)) (.tmp 33)),
 zm 10 35 34,
 zg 11 36 (.mv (.tmp 7)) 35 false,
 zg 12 37 (.bin .geq 3 true (.tmp 36) (zi 19)) 35 false,
 zo 13 38 (.pick (.tmp 35) (.con (.bool true)) (.tmp 37))])
 (.cond (.tmp 38)
 (.seq (.reg [zo 0 2 (.mv (zi 0)),
 zo 1 3 (.mv (.con (.bool false)))])
 (.ret))
 (.skip)))
 (.reg [zm 0 39 6,
 zo 1 40 (.bin .mul 2 true (zi 10) (.tmp 39)),
 zm 2 41 4,
 zm 3 42 7,
 zo 4 43 (.idxS 9 (.tmp 41) (.tmp 42)),
 zo 5 44 (.bin .sub 5 true (.tmp 43) (.con (.int .u8 48))),
 zo 6 45 (.conv 5 2 (.tmp 44)),
 zo 7 46 (.bin .sub 2 false (.tmp 40) (.tmp 45)),
 zm 8 6 46])))
 (.reg [zm 0 23 7,
 zo 1 24 (.bin .add 3 true (.tmp 23) (zi 1)),
 zm 2 7 24]))))))
 (.seq (.reg [zm 0 47 6,
 zm 1 48 5,
 zo 2 49 (.bin .mul 2 false (.tmp 47) (.tmp 48)),
 zm 3 6 49])
 (.seq (.seq (.reg [zm 0 50 6,
 zo 1 51 (.call 76 [(.tmp 50)]),
 zm 2 52 0,
 zo 3 53 (.bin .neq 9 false (.tmp 51) (.tmp 52))])
 (.cond (.tmp 53)
 (.seq (.reg [zo 0 2 (.mv (zi 0)),
 zo 1 3 (.mv (.con (.bool false)))])
 (.ret))
 (.skip)))
 (.seq (.reg [zm 0 54 6,
 zm 1 2 54,
 zo 2 3 (.mv (.con (.bool true)))])
 (.ret)))))))),
 [.tmp 2,.tmp 3]⟩
theorem p_r01_Read : PR Go.Proofs.Tryz.f107 = some v_r01_Read:=by kernel_rfl

def v_code_checker_must : VFun :=
⟨.seq (.reg [zm 0 6 1,
 zo 1 7 (.un .not (.tmp 6))])
 (.cond (.tmp 7)
 (.reg [zm 0 8 0,
 zo 1 9 (.nilck (.tmp 8)),
 zf 2 10 6 9,
 zl 3 11 10,
 zm 4 12 0,
 zo 5 13 (.nilck (.tmp 12)),
 zf 6 14 7 13,
 zl 7 15 14,
 zm 8 16 2,
 zo 9 17 (.build [(.int .i64 0),(.int .i64 0),(.int .i64 0)] [(0,1,(.tmp 11)),(1,1,(.tmp 15)),(2,1,(.tmp 16))]),
 zo 10 18 (.mkif 103 (.tmp 17)),
 zn 11 (.panic (.tmp 18))])
 (.skip)),
 []⟩
theorem p_code_checker_must : PR Go.Proofs.Tryz.f108 = some v_code_checker_must:=by kernel_rfl

def v_slices_ContainsFunc_int : VFun :=
⟨.seq (.reg [zo 0 4 (.mv (.con (.bool false)))])
 (.seq (.reg [zm 0 5 0,
 zm 1 6 1,
 zo 2 7 (.call 127 [(.tmp 5),(.tmp 6)]),
 zo 3 8 (.bin .geq 3 true (.tmp 7) (zi 0)),
 zm 4 4 8])
 (.ret)),
 [.tmp 4]⟩
theorem p_slices_ContainsFunc_int : PR Go.Proofs.Tryz.f109 = some v_slices_ContainsFunc_int:=by kernel_rfl

def v_code_checker_unit_c1 : VFun :=
⟨.seq (.reg [zo 0 2 (.mv (.con (.bool false)))])
 (.seq (.reg [zm 0 3 0,
 zo 1 4 (.bin .lss 3 true (.tmp 3) (zi 1)),
 zm 2 5 4,
 zg 3 6 (.mv (.tmp 0)) 5 false,
 zg 4 7 (.bin .gtr 3 true (.tmp 6) (zi 65536)) 5 false,
 zo 5 8 (.pick (.tmp 5) (.con (.bool true)) (.tmp 7)),
 zm 6 2 8])
 (.ret)),
 [.tmp 2]⟩
theorem p_code_checker_unit_c1 : PR Go.Proofs.Tryz.f110 = some v_code_checker_unit_c1:=by kernel_rfl

def v_code_checker_op : VFun :=
⟨.seq (.reg [zo 0 3 (.box (.tmp 1))])
 (.seq (.reg [zf 0 9 0 3,
 zl 1 10 9,
 zo 2 11 (.call 55 [(.tmp 10)]),
 zm 3 8 11,
 zo 4 12 (.ext (.tmp 8) 0),
 zo 5 13 (.ext (.tmp 8) 1),
 zo 6 4 (.alloc [(.int .i64 0),(.int .i64 0),(.string ⟨#[]⟩)]),
 zn 7 (.store 3 (.tmp 4) (.tmp 12)),
 zm 8 5 13])
 (.seq (.reg [zm 0 14 0,
 zm 1 15 5,
 zo 2 16 (.call 108 [(.tmp 14),(.tmp 15),(zi 4)])])
 (.seq (.reg [zm 0 17 0,
 zf 1 18 1 3,
 zl 2 19 18,
 zf 3 20 0 4,
 zl 4 21 20,
 zo 5 22 (.bin .and 3 true (.tmp 21) (zi 1)),
 zo 6 23 (.bin .neq 3 true (.tmp 22) (zi 0)),
 zo 7 24 (.call 128 [(.tmp 17),(.tmp 19),(.tmp 23)])])
 (.seq (.reg [zm 0 25 0,
 zf 1 26 2 3,
 zl 2 27 26,
 zf 3 28 0 4,
 zl 4 29 28,
 zo 5 30 (.bin .and 3 true (.tmp 29) (zi 2)),
 zo 6 31 (.bin .neq 3 true (.tmp 30) (zi 0)),
 zo 7 32 (.call 128 [(.tmp 25),(.tmp 27),(.tmp 31)])])
 (.seq (.reg [zm 0 33 0,
 zf 1 34 3 3,
 zl 2 35 34,
 zf 3 36 0 4,
 zl 4 37 36,
 zo 5 38 (.bin .and 3 true (.tmp 37) (zi 4)),
 zo 6 39 (.bin .neq 3 true (.tmp 38) (zi 0)),
 zo 7 40 (.call 128 [(.tmp 33),(.tmp 35),(.tmp 39)])])
 (.seq (.reg [zm 0 41 0,
 zf 1 42 4 3,
 zl 2 43 42,
 zf 3 44 0 4,
 zl 4 45 44,
 zo 5 46 (.bin .and 3 true (.tmp 45) (zi 8)),
 zo 6 47 (.bin .neq 3 true (.tmp 46) (zi 0)),
 zo 7 48 (.call 128 [(.tmp 41),(.tmp 43),(.tmp 47)])])
 (.seq (.reg [zm 0 49 0,
 zf 1 50 6 3,
 zl 2 51 50,
 zf 3 52 6 3,
 zl 4 53 52,
 zo 5 54 (.bin .neq 3 true (.tmp 53) (zi (-1))),
 zo 6 55 (.call 128 [(.tmp 49),(.tmp 51),(.tmp 54)])])
 (.seq (.reg [zo 0 6 (.mv (zi 0))])
 (.seq (.block 0
 (.seq (.reg [zf 0 57 0 4,
 zl 1 58 57,
 zo 2 59 (.bin .and 3 true (.tmp 58) (zi 32)),
 zo 3 60 (.bin .neq 3 true (.tmp 59) (zi 0)),
 zm 4 56 60])
 (.cond (.tmp 56)
 (.reg [zm 0 61 0,
 zo 1 62 (.nilck (.tmp 61)),
 zf 2 63 0 62,
 zf 3 64 0 63,
 zl 4 65 64,
 zo 5 66 (.len (.tmp 65)),
 zm 6 6 66])
 (.seq (.reg [zf 0 68 0 4,
 zl 1 69 68,
 zo 2 70 (.bin .and 3 true (.tmp 69) (zi 64)),
 zo 3 71 (.bin .neq 3 true (.tmp 70) (zi 0)),
 zm 4 67 71])
 (.cond (.tmp 67)
 (.reg [zm 0 72 0,
 zo 1 73 (.nilck (.tmp 72)),
 zf 2 74 0 73,
 zf 3 75 4 74,
 zl 4 76 75,
 zm 5 6 76])
 (.seq (.reg [zf 0 78 0 4,
 zl 1 79 78,
 zo 2 80 (.bin .and 3 true (.tmp 79) (zi 128)),
 zo 3 81 (.bin .neq 3 true (.tmp 80) (zi 0)),
 zm 4 77 81])
 (.cond (.tmp 77)
 (.reg [zm 0 82 0,
 zo 1 83 (.nilck (.tmp 82)),
 zf 2 84 0 83,
 zf 3 85 5 84,
 zl 4 86 85,
 zo 5 87 (.len (.tmp 86)),
 zm 6 6 87])
 (.reg [zo 0 6 (.mv (zi (-1)))]))))))))
 (.seq (.reg [zm 0 88 0,
 zm 1 89 6,
 zo 2 90 (.bin .lss 2 true (.tmp 89) (zi 0)),
 zm 3 91 90,
 zg 4 92 (.fieldA 5 (.tmp 3)) 91 false,
 zg 5 93 (.load none (.tmp 92)) 91 false,
 zg 6 94 (.bin .geq 2 true (.tmp 93) (zi 0)) 91 false,
 zg 7 95 (.mv (.tmp 94)) 91 false,
 zg 8 96 (.fieldA 5 (.tmp 3)) 95 true,
 zg 9 97 (.load none (.tmp 96)) 95 true,
 zg 10 98 (.mv (.tmp 6)) 95 true,
 zg 11 99 (.bin .lss 2 false (.tmp 97) (.tmp 98)) 95 true,
 zg 12 100 (.pick (.tmp 95) (.tmp 99) (.con (.bool false))) 91 false,
 zo 13 101 (.pick (.tmp 91) (.con (.bool true)) (.tmp 100)),
 zo 14 102 (.call 108 [(.tmp 88),(.tmp 101),(zi 5)])])
 (.seq (.reg [zf 0 103 0 4,
 zl 1 104 103,
 zo 2 105 (.bin .and 3 true (.tmp 104) (zi 1)),
 zo 3 106 (.bin .eql 3 true (.tmp 105) (zi 0)),
 zm 4 107 106,
 zg 5 108 (.fieldA 1 (.tmp 3)) 107 true,
 zg 6 109 (.load none (.tmp 108)) 107 true,
 zg 7 110 (.bin .neq 3 true (.tmp 109) (zi 0)) 107 true,
 zo 8 111 (.pick (.tmp 107) (.tmp 110) (.con (.bool false))),
 zm 9 112 111,
 zg 10 113 (.fieldA 0 (.tmp 4)) 112 false,
 zg 11 114 (.load none (.tmp 113)) 112 false,
 zg 12 115 (.bin .and 3 true (.tmp 114) (zi 2)) 112 false,
 zg 13 116 (.bin .eql 3 true (.tmp 115) (zi 0)) 112 false,
 zg 14 117 (.mv (.tmp 116)) 112 false,
 zg 15 118 (.fieldA 2 (.tmp 3)) 117 true,
 zg 16 119 (.load none (.tmp 118)) 117 true,
 zg 17 120 (.bin .neq 3 true (.tmp 119) (zi 0)) 117 true,
 zg 18 121 (.pick (.tmp 117) (.tmp 120) (.con (.bool false))) 112 false,
 zo 19 122 (.pick (.tmp 112) (.con (.bool true)) (.tmp 121)),
 zm 20 123 122,
 zg 21 124 (.fieldA 0 (.tmp 4)) 123 false,
 zg 22 125 (.load none (.tmp 124)) 123 false,
 zg 23 126 (.bin .and 3 true (.tmp 125) (zi 4)) 123 false,
 zg 24 127 (.bin .eql 3 true (.tmp 126) (zi 0)) 123 false,
 zg 25 128 (.mv (.tmp 127)) 123 false,
 zg 26 129 (.fieldA 3 (.tmp 3)) 128 true,
 zg 27 130 (.load none (.tmp 129)) 128 true,
 zg 28 131 (.bin .neq 3 true (.tmp 130) (zi 0)) 128 true,
 zg 29 132 (.pick (.tmp 128) (.tmp 131) (.con (.bool false))) 123 false,
 zo 30 133 (.pick (.tmp 123) (.con (.bool true)) (.tmp 132)),
 zm 31 134 133,
 zg 32 135 (.fieldA 0 (.tmp 4)) 134 false,
 zg 33 136 (.load none (.tmp 135)) 134 false,
 zg 34 137 (.bin .and 3 true (.tmp 136) (zi 8)) 134 false,
 zg 35 138 (.bin .eql 3 true (.tmp 137) (zi 0)) 134 false,
 zg 36 139 (.mv (.tmp 138)) 134 false,
 zg 37 140 (.fieldA 4 (.tmp 3)) 139 true,
 zg 38 141 (.load none (.tmp 140)) 139 true,
 zg 39 142 (.bin .neq 3 true (.tmp 141) (zi 0)) 139 true,
 zg 40 143 (.pick (.tmp 139) (.tmp 142) (.con (.bool false))) 134 false,
 zo 41 144 (.pick (.tmp 134) (.con (.bool true)) (.tmp 143)),
 zm 42 145 144,
 zg 43 146 (.mv (.tmp 6)) 145 false,
 zg 44 147 (.bin .lss 2 true (.tmp 146) (zi 0)) 145 false,
 zg 45 148 (.mv (.tmp 147)) 145 false,
 zg 46 149 (.fieldA 0 (.tmp 4)) 148 true,
 zg 47 150 (.load none (.tmp 149)) 148 true,
 zg 48 151 (.bin .and 3 true (.tmp 150) (zi 16)) 148 true,
 zg 49 152 (.bin .eql 3 true (.tmp 151) (zi 0)) 148 true,
 zg 50 153 (.pick (.tmp 148) (.tmp 152) (.con (.bool false))) 145 false,
 zg 51 154 (.mv (.tmp 153)) 145 false,
 zg 52 155 (.fieldA 5 (.tmp 3)) 154 true,
 zg 53 156 (.load none (.tmp 155)) 154 true,
 zg 54 157 (.bin .neq 2 true (.tmp 156) (zi 0)) 154 true,
 zg 55 158 (.pick (.tmp 154) (.tmp 157) (.con (.bool false))) 145 false,
 zo 56 159 (.pick (.tmp 145) (.con (.bool true)) (.tmp 158)),
 zm 57 7 159])
 (.reg [zm 0 160 0,
 zm 1 161 7,
 zo 2 162 (.un .not (.tmp 161)),
 zo 3 163 (.call 108 [(.tmp 160),(.tmp 162),(zi 4)])])))))))))))),
 []⟩
theorem p_code_checker_op : PR Go.Proofs.Tryz.f111 = some v_code_checker_op:=by kernel_rfl

def v_code_checker_end : VFun :=
⟨.seq (.reg [zo 0 3 (.box (.tmp 1))])
 (.seq (.reg [zm 0 6 0,
 zf 1 7 0 3,
 zl 2 8 7,
 zo 3 9 (.bin .geq 3 true (.tmp 8) (zi 1)),
 zm 4 10 9,
 zg 5 11 (.fieldA 0 (.tmp 3)) 10 true,
 zg 6 12 (.load none (.tmp 11)) 10 true,
 zg 7 13 (.bin .leq 3 true (.tmp 12) (zi 4)) 10 true,
 zo 8 14 (.pick (.tmp 10) (.tmp 13) (.con (.bool false))),
 zo 9 15 (.call 108 [(.tmp 6),(.tmp 14),(zi 4)])])
 (.seq (.reg [zf 0 16 0 3,
 zl 1 17 16,
 zo 2 18 (.bin .eql 3 true (.tmp 17) (zi 1)),
 zm 3 19 18,
 zg 4 20 (.fieldA 0 (.tmp 3)) 19 false,
 zg 5 21 (.load none (.tmp 20)) 19 false,
 zg 6 22 (.bin .eql 3 true (.tmp 21) (zi 2)) 19 false,
 zo 7 23 (.pick (.tmp 19) (.con (.bool true)) (.tmp 22)),
 zf 8 24 0 3,
 zl 9 25 24,
 zo 10 26 (.bin .eql 3 true (.tmp 25) (zi 2)),
 ⟨11,(some 4),.mv (.tmp 23),none,[(.tmp 24)]⟩,
 zm 12 5 26])
 (.seq (.reg [zm 0 27 0,
 zf 1 28 1 3,
 zl 2 29 28,
 zf 3 30 0 3,
 zl 4 31 30,
 zo 5 32 (.bin .neq 3 true (.tmp 31) (zi 1)),
 zo 6 33 (.call 128 [(.tmp 27),(.tmp 29),(.tmp 32)])])
 (.seq (.reg [zm 0 34 0,
 zm 1 35 4,
 zo 2 36 (.un .not (.tmp 35)),
 zm 3 37 36,
 zg 4 38 (.fieldA 2 (.tmp 3)) 37 false,
 zg 5 39 (.load none (.tmp 38)) 37 false,
 zg 6 40 (.mv (.tmp 0)) 37 false,
 zg 7 41 (.nilck (.tmp 40)) 37 false,
 zg 8 42 (.fieldA 0 (.tmp 41)) 37 false,
 zg 9 43 (.fieldA 5 (.tmp 42)) 37 false,
 zg 10 44 (.load none (.tmp 43)) 37 false,
 zg 11 45 (.len (.tmp 44)) 37 false,
 zg 12 46 (.call 67 [(.tmp 39),(.tmp 45)]) 37 false,
 zo 13 47 (.pick (.tmp 37) (.con (.bool true)) (.tmp 46)),
 zo 14 48 (.call 108 [(.tmp 34),(.tmp 47),(zi 5)])])
 (.seq (.reg [zm 0 49 0,
 zm 1 50 5,
 zo 2 51 (.un .not (.tmp 50)),
 zm 3 52 51,
 zg 4 53 (.fieldA 3 (.tmp 3)) 52 false,
 zg 5 54 (.load none (.tmp 53)) 52 false,
 zg 6 55 (.mv (.tmp 0)) 52 false,
 zg 7 56 (.nilck (.tmp 55)) 52 false,
 zg 8 57 (.fieldA 0 (.tmp 56)) 52 false,
 zg 9 58 (.fieldA 5 (.tmp 57)) 52 false,
 zg 10 59 (.load none (.tmp 58)) 52 false,
 zg 11 60 (.len (.tmp 59)) 52 false,
 zg 12 61 (.call 67 [(.tmp 54),(.tmp 60)]) 52 false,
 zo 13 62 (.pick (.tmp 52) (.con (.bool true)) (.tmp 61)),
 zo 14 63 (.call 108 [(.tmp 49),(.tmp 62),(zi 5)])])
 (.reg [zm 0 64 0,
 zf 1 65 0 3,
 zl 2 66 65,
 zo 3 67 (.bin .neq 3 true (.tmp 66) (zi 1)),
 zm 4 68 67,
 zg 5 69 (.fieldA 1 (.tmp 3)) 68 false,
 zg 6 70 (.load none (.tmp 69)) 68 false,
 zg 7 71 (.bin .eql 3 true (.tmp 70) (zi 0)) 68 false,
 zo 8 72 (.pick (.tmp 68) (.con (.bool true)) (.tmp 71)),
 zm 9 73 72,
 zg 10 74 (.mv (.tmp 4)) 73 true,
 zg 11 75 (.mv (.tmp 74)) 73 true,
 zg 12 76 (.fieldA 2 (.tmp 3)) 75 false,
 zg 13 77 (.load none (.tmp 76)) 75 false,
 zg 14 78 (.bin .eql 3 true (.tmp 77) (zi 0)) 75 false,
 zg 15 79 (.pick (.tmp 75) (.con (.bool true)) (.tmp 78)) 73 true,
 zo 16 80 (.pick (.tmp 73) (.tmp 79) (.con (.bool false))),
 zm 17 81 80,
 zg 18 82 (.mv (.tmp 5)) 81 true,
 zg 19 83 (.mv (.tmp 82)) 81 true,
 zg 20 84 (.fieldA 3 (.tmp 3)) 83 false,
 zg 21 85 (.load none (.tmp 84)) 83 false,
 zg 22 86 (.bin .eql 3 true (.tmp 85) (zi 0)) 83 false,
 zg 23 87 (.pick (.tmp 83) (.con (.bool true)) (.tmp 86)) 81 true,
 zo 24 88 (.pick (.tmp 81) (.tmp 87) (.con (.bool false))),
 zo 25 89 (.call 108 [(.tmp 64),(.tmp 88),(zi 4)])])))))),
 []⟩
theorem p_code_checker_end : PR Go.Proofs.Tryz.f112 = some v_code_checker_end:=by kernel_rfl

def v114u : VFun :=
⟨.seq (.reg [zo 0 2 (.mv (.con (.string ⟨#[]⟩)))])
 (.seq (.seq (.reg [zm 0 3 0,
 zo 1 4 (.bin .lss 3 true 3 (zi 10))])
 (.cond 4
 (.seq (.reg [zm 0 5 0,
 zm 1 6 0,
 zo 2 7 (.bin .add 3 true 6 (zi 1)),
 zo 3 8 (.slS 9 (.con (.string ⟨#[48,49,50,51,52,53,54,55,56,57,97,98,99,100,101,102,103,104,105,106,107,108,109,110,111,112,113,114,115,116,117,118,119,120,121,122]⟩)) (some 5) (some 7)),
 zm 4 2 8])
 (.ret))
 (.skip)))
 (.seq (.reg [zm 0 9 0,
 zo 1 10 (.bin .mul 3 true 9 (zi 2)),
 zm 2 11 0,
 zo 3 12 (.bin .mul 3 true 11 (zi 2)),
 zo 4 13 (.bin .add 3 true 12 (zi 2)),
 zo 5 14 (.slS 9 (.con (.string ⟨#[48,48,48,49,48,50,48,51,48,52,48,53,48,54,48,55,48,56,48,57,49,48,49,49,49,50,49,51,49,52,49,53,49,54,49,55,49,56,49,57,50,48,50,49,50,50,50,51,50,52,50,53,50,54,50,55,50,56,50,57,51,48,51,49,51,50,51,51,51,52,51,53,51,54,51,55,51,56,51,57,52,48,52,49,52,50,52,51,52,52,52,53,52,54,52,55,52,56,52,57,53,48,53,49,53,50,53,51,53,52,53,53,53,54,53,55,53,56,53,57,54,48,54,49,54,50,54,51,54,52,54,53,54,54,54,55,54,56,54,57,55,48,55,49,55,50,55,51,55,52,55,53,55,54,55,55,55,56,55,57,56,48,56,49,56,50,56,51,56,52,56,53,56,54,56,55,56,56,56,57,57,48,57,49,57,50,57,51,57,52,57,53,57,54,57,55,57,56,57,57]⟩)) (some 10) (some 13)),
 zm 6 2 14])
 (.ret))),
 [.tmp 2]⟩
theorem p114u : PR Go.Proofs.Tryz.f114 = some v114u:=by kernel_rfl

def v115u : VFun :=
⟨.seq (.reg [zo 0 2 (.mv (zi 0))])
 (.seq (.reg [zm 0 4 0,
 zo 1 5 (.call 130 [4]),
 zo 2 6 (.call 129 [5]),
 zm 3 3 6])
 (.seq (.reg [zm 0 7 3,
 zm 1 8 0,
 zm 2 9 3,
 zo 3 10 (.idxA (some 20) 1 (.glo 2) 9),
 zl 4 11 10,
 zo 5 12 (.bin .geq 160 false 8 11),
 zo 6 13 (.call 131 [12]),
 zo 7 14 (.bin .add 3 false 7 13),
 zm 8 2 14])
 (.ret))),
 [.tmp 2]⟩
theorem p115u : PR Go.Proofs.Tryz.f115 = some v115u:=by kernel_rfl

def v116u : VFun :=
⟨.seq (.reg [zm 0 17 0,
 zo 1 18 (.len 17),
 zm 2 4 18])
 (.seq (.block 0
 (.loop
 (.seq (.seq (.reg [zm 0 19 4,
 zo 1 20 (.bin .geq 3 true 19 (zi 8))])
 (.cond 20
 (.skip)
 (.exit 0)))
 (.block 1
 (.seq (.reg [zm 0 21 1,
 zo 1 22 (.bin .rem 160 true 21 (.con (.int .u64 100000000))),
 zo 2 23 (.conv 160 180 22),
 zm 3 5 23])
 (.seq (.reg [zm 0 24 1,
 zo 1 25 (.bin .quo 160 true 24 (.con (.int .u64 100000000))),
 zm 2 1 25])
 (.seq (.reg [zm 0 26 5,
 zo 1 27 (.bin .quo 180 true 26 (.con (.int .u32 10000))),
 zm 2 28 5,
 zo 3 29 (.bin .rem 180 true 28 (.con (.int .u32 10000))),
 zm 4 6 27,
 zm 5 7 29])
 (.seq (.reg [zm 0 30 7,
 zo 1 31 (.bin .quo 180 true 30 (.con (.int .u32 100))),
 zo 2 32 (.bin .mul 180 true 31 (.con (.int .u32 2))),
 zm 3 33 7,
 zo 4 34 (.bin .rem 180 true 33 (.con (.int .u32 100))),
 zo 5 35 (.bin .mul 180 true 34 (.con (.int .u32 2))),
 zm 6 8 32,
 zm 7 9 35])
 (.seq (.reg [zm 0 36 6,
 zo 1 37 (.bin .quo 180 true 36 (.con (.int .u32 100))),
 zo 2 38 (.bin .mul 180 true 37 (.con (.int .u32 2))),
 zm 3 39 6,
 zo 4 40 (.bin .rem 180 true 39 (.con (.int .u32 100))),
 zo 5 41 (.bin .mul 180 true 40 (.con (.int .u32 2))),
 zm 6 10 38,
 zm 7 11 41])
 (.seq (.reg [zm 0 42 0,
 zm 1 43 4,
 zo 2 44 (.bin .sub 3 true 43 (zi 1)),
 zm 3 45 0,
 zm 4 46 4,
 zo 5 47 (.bin .sub 3 true 46 (zi 2)),
 zm 6 48 9,
 zo 7 49 (.bin .add 180 true 48 (.con (.int .u32 1))),
 zo 8 50 (.idxS 9 (.con (.string ⟨#[48,48,48,49,48,50,48,51,48,52,48,53,48,54,48,55,48,56,48,57,49,48,49,49,49,50,49,51,49,52,49,53,49,54,49,55,49,56,49,57,50,48,50,49,50,50,50,51,50,52,50,53,50,54,50,55,50,56,50,57,51,48,51,49,51,50,51,51,51,52,51,53,51,54,51,55,51,56,51,57,52,48,52,49,52,50,52,51,52,52,52,53,52,54,52,55,52,56,52,57,53,48,53,49,53,50,53,51,53,52,53,53,53,54,53,55,53,56,53,57,54,48,54,49,54,50,54,51,54,52,54,53,54,54,54,55,54,56,54,57,55,48,55,49,55,50,55,51,55,52,55,53,55,54,55,55,55,56,55,57,56,48,56,49,56,50,56,51,56,52,56,53,56,54,56,55,56,56,56,57,57,48,57,49,57,50,57,51,57,52,57,53,57,54,57,55,57,56,57,57]⟩)) 49),
 zm 9 51 9,
 zo 10 52 (.idxS 9 (.con (.string ⟨#[48,48,48,49,48,50,48,51,48,52,48,53,48,54,48,55,48,56,48,57,49,48,49,49,49,50,49,51,49,52,49,53,49,54,49,55,49,56,49,57,50,48,50,49,50,50,50,51,50,52,50,53,50,54,50,55,50,56,50,57,51,48,51,49,51,50,51,51,51,52,51,53,51,54,51,55,51,56,51,57,52,48,52,49,52,50,52,51,52,52,52,53,52,54,52,55,52,56,52,57,53,48,53,49,53,50,53,51,53,52,53,53,53,54,53,55,53,56,53,57,54,48,54,49,54,50,54,51,54,52,54,53,54,54,54,55,54,56,54,57,55,48,55,49,55,50,55,51,55,52,55,53,55,54,55,55,55,56,55,57,56,48,56,49,56,50,56,51,56,52,56,53,56,54,56,55,56,56,56,57,57,48,57,49,57,50,57,51,57,52,57,53,57,54,57,55,57,56,57,57]⟩)) 51),
 zo 11 53 (.idxA none 1 42 44),
 zn 12 (.store 1 53 50),
 zo 13 54 (.idxA none 1 45 47),
 zn 14 (.store 1 54 52)])
 (.seq (.reg [zm 0 55 0,
 zm 1 56 4,
 zo 2 57 (.bin .sub 3 true 56 (zi 3)),
 zm 3 58 0,
 zm 4 59 4,
 zo 5 60 (.bin .sub 3 true 59 (zi 4)),
 zm 6 61 8,
 zo 7 62 (.bin .add 180 true 61 (.con (.int .u32 1))),
 zo 8 63 (.idxS 9 (.con (.string ⟨#[48,48,48,49,48,50,48,51,48,52,48,53,48,54,48,55,48,56,48,57,49,48,49,49,49,50,49,51,49,52,49,53,49,54,49,55,49,56,49,57,50,48,50,49,50,50,50,51,50,52,50,53,50,54,50,55,50,56,50,57,51,48,51,49,51,50,51,51,51,52,51,53,51,54,51,55,51,56,51,57,52,48,52,49,52,50,52,51,52,52,52,53,52,54,52,55,52,56,52,57,53,48,53,49,53,50,53,51,53,52,53,53,53,54,53,55,53,56,53,57,54,48,54,49,54,50,54,51,54,52,54,53,54,54,54,55,54,56,54,57,55,48,55,49,55,50,55,51,55,52,55,53,55,54,55,55,55,56,55,57,56,48,56,49,56,50,56,51,56,52,56,53,56,54,56,55,56,56,56,57,57,48,57,49,57,50,57,51,57,52,57,53,57,54,57,55,57,56,57,57]⟩)) 62),
 zm 9 64 8,
 zo 10 65 (.idxS 9 (.con (.string ⟨#[48,48,48,49,48,50,48,51,48,52,48,53,48,54,48,55,48,56,48,57,49,48,49,49,49,50,49,51,49,52,49,53,49,54,49,55,49,56,49,57,50,48,50,49,50,50,50,51,50,52,50,53,50,54,50,55,50,56,50,57,51,48,51,49,51,50,51,51,51,52,51,53,51,54,51,55,51,56,51,57,52,48,52,49,52,50,52,51,52,52,52,53,52,54,52,55,52,56,52,57,53,48,53,49,53,50,53,51,53,52,53,53,53,54,53,55,53,56,53,57,54,48,54,49,54,50,54,51,54,52,54,53,54,54,54,55,54,56,54,57,55,48,55,49,55,50,55,51,55,52,55,53,55,54,55,55,55,56,55,57,56,48,56,49,56,50,56,51,56,52,56,53,56,54,56,55,56,56,56,57,57,48,57,49,57,50,57,51,57,52,57,53,57,54,57,55,57,56,57,57]⟩)) 64),
 zo 11 66 (.idxA none 1 55 57),
 zn 12 (.store 1 66 63),
 zo 13 67 (.idxA none 1 58 60),
 zn 14 (.store 1 67 65)])
 (.seq (.reg [zm 0 68 0,
 zm 1 69 4,
 zo 2 70 (.bin .sub 3 true 69 (zi 5)),
 zm 3 71 0,
 zm 4 72 4,
 zo 5 73 (.bin .sub 3 true 72 (zi 6)),
 zm 6 74 11,
 zo 7 75 (.bin .add 180 true 74 (.con (.int .u32 1))),
 zo 8 76 (.idxS 9 (.con (.string ⟨#[48,48,48,49,48,50,48,51,48,52,48,53,48,54,48,55,48,56,48,57,49,48,49,49,49,50,49,51,49,52,49,53,49,54,49,55,49,56,49,57,50,48,50,49,50,50,50,51,50,52,50,53,50,54,50,55,50,56,50,57,51,48,51,49,51,50,51,51,51,52,51,53,51,54,51,55,51,56,51,57,52,48,52,49,52,50,52,51,52,52,52,53,52,54,52,55,52,56,52,57,53,48,53,49,53,50,53,51,53,52,53,53,53,54,53,55,53,56,53,57,54,48,54,49,54,50,54,51,54,52,54,53,54,54,54,55,54,56,54,57,55,48,55,49,55,50,55,51,55,52,55,53,55,54,55,55,55,56,55,57,56,48,56,49,56,50,56,51,56,52,56,53,56,54,56,55,56,56,56,57,57,48,57,49,57,50,57,51,57,52,57,53,57,54,57,55,57,56,57,57]⟩)) 75),
 zm 9 77 11,
 zo 10 78 (.idxS 9 (.con (.string ⟨#[48,48,48,49,48,50,48,51,48,52,48,53,48,54,48,55,48,56,48,57,49,48,49,49,49,50,49,51,49,52,49,53,49,54,49,55,49,56,49,57,50,48,50,49,50,50,50,51,50,52,50,53,50,54,50,55,50,56,50,57,51,48,51,49,51,50,51,51,51,52,51,53,51,54,51,55,51,56,51,57,52,48,52,49,52,50,52,51,52,52,52,53,52,54,52,55,52,56,52,57,53,48,53,49,53,50,53,51,53,52,53,53,53,54,53,55,53,56,53,57,54,48,54,49,54,50,54,51,54,52,54,53,54,54,54,55,54,56,54,57,55,48,55,49,55,50,55,51,55,52,55,53,55,54,55,55,55,56,55,57,56,48,56,49,56,50,56,51,56,52,56,53,56,54,56,55,56,56,56,57,57,48,57,49,57,50,57,51,57,52,57,53,57,54,57,55,57,56,57,57]⟩)) 77),
 zo 11 79 (.idxA none 1 68 70),
 zn 12 (.store 1 79 76),
 zo 13 80 (.idxA none 1 71 73),
 zn 14 (.store 1 80 78)])
 (.seq (.reg [zm 0 81 0,
 zm 1 82 4,
 zo 2 83 (.bin .sub 3 true 82 (zi 7)),
 zm 3 84 0,
 zm 4 85 4,
 zo 5 86 (.bin .sub 3 true 85 (zi 8)),
 zm 6 87 10,
 zo 7 88 (.bin .add 180 true 87 (.con (.int .u32 1))),
 zo 8 89 (.idxS 9 (.con (.string ⟨#[48,48,48,49,48,50,48,51,48,52,48,53,48,54,48,55,48,56,48,57,49,48,49,49,49,50,49,51,49,52,49,53,49,54,49,55,49,56,49,57,50,48,50,49,50,50,50,51,50,52,50,53,50,54,50,55,50,56,50,57,51,48,51,49,51,50,51,51,51,52,51,53,51,54,51,55,51,56,51,57,52,48,52,49,52,50,52,51,52,52,52,53,52,54,52,55,52,56,52,57,53,48,53,49,53,50,53,51,53,52,53,53,53,54,53,55,53,56,53,57,54,48,54,49,54,50,54,51,54,52,54,53,54,54,54,55,54,56,54,57,55,48,55,49,55,50,55,51,55,52,55,53,55,54,55,55,55,56,55,57,56,48,56,49,56,50,56,51,56,52,56,53,56,54,56,55,56,56,56,57,57,48,57,49,57,50,57,51,57,52,57,53,57,54,57,55,57,56,57,57]⟩)) 88),
 zm 9 90 10,
 zo 10 91 (.idxS 9 (.con (.string ⟨#[48,48,48,49,48,50,48,51,48,52,48,53,48,54,48,55,48,56,48,57,49,48,49,49,49,50,49,51,49,52,49,53,49,54,49,55,49,56,49,57,50,48,50,49,50,50,50,51,50,52,50,53,50,54,50,55,50,56,50,57,51,48,51,49,51,50,51,51,51,52,51,53,51,54,51,55,51,56,51,57,52,48,52,49,52,50,52,51,52,52,52,53,52,54,52,55,52,56,52,57,53,48,53,49,53,50,53,51,53,52,53,53,53,54,53,55,53,56,53,57,54,48,54,49,54,50,54,51,54,52,54,53,54,54,54,55,54,56,54,57,55,48,55,49,55,50,55,51,55,52,55,53,55,54,55,55,55,56,55,57,56,48,56,49,56,50,56,51,56,52,56,53,56,54,56,55,56,56,56,57,57,48,57,49,57,50,57,51,57,52,57,53,57,54,57,55,57,56,57,57]⟩)) 90),
 zo 11 92 (.idxA none 1 81 83),
 zn 12 (.store 1 92 89),
 zo 13 93 (.idxA none 1 84 86),
 zn 14 (.store 1 93 91)])
 (.reg [zm 0 94 4,
 zo 1 95 (.bin .sub 3 true 94 (zi 8)),
 zm 2 4 95]))))))))))))))
 (.seq (.reg [zm 0 96 1,
 zo 1 97 (.conv 160 180 96),
 zm 2 12 97])
 (.seq (.seq (.reg [zm 0 98 4,
 zo 1 99 (.bin .geq 3 true 98 (zi 4))])
 (.cond 99
 (.seq (.reg [zm 0 100 12,
 zo 1 101 (.bin .rem 180 true 100 (.con (.int .u32 10000))),
 zm 2 13 101])
 (.seq (.reg [zm 0 102 12,
 zo 1 103 (.bin .quo 180 true 102 (.con (.int .u32 10000))),
 zm 2 12 103])
 (.seq (.reg [zm 0 104 13,
 zo 1 105 (.bin .quo 180 true 104 (.con (.int .u32 100))),
 zo 2 106 (.bin .mul 180 true 105 (.con (.int .u32 2))),
 zm 3 107 13,
 zo 4 108 (.bin .rem 180 true 107 (.con (.int .u32 100))),
 zo 5 109 (.bin .mul 180 true 108 (.con (.int .u32 2))),
 zm 6 14 106,
 zm 7 15 109])
 (.seq (.reg [zm 0 110 0,
 zm 1 111 4,
 zo 2 112 (.bin .sub 3 true 111 (zi 1)),
 zm 3 113 0,
 zm 4 114 4,
 zo 5 115 (.bin .sub 3 true 114 (zi 2)),
 zm 6 116 15,
 zo 7 117 (.bin .add 180 true 116 (.con (.int .u32 1))),
 zo 8 118 (.idxS 9 (.con (.string ⟨#[48,48,48,49,48,50,48,51,48,52,48,53,48,54,48,55,48,56,48,57,49,48,49,49,49,50,49,51,49,52,49,53,49,54,49,55,49,56,49,57,50,48,50,49,50,50,50,51,50,52,50,53,50,54,50,55,50,56,50,57,51,48,51,49,51,50,51,51,51,52,51,53,51,54,51,55,51,56,51,57,52,48,52,49,52,50,52,51,52,52,52,53,52,54,52,55,52,56,52,57,53,48,53,49,53,50,53,51,53,52,53,53,53,54,53,55,53,56,53,57,54,48,54,49,54,50,54,51,54,52,54,53,54,54,54,55,54,56,54,57,55,48,55,49,55,50,55,51,55,52,55,53,55,54,55,55,55,56,55,57,56,48,56,49,56,50,56,51,56,52,56,53,56,54,56,55,56,56,56,57,57,48,57,49,57,50,57,51,57,52,57,53,57,54,57,55,57,56,57,57]⟩)) 117),
 zm 9 119 15,
 zo 10 120 (.idxS 9 (.con (.string ⟨#[48,48,48,49,48,50,48,51,48,52,48,53,48,54,48,55,48,56,48,57,49,48,49,49,49,50,49,51,49,52,49,53,49,54,49,55,49,56,49,57,50,48,50,49,50,50,50,51,50,52,50,53,50,54,50,55,50,56,50,57,51,48,51,49,51,50,51,51,51,52,51,53,51,54,51,55,51,56,51,57,52,48,52,49,52,50,52,51,52,52,52,53,52,54,52,55,52,56,52,57,53,48,53,49,53,50,53,51,53,52,53,53,53,54,53,55,53,56,53,57,54,48,54,49,54,50,54,51,54,52,54,53,54,54,54,55,54,56,54,57,55,48,55,49,55,50,55,51,55,52,55,53,55,54,55,55,55,56,55,57,56,48,56,49,56,50,56,51,56,52,56,53,56,54,56,55,56,56,56,57,57,48,57,49,57,50,57,51,57,52,57,53,57,54,57,55,57,56,57,57]⟩)) 119),
 zo 11 121 (.idxA none 1 110 112),
 zn 12 (.store 1 121 118),
 zo 13 122 (.idxA none 1 113 115),
 zn 14 (.store 1 122 120)])
 (.seq (.reg [zm 0 123 0,
 zm 1 124 4,
 zo 2 125 (.bin .sub 3 true 124 (zi 3)),
 zm 3 126 0,
 zm 4 127 4,
 zo 5 128 (.bin .sub 3 true 127 (zi 4)),
 zm 6 129 14,
 zo 7 130 (.bin .add 180 true 129 (.con (.int .u32 1))),
 zo 8 131 (.idxS 9 (.con (.string ⟨#[48,48,48,49,48,50,48,51,48,52,48,53,48,54,48,55,48,56,48,57,49,48,49,49,49,50,49,51,49,52,49,53,49,54,49,55,49,56,49,57,50,48,50,49,50,50,50,51,50,52,50,53,50,54,50,55,50,56,50,57,51,48,51,49,51,50,51,51,51,52,51,53,51,54,51,55,51,56,51,57,52,48,52,49,52,50,52,51,52,52,52,53,52,54,52,55,52,56,52,57,53,48,53,49,53,50,53,51,53,52,53,53,53,54,53,55,53,56,53,57,54,48,54,49,54,50,54,51,54,52,54,53,54,54,54,55,54,56,54,57,55,48,55,49,55,50,55,51,55,52,55,53,55,54,55,55,55,56,55,57,56,48,56,49,56,50,56,51,56,52,56,53,56,54,56,55,56,56,56,57,57,48,57,49,57,50,57,51,57,52,57,53,57,54,57,55,57,56,57,57]⟩)) 130),
 zm 9 132 14,
 zo 10 133 (.idxS 9 (.con (.string ⟨#[48,48,48,49,48,50,48,51,48,52,48,53,48,54,48,55,48,56,48,57,49,48,49,49,49,50,49,51,49,52,49,53,49,54,49,55,49,56,49,57,50,48,50,49,50,50,50,51,50,52,50,53,50,54,50,55,50,56,50,57,51,48,51,49,51,50,51,51,51,52,51,53,51,54,51,55,51,56,51,57,52,48,52,49,52,50,52,51,52,52,52,53,52,54,52,55,52,56,52,57,53,48,53,49,53,50,53,51,53,52,53,53,53,54,53,55,53,56,53,57,54,48,54,49,54,50,54,51,54,52,54,53,54,54,54,55,54,56,54,57,55,48,55,49,55,50,55,51,55,52,55,53,55,54,55,55,55,56,55,57,56,48,56,49,56,50,56,51,56,52,56,53,56,54,56,55,56,56,56,57,57,48,57,49,57,50,57,51,57,52,57,53,57,54,57,55,57,56,57,57]⟩)) 132),
 zo 11 134 (.idxA none 1 123 125),
 zn 12 (.store 1 134 131),
 zo 13 135 (.idxA none 1 126 128),
 zn 14 (.store 1 135 133)])
 (.reg [zm 0 136 4,
 zo 1 137 (.bin .sub 3 true 136 (zi 4)),
 zm 2 4 137]))))))
 (.skip)))
 (.seq (.seq (.reg [zm 0 138 4,
 zo 1 139 (.bin .geq 3 true 138 (zi 2))])
 (.cond 139
 (.seq (.reg [zm 0 140 12,
 zo 1 141 (.bin .rem 180 true 140 (.con (.int .u32 100))),
 zo 2 142 (.bin .mul 180 true 141 (.con (.int .u32 2))),
 zm 3 16 142])
 (.seq (.reg [zm 0 143 12,
 zo 1 144 (.bin .quo 180 true 143 (.con (.int .u32 100))),
 zm 2 12 144])
 (.seq (.reg [zm 0 145 0,
 zm 1 146 4,
 zo 2 147 (.bin .sub 3 true 146 (zi 1)),
 zm 3 148 0,
 zm 4 149 4,
 zo 5 150 (.bin .sub 3 true 149 (zi 2)),
 zm 6 151 16,
 zo 7 152 (.bin .add 180 true 151 (.con (.int .u32 1))),
 zo 8 153 (.idxS 9 (.con (.string ⟨#[48,48,48,49,48,50,48,51,48,52,48,53,48,54,48,55,48,56,48,57,49,48,49,49,49,50,49,51,49,52,49,53,49,54,49,55,49,56,49,57,50,48,50,49,50,50,50,51,50,52,50,53,50,54,50,55,50,56,50,57,51,48,51,49,51,50,51,51,51,52,51,53,51,54,51,55,51,56,51,57,52,48,52,49,52,50,52,51,52,52,52,53,52,54,52,55,52,56,52,57,53,48,53,49,53,50,53,51,53,52,53,53,53,54,53,55,53,56,53,57,54,48,54,49,54,50,54,51,54,52,54,53,54,54,54,55,54,56,54,57,55,48,55,49,55,50,55,51,55,52,55,53,55,54,55,55,55,56,55,57,56,48,56,49,56,50,56,51,56,52,56,53,56,54,56,55,56,56,56,57,57,48,57,49,57,50,57,51,57,52,57,53,57,54,57,55,57,56,57,57]⟩)) 152),
 zm 9 154 16,
 zo 10 155 (.idxS 9 (.con (.string ⟨#[48,48,48,49,48,50,48,51,48,52,48,53,48,54,48,55,48,56,48,57,49,48,49,49,49,50,49,51,49,52,49,53,49,54,49,55,49,56,49,57,50,48,50,49,50,50,50,51,50,52,50,53,50,54,50,55,50,56,50,57,51,48,51,49,51,50,51,51,51,52,51,53,51,54,51,55,51,56,51,57,52,48,52,49,52,50,52,51,52,52,52,53,52,54,52,55,52,56,52,57,53,48,53,49,53,50,53,51,53,52,53,53,53,54,53,55,53,56,53,57,54,48,54,49,54,50,54,51,54,52,54,53,54,54,54,55,54,56,54,57,55,48,55,49,55,50,55,51,55,52,55,53,55,54,55,55,55,56,55,57,56,48,56,49,56,50,56,51,56,52,56,53,56,54,56,55,56,56,56,57,57,48,57,49,57,50,57,51,57,52,57,53,57,54,57,55,57,56,57,57]⟩)) 154),
 zo 11 156 (.idxA none 1 145 147),
 zn 12 (.store 1 156 153),
 zo 13 157 (.idxA none 1 148 150),
 zn 14 (.store 1 157 155)])
 (.reg [zm 0 158 4,
 zo 1 159 (.bin .sub 3 true 158 (zi 2)),
 zm 2 4 159]))))
 (.skip)))
 (.seq (.reg [zm 0 160 4,
 zo 1 161 (.bin .gtr 3 true 160 (zi 0))])
 (.cond 161
 (.reg [zm 0 162 0,
 zm 1 163 12,
 zo 2 164 (.bin .add 180 true (.con (.int .u32 48)) 163),
 zo 3 165 (.conv 180 5 164),
 zo 4 166 (.idxA none 1 162 (zi 0)),
 zn 5 (.store 1 166 165)])
 (.skip))))))),
 []⟩
theorem p116u : PR Go.Proofs.Tryz.f116 = some v116u:=by kernel_rfl

end Go.VX.Seat
end
section
set_option maxRecDepth 20000
namespace Go.VX.Seat
def v117u : VFun :=
⟨.seq (.reg [zo 0 10 (.mv (.con (.slice none 0 0))),
 zo 1 11 (.mv (.con (.string ⟨#[]⟩)))])
 (.seq (.seq (.reg [zm 0 19 2,
 zo 1 20 (.bin .lss 3 true 19 (zi 2)),
 zm 2 21 20,
 zg 3 22 (.mv 2) 21 false,
 zg 4 23 (.bin .eql 3 true 22 (zi 10)) 21 false,
 zo 5 24 (.pick 21 (.con (.bool true)) 23),
 zm 6 25 24,
 zg 7 26 (.mv 2) 25 false,
 zg 8 27 (.bin .gtr 3 true 26 (zi 36)) 25 false,
 zo 9 28 (.pick 25 (.con (.bool true)) 27)])
 (.cond 28
 (.reg [zo 0 29 (.mkif 9 (.con (.string ⟨#[115,116,114,99,111,110,118,58,32,105,108,108,101,103,97,108,32,65,112,112,101,110,100,73,110,116,47,70,111,114,109,97,116,73,110,116,32,98,97,115,101]⟩))),
 zn 1 (.panic 29)])
 (.skip)))
 (.seq (.reg [zo 0 12 (.alloc [(.int .u8 0),(.int .u8 0),(.int .u8 0),(.int .u8 0),(.int .u8 0),(.int .u8 0),(.int .u8 0),(.int .u8 0),(.int .u8 0),(.int .u8 0),(.int .u8 0),(.int .u8 0),(.int .u8 0),(.int .u8 0),(.int .u8 0),(.int .u8 0),(.int .u8 0),(.int .u8 0),(.int .u8 0),(.int .u8 0),(.int .u8 0),(.int .u8 0),(.int .u8 0),(.int .u8 0),(.int .u8 0),(.int .u8 0),(.int .u8 0),(.int .u8 0),(.int .u8 0),(.int .u8 0),(.int .u8 0),(.int .u8 0),(.int .u8 0),(.int .u8 0),(.int .u8 0),(.int .u8 0),(.int .u8 0),(.int .u8 0),(.int .u8 0),(.int .u8 0),(.int .u8 0),(.int .u8 0),(.int .u8 0),(.int .u8 0),(.int .u8 0),(.int .u8 0),(.int .u8 0),(.int .u8 0),(.int .u8 0),(.int .u8 0),(.int .u8 0),(.int .u8 0),(.int .u8 0),(.int .u8 0),(.int .u8 0),(.int .u8 0),(.int .u8 0),(.int .u8 0),(.int .u8 0),(.int .u8 0),(.int .u8 0),(.int .u8 0),(.int .u8 0),(.int .u8 0),(.int .u8 0)])])
 (.seq (.reg [zo 0 13 (.mv (zi 65))])
 (.seq (.seq (.reg [zm 0 30 3])
 (.cond 30
 (.reg [zm 0 31 1,
 zo 1 32 (.un .neg 31),
 zm 2 1 32])
 (.skip)))
 (.seq (.seq (.reg [zm 0 33 2,
 zo 1 34 (.call 132 [33])])
 (.cond 34
 (.seq (.reg [zm 0 35 2,
 zo 1 36 (.conv 3 182 35),
 zo 2 37 (.call 133 [36]),
 zo 3 38 (.conv 3 182 37),
 zm 4 14 38])
 (.seq (.reg [zm 0 39 2,
 zo 1 40 (.conv 3 160 39),
 zm 2 15 40])
 (.seq (.reg [zm 0 41 2,
 zo 1 42 (.conv 3 182 41),
 zo 2 43 (.bin .sub 182 true 42 (.con (.int .u64 1))),
 zm 3 16 43])
 (.seq (.block 0
 (.loop
 (.seq (.seq (.reg [zm 0 44 1,
 zm 1 45 15,
 zo 2 46 (.bin .geq 160 false 44 45)])
 (.cond 46
 (.skip)
 (.exit 0)))
 (.block 1
 (.seq (.reg [zm 0 47 13,
 zo 1 48 (.bin .sub 3 true 47 (zi 1)),
 zm 2 13 48])
 (.seq (.reg [zm 0 49 13,
 zm 1 50 1,
 zm 2 51 16,
 zo 3 52 (.bin .and 182 false 50 51),
 zo 4 53 (.idxS 9 (.con (.string ⟨#[48,49,50,51,52,53,54,55,56,57,97,98,99,100,101,102,103,104,105,106,107,108,109,110,111,112,113,114,115,116,117,118,119,120,121,122]⟩)) 52),
 zo 5 54 (.idxA (some 65) 1 12 49),
 zn 6 (.store 1 54 53)])
 (.reg [zm 0 55 1,
 zm 1 56 14,
 zo 2 57 (.bin .shr 160 false 55 56),
 zm 3 1 57])))))))
 (.seq (.reg [zm 0 58 13,
 zo 1 59 (.bin .sub 3 true 58 (zi 1)),
 zm 2 13 59])
 (.reg [zm 0 60 13,
 zm 1 61 1,
 zo 2 62 (.idxS 9 (.con (.string ⟨#[48,49,50,51,52,53,54,55,56,57,97,98,99,100,101,102,103,104,105,106,107,108,109,110,111,112,113,114,115,116,117,118,119,120,121,122]⟩)) 61),
 zo 3 63 (.idxA (some 65) 1 12 60),
 zn 4 (.store 1 63 62)]))))))
 (.seq (.reg [zm 0 64 2,
 zo 1 65 (.conv 3 160 64),
 zm 2 17 65])
 (.seq (.block 2
 (.loop
 (.seq (.seq (.reg [zm 0 66 1,
 zm 1 67 17,
 zo 2 68 (.bin .geq 160 false 66 67)])
 (.cond 68
 (.skip)
 (.exit 2)))
 (.block 3
 (.seq (.reg [zm 0 69 13,
 zo 1 70 (.bin .sub 3 true 69 (zi 1)),
 zm 2 13 70])
 (.seq (.reg [zm 0 71 1,
 zm 1 72 17,
 zo 2 73 (.bin .quo 160 false 71 72),
 zm 3 18 73])
 (.seq (.reg [zm 0 74 13,
 zm 1 75 1,
 zm 2 76 18,
 zm 3 77 17,
 zo 4 78 (.bin .mul 160 false 76 77),
 zo 5 79 (.bin .sub 160 false 75 78),
 zo 6 80 (.idxS 9 (.con (.string ⟨#[48,49,50,51,52,53,54,55,56,57,97,98,99,100,101,102,103,104,105,106,107,108,109,110,111,112,113,114,115,116,117,118,119,120,121,122]⟩)) 79),
 zo 7 81 (.idxA (some 65) 1 12 74),
 zn 8 (.store 1 81 80)])
 (.reg [zm 0 82 18,
 zm 1 1 82]))))))))
 (.seq (.reg [zm 0 83 13,
 zo 1 84 (.bin .sub 3 true 83 (zi 1)),
 zm 2 13 84])
 (.reg [zm 0 85 13,
 zm 1 86 1,
 zo 2 87 (.idxS 9 (.con (.string ⟨#[48,49,50,51,52,53,54,55,56,57,97,98,99,100,101,102,103,104,105,106,107,108,109,110,111,112,113,114,115,116,117,118,119,120,121,122]⟩)) 86),
 zo 3 88 (.idxA (some 65) 1 12 85),
 zn 4 (.store 1 88 87)]))))))
 (.seq (.seq (.reg [zm 0 89 3])
 (.cond 89
 (.seq (.reg [zm 0 90 13,
 zo 1 91 (.bin .sub 3 true 90 (zi 1)),
 zm 2 13 91])
 (.reg [zm 0 92 13,
 zo 1 93 (.idxA (some 65) 1 12 92),
 zn 2 (.store 1 93 (.con (.int .u8 45)))]))
 (.skip)))
 (.seq (.seq (.reg [zm 0 94 4])
 (.cond 94
 (.seq (.reg [zm 0 95 0,
 zm 1 96 13,
 zo 2 97 (.slice (some 65) 1 12 (some 96) none none),
 zo 3 98 (.append 1 1 95 97),
 zm 4 10 98])
 (.ret))
 (.skip)))
 (.seq (.reg [zm 0 99 13,
 zo 1 100 (.slice (some 65) 1 12 (some 99) none none),
 zo 2 101 (.b2s 100),
 zm 3 11 101])
 (.ret))))))))),
 [.tmp 10,.tmp 11]⟩
theorem p117u : PR Go.Proofs.Tryz.f117 = some v117u:=by kernel_rfl

def v_internal_stringslite_Cut : VFun :=
⟨.seq (.reg [zo 0 4 (.mv (.con (.string ⟨#[]⟩))),
 zo 1 5 (.mv (.con (.string ⟨#[]⟩))),
 zo 2 6 (.mv (.con (.bool false)))])
 (.seq (.seq (.reg [zm 0 8 0,
 zm 1 9 1,
 zo 2 10 (.call 126 [(.tmp 8),(.tmp 9)]),
 zm 3 7 10])
 (.seq (.reg [zm 0 11 7,
 zo 1 12 (.bin .geq 3 true (.tmp 11) (zi 0))])
 (.cond (.tmp 12)
 (.seq (.reg [zm 0 13 0,
 zm 1 14 7,
 zo 2 15 (.slS 9 (.tmp 13) none (some (.tmp 14))),
 zm 3 16 0,
 zm 4 17 7,
 zm 5 18 1,
 zo 6 19 (.bi .len [9] 3 [(.tmp 18)]),
 zo 7 20 (.bin .add 3 false (.tmp 17) (.tmp 19)),
 zo 8 21 (.slS 9 (.tmp 16) (some (.tmp 20)) none),
 zm 9 4 15,
 zm 10 5 21,
 zo 11 6 (.mv (.con (.bool true)))])
 (.ret))
 (.skip))))
 (.seq (.reg [zm 0 22 0,
 zm 1 4 22,
 zo 2 5 (.mv (.con (.string ⟨#[]⟩))),
 zo 3 6 (.mv (.con (.bool false)))])
 (.ret))),
 [.tmp 4,.tmp 5,.tmp 6]⟩
theorem p_internal_stringslite_Cut : PR Go.Proofs.Tryz.f118 = some v_internal_stringslite_Cut:=by kernel_rfl

def v_word_Read : VFun :=
⟨.seq (.reg [zo 0 2 (.mv (zi 0)),
 zo 1 3 (.mv (zi 0))])
 (.seq (.reg [zm 0 7 0,
 zo 1 8 (.call 134 [(.tmp 7),(zi 10),(zi 64)]),
 zm 2 6 8,
 zo 3 9 (.ext (.tmp 6) 0),
 zo 4 10 (.ext (.tmp 6) 1),
 zm 5 4 9,
 zm 6 5 10])
 (.seq (.seq (.reg [zm 0 11 5,
 zo 1 12 (.isnil 3 true (.tmp 11)),
 zm 2 13 12,
 zg 3 14 (.mv (.tmp 4)) 13 false,
 zg 4 15 (.call 74 [(.tmp 14)]) 13 false,
 zg 5 16 (.mv (.tmp 0)) 13 false,
 zg 6 17 (.bin .neq 9 false (.tmp 15) (.tmp 16)) 13 false,
 zo 7 18 (.pick (.tmp 13) (.con (.bool true)) (.tmp 17))])
 (.cond (.tmp 18)
 (.seq (.reg [zo 0 2 (.mv (zi 0)),
 zo 1 3 (.mv (zi 4))])
 (.ret))
 (.skip)))
 (.seq (.reg [zm 0 19 4,
 zm 1 2 19,
 zo 2 3 (.mv (zi 0))])
 (.ret)))),
 [.tmp 2,.tmp 3]⟩
theorem p_word_Read : PR Go.Proofs.Tryz.f119 = some v_word_Read:=by kernel_rfl

def v_internal_stringslite_CutPrefix : VFun :=
⟨.seq (.reg [zo 0 4 (.mv (.con (.string ⟨#[]⟩))),
 zo 1 5 (.mv (.con (.bool false)))])
 (.seq (.seq (.reg [zm 0 6 0,
 zm 1 7 1,
 zo 2 8 (.call 106 [(.tmp 6),(.tmp 7)]),
 zo 3 9 (.un .not (.tmp 8))])
 (.cond (.tmp 9)
 (.seq (.reg [zm 0 10 0,
 zm 1 4 10,
 zo 2 5 (.mv (.con (.bool false)))])
 (.ret))
 (.skip)))
 (.seq (.reg [zm 0 11 0,
 zm 1 12 1,
 zo 2 13 (.bi .len [9] 3 [(.tmp 12)]),
 zo 3 14 (.slS 9 (.tmp 11) (some (.tmp 13)) none),
 zm 4 4 14,
 zo 5 5 (.mv (.con (.bool true)))])
 (.ret))),
 [.tmp 4,.tmp 5]⟩
theorem p_internal_stringslite_CutPrefix : PR Go.Proofs.Tryz.f120 = some v_internal_stringslite_CutPrefix:=by kernel_rfl

def v_slices_IndexFunc_form : VFun :=
⟨.seq (.reg [zo 0 4 (.mv (zi 0))])
 (.seq (.seq (.reg [zm 0 6 0,
 zo 1 7 (.len (.tmp 6)),
 zo 2 8 (.mv (zi 0))])
 (.block 0
 (.loop
 (.seq (.reg [zo 0 9 (.bin .lss 3 false (.tmp 8) (.tmp 7))])
 (.seq (.cond (.tmp 9)
 (.skip)
 (.exit 0))
 (.seq (.block 1
 (.seq (.reg [zm 0 10 8,
 zm 1 5 10])
 (.seq (.reg [zm 0 11 1,
 zm 1 12 0,
 zm 2 13 5,
 zo 3 14 (.idxA none 3 (.tmp 12) (.tmp 13)),
 zo 4 15 (.load (some 3) (.tmp 14)),
 zo 5 16 (.callv (.tmp 11) [(.tmp 15)])])
 (.cond (.tmp 16)
 (.seq (.reg [zm 0 17 5,
 zm 1 4 17])
 (.ret))
 (.skip)))))
 (.reg [zo 0 18 (.bin .add 3 true (.tmp 8) (zi 1)),
 zm 1 8 18])))))))
 (.seq (.reg [zo 0 4 (.mv (zi (-1)))])
 (.ret))),
 [.tmp 4]⟩
theorem p_slices_IndexFunc_form : PR Go.Proofs.Tryz.f121 = some v_slices_IndexFunc_form:=by kernel_rfl

def v_code_readOp_c1 : VFun :=
⟨.seq (.reg [zo 0 2 (.box (.tmp 0)),
 zo 1 3 (.mv (.con (.bool false)))])
 (.seq (.reg [zf 0 4 2 2,
 zl 1 5 4,
 zl 2 6 1,
 zo 3 7 (.idxA none 1 (.tmp 6) (zi 0)),
 zl 4 8 7,
 zo 5 9 (.bin .eql 9 false (.tmp 5) (.tmp 8)),
 zm 6 3 9])
 (.ret)),
 [.tmp 3]⟩
theorem p_code_readOp_c1 : PR Go.Proofs.Tryz.f122 = some v_code_readOp_c1:=by kernel_rfl

def v124u : VFun :=
⟨.seq (.reg [zo 0 2 (.mv (.con (.int .i32 0))),
 zo 1 3 (.mv (zi 0))])
 (.seq (.seq (.reg [zm 0 4 0,
 zo 1 5 (.bin .neq 9 true 4 (.con (.string ⟨#[]⟩))),
 zm 2 6 5,
 zg 3 7 (.mv 0) 6 true,
 zg 4 8 (.idxS 9 7 (zi 0)) 6 true,
 zg 5 9 (.bin .lss 5 true 8 (.con (.int .u8 128))) 6 true,
 zo 6 10 (.pick 6 9 (.con (.bool false)))])
 (.cond 10
 (.seq (.reg [zm 0 11 0,
 zo 1 12 (.idxS 9 11 (zi 0)),
 zo 2 13 (.conv 5 21 12),
 zm 3 2 13,
 zo 4 3 (.mv (zi 1))])
 (.ret))
 (.reg [zm 0 15 0,
 zo 1 16 (.call 135 [15]),
 zm 2 14 16,
 zo 3 17 (.ext 14 0),
 zo 4 18 (.ext 14 1),
 zm 5 2 17,
 zm 6 3 18])))
 (.ret)),
 [.tmp 2,.tmp 3]⟩
theorem p124u : PR Go.Proofs.Tryz.f124 = some v124u:=by kernel_rfl

def v_internal_stringslite_Index : VFun :=
⟨.seq (.reg [zo 0 4 (.mv (zi 0))])
 (.seq (.reg [zm 0 14 1,
 zo 1 15 (.bi .len [9] 3 [(.tmp 14)]),
 zm 2 5 15])
 (.seq (.block 0
 (.seq (.reg [zm 0 17 5,
 zo 1 18 (.bin .eql 3 true (.tmp 17) (zi 0)),
 zm 2 19 18,
 zg 3 20 (.mv (.tmp 1)) 19 false,
 zg 4 21 (.mv (.tmp 0)) 19 false,
 zg 5 22 (.bin .eql 9 false (.tmp 20) (.tmp 21)) 19 false,
 zo 6 23 (.pick (.tmp 19) (.con (.bool true)) (.tmp 22)),
 zm 7 16 23])
 (.cond (.tmp 16)
 (.seq (.reg [zo 0 4 (.mv (zi 0))])
 (.ret))
 (.seq (.reg [zm 0 25 5,
 zo 1 26 (.bin .eql 3 true (.tmp 25) (zi 1)),
 zm 2 24 26])
 (.cond (.tmp 24)
 (.seq (.reg [zm 0 27 0,
 zm 1 28 1,
 zo 2 29 (.idxS 9 (.tmp 28) (zi 0)),
 zo 3 30 (.call 136 [(.tmp 27),(.tmp 29)]),
 zm 4 4 30])
 (.ret))
 (.seq (.reg [zm 0 32 5,
 zm 1 33 0,
 zo 2 34 (.bi .len [9] 3 [(.tmp 33)]),
 zo 3 35 (.bin .geq 3 false (.tmp 32) (.tmp 34)),
 zm 4 31 35])
 (.cond (.tmp 31)
 (.seq (.reg [zo 0 4 (.mv (zi (-1)))])
 (.ret))
 (.seq (.reg [zm 0 37 5,
 zo 1 38 (.load none (.glo 3)),
 zo 2 39 (.bin .leq 3 false (.tmp 37) (.tmp 38)),
 zm 3 40 39,
 zg 4 41 (.mv (.tmp 0)) 40 true,
 zg 5 42 (.bi .len [9] 3 [(.tmp 41)]) 40 true,
 zg 6 43 (.bin .leq 3 true (.tmp 42) (zi 64)) 40 true,
 zo 7 44 (.pick (.tmp 40) (.tmp 43) (.con (.bool false))),
 zm 8 36 44])
 (.cond (.tmp 36)
 (.seq (.reg [zm 0 45 0,
 zm 1 46 1,
 zo 2 47 (.call 137 [(.tmp 45),(.tmp 46)]),
 zm 3 4 47])
 (.ret))
 (.skip))))))))))
 (.seq (.reg [zm 0 48 1,
 zo 1 49 (.idxS 9 (.tmp 48) (zi 0)),
 zm 2 6 49])
 (.seq (.reg [zm 0 50 1,
 zo 1 51 (.idxS 9 (.tmp 50) (zi 1)),
 zm 2 7 51])
 (.seq (.reg [zo 0 8 (.mv (zi 0))])
 (.seq (.reg [zm 0 52 0,
 zo 1 53 (.bi .len [9] 3 [(.tmp 52)]),
 zm 2 54 5,
 zo 3 55 (.bin .sub 3 false (.tmp 53) (.tmp 54)),
 zo 4 56 (.bin .add 3 true (.tmp 55) (zi 1)),
 zm 5 9 56])
 (.seq (.reg [zo 0 10 (.mv (zi 0))])
 (.seq (.block 1
 (.loop
 (.seq (.seq (.reg [zm 0 57 8,
 zm 1 58 9,
 zo 2 59 (.bin .lss 3 false (.tmp 57) (.tmp 58))])
 (.cond (.tmp 59)
 (.skip)
 (.exit 1)))
 (.block 2
 (.seq (.seq (.reg [zm 0 60 0,
 zm 1 61 8,
 zo 2 62 (.idxS 9 (.tmp 60) (.tmp 61)),
 zm 3 63 6,
 zo 4 64 (.bin .neq 5 false (.tmp 62) (.tmp 63))])
 (.cond (.tmp 64)
 (.seq (.reg [zm 0 65 0,
 zm 1 66 8,
 zo 2 67 (.bin .add 3 true (.tmp 66) (zi 1)),
 zm 3 68 9,
 zo 4 69 (.slS 9 (.tmp 65) (some (.tmp 67)) (some (.tmp 68))),
 zm 5 70 6,
 zo 6 71 (.call 136 [(.tmp 69),(.tmp 70)]),
 zm 7 11 71])
 (.seq (.seq (.reg [zm 0 72 11,
 zo 1 73 (.bin .lss 3 true (.tmp 72) (zi 0))])
 (.cond (.tmp 73)
 (.seq (.reg [zo 0 4 (.mv (zi (-1)))])
 (.ret))
 (.skip)))
 (.reg [zm 0 74 8,
 zm 1 75 11,
 zo 2 76 (.bin .add 3 true (.tmp 75) (zi 1)),
 zo 3 77 (.bin .add 3 false (.tmp 74) (.tmp 76)),
 zm 4 8 77])))
 (.skip)))
 (.seq (.seq (.reg [zm 0 78 0,
 zm 1 79 8,
 zo 2 80 (.bin .add 3 true (.tmp 79) (zi 1)),
 zo 3 81 (.idxS 9 (.tmp 78) (.tmp 80)),
 zm 4 82 7,
 zo 5 83 (.bin .eql 5 false (.tmp 81) (.tmp 82)),
 zm 6 84 83,
 zg 7 85 (.mv (.tmp 0)) 84 true,
 zg 8 86 (.mv (.tmp 8)) 84 true,
 zg 9 87 (.mv (.tmp 8)) 84 true,
 zg 10 88 (.mv (.tmp 5)) 84 true,
 zg 11 89 (.bin .add 3 false (.tmp 87) (.tmp 88)) 84 true,
 zg 12 90 (.slS 9 (.tmp 85) (some (.tmp 86)) (some (.tmp 89))) 84 true,
 zg 13 91 (.mv (.tmp 1)) 84 true,
 zg 14 92 (.bin .eql 9 false (.tmp 90) (.tmp 91)) 84 true,
 zo 15 93 (.pick (.tmp 84) (.tmp 92) (.con (.bool false)))])
 (.cond (.tmp 93)
 (.seq (.reg [zm 0 94 8,
 zm 1 4 94])
 (.ret))
 (.skip)))
 (.seq (.reg [zm 0 95 8,
 zo 1 96 (.bin .add 3 true (.tmp 95) (zi 1)),
 zm 2 8 96])
 (.seq (.reg [zm 0 97 10,
 zo 1 98 (.bin .add 3 true (.tmp 97) (zi 1)),
 zm 2 10 98])
 (.seq (.reg [zm 0 99 5,
 zo 1 100 (.load none (.glo 3)),
 zo 2 101 (.bin .leq 3 false (.tmp 99) (.tmp 100)),
 zm 3 102 101,
 zg 4 103 (.mv (.tmp 10)) 102 true,
 zg 5 104 (.mv (.tmp 8)) 102 true,
 zg 6 105 (.call 138 [(.tmp 104)]) 102 true,
 zg 7 106 (.bin .gtr 3 false (.tmp 103) (.tmp 105)) 102 true,
 zo 8 107 (.pick (.tmp 102) (.tmp 106) (.con (.bool false)))])
 (.cond (.tmp 107)
 (.seq (.reg [zm 0 108 0,
 zm 1 109 8,
 zo 2 110 (.slS 9 (.tmp 108) (some (.tmp 109)) none),
 zm 3 111 1,
 zo 4 112 (.call 137 [(.tmp 110),(.tmp 111)]),
 zm 5 12 112])
 (.seq (.seq (.reg [zm 0 113 12,
 zo 1 114 (.bin .geq 3 true (.tmp 113) (zi 0))])
 (.cond (.tmp 114)
 (.seq (.reg [zm 0 115 12,
 zm 1 116 8,
 zo 2 117 (.bin .add 3 false (.tmp 115) (.tmp 116)),
 zm 3 4 117])
 (.ret))
 (.skip)))
 (.seq (.reg [zo 0 4 (.mv (zi (-1)))])
 (.ret))))
 (.seq (.reg [zm 0 118 5,
 zo 1 119 (.load none (.glo 3)),
 zo 2 120 (.bin .gtr 3 false (.tmp 118) (.tmp 119)),
 zm 3 121 120,
 zg 4 122 (.mv (.tmp 10)) 121 true,
 zg 5 123 (.mv (.tmp 8)) 121 true,
 zg 6 124 (.bin .shr 3 true (.tmp 123) (.con (.int .u64 4))) 121 true,
 zg 7 125 (.bin .add 3 true (zi 4) (.tmp 124)) 121 true,
 zg 8 126 (.bin .geq 3 false (.tmp 122) (.tmp 125)) 121 true,
 zo 9 127 (.pick (.tmp 121) (.tmp 126) (.con (.bool false))),
 zm 10 128 127,
 zg 11 129 (.mv (.tmp 8)) 128 true,
 zg 12 130 (.mv (.tmp 9)) 128 true,
 zg 13 131 (.bin .lss 3 false (.tmp 129) (.tmp 130)) 128 true,
 zo 14 132 (.pick (.tmp 128) (.tmp 131) (.con (.bool false)))])
 (.cond (.tmp 132)
 (.seq (.reg [zm 0 133 0,
 zm 1 134 8,
 zo 2 135 (.slS 9 (.tmp 133) (some (.tmp 134)) none),
 zm 3 136 1,
 zo 4 137 (.call 139 [(.tmp 135),(.tmp 136)]),
 zm 5 13 137])
 (.seq (.seq (.reg [zm 0 138 13,
 zo 1 139 (.bin .lss 3 true (.tmp 138) (zi 0))])
 (.cond (.tmp 139)
 (.seq (.reg [zo 0 4 (.mv (zi (-1)))])
 (.ret))
 (.skip)))
 (.seq (.reg [zm 0 140 8,
 zm 1 141 13,
 zo 2 142 (.bin .add 3 false (.tmp 140) (.tmp 141)),
 zm 3 4 142])
 (.ret))))
 (.skip)))))))))))))
 (.seq (.reg [zo 0 4 (.mv (zi (-1)))])
 (.ret)))))))))),
 [.tmp 4]⟩
theorem p_internal_stringslite_Index : PR Go.Proofs.Tryz.f126 = some v_internal_stringslite_Index:=by kernel_rfl

def v_slices_IndexFunc_int : VFun :=
⟨.seq (.reg [zo 0 4 (.mv (zi 0))])
 (.seq (.seq (.reg [zm 0 6 0,
 zo 1 7 (.len (.tmp 6)),
 zo 2 8 (.mv (zi 0))])
 (.block 0
 (.loop
 (.seq (.reg [zo 0 9 (.bin .lss 3 false (.tmp 8) (.tmp 7))])
 (.seq (.cond (.tmp 9)
 (.skip)
 (.exit 0))
 (.seq (.block 1
 (.seq (.reg [zm 0 10 8,
 zm 1 5 10])
 (.seq (.reg [zm 0 11 1,
 zm 1 12 0,
 zm 2 13 5,
 zo 3 14 (.idxA none 1 (.tmp 12) (.tmp 13)),
 zl 4 15 14,
 zo 5 16 (.callv (.tmp 11) [(.tmp 15)])])
 (.cond (.tmp 16)
 (.seq (.reg [zm 0 17 5,
 zm 1 4 17])
 (.ret))
 (.skip)))))
 (.reg [zo 0 18 (.bin .add 3 true (.tmp 8) (zi 1)),
 zm 1 8 18])))))))
 (.seq (.reg [zo 0 4 (.mv (zi (-1)))])
 (.ret))),
 [.tmp 4]⟩
theorem p_slices_IndexFunc_int : PR Go.Proofs.Tryz.f127 = some v_slices_IndexFunc_int:=by kernel_rfl

def v_code_checker_reg : VFun :=
⟨.reg [zm 0 6 0,
 zm 1 7 2,
 zo 2 8 (.un .not (.tmp 7)),
 zm 3 9 8,
 zg 4 10 (.mv (.tmp 1)) 9 false,
 zg 5 11 (.mv (.tmp 0)) 9 false,
 zg 6 12 (.nilck (.tmp 11)) 9 false,
 zg 7 13 (.fieldA 0 (.tmp 12)) 9 false,
 zg 8 14 (.fieldA 2 (.tmp 13)) 9 false,
 zg 9 15 (.load none (.tmp 14)) 9 false,
 zg 10 16 (.call 67 [(.tmp 10),(.tmp 15)]) 9 false,
 zo 11 17 (.pick (.tmp 9) (.con (.bool true)) (.tmp 16)),
 zo 12 18 (.call 108 [(.tmp 6),(.tmp 17),(zi 2)])],
 []⟩
theorem p_code_checker_reg : PR Go.Proofs.Tryz.f128 = some v_code_checker_reg:=by kernel_rfl

def v129u : VFun :=
⟨.seq (.reg [zo 0 2 (.mv (zi 0))])
 (.seq (.reg [zm 0 3 0,
 zo 1 4 (.bin .mul 3 true 3 (zi 78913)),
 zo 2 5 (.bin .shr 3 true 4 (.con (.int .u64 18))),
 zm 3 2 5])
 (.ret)),
 [.tmp 2]⟩
theorem p129u : PR Go.Proofs.Tryz.f129 = some v129u:=by kernel_rfl

def v130u : VFun :=
⟨.seq (.reg [zo 0 2 (.mv (zi 0))])
 (.seq (.seq (.reg [zm 0 3 0,
 zo 1 4 (.bin .geq 160 true 3 (.con (.int .u64 4294967296)))])
 (.cond 4
 (.seq (.reg [zm 0 5 0,
 zo 1 6 (.bin .shr 160 true 5 (.con (.int .u64 32))),
 zm 2 0 6])
 (.reg [zo 0 2 (.mv (zi 32))]))
 (.skip)))
 (.seq (.seq (.reg [zm 0 7 0,
 zo 1 8 (.bin .geq 160 true 7 (.con (.int .u64 65536)))])
 (.cond 8
 (.seq (.reg [zm 0 9 0,
 zo 1 10 (.bin .shr 160 true 9 (.con (.int .u64 16))),
 zm 2 0 10])
 (.reg [zm 0 11 2,
 zo 1 12 (.bin .add 3 true 11 (zi 16)),
 zm 2 2 12]))
 (.skip)))
 (.seq (.seq (.reg [zm 0 13 0,
 zo 1 14 (.bin .geq 160 true 13 (.con (.int .u64 256)))])
 (.cond 14
 (.seq (.reg [zm 0 15 0,
 zo 1 16 (.bin .shr 160 true 15 (.con (.int .u64 8))),
 zm 2 0 16])
 (.reg [zm 0 17 2,
 zo 1 18 (.bin .add 3 true 17 (zi 8)),
 zm 2 2 18]))
 (.skip)))
 (.seq (.reg [zm 0 19 2,
 zm 1 20 0,
 zo 2 21 (.conv 160 5 20),
 zo 3 22 (.idxS 9 (.con (.string ⟨#[0,1,2,2,3,3,3,3,4,4,4,4,4,4,4,4,5,5,5,5,5,5,5,5,5,5,5,5,5,5,5,5,6,6,6,6,6,6,6,6,6,6,6,6,6,6,6,6,6,6,6,6,6,6,6,6,6,6,6,6,6,6,6,6,7,7,7,7,7,7,7,7,7,7,7,7,7,7,7,7,7,7,7,7,7,7,7,7,7,7,7,7,7,7,7,7,7,7,7,7,7,7,7,7,7,7,7,7,7,7,7,7,7,7,7,7,7,7,7,7,7,7,7,7,7,7,7,7,8,8,8,8,8,8,8,8,8,8,8,8,8,8,8,8,8,8,8,8,8,8,8,8,8,8,8,8,8,8,8,8,8,8,8,8,8,8,8,8,8,8,8,8,8,8,8,8,8,8,8,8,8,8,8,8,8,8,8,8,8,8,8,8,8,8,8,8,8,8,8,8,8,8,8,8,8,8,8,8,8,8,8,8,8,8,8,8,8,8,8,8,8,8,8,8,8,8,8,8,8,8,8,8,8,8,8,8,8,8,8,8,8,8,8,8,8,8,8,8,8,8,8,8,8,8,8,8]⟩)) 21),
 zo 4 23 (.conv 5 3 22),
 zo 5 24 (.bin .add 3 false 19 23),
 zm 6 2 24])
 (.ret))))),
 [.tmp 2]⟩
theorem p130u : PR Go.Proofs.Tryz.f130 = some v130u:=by kernel_rfl

def v131u : VFun :=
⟨.seq (.reg [zo 0 2 (.mv (zi 0))])
 (.seq (.seq (.reg [zm 0 3 0])
 (.cond 3
 (.seq (.reg [zo 0 2 (.mv (zi 1))])
 (.ret))
 (.skip)))
 (.seq (.reg [zo 0 2 (.mv (zi 0))])
 (.ret))),
 [.tmp 2]⟩
theorem p131u : PR Go.Proofs.Tryz.f131 = some v131u:=by kernel_rfl

def v132u : VFun :=
⟨.seq (.reg [zo 0 2 (.mv (.con (.bool false)))])
 (.seq (.reg [zm 0 3 0,
 zm 1 4 0,
 zo 2 5 (.bin .sub 3 true 4 (zi 1)),
 zo 3 6 (.bin .and 3 false 3 5),
 zo 4 7 (.bin .eql 3 true 6 (zi 0)),
 zm 5 2 7])
 (.ret)),
 [.tmp 2]⟩
theorem p132u : PR Go.Proofs.Tryz.f132 = some v132u:=by kernel_rfl

def v133u : VFun :=
⟨.seq (.reg [zo 0 2 (.mv (zi 0))])
 (.seq (.cond (.con (.bool false))
 (.seq (.reg [zm 0 3 0,
 zo 1 4 (.conv 182 180 3),
 zo 2 5 (.call 140 [4]),
 zm 3 2 5])
 (.ret))
 (.skip))
 (.seq (.reg [zm 0 6 0,
 zo 1 7 (.call 141 [6]),
 zm 2 2 7])
 (.ret))),
 [.tmp 2]⟩
theorem p133u : PR Go.Proofs.Tryz.f133 = some v133u:=by kernel_rfl

def v134u : VFun :=
⟨.seq (.reg [zo 0 6 (.mv (zi 0)),
 zo 1 7 (.mv (.con .nilIface))])
 (.seq (.reg [zm 0 10 0,
 zm 1 11 1,
 zm 2 12 2,
 zo 3 13 (.call 142 [10,11,12]),
 zm 4 9 13,
 zo 5 14 (.ext 9 0),
 zo 6 15 (.ext 9 1),
 zm 7 8 14,
 zm 8 7 15])
 (.seq (.seq (.reg [zm 0 16 7,
 zo 1 17 (.isnil 3 true 16)])
 (.cond 17
 (.seq (.reg [zm 0 18 8,
 zm 1 19 0,
 zm 2 20 1,
 zm 3 21 2,
 zm 4 22 7,
 zo 5 23 (.call 143 [(.con (.string ⟨#[80,97,114,115,101,73,110,116]⟩)),19,20,21,22]),
 zm 6 6 18,
 zm 7 7 23])
 (.ret))
 (.skip)))
 (.seq (.reg [zm 0 24 8,
 zm 1 6 24,
 zo 2 7 (.mv (.con .nilIface))])
 (.ret)))),
 [.tmp 6,.tmp 7]⟩
theorem p134u : PR Go.Proofs.Tryz.f134 = some v134u:=by kernel_rfl

def v_internal_stringslite_IndexByte : VFun :=
⟨.seq (.reg [zo 0 4 (.mv (zi 0))])
 (.seq (.reg [zm 0 5 0,
 zm 1 6 1,
 zo 2 7 (.call 144 [(.tmp 5),(.tmp 6)]),
 zm 3 4 7])
 (.ret)),
 [.tmp 4]⟩
theorem p_internal_stringslite_IndexByte : PR Go.Proofs.Tryz.f136 = some v_internal_stringslite_IndexByte:=by kernel_rfl

def v138u : VFun :=
⟨.seq (.reg [zo 0 2 (.mv (zi 0))])
 (.seq (.reg [zm 0 3 0,
 zo 1 4 (.bin .add 3 true 3 (zi 16)),
 zo 2 5 (.bin .quo 3 true 4 (zi 8)),
 zm 3 2 5])
 (.ret)),
 [.tmp 2]⟩
theorem p138u : PR Go.Proofs.Tryz.f138 = some v138u:=by kernel_rfl

def v139u : VFun :=
⟨.seq (.reg [zo 0 4 (.mv (zi 0))])
 (.seq (.reg [zm 0 12 1,
 zo 1 13 (.call 145 [12]),
 zm 2 11 13,
 zo 3 14 (.ext 11 0),
 zo 4 15 (.ext 11 1),
 zm 5 5 14,
 zm 6 6 15])
 (.seq (.reg [zm 0 16 1,
 zo 1 17 (.bi .len [9] 3 [16]),
 zm 2 7 17])
 (.seq (.reg [zo 0 8 (.mv (.con (.int .u32 0)))])
 (.seq (.seq (.reg [zo 0 9 (.mv (zi 0))])
 (.block 0
 (.loop
 (.seq (.seq (.reg [zm 0 18 9,
 zm 1 19 7,
 zo 2 20 (.bin .lss 3 false 18 19)])
 (.cond 20
 (.skip)
 (.exit 0)))
 (.seq (.block 1
 (.reg [zm 0 23 8,
 zo 1 24 (.bin .mul 180 true 23 (.con (.int .u32 16777619))),
 zm 2 25 0,
 zm 3 26 9,
 zo 4 27 (.idxS 9 25 26),
 zo 5 28 (.conv 5 180 27),
 zo 6 29 (.bin .add 180 false 24 28),
 zm 7 8 29]))
 (.reg [zm 0 21 9,
 zo 1 22 (.bin .add 3 true 21 (zi 1)),
 zm 2 9 22]))))))
 (.seq (.seq (.reg [zm 0 30 8,
 zm 1 31 5,
 zo 2 32 (.bin .eql 180 false 30 31),
 zm 3 33 32,
 zg 4 34 (.mv 0) 33 true,
 zg 5 35 (.mv 7) 33 true,
 zg 6 36 (.slS 9 34 none (some 35)) 33 true,
 zg 7 37 (.mv 1) 33 true,
 zg 8 38 (.bin .eql 9 false 36 37) 33 true,
 zo 9 39 (.pick 33 38 (.con (.bool false)))])
 (.cond 39
 (.seq (.reg [zo 0 4 (.mv (zi 0))])
 (.ret))
 (.skip)))
 (.seq (.seq (.reg [zm 0 40 7,
 zm 1 10 40])
 (.block 2
 (.loop
 (.seq (.seq (.reg [zm 0 41 10,
 zm 1 42 0,
 zo 2 43 (.bi .len [9] 3 [42]),
 zo 3 44 (.bin .lss 3 false 41 43)])
 (.cond 44
 (.skip)
 (.exit 2)))
 (.block 3
 (.seq (.reg [zm 0 45 8,
 zo 1 46 (.bin .mul 180 true 45 (.con (.int .u32 16777619))),
 zm 2 8 46])
 (.seq (.reg [zm 0 47 8,
 zm 1 48 0,
 zm 2 49 10,
 zo 3 50 (.idxS 9 48 49),
 zo 4 51 (.conv 5 180 50),
 zo 5 52 (.bin .add 180 false 47 51),
 zm 6 8 52])
 (.seq (.reg [zm 0 53 8,
 zm 1 54 6,
 zm 2 55 0,
 zm 3 56 10,
 zm 4 57 7,
 zo 5 58 (.bin .sub 3 false 56 57),
 zo 6 59 (.idxS 9 55 58),
 zo 7 60 (.conv 5 180 59),
 zo 8 61 (.bin .mul 180 false 54 60),
 zo 9 62 (.bin .sub 180 false 53 61),
 zm 10 8 62])
 (.seq (.reg [zm 0 63 10,
 zo 1 64 (.bin .add 3 true 63 (zi 1)),
 zm 2 10 64])
 (.seq (.reg [zm 0 65 8,
 zm 1 66 5,
 zo 2 67 (.bin .eql 180 false 65 66),
 zm 3 68 67,
 zg 4 69 (.mv 0) 68 true,
 zg 5 70 (.mv 10) 68 true,
 zg 6 71 (.mv 7) 68 true,
 zg 7 72 (.bin .sub 3 false 70 71) 68 true,
 zg 8 73 (.mv 10) 68 true,
 zg 9 74 (.slS 9 69 (some 72) (some 73)) 68 true,
 zg 10 75 (.mv 1) 68 true,
 zg 11 76 (.bin .eql 9 false 74 75) 68 true,
 zo 12 77 (.pick 68 76 (.con (.bool false)))])
 (.cond 77
 (.seq (.reg [zm 0 78 10,
 zm 1 79 7,
 zo 2 80 (.bin .sub 3 false 78 79),
 zm 3 4 80])
 (.ret))
 (.skip))))))))))))
 (.seq (.reg [zo 0 4 (.mv (zi (-1)))])
 (.ret)))))))),
 [.tmp 4]⟩
theorem p139u : PR Go.Proofs.Tryz.f139 = some v139u:=by kernel_rfl

def v142u : VFun :=
⟨.seq (.reg [zo 0 6 (.mv (zi 0)),
 zo 1 7 (.mv (.con .nilIface))])
 (.seq (.seq (.reg [zm 0 12 0,
 zo 1 13 (.bin .eql 9 true 12 (.con (.string ⟨#[]⟩)))])
 (.cond 13
 (.seq (.reg [zo 0 14 (.mkif 196 (zi 2)),
 zo 1 6 (.mv (zi 0)),
 zm 2 7 14])
 (.ret))
 (.skip)))
 (.seq (.reg [zo 0 8 (.mv (.con (.bool false)))])
 (.seq (.seq (.reg [zm 0 15 0,
 zo 1 16 (.idxS 9 15 (zi 0))])
 (.block 0
 (.seq (.reg [zo 0 18 (.bin .eql 5 true 16 (.con (.int .u8 43))),
 zm 1 17 18])
 (.cond 17
 (.reg [zm 0 19 0,
 zo 1 20 (.slS 9 19 (some (zi 1)) none),
 zm 2 0 20])
 (.seq (.reg [zo 0 22 (.bin .eql 5 true 16 (.con (.int .u8 45))),
 zm 1 21 22])
 (.cond 21
 (.seq (.reg [zm 0 23 0,
 zo 1 24 (.slS 9 23 (some (zi 1)) none),
 zm 2 0 24])
 (.reg [zo 0 8 (.mv (.con (.bool true)))]))
 (.skip)))))))
 (.seq (.reg [zo 0 9 (.mv (.con (.int .u64 0)))])
 (.seq (.reg [zm 0 26 0,
 zm 1 27 1,
 zm 2 28 2,
 zo 3 29 (.call 146 [26,27,28]),
 zm 4 25 29,
 zo 5 30 (.ext 25 0),
 zo 6 31 (.ext 25 1),
 zm 7 9 30,
 zm 8 7 31])
 (.seq (.seq (.reg [zm 0 32 7,
 zo 1 33 (.isnil 3 true 32),
 zm 2 34 33,
 zg 3 35 (.mv 7) 34 true,
 zg 4 36 (.mkif 196 (zi 1)) 34 true,
 zg 5 37 (.bin .neq 83 false 35 36) 34 true,
 zo 6 38 (.pick 34 37 (.con (.bool false)))])
 (.cond 38
 (.seq (.reg [zm 0 39 7,
 zo 1 6 (.mv (zi 0)),
 zm 2 7 39])
 (.ret))
 (.skip)))
 (.seq (.seq (.reg [zm 0 40 2,
 zo 1 41 (.bin .eql 3 true 40 (zi 0))])
 (.cond 41
 (.reg [zo 0 2 (.mv (zi 64))])
 (.skip)))
 (.seq (.reg [zm 0 42 2,
 zo 1 43 (.bin .sub 3 true 42 (zi 1)),
 zo 2 44 (.conv 3 182 43),
 zo 3 45 (.bin .shl 160 true (.con (.int .u64 1)) 44),
 zm 4 10 45])
 (.seq (.seq (.reg [zm 0 46 8,
 zo 1 47 (.un .not 46),
 zm 2 48 47,
 zg 3 49 (.mv 9) 48 true,
 zg 4 50 (.mv 10) 48 true,
 zg 5 51 (.bin .geq 160 false 49 50) 48 true,
 zo 6 52 (.pick 48 51 (.con (.bool false)))])
 (.cond 52
 (.seq (.reg [zm 0 53 10,
 zo 1 54 (.bin .sub 160 true 53 (.con (.int .u64 1))),
 zo 2 55 (.conv 160 2 54),
 zo 3 56 (.mkif 196 (zi 1)),
 zm 4 6 55,
 zm 5 7 56])
 (.ret))
 (.skip)))
 (.seq (.seq (.reg [zm 0 57 8,
 zm 1 58 57,
 zg 2 59 (.mv 9) 58 true,
 zg 3 60 (.mv 10) 58 true,
 zg 4 61 (.bin .gtr 160 false 59 60) 58 true,
 zo 5 62 (.pick 58 61 (.con (.bool false)))])
 (.cond 62
 (.seq (.reg [zm 0 63 10,
 zo 1 64 (.conv 160 2 63),
 zo 2 65 (.un .neg 64),
 zo 3 66 (.mkif 196 (zi 1)),
 zm 4 6 65,
 zm 5 7 66])
 (.ret))
 (.skip)))
 (.seq (.reg [zm 0 67 9,
 zo 1 68 (.conv 160 2 67),
 zm 2 11 68])
 (.seq (.seq (.reg [zm 0 69 8])
 (.cond 69
 (.reg [zm 0 70 11,
 zo 1 71 (.un .neg 70),
 zm 2 11 71])
 (.skip)))
 (.seq (.reg [zm 0 72 11,
 zm 1 6 72,
 zo 2 7 (.mv (.con .nilIface))])
 (.ret)))))))))))))),
 [.tmp 6,.tmp 7]⟩
theorem p142u : PR Go.Proofs.Tryz.f142 = some v142u:=by kernel_rfl

def v143u : VFun :=
⟨.seq (.reg [zo 0 10 (.mv (.con .nilIface))])
 (.seq (.seq (.reg [zm 0 11 4])
 (.block 0
 (.seq (.reg [zo 0 13 (.mkif 196 (zi 2)),
 zo 1 14 (.bin .eql 83 false 11 13),
 zm 2 12 14])
 (.cond 12
 (.seq (.reg [zm 0 15 0,
 zm 1 16 1,
 zo 2 17 (.call 147 [15,16]),
 zo 3 18 (.mkif 199 17),
 zm 4 10 18])
 (.ret))
 (.seq (.reg [zo 0 20 (.mkif 196 (zi 1)),
 zo 1 21 (.bin .eql 83 false 11 20),
 zm 2 19 21])
 (.cond 19
 (.seq (.reg [zm 0 22 0,
 zm 1 23 1,
 zo 2 24 (.call 148 [22,23]),
 zo 3 25 (.mkif 199 24),
 zm 4 10 25])
 (.ret))
 (.seq (.reg [zo 0 27 (.mkif 196 (zi 3)),
 zo 1 28 (.bin .eql 83 false 11 27),
 zm 2 26 28])
 (.cond 26
 (.seq (.reg [zm 0 29 0,
 zm 1 30 1,
 zm 2 31 2,
 zo 3 32 (.call 149 [29,30,31]),
 zo 4 33 (.mkif 199 32),
 zm 5 10 33])
 (.ret))
 (.seq (.reg [zo 0 35 (.mkif 196 (zi 4)),
 zo 1 36 (.bin .eql 83 false 11 35),
 zm 2 34 36])
 (.cond 34
 (.seq (.reg [zm 0 37 0,
 zm 1 38 1,
 zm 2 39 3,
 zo 3 40 (.call 150 [37,38,39]),
 zo 4 41 (.mkif 199 40),
 zm 5 10 41])
 (.ret))
 (.skip)))))))))))
 (.seq (.reg [zm 0 42 4,
 zm 1 10 42])
 (.ret))),
 [.tmp 10]⟩
theorem p143u : PR Go.Proofs.Tryz.f143 = some v143u:=by kernel_rfl

def v145u : VFun :=
⟨.seq (.reg [zo 0 2 (.mv (.con (.int .u32 0))),
 zo 1 3 (.mv (.con (.int .u32 0)))])
 (.seq (.reg [zo 0 4 (.mv (.con (.int .u32 0)))])
 (.seq (.seq (.reg [zo 0 5 (.mv (zi 0))])
 (.block 0
 (.loop
 (.seq (.seq (.reg [zm 0 9 5,
 zm 1 10 0,
 zo 2 11 (.bi .len [9] 3 [10]),
 zo 3 12 (.bin .lss 3 false 9 11)])
 (.cond 12
 (.skip)
 (.exit 0)))
 (.seq (.block 1
 (.reg [zm 0 15 4,
 zo 1 16 (.bin .mul 180 true 15 (.con (.int .u32 16777619))),
 zm 2 17 0,
 zm 3 18 5,
 zo 4 19 (.idxS 9 17 18),
 zo 5 20 (.conv 5 180 19),
 zo 6 21 (.bin .add 180 false 16 20),
 zm 7 4 21]))
 (.reg [zm 0 13 5,
 zo 1 14 (.bin .add 3 true 13 (zi 1)),
 zm 2 5 14]))))))
 (.seq (.reg [zo 0 6 (.mv (.con (.int .u32 1))),
 zo 1 7 (.mv (.con (.int .u32 16777619)))])
 (.seq (.seq (.reg [zm 0 22 0,
 zo 1 23 (.bi .len [9] 3 [22]),
 zm 2 8 23])
 (.block 2
 (.loop
 (.seq (.seq (.reg [zm 0 24 8,
 zo 1 25 (.bin .gtr 3 true 24 (zi 0))])
 (.cond 25
 (.skip)
 (.exit 2)))
 (.seq (.block 3
 (.seq (.seq (.reg [zm 0 28 8,
 zo 1 29 (.bin .and 3 true 28 (zi 1)),
 zo 2 30 (.bin .neq 3 true 29 (zi 0))])
 (.cond 30
 (.reg [zm 0 31 6,
 zm 1 32 7,
 zo 2 33 (.bin .mul 180 false 31 32),
 zm 3 6 33])
 (.skip)))
 (.reg [zm 0 34 7,
 zm 1 35 7,
 zo 2 36 (.bin .mul 180 false 34 35),
 zm 3 7 36])))
 (.reg [zm 0 26 8,
 zo 1 27 (.bin .shr 3 true 26 (.con (.int .u64 1))),
 zm 2 8 27]))))))
 (.seq (.reg [zm 0 37 4,
 zm 1 38 6,
 zm 2 2 37,
 zm 3 3 38])
 (.ret)))))),
 [.tmp 2,.tmp 3]⟩
theorem p145u : PR Go.Proofs.Tryz.f145 = some v145u:=by kernel_rfl

def v146u : VFun :=
⟨.seq (.reg [zo 0 6 (.mv (.con (.int .u64 0))),
 zo 1 7 (.mv (.con .nilIface))])
 (.seq (.seq (.reg [zm 0 18 0,
 zo 1 19 (.bin .eql 9 true 18 (.con (.string ⟨#[]⟩)))])
 (.cond 19
 (.seq (.reg [zo 0 20 (.mkif 196 (zi 2)),
 zo 1 6 (.mv (.con (.int .u64 0))),
 zm 2 7 20])
 (.ret))
 (.skip)))
 (.seq (.reg [zm 0 21 1,
 zo 1 22 (.bin .eql 3 true 21 (zi 0)),
 zm 2 8 22])
 (.seq (.reg [zm 0 23 0,
 zm 1 9 23])
 (.seq (.block 0
 (.seq (.reg [zm 0 26 1,
 zo 1 27 (.bin .leq 3 true (zi 2) 26),
 zm 2 28 27,
 zg 3 29 (.mv 1) 28 true,
 zg 4 30 (.bin .leq 3 true 29 (zi 36)) 28 true,
 zo 5 31 (.pick 28 30 (.con (.bool false))),
 zm 6 25 31])
 (.cond 25
 (.skip)
 (.seq (.reg [zm 0 33 1,
 zo 1 34 (.bin .eql 3 true 33 (zi 0)),
 zm 2 32 34])
 (.cond 32
 (.seq (.reg [zo 0 1 (.mv (zi 10))])
 (.seq (.reg [zm 0 35 0,
 zo 1 36 (.idxS 9 35 (zi 0)),
 zo 2 37 (.bin .eql 5 true 36 (.con (.int .u8 48)))])
 (.cond 37
 (.block 1
 (.seq (.reg [zm 0 41 0,
 zo 1 42 (.bi .len [9] 3 [41]),
 zo 2 43 (.bin .geq 3 true 42 (zi 3)),
 zm 3 44 43,
 zg 4 45 (.mv 0) 44 true,
 zg 5 46 (.idxS 9 45 (zi 1)) 44 true,
 zg 6 47 (.call 151 [46]) 44 true,
 zg 7 48 (.bin .eql 5 true 47 (.con (.int .u8 98))) 44 true,
 zo 8 49 (.pick 44 48 (.con (.bool false))),
 zm 9 40 49])
 (.cond 40
 (.seq (.reg [zo 0 1 (.mv (zi 2))])
 (.reg [zm 0 50 0,
 zo 1 51 (.slS 9 50 (some (zi 2)) none),
 zm 2 0 51]))
 (.seq (.reg [zm 0 53 0,
 zo 1 54 (.bi .len [9] 3 [53]),
 zo 2 55 (.bin .geq 3 true 54 (zi 3)),
 zm 3 56 55,
 zg 4 57 (.mv 0) 56 true,
 zg 5 58 (.idxS 9 57 (zi 1)) 56 true,
 zg 6 59 (.call 151 [58]) 56 true,
 zg 7 60 (.bin .eql 5 true 59 (.con (.int .u8 111))) 56 true,
 zo 8 61 (.pick 56 60 (.con (.bool false))),
 zm 9 52 61])
 (.cond 52
 (.seq (.reg [zo 0 1 (.mv (zi 8))])
 (.reg [zm 0 62 0,
 zo 1 63 (.slS 9 62 (some (zi 2)) none),
 zm 2 0 63]))
 (.seq (.reg [zm 0 65 0,
 zo 1 66 (.bi .len [9] 3 [65]),
 zo 2 67 (.bin .geq 3 true 66 (zi 3)),
 zm 3 68 67,
 zg 4 69 (.mv 0) 68 true,
 zg 5 70 (.idxS 9 69 (zi 1)) 68 true,
 zg 6 71 (.call 151 [70]) 68 true,
 zg 7 72 (.bin .eql 5 true 71 (.con (.int .u8 120))) 68 true,
 zo 8 73 (.pick 68 72 (.con (.bool false))),
 zm 9 64 73])
 (.cond 64
 (.seq (.reg [zo 0 1 (.mv (zi 16))])
 (.reg [zm 0 74 0,
 zo 1 75 (.slS 9 74 (some (zi 2)) none),
 zm 2 0 75]))
 (.seq (.reg [zo 0 1 (.mv (zi 8))])
 (.reg [zm 0 38 0,
 zo 1 39 (.slS 9 38 (some (zi 1)) none),
 zm 2 0 39])))))))))
 (.skip))))
 (.seq (.reg [zo 0 24 (.mkif 196 (zi 3)),
 zo 1 6 (.mv (.con (.int .u64 0))),
 zm 2 7 24])
 (.ret)))))))
 (.seq (.seq (.reg [zm 0 76 2,
 zo 1 77 (.bin .eql 3 true 76 (zi 0))])
 (.cond 77
 (.reg [zo 0 2 (.mv (zi 64))])
 (.seq (.reg [zm 0 78 2,
 zo 1 79 (.bin .lss 3 true 78 (zi 0)),
 zm 2 80 79,
 zg 3 81 (.mv 2) 80 false,
 zg 4 82 (.bin .gtr 3 true 81 (zi 64)) 80 false,
 zo 5 83 (.pick 80 (.con (.bool true)) 82)])
 (.cond 83
 (.seq (.reg [zo 0 84 (.mkif 196 (zi 4)),
 zo 1 6 (.mv (.con (.int .u64 0))),
 zm 2 7 84])
 (.ret))
 (.skip)))))
 (.seq (.reg [zo 0 10 (.mv (.con (.int .u64 0)))])
 (.seq (.seq (.reg [zm 0 85 1])
 (.block 2
 (.seq (.reg [zo 0 91 (.bin .eql 3 true 85 (zi 10)),
 zm 1 90 91])
 (.cond 90
 (.reg [zo 0 10 (.mv (.con (.int .u64 1844674407370955162)))])
 (.seq (.reg [zo 0 93 (.bin .eql 3 true 85 (zi 16)),
 zm 1 92 93])
 (.cond 92
 (.reg [zo 0 10 (.mv (.con (.int .u64 1152921504606846976)))])
 (.reg [zm 0 86 1,
 zo 1 87 (.conv 3 160 86),
 zo 2 88 (.bin .quo 160 true (.con (.int .u64 18446744073709551615)) 87),
 zo 3 89 (.bin .add 160 true 88 (.con (.int .u64 1))),
 zm 4 10 89])))))))
 (.seq (.reg [zm 0 94 2,
 zo 1 95 (.conv 3 182 94),
 zo 2 96 (.bin .shl 160 true (.con (.int .u64 1)) 95),
 zo 3 97 (.bin .sub 160 true 96 (.con (.int .u64 1))),
 zm 4 11 97])
 (.seq (.reg [zo 0 12 (.mv (.con (.bool false)))])
 (.seq (.reg [zo 0 13 (.mv (.con (.int .u64 0)))])
 (.seq (.seq (.reg [zm 0 98 0,
 zo 1 99 (.s2b 98),
 zo 2 100 (.len 99),
 zo 3 101 (.mv (zi 0))])
 (.block 3
 (.loop
 (.seq (.reg [zo 0 102 (.bin .lss 3 false 101 100)])
 (.seq (.cond 102
 (.skip)
 (.exit 3))
 (.seq (.block 4
 (.seq (.reg [zo 0 103 (.idxA none 1 99 101),
 zl 1 104 103,
 zm 2 15 104])
 (.seq (.reg [zo 0 16 (.mv (.con (.int .u8 0)))])
 (.seq (.block 5
 (.seq (.reg [zm 0 107 15,
 zo 1 108 (.bin .eql 5 true 107 (.con (.int .u8 95))),
 zm 2 109 108,
 zg 3 110 (.mv 8) 109 true,
 zo 4 111 (.pick 109 110 (.con (.bool false))),
 zm 5 106 111])
 (.cond 106
 (.seq (.reg [zo 0 12 (.mv (.con (.bool true)))])
 (.exit 4))
 (.seq (.reg [zm 0 113 15,
 zo 1 114 (.bin .leq 5 true (.con (.int .u8 48)) 113),
 zm 2 115 114,
 zg 3 116 (.mv 15) 115 true,
 zg 4 117 (.bin .leq 5 true 116 (.con (.int .u8 57))) 115 true,
 zo 5 118 (.pick 115 117 (.con (.bool false))),
 zm 6 112 118])
 (.cond 112
 (.reg [zm 0 119 15,
 zo 1 120 (.bin .sub 5 true 119 (.con (.int .u8 48))),
 zm 2 16 120])
 (.seq (.reg [zm 0 122 15,
 zo 1 123 (.call 151 [122]),
 zo 2 124 (.bin .leq 5 true (.con (.int .u8 97)) 123),
 zm 3 125 124,
 zg 4 126 (.mv 15) 125 true,
 zg 5 127 (.call 151 [126]) 125 true,
 zg 6 128 (.bin .leq 5 true 127 (.con (.int .u8 122))) 125 true,
 zo 7 129 (.pick 125 128 (.con (.bool false))),
 zm 8 121 129])
 (.cond 121
 (.reg [zm 0 130 15,
 zo 1 131 (.call 151 [130]),
 zo 2 132 (.bin .sub 5 true 131 (.con (.int .u8 97))),
 zo 3 133 (.bin .add 5 true 132 (.con (.int .u8 10))),
 zm 4 16 133])
 (.seq (.reg [zo 0 105 (.mkif 196 (zi 2)),
 zo 1 6 (.mv (.con (.int .u64 0))),
 zm 2 7 105])
 (.ret)))))))))
 (.seq (.seq (.reg [zm 0 134 16,
 zm 1 135 1,
 zo 2 136 (.conv 3 5 135),
 zo 3 137 (.bin .geq 5 false 134 136)])
 (.cond 137
 (.seq (.reg [zo 0 138 (.mkif 196 (zi 2)),
 zo 1 6 (.mv (.con (.int .u64 0))),
 zm 2 7 138])
 (.ret))
 (.skip)))
 (.seq (.seq (.reg [zm 0 139 13,
 zm 1 140 10,
 zo 2 141 (.bin .geq 160 false 139 140)])
 (.cond 141
 (.seq (.reg [zm 0 142 11,
 zo 1 143 (.mkif 196 (zi 1)),
 zm 2 6 142,
 zm 3 7 143])
 (.ret))
 (.skip)))
 (.seq (.reg [zm 0 144 13,
 zm 1 145 1,
 zo 2 146 (.conv 3 160 145),
 zo 3 147 (.bin .mul 160 false 144 146),
 zm 4 13 147])
 (.seq (.reg [zm 0 148 13,
 zm 1 149 16,
 zo 2 150 (.conv 5 160 149),
 zo 3 151 (.bin .add 160 false 148 150),
 zm 4 17 151])
 (.seq (.seq (.reg [zm 0 152 17,
 zm 1 153 13,
 zo 2 154 (.bin .lss 160 false 152 153),
 zm 3 155 154,
 zg 4 156 (.mv 17) 155 false,
 zg 5 157 (.mv 11) 155 false,
 zg 6 158 (.bin .gtr 160 false 156 157) 155 false,
 zo 7 159 (.pick 155 (.con (.bool true)) 158)])
 (.cond 159
 (.seq (.reg [zm 0 160 11,
 zo 1 161 (.mkif 196 (zi 1)),
 zm 2 6 160,
 zm 3 7 161])
 (.ret))
 (.skip)))
 (.reg [zm 0 162 17,
 zm 1 13 162]))))))))))
 (.reg [zo 0 163 (.bin .add 3 true 101 (zi 1)),
 zm 1 101 163])))))))
 (.seq (.seq (.reg [zm 0 164 12,
 zm 1 165 164,
 zg 2 166 (.mv 9) 165 true,
 zg 3 167 (.call 152 [166]) 165 true,
 zg 4 168 (.un .not 167) 165 true,
 zo 5 169 (.pick 165 168 (.con (.bool false)))])
 (.cond 169
 (.seq (.reg [zo 0 170 (.mkif 196 (zi 2)),
 zo 1 6 (.mv (.con (.int .u64 0))),
 zm 2 7 170])
 (.ret))
 (.skip)))
 (.seq (.reg [zm 0 171 13,
 zm 1 6 171,
 zo 2 7 (.mv (.con .nilIface))])
 (.ret)))))))))))))),
 [.tmp 6,.tmp 7]⟩
theorem p146u : PR Go.Proofs.Tryz.f146 = some v146u:=by kernel_rfl

end Go.VX.Seat
end
section
set_option maxRecDepth 20000
namespace Go.VX.Seat
def v147u : VFun :=
⟨.seq (.reg [zo 0 4 (.mv (.con (.pointer none)))])
 (.seq (.reg [zm 0 5 0,
 zm 1 6 1,
 zo 3 8 (.load none (.glo 4)),
 ⟨2,(some 7),.call 153 [6],none,[(.glo 4)]⟩,
 zo 4 9 (.build [(.string ⟨#[]⟩),(.string ⟨#[]⟩),.nilIface] [(0,1,5),(1,1,7),(2,1,8)]),
 zo 5 10 (.box 9),
 zm 6 4 10])
 (.ret)),
 [.tmp 4]⟩
theorem p147u : PR Go.Proofs.Tryz.f147 = some v147u:=by kernel_rfl

def v148u : VFun :=
⟨.seq (.reg [zo 0 4 (.mv (.con (.pointer none)))])
 (.seq (.reg [zm 0 5 0,
 zm 1 6 1,
 zo 3 8 (.load none (.glo 5)),
 ⟨2,(some 7),.call 153 [6],none,[(.glo 5)]⟩,
 zo 4 9 (.build [(.string ⟨#[]⟩),(.string ⟨#[]⟩),.nilIface] [(0,1,5),(1,1,7),(2,1,8)]),
 zo 5 10 (.box 9),
 zm 6 4 10])
 (.ret)),
 [.tmp 4]⟩
theorem p148u : PR Go.Proofs.Tryz.f148 = some v148u:=by kernel_rfl

def v149u : VFun :=
⟨.seq (.reg [zo 0 6 (.mv (.con (.pointer none)))])
 (.seq (.reg [zm 0 7 0,
 zm 1 8 1,
 zo 2 9 (.call 153 [8]),
 zm 3 10 2,
 zo 4 11 (.call 40 [10]),
 zo 5 12 (.bin .add 9 true (.con (.string ⟨#[105,110,118,97,108,105,100,32,98,97,115,101,32]⟩)) 11),
 zo 6 13 (.call 154 [12]),
 zo 7 14 (.build [(.string ⟨#[]⟩),(.string ⟨#[]⟩),.nilIface] [(0,1,7),(1,1,9),(2,1,13)]),
 zo 8 15 (.box 14),
 zm 9 6 15])
 (.ret)),
 [.tmp 6]⟩
theorem p149u : PR Go.Proofs.Tryz.f149 = some v149u:=by kernel_rfl

def v150u : VFun :=
⟨.seq (.reg [zo 0 6 (.mv (.con (.pointer none)))])
 (.seq (.reg [zm 0 7 0,
 zm 1 8 1,
 zo 2 9 (.call 153 [8]),
 zm 3 10 2,
 zo 4 11 (.call 40 [10]),
 zo 5 12 (.bin .add 9 true (.con (.string ⟨#[105,110,118,97,108,105,100,32,98,105,116,32,115,105,122,101,32]⟩)) 11),
 zo 6 13 (.call 154 [12]),
 zo 7 14 (.build [(.string ⟨#[]⟩),(.string ⟨#[]⟩),.nilIface] [(0,1,7),(1,1,9),(2,1,13)]),
 zo 8 15 (.box 14),
 zm 9 6 15])
 (.ret)),
 [.tmp 6]⟩
theorem p150u : PR Go.Proofs.Tryz.f150 = some v150u:=by kernel_rfl

def v151u : VFun :=
⟨.seq (.reg [zo 0 2 (.mv (.con (.int .u8 0)))])
 (.seq (.reg [zm 0 3 0,
 zo 1 4 (.bin .or 5 true 3 (.con (.int .u8 32))),
 zm 2 2 4])
 (.ret)),
 [.tmp 2]⟩
theorem p151u : PR Go.Proofs.Tryz.f151 = some v151u:=by kernel_rfl

def v152u : VFun :=
⟨.seq (.reg [zo 0 2 (.mv (.con (.bool false)))])
 (.seq (.reg [zo 0 3 (.mv (.con (.int .i32 94)))])
 (.seq (.reg [zo 0 4 (.mv (zi 0))])
 (.seq (.seq (.reg [zm 0 6 0,
 zo 1 7 (.bi .len [9] 3 [6]),
 zo 2 8 (.bin .geq 3 true 7 (zi 1)),
 zm 3 9 8,
 zg 4 10 (.mv 0) 9 true,
 zg 5 11 (.idxS 9 10 (zi 0)) 9 true,
 zg 6 12 (.bin .eql 5 true 11 (.con (.int .u8 45))) 9 true,
 zg 7 13 (.mv 12) 9 true,
 zg 8 14 (.mv 0) 13 false,
 zg 9 15 (.idxS 9 14 (zi 0)) 13 false,
 zg 10 16 (.bin .eql 5 true 15 (.con (.int .u8 43))) 13 false,
 zg 11 17 (.pick 13 (.con (.bool true)) 16) 9 true,
 zo 12 18 (.pick 9 17 (.con (.bool false)))])
 (.cond 18
 (.reg [zm 0 19 0,
 zo 1 20 (.slS 9 19 (some (zi 1)) none),
 zm 2 0 20])
 (.skip)))
 (.seq (.reg [zo 0 5 (.mv (.con (.bool false)))])
 (.seq (.seq (.reg [zm 0 21 0,
 zo 1 22 (.bi .len [9] 3 [21]),
 zo 2 23 (.bin .geq 3 true 22 (zi 2)),
 zm 3 24 23,
 zg 4 25 (.mv 0) 24 true,
 zg 5 26 (.idxS 9 25 (zi 0)) 24 true,
 zg 6 27 (.bin .eql 5 true 26 (.con (.int .u8 48))) 24 true,
 zo 7 28 (.pick 24 27 (.con (.bool false))),
 zm 8 29 28,
 zg 9 30 (.mv 0) 29 true,
 zg 10 31 (.idxS 9 30 (zi 1)) 29 true,
 zg 11 32 (.call 151 [31]) 29 true,
 zg 12 33 (.bin .eql 5 true 32 (.con (.int .u8 98))) 29 true,
 zg 13 34 (.mv 33) 29 true,
 zg 14 35 (.mv 0) 34 false,
 zg 15 36 (.idxS 9 35 (zi 1)) 34 false,
 zg 16 37 (.call 151 [36]) 34 false,
 zg 17 38 (.bin .eql 5 true 37 (.con (.int .u8 111))) 34 false,
 zg 18 39 (.pick 34 (.con (.bool true)) 38) 29 true,
 zg 19 40 (.mv 39) 29 true,
 zg 20 41 (.mv 0) 40 false,
 zg 21 42 (.idxS 9 41 (zi 1)) 40 false,
 zg 22 43 (.call 151 [42]) 40 false,
 zg 23 44 (.bin .eql 5 true 43 (.con (.int .u8 120))) 40 false,
 zg 24 45 (.pick 40 (.con (.bool true)) 44) 29 true,
 zo 25 46 (.pick 29 45 (.con (.bool false)))])
 (.cond 46
 (.seq (.reg [zo 0 4 (.mv (zi 2))])
 (.seq (.reg [zo 0 3 (.mv (.con (.int .i32 48)))])
 (.reg [zm 0 47 0,
 zo 1 48 (.idxS 9 47 (zi 1)),
 zo 2 49 (.call 151 [48]),
 zo 3 50 (.bin .eql 5 true 49 (.con (.int .u8 120))),
 zm 4 5 50])))
 (.skip)))
 (.seq (.block 0
 (.loop
 (.seq (.seq (.reg [zm 0 51 4,
 zm 1 52 0,
 zo 2 53 (.bi .len [9] 3 [52]),
 zo 3 54 (.bin .lss 3 false 51 53)])
 (.cond 54
 (.skip)
 (.exit 0)))
 (.seq (.block 1
 (.seq (.seq (.reg [zm 0 57 0,
 zm 1 58 4,
 zo 2 59 (.idxS 9 57 58),
 zo 3 60 (.bin .leq 5 true (.con (.int .u8 48)) 59),
 zm 4 61 60,
 zg 5 62 (.mv 0) 61 true,
 zg 6 63 (.mv 4) 61 true,
 zg 7 64 (.idxS 9 62 63) 61 true,
 zg 8 65 (.bin .leq 5 true 64 (.con (.int .u8 57))) 61 true,
 zo 9 66 (.pick 61 65 (.con (.bool false))),
 zm 10 67 66,
 zg 11 68 (.mv 5) 67 false,
 zg 12 69 (.mv 68) 67 false,
 zg 13 70 (.mv 0) 69 true,
 zg 14 71 (.mv 4) 69 true,
 zg 15 72 (.idxS 9 70 71) 69 true,
 zg 16 73 (.call 151 [72]) 69 true,
 zg 17 74 (.bin .leq 5 true (.con (.int .u8 97)) 73) 69 true,
 zg 18 75 (.pick 69 74 (.con (.bool false))) 67 false,
 zg 19 76 (.mv 75) 67 false,
 zg 20 77 (.mv 0) 76 true,
 zg 21 78 (.mv 4) 76 true,
 zg 22 79 (.idxS 9 77 78) 76 true,
 zg 23 80 (.call 151 [79]) 76 true,
 zg 24 81 (.bin .leq 5 true 80 (.con (.int .u8 102))) 76 true,
 zg 25 82 (.pick 76 81 (.con (.bool false))) 67 false,
 zo 26 83 (.pick 67 (.con (.bool true)) 82)])
 (.cond 83
 (.seq (.reg [zo 0 3 (.mv (.con (.int .i32 48)))])
 (.exit 1))
 (.skip)))
 (.seq (.seq (.reg [zm 0 84 0,
 zm 1 85 4,
 zo 2 86 (.idxS 9 84 85),
 zo 3 87 (.bin .eql 5 true 86 (.con (.int .u8 95)))])
 (.cond 87
 (.seq (.seq (.reg [zm 0 88 3,
 zo 1 89 (.bin .neq 21 true 88 (.con (.int .i32 48)))])
 (.cond 89
 (.seq (.reg [zo 0 2 (.mv (.con (.bool false)))])
 (.ret))
 (.skip)))
 (.seq (.reg [zo 0 3 (.mv (.con (.int .i32 95)))])
 (.exit 1)))
 (.skip)))
 (.seq (.seq (.reg [zm 0 90 3,
 zo 1 91 (.bin .eql 21 true 90 (.con (.int .i32 95)))])
 (.cond 91
 (.seq (.reg [zo 0 2 (.mv (.con (.bool false)))])
 (.ret))
 (.skip)))
 (.reg [zo 0 3 (.mv (.con (.int .i32 33)))])))))
 (.reg [zm 0 55 4,
 zo 1 56 (.bin .add 3 true 55 (zi 1)),
 zm 2 4 56])))))
 (.seq (.reg [zm 0 92 3,
 zo 1 93 (.bin .neq 21 true 92 (.con (.int .i32 95))),
 zm 2 2 93])
 (.ret)))))))),
 [.tmp 2]⟩
theorem p152u : PR Go.Proofs.Tryz.f152 = some v152u:=by kernel_rfl

def v154u : VFun :=
⟨.seq (.reg [zo 0 2 (.mv (.con .nilIface))])
 (.seq (.reg [zm 0 3 0,
 zo 1 4 (.build [(.string ⟨#[]⟩)] [(0,1,3)]),
 zo 2 5 (.box 4),
 zo 3 6 (.mkif 207 5),
 zm 4 2 6])
 (.ret)),
 [.tmp 2]⟩
theorem p154u : PR Go.Proofs.Tryz.f154 = some v154u:=by kernel_rfl

end Go.VX.Seat
end
section
set_option maxRecDepth 20000
namespace Go.VX.Seat
abbrev FK (n : FuncId) (v : VFun) : Prop:=FunOk Go.Proofs.Tryz.prog [1,0,2,3,8,9] n v
def fns : List (Nat × VFun):=[(4,v_l07_CodeParses),(10,v10u),(11,v_r07_Check),(12,v12u),(14,v_code_Parse),(15,v_r07_Parse),(16,v_r07_Same),(17,v_r07_Find),(20,v_code_Check),(26,v_r07_One),(31,v_r07_Names),(39,v39u),(40,v40u),(41,v41u),(42,v42u),(44,v_r07_opText),(46,v_code_lines_unit),(47,v_strings_Split),(48,v_r07_u0),(49,v_r07_SameBlocks),(50,v_r07_register),(51,v_r07_op),(52,v_r07_end),(55,v_code_of),(56,v56u),(57,v_r07_HasDst),(58,v_r07_Operands),(60,v_r07_HasA),(61,v_r07_HasB),(62,v_r07_HasC),(63,v_r07_EndA),(64,v_r07_EndTo),(65,v_r07_EndElse),(67,v_code_within),(73,v73u),(74,v_word_Show),(75,v_r07_HasN),(76,v_r01_Show),(77,v_code_lines_peek),(78,v_code_headed),(79,v_code_lines_take),(80,v_code_lines_block),(81,v_strings_genSplit),(82,v_r07_headed),(83,v_strings_HasPrefix),(84,v_r07_readEnd),(85,v_r07_readOp),(86,v_r07_SameOps),(87,v_r07_Array),(88,v_r07_Cell),(89,v_r07_there),(91,v_code_checker_unit),(95,v95u),(96,v96u),(97,v_strings_Cut),(98,v_code_numbers),(99,v_strings_CutPrefix),(100,v_code_readEnd),(101,v_code_readOp),(102,v102u),(103,v_strings_Count),(104,v_strings_Index),(105,v_r07_numbers),(106,v_internal_stringslite_HasPrefix),(107,v_r01_Read),(108,v_code_checker_must),(109,v_slices_ContainsFunc_int),(110,v_code_checker_unit_c1),(111,v_code_checker_op),(112,v_code_checker_end),(114,v114u),(115,v115u),(116,v116u),(117,v117u),(118,v_internal_stringslite_Cut),(119,v_word_Read),(120,v_internal_stringslite_CutPrefix),(121,v_slices_IndexFunc_form),(122,v_code_readOp_c1),(124,v124u),(126,v_internal_stringslite_Index),(127,v_slices_IndexFunc_int),(128,v_code_checker_reg),(129,v129u),(130,v130u),(131,v131u),(132,v132u),(133,v133u),(134,v134u),(136,v_internal_stringslite_IndexByte),(138,v138u),(139,v139u),(142,v142u),(143,v143u),(145,v145u),(146,v146u),(147,v147u),(148,v148u),(149,v149u),(150,v150u),(151,v151u),(152,v152u),(154,v154u)]
def fnOf1 (f : FuncId) : Option VFun:=match f with
  | 78=>some v_code_headed
  | 79=>some v_code_lines_take
  | 80=>some v_code_lines_block
  | 81=>some v_strings_genSplit
  | 82=>some v_r07_headed
  | 83=>some v_strings_HasPrefix
  | 84=>some v_r07_readEnd
  | 85=>some v_r07_readOp
  | 86=>some v_r07_SameOps
  | 87=>some v_r07_Array
  | 88=>some v_r07_Cell
  | 89=>some v_r07_there
  | 91=>some v_code_checker_unit
  | 95=>some v95u
  | 96=>some v96u
  | 97=>some v_strings_Cut
  | 98=>some v_code_numbers
  | 99=>some v_strings_CutPrefix
  | 100=>some v_code_readEnd
  | 101=>some v_code_readOp
  | 102=>some v102u
  | 103=>some v_strings_Count
  | 104=>some v_strings_Index
  | 105=>some v_r07_numbers
  | 106=>some v_internal_stringslite_HasPrefix
  | 107=>some v_r01_Read
  | 108=>some v_code_checker_must
  | 109=>some v_slices_ContainsFunc_int
  | 110=>some v_code_checker_unit_c1
  | 111=>some v_code_checker_op
  | 112=>some v_code_checker_end
  | 114=>some v114u
  | 115=>some v115u
  | 116=>some v116u
  | 117=>some v117u
  | 118=>some v_internal_stringslite_Cut
  | 119=>some v_word_Read
  | 120=>some v_internal_stringslite_CutPrefix
  | 121=>some v_slices_IndexFunc_form
  | 122=>some v_code_readOp_c1
  | 124=>some v124u
  | 126=>some v_internal_stringslite_Index
  | 127=>some v_slices_IndexFunc_int
  | 128=>some v_code_checker_reg
  | 129=>some v129u
  | 130=>some v130u
  | 131=>some v131u
  | 132=>some v132u
  | 133=>some v133u
  | 134=>some v134u
  | 136=>some v_internal_stringslite_IndexByte
  | 138=>some v138u
  | 139=>some v139u
  | 142=>some v142u
  | 143=>some v143u
  | 145=>some v145u
  | 146=>some v146u
  | 147=>some v147u
  | 148=>some v148u
  | 149=>some v149u
  | 150=>some v150u
  | 151=>some v151u
  | 152=>some v152u
  | 154=>some v154u
  | _=>none
def fnOf (f : FuncId) : Option VFun:=match f with
  | 4=>some v_l07_CodeParses
  | 10=>some v10u
  | 11=>some v_r07_Check
  | 12=>some v12u
  | 14=>some v_code_Parse
  | 15=>some v_r07_Parse
  | 16=>some v_r07_Same
  | 17=>some v_r07_Find
  | 20=>some v_code_Check
  | 26=>some v_r07_One
  | 31=>some v_r07_Names
  | 39=>some v39u
  | 40=>some v40u
  | 41=>some v41u
  | 42=>some v42u
  | 44=>some v_r07_opText
  | 46=>some v_code_lines_unit
  | 47=>some v_strings_Split
  | 48=>some v_r07_u0
  | 49=>some v_r07_SameBlocks
  | 50=>some v_r07_register
  | 51=>some v_r07_op
  | 52=>some v_r07_end
  | 55=>some v_code_of
  | 56=>some v56u
  | 57=>some v_r07_HasDst
  | 58=>some v_r07_Operands
  | 60=>some v_r07_HasA
  | 61=>some v_r07_HasB
  | 62=>some v_r07_HasC
  | 63=>some v_r07_EndA
  | 64=>some v_r07_EndTo
  | 65=>some v_r07_EndElse
  | 67=>some v_code_within
  | 73=>some v73u
  | 74=>some v_word_Show
  | 75=>some v_r07_HasN
  | 76=>some v_r01_Show
  | 77=>some v_code_lines_peek
  | f=>fnOf1 f
theorem o_l07_CodeParses : FK 4 v_l07_CodeParses:=⟨⟨Go.Proofs.Tryz.f4,_,by kernel_rfl,rfl,by kernel_rfl,p_l07_CodeParses⟩⟩
theorem o10u : FK 10 v10u:=⟨⟨Go.Proofs.Tryz.f10,_,by kernel_rfl,rfl,by kernel_rfl,p10u⟩⟩
theorem o_r07_Check : FK 11 v_r07_Check:=⟨⟨Go.Proofs.Tryz.f11,_,by kernel_rfl,rfl,by kernel_rfl,p_r07_Check⟩⟩
theorem o12u : FK 12 v12u:=⟨⟨Go.Proofs.Tryz.f12,_,by kernel_rfl,rfl,by kernel_rfl,p12u⟩⟩
theorem o_code_Parse : FK 14 v_code_Parse:=⟨⟨Go.Proofs.Tryz.f14,_,by kernel_rfl,rfl,by kernel_rfl,p_code_Parse⟩⟩
theorem o_r07_Parse : FK 15 v_r07_Parse:=⟨⟨Go.Proofs.Tryz.f15,_,by kernel_rfl,rfl,by kernel_rfl,p_r07_Parse⟩⟩
theorem o_r07_Same : FK 16 v_r07_Same:=⟨⟨Go.Proofs.Tryz.f16,_,by kernel_rfl,rfl,by kernel_rfl,p_r07_Same⟩⟩
theorem o_r07_Find : FK 17 v_r07_Find:=⟨⟨Go.Proofs.Tryz.f17,_,by kernel_rfl,rfl,by kernel_rfl,p_r07_Find⟩⟩
theorem o_code_Check : FK 20 v_code_Check:=⟨⟨Go.Proofs.Tryz.f20,_,by kernel_rfl,rfl,by kernel_rfl,p_code_Check⟩⟩
theorem o_r07_One : FK 26 v_r07_One:=⟨⟨Go.Proofs.Tryz.f26,_,by kernel_rfl,rfl,by kernel_rfl,p_r07_One⟩⟩
theorem o_r07_Names : FK 31 v_r07_Names:=⟨⟨Go.Proofs.Tryz.f31,_,by kernel_rfl,rfl,by kernel_rfl,p_r07_Names⟩⟩
theorem o39u : FK 39 v39u:=⟨⟨Go.Proofs.Tryz.f39,_,by kernel_rfl,rfl,by kernel_rfl,p39u⟩⟩
theorem o40u : FK 40 v40u:=⟨⟨Go.Proofs.Tryz.f40,_,by kernel_rfl,rfl,by kernel_rfl,p40u⟩⟩
theorem o41u : FK 41 v41u:=⟨⟨Go.Proofs.Tryz.f41,_,by kernel_rfl,rfl,by kernel_rfl,p41u⟩⟩
theorem o42u : FK 42 v42u:=⟨⟨Go.Proofs.Tryz.f42,_,by kernel_rfl,rfl,by kernel_rfl,p42u⟩⟩
theorem o_r07_opText : FK 44 v_r07_opText:=⟨⟨Go.Proofs.Tryz.f44,_,by kernel_rfl,rfl,by kernel_rfl,p_r07_opText⟩⟩
theorem o_code_lines_unit : FK 46 v_code_lines_unit:=⟨⟨Go.Proofs.Tryz.f46,_,by kernel_rfl,rfl,by kernel_rfl,p_code_lines_unit⟩⟩
theorem o_strings_Split : FK 47 v_strings_Split:=⟨⟨Go.Proofs.Tryz.f47,_,by kernel_rfl,rfl,by kernel_rfl,p_strings_Split⟩⟩
theorem o_r07_u0 : FK 48 v_r07_u0:=⟨⟨Go.Proofs.Tryz.f48,_,by kernel_rfl,rfl,by kernel_rfl,p_r07_u0⟩⟩
theorem o_r07_SameBlocks : FK 49 v_r07_SameBlocks:=⟨⟨Go.Proofs.Tryz.f49,_,by kernel_rfl,rfl,by kernel_rfl,p_r07_SameBlocks⟩⟩
theorem o_r07_register : FK 50 v_r07_register:=⟨⟨Go.Proofs.Tryz.f50,_,by kernel_rfl,rfl,by kernel_rfl,p_r07_register⟩⟩
theorem o_r07_op : FK 51 v_r07_op:=⟨⟨Go.Proofs.Tryz.f51,_,by kernel_rfl,rfl,by kernel_rfl,p_r07_op⟩⟩
theorem o_r07_end : FK 52 v_r07_end:=⟨⟨Go.Proofs.Tryz.f52,_,by kernel_rfl,rfl,by kernel_rfl,p_r07_end⟩⟩
theorem o_code_of : FK 55 v_code_of:=⟨⟨Go.Proofs.Tryz.f55,_,by kernel_rfl,rfl,by kernel_rfl,p_code_of⟩⟩
theorem o56u : FK 56 v56u:=⟨⟨Go.Proofs.Tryz.f56,_,by kernel_rfl,rfl,by kernel_rfl,p56u⟩⟩
theorem o_r07_HasDst : FK 57 v_r07_HasDst:=⟨⟨Go.Proofs.Tryz.f57,_,by kernel_rfl,rfl,by kernel_rfl,p_r07_HasDst⟩⟩
theorem o_r07_Operands : FK 58 v_r07_Operands:=⟨⟨Go.Proofs.Tryz.f58,_,by kernel_rfl,rfl,by kernel_rfl,p_r07_Operands⟩⟩
theorem o_r07_HasA : FK 60 v_r07_HasA:=⟨⟨Go.Proofs.Tryz.f60,_,by kernel_rfl,rfl,by kernel_rfl,p_r07_HasA⟩⟩
theorem o_r07_HasB : FK 61 v_r07_HasB:=⟨⟨Go.Proofs.Tryz.f61,_,by kernel_rfl,rfl,by kernel_rfl,p_r07_HasB⟩⟩
theorem o_r07_HasC : FK 62 v_r07_HasC:=⟨⟨Go.Proofs.Tryz.f62,_,by kernel_rfl,rfl,by kernel_rfl,p_r07_HasC⟩⟩
theorem o_r07_EndA : FK 63 v_r07_EndA:=⟨⟨Go.Proofs.Tryz.f63,_,by kernel_rfl,rfl,by kernel_rfl,p_r07_EndA⟩⟩
theorem o_r07_EndTo : FK 64 v_r07_EndTo:=⟨⟨Go.Proofs.Tryz.f64,_,by kernel_rfl,rfl,by kernel_rfl,p_r07_EndTo⟩⟩
theorem o_r07_EndElse : FK 65 v_r07_EndElse:=⟨⟨Go.Proofs.Tryz.f65,_,by kernel_rfl,rfl,by kernel_rfl,p_r07_EndElse⟩⟩
theorem o_code_within : FK 67 v_code_within:=⟨⟨Go.Proofs.Tryz.f67,_,by kernel_rfl,rfl,by kernel_rfl,p_code_within⟩⟩
theorem o73u : FK 73 v73u:=⟨⟨Go.Proofs.Tryz.f73,_,by kernel_rfl,rfl,by kernel_rfl,p73u⟩⟩
theorem o_word_Show : FK 74 v_word_Show:=⟨⟨Go.Proofs.Tryz.f74,_,by kernel_rfl,rfl,by kernel_rfl,p_word_Show⟩⟩
theorem o_r07_HasN : FK 75 v_r07_HasN:=⟨⟨Go.Proofs.Tryz.f75,_,by kernel_rfl,rfl,by kernel_rfl,p_r07_HasN⟩⟩
theorem o_r01_Show : FK 76 v_r01_Show:=⟨⟨Go.Proofs.Tryz.f76,_,by kernel_rfl,rfl,by kernel_rfl,p_r01_Show⟩⟩
theorem o_code_lines_peek : FK 77 v_code_lines_peek:=⟨⟨Go.Proofs.Tryz.f77,_,by kernel_rfl,rfl,by kernel_rfl,p_code_lines_peek⟩⟩
theorem o_code_headed : FK 78 v_code_headed:=⟨⟨Go.Proofs.Tryz.f78,_,by kernel_rfl,rfl,by kernel_rfl,p_code_headed⟩⟩
theorem o_code_lines_take : FK 79 v_code_lines_take:=⟨⟨Go.Proofs.Tryz.f79,_,by kernel_rfl,rfl,by kernel_rfl,p_code_lines_take⟩⟩
theorem o_code_lines_block : FK 80 v_code_lines_block:=⟨⟨Go.Proofs.Tryz.f80,_,by kernel_rfl,rfl,by kernel_rfl,p_code_lines_block⟩⟩
theorem o_strings_genSplit : FK 81 v_strings_genSplit:=⟨⟨Go.Proofs.Tryz.f81,_,by kernel_rfl,rfl,by kernel_rfl,p_strings_genSplit⟩⟩
theorem o_r07_headed : FK 82 v_r07_headed:=⟨⟨Go.Proofs.Tryz.f82,_,by kernel_rfl,rfl,by kernel_rfl,p_r07_headed⟩⟩
theorem o_strings_HasPrefix : FK 83 v_strings_HasPrefix:=⟨⟨Go.Proofs.Tryz.f83,_,by kernel_rfl,rfl,by kernel_rfl,p_strings_HasPrefix⟩⟩
theorem o_r07_readEnd : FK 84 v_r07_readEnd:=⟨⟨Go.Proofs.Tryz.f84,_,by kernel_rfl,rfl,by kernel_rfl,p_r07_readEnd⟩⟩
theorem o_r07_readOp : FK 85 v_r07_readOp:=⟨⟨Go.Proofs.Tryz.f85,_,by kernel_rfl,rfl,by kernel_rfl,p_r07_readOp⟩⟩
theorem o_r07_SameOps : FK 86 v_r07_SameOps:=⟨⟨Go.Proofs.Tryz.f86,_,by kernel_rfl,rfl,by kernel_rfl,p_r07_SameOps⟩⟩
theorem o_r07_Array : FK 87 v_r07_Array:=⟨⟨Go.Proofs.Tryz.f87,_,by kernel_rfl,rfl,by kernel_rfl,p_r07_Array⟩⟩
theorem o_r07_Cell : FK 88 v_r07_Cell:=⟨⟨Go.Proofs.Tryz.f88,_,by kernel_rfl,rfl,by kernel_rfl,p_r07_Cell⟩⟩
theorem o_r07_there : FK 89 v_r07_there:=⟨⟨Go.Proofs.Tryz.f89,_,by kernel_rfl,rfl,by kernel_rfl,p_r07_there⟩⟩
theorem o_code_checker_unit : FK 91 v_code_checker_unit:=⟨⟨Go.Proofs.Tryz.f91,_,by kernel_rfl,rfl,by kernel_rfl,p_code_checker_unit⟩⟩
theorem o95u : FK 95 v95u:=⟨⟨Go.Proofs.Tryz.f95,_,by kernel_rfl,rfl,by kernel_rfl,p95u⟩⟩
theorem o96u : FK 96 v96u:=⟨⟨Go.Proofs.Tryz.f96,_,by kernel_rfl,rfl,by kernel_rfl,p96u⟩⟩
theorem o_strings_Cut : FK 97 v_strings_Cut:=⟨⟨Go.Proofs.Tryz.f97,_,by kernel_rfl,rfl,by kernel_rfl,p_strings_Cut⟩⟩
theorem o_code_numbers : FK 98 v_code_numbers:=⟨⟨Go.Proofs.Tryz.f98,_,by kernel_rfl,rfl,by kernel_rfl,p_code_numbers⟩⟩
theorem o_strings_CutPrefix : FK 99 v_strings_CutPrefix:=⟨⟨Go.Proofs.Tryz.f99,_,by kernel_rfl,rfl,by kernel_rfl,p_strings_CutPrefix⟩⟩
theorem o_code_readEnd : FK 100 v_code_readEnd:=⟨⟨Go.Proofs.Tryz.f100,_,by kernel_rfl,rfl,by kernel_rfl,p_code_readEnd⟩⟩
theorem o_code_readOp : FK 101 v_code_readOp:=⟨⟨Go.Proofs.Tryz.f101,_,by kernel_rfl,rfl,by kernel_rfl,p_code_readOp⟩⟩
theorem o102u : FK 102 v102u:=⟨⟨Go.Proofs.Tryz.f102,_,by kernel_rfl,rfl,by kernel_rfl,p102u⟩⟩
theorem o_strings_Count : FK 103 v_strings_Count:=⟨⟨Go.Proofs.Tryz.f103,_,by kernel_rfl,rfl,by kernel_rfl,p_strings_Count⟩⟩
theorem o_strings_Index : FK 104 v_strings_Index:=⟨⟨Go.Proofs.Tryz.f104,_,by kernel_rfl,rfl,by kernel_rfl,p_strings_Index⟩⟩
theorem o_r07_numbers : FK 105 v_r07_numbers:=⟨⟨Go.Proofs.Tryz.f105,_,by kernel_rfl,rfl,by kernel_rfl,p_r07_numbers⟩⟩
theorem o_internal_stringslite_HasPrefix : FK 106 v_internal_stringslite_HasPrefix:=⟨⟨Go.Proofs.Tryz.f106,_,by kernel_rfl,rfl,by kernel_rfl,p_internal_stringslite_HasPrefix⟩⟩
theorem o_r01_Read : FK 107 v_r01_Read:=⟨⟨Go.Proofs.Tryz.f107,_,by kernel_rfl,rfl,by kernel_rfl,p_r01_Read⟩⟩
theorem o_code_checker_must : FK 108 v_code_checker_must:=⟨⟨Go.Proofs.Tryz.f108,_,by kernel_rfl,rfl,by kernel_rfl,p_code_checker_must⟩⟩
theorem o_slices_ContainsFunc_int : FK 109 v_slices_ContainsFunc_int:=⟨⟨Go.Proofs.Tryz.f109,_,by kernel_rfl,rfl,by kernel_rfl,p_slices_ContainsFunc_int⟩⟩
theorem o_code_checker_unit_c1 : FK 110 v_code_checker_unit_c1:=⟨⟨Go.Proofs.Tryz.f110,_,by kernel_rfl,rfl,by kernel_rfl,p_code_checker_unit_c1⟩⟩
theorem o_code_checker_op : FK 111 v_code_checker_op:=⟨⟨Go.Proofs.Tryz.f111,_,by kernel_rfl,rfl,by kernel_rfl,p_code_checker_op⟩⟩
theorem o_code_checker_end : FK 112 v_code_checker_end:=⟨⟨Go.Proofs.Tryz.f112,_,by kernel_rfl,rfl,by kernel_rfl,p_code_checker_end⟩⟩
theorem o114u : FK 114 v114u:=⟨⟨Go.Proofs.Tryz.f114,_,by kernel_rfl,rfl,by kernel_rfl,p114u⟩⟩
theorem o115u : FK 115 v115u:=⟨⟨Go.Proofs.Tryz.f115,_,by kernel_rfl,rfl,by kernel_rfl,p115u⟩⟩
theorem o116u : FK 116 v116u:=⟨⟨Go.Proofs.Tryz.f116,_,by kernel_rfl,rfl,by kernel_rfl,p116u⟩⟩
theorem o117u : FK 117 v117u:=⟨⟨Go.Proofs.Tryz.f117,_,by kernel_rfl,rfl,by kernel_rfl,p117u⟩⟩
theorem o_internal_stringslite_Cut : FK 118 v_internal_stringslite_Cut:=⟨⟨Go.Proofs.Tryz.f118,_,by kernel_rfl,rfl,by kernel_rfl,p_internal_stringslite_Cut⟩⟩
theorem o_word_Read : FK 119 v_word_Read:=⟨⟨Go.Proofs.Tryz.f119,_,by kernel_rfl,rfl,by kernel_rfl,p_word_Read⟩⟩
theorem o_internal_stringslite_CutPrefix : FK 120 v_internal_stringslite_CutPrefix:=⟨⟨Go.Proofs.Tryz.f120,_,by kernel_rfl,rfl,by kernel_rfl,p_internal_stringslite_CutPrefix⟩⟩
theorem o_slices_IndexFunc_form : FK 121 v_slices_IndexFunc_form:=⟨⟨Go.Proofs.Tryz.f121,_,by kernel_rfl,rfl,by kernel_rfl,p_slices_IndexFunc_form⟩⟩
theorem o_code_readOp_c1 : FK 122 v_code_readOp_c1:=⟨⟨Go.Proofs.Tryz.f122,_,by kernel_rfl,rfl,by kernel_rfl,p_code_readOp_c1⟩⟩
theorem o124u : FK 124 v124u:=⟨⟨Go.Proofs.Tryz.f124,_,by kernel_rfl,rfl,by kernel_rfl,p124u⟩⟩
theorem o_internal_stringslite_Index : FK 126 v_internal_stringslite_Index:=⟨⟨Go.Proofs.Tryz.f126,_,by kernel_rfl,rfl,by kernel_rfl,p_internal_stringslite_Index⟩⟩
theorem o_slices_IndexFunc_int : FK 127 v_slices_IndexFunc_int:=⟨⟨Go.Proofs.Tryz.f127,_,by kernel_rfl,rfl,by kernel_rfl,p_slices_IndexFunc_int⟩⟩
theorem o_code_checker_reg : FK 128 v_code_checker_reg:=⟨⟨Go.Proofs.Tryz.f128,_,by kernel_rfl,rfl,by kernel_rfl,p_code_checker_reg⟩⟩
theorem o129u : FK 129 v129u:=⟨⟨Go.Proofs.Tryz.f129,_,by kernel_rfl,rfl,by kernel_rfl,p129u⟩⟩
theorem o130u : FK 130 v130u:=⟨⟨Go.Proofs.Tryz.f130,_,by kernel_rfl,rfl,by kernel_rfl,p130u⟩⟩
theorem o131u : FK 131 v131u:=⟨⟨Go.Proofs.Tryz.f131,_,by kernel_rfl,rfl,by kernel_rfl,p131u⟩⟩
theorem o132u : FK 132 v132u:=⟨⟨Go.Proofs.Tryz.f132,_,by kernel_rfl,rfl,by kernel_rfl,p132u⟩⟩
theorem o133u : FK 133 v133u:=⟨⟨Go.Proofs.Tryz.f133,_,by kernel_rfl,rfl,by kernel_rfl,p133u⟩⟩
theorem o134u : FK 134 v134u:=⟨⟨Go.Proofs.Tryz.f134,_,by kernel_rfl,rfl,by kernel_rfl,p134u⟩⟩
theorem o_internal_stringslite_IndexByte : FK 136 v_internal_stringslite_IndexByte:=⟨⟨Go.Proofs.Tryz.f136,_,by kernel_rfl,rfl,by kernel_rfl,p_internal_stringslite_IndexByte⟩⟩
theorem o138u : FK 138 v138u:=⟨⟨Go.Proofs.Tryz.f138,_,by kernel_rfl,rfl,by kernel_rfl,p138u⟩⟩
theorem o139u : FK 139 v139u:=⟨⟨Go.Proofs.Tryz.f139,_,by kernel_rfl,rfl,by kernel_rfl,p139u⟩⟩
theorem o142u : FK 142 v142u:=⟨⟨Go.Proofs.Tryz.f142,_,by kernel_rfl,rfl,by kernel_rfl,p142u⟩⟩
theorem o143u : FK 143 v143u:=⟨⟨Go.Proofs.Tryz.f143,_,by kernel_rfl,rfl,by kernel_rfl,p143u⟩⟩
theorem o145u : FK 145 v145u:=⟨⟨Go.Proofs.Tryz.f145,_,by kernel_rfl,rfl,by kernel_rfl,p145u⟩⟩
theorem o146u : FK 146 v146u:=⟨⟨Go.Proofs.Tryz.f146,_,by kernel_rfl,rfl,by kernel_rfl,p146u⟩⟩
theorem o147u : FK 147 v147u:=⟨⟨Go.Proofs.Tryz.f147,_,by kernel_rfl,rfl,by kernel_rfl,p147u⟩⟩
theorem o148u : FK 148 v148u:=⟨⟨Go.Proofs.Tryz.f148,_,by kernel_rfl,rfl,by kernel_rfl,p148u⟩⟩
theorem o149u : FK 149 v149u:=⟨⟨Go.Proofs.Tryz.f149,_,by kernel_rfl,rfl,by kernel_rfl,p149u⟩⟩
theorem o150u : FK 150 v150u:=⟨⟨Go.Proofs.Tryz.f150,_,by kernel_rfl,rfl,by kernel_rfl,p150u⟩⟩
theorem o151u : FK 151 v151u:=⟨⟨Go.Proofs.Tryz.f151,_,by kernel_rfl,rfl,by kernel_rfl,p151u⟩⟩
theorem o152u : FK 152 v152u:=⟨⟨Go.Proofs.Tryz.f152,_,by kernel_rfl,rfl,by kernel_rfl,p152u⟩⟩
theorem o154u : FK 154 v154u:=⟨⟨Go.Proofs.Tryz.f154,_,by kernel_rfl,rfl,by kernel_rfl,p154u⟩⟩
theorem fn_ok1 (f : FuncId) (fn : VFun) (h : fnOf1 f = some fn) : FunOk Go.Proofs.Tryz.prog [1,0,2,3,8,9] f fn:=by
  unfold fnOf1 at h
  split at h
  · cases h; exact o_code_headed
  · cases h; exact o_code_lines_take
  · cases h; exact o_code_lines_block
  · cases h; exact o_strings_genSplit
  · cases h; exact o_r07_headed
  · cases h; exact o_strings_HasPrefix
  · cases h; exact o_r07_readEnd
  · cases h; exact o_r07_readOp
  · cases h; exact o_r07_SameOps
  · cases h; exact o_r07_Array
  · cases h; exact o_r07_Cell
  · cases h; exact o_r07_there
  · cases h; exact o_code_checker_unit
  · cases h; exact o95u
  · cases h; exact o96u
  · cases h; exact o_strings_Cut
  · cases h; exact o_code_numbers
  · cases h; exact o_strings_CutPrefix
  · cases h; exact o_code_readEnd
  · cases h; exact o_code_readOp
  · cases h; exact o102u
  · cases h; exact o_strings_Count
  · cases h; exact o_strings_Index
  · cases h; exact o_r07_numbers
  · cases h; exact o_internal_stringslite_HasPrefix
  · cases h; exact o_r01_Read
  · cases h; exact o_code_checker_must
  · cases h; exact o_slices_ContainsFunc_int
  · cases h; exact o_code_checker_unit_c1
  · cases h; exact o_code_checker_op
  · cases h; exact o_code_checker_end
  · cases h; exact o114u
  · cases h; exact o115u
  · cases h; exact o116u
  · cases h; exact o117u
  · cases h; exact o_internal_stringslite_Cut
  · cases h; exact o_word_Read
  · cases h; exact o_internal_stringslite_CutPrefix
  · cases h; exact o_slices_IndexFunc_form
  · cases h; exact o_code_readOp_c1
  · cases h; exact o124u
  · cases h; exact o_internal_stringslite_Index
  · cases h; exact o_slices_IndexFunc_int
  · cases h; exact o_code_checker_reg
  · cases h; exact o129u
  · cases h; exact o130u
  · cases h; exact o131u
  · cases h; exact o132u
  · cases h; exact o133u
  · cases h; exact o134u
  · cases h; exact o_internal_stringslite_IndexByte
  · cases h; exact o138u
  · cases h; exact o139u
  · cases h; exact o142u
  · cases h; exact o143u
  · cases h; exact o145u
  · cases h; exact o146u
  · cases h; exact o147u
  · cases h; exact o148u
  · cases h; exact o149u
  · cases h; exact o150u
  · cases h; exact o151u
  · cases h; exact o152u
  · cases h; exact o154u
  · cases h
theorem fn_ok (f : FuncId) (fn : VFun) (h : fnOf f = some fn) : FunOk Go.Proofs.Tryz.prog [1,0,2,3,8,9] f fn:=by
  unfold fnOf at h
  split at h
  · cases h; exact o_l07_CodeParses
  · cases h; exact o10u
  · cases h; exact o_r07_Check
  · cases h; exact o12u
  · cases h; exact o_code_Parse
  · cases h; exact o_r07_Parse
  · cases h; exact o_r07_Same
  · cases h; exact o_r07_Find
  · cases h; exact o_code_Check
  · cases h; exact o_r07_One
  · cases h; exact o_r07_Names
  · cases h; exact o39u
  · cases h; exact o40u
  · cases h; exact o41u
  · cases h; exact o42u
  · cases h; exact o_r07_opText
  · cases h; exact o_code_lines_unit
  · cases h; exact o_strings_Split
  · cases h; exact o_r07_u0
  · cases h; exact o_r07_SameBlocks
  · cases h; exact o_r07_register
  · cases h; exact o_r07_op
  · cases h; exact o_r07_end
  · cases h; exact o_code_of
  · cases h; exact o56u
  · cases h; exact o_r07_HasDst
  · cases h; exact o_r07_Operands
  · cases h; exact o_r07_HasA
  · cases h; exact o_r07_HasB
  · cases h; exact o_r07_HasC
  · cases h; exact o_r07_EndA
  · cases h; exact o_r07_EndTo
  · cases h; exact o_r07_EndElse
  · cases h; exact o_code_within
  · cases h; exact o73u
  · cases h; exact o_word_Show
  · cases h; exact o_r07_HasN
  · cases h; exact o_r01_Show
  · cases h; exact o_code_lines_peek
  · exact fn_ok1 _ fn h
structure On (X : Cx) : Prop where
  F : X.F = fnOf
  P : X.P = Go.Proofs.Tryz.prog
end Go.VX.Seat
end
open Go.VX.AV renaming cell? → xc, toV → xd
open Int renaming reduceAdd → xe, reduceLE → xf, reduceLT → xg, reduceNeg → xh, reduceToNat → xi
open Nat renaming reduceAdd → xj, reduceEqDiff → xk, reduceLeDiff → xl, reduceMul → xm, reduceSub → xn
open Go.VX.VOpd renaming ev → xp
open Go.VX renaming asInt? → xq, asNat? → xr, cellVal → xu, cellsV → xv, fillA → xw, partsEv → xy, resOf → xz, splice → ya, tupOf → yb, zeroes → yc
section
namespace Go.VX.Seat
def oneK (k : Int) : Bool:=decide (1≤k) && decide (k≤25)
def hasDst (k : Int) : Bool:=decide (k≠17) && decide (k≠19) && decide (k≠20) && decide (k≠21) && decide (k≠22)
def hasA (k : Int) : Bool:=decide (k≠1) && decide (k≠18)
def hasB (k : Int) : Bool:=decide (3≤k) && decide (k≤15) || decide (k = 17) || decide (k = 23) || decide (k = 24)
def hasC (k : Int) : Bool:=decide (k = 12)
def arrK (k : Int) : Bool:=decide (k = 16) || decide (k = 17) || decide (k = 25)
def cellK (k : Int) : Bool:=decide (k = 18) || decide (k = 19)
def endA (k : Int) : Bool:=decide (k≠1)
def endTo (k : Int) : Bool:=decide (k = 1) || decide (k = 2)
def endElse (k : Int) : Bool:=decide (k = 2)
section
variable {X : Cx} {st : St}
theorem j_r07_One (h : On X) (k : Int) : J X.P X.F X.H (.call 26 [.sc (.int .i64 k)] st (.ret (.sc (.bool (oneK k)))) st):=by
  refine pure_intro (by rw [h.F]; rfl) rfl ?_
  unfold oneK
  simp only [v_r07_One,kB,kC,cellsOf,kE,xn,xi,xm,xe,xf,xg,xh,xl,xk,xj,reduceIte,reduceCtorEq,ya,xz,xu]
  repeat' first | (refine gO_t ?_ ?_<;>(intro hc; simp only [*,kB,kC,cellsOf,kE,xn,xi,xm,xe,xf,xg,xh,xl,xk,xj,reduceIte,reduceCtorEq,ya,xz,xu])) | (refine gO_f ?_ ?_<;>(intro hc; simp only [*,kB,kC,cellsOf,kE,xn,xi,xm,xe,xf,xg,xh,xl,xk,xj,reduceIte,reduceCtorEq,ya,xz,xu])) | (refine condO_intro ?_ ?_<;>(intro hc; simp only [*,kB,kC,cellsOf,kE,xn,xi,xm,xe,xf,xg,xh,xl,xk,xj,reduceIte,reduceCtorEq,ya,xz,xu]))
  all_goals first | exact ⟨_,rfl⟩ | exact ⟨rfl,_,rfl⟩ | exact ⟨trivial,_,rfl⟩ | exact ⟨[],(List.append_nil _).symm⟩
theorem j_r07_HasDst (h : On X) (k : Int) : J X.P X.F X.H (.call 57 [.sc (.int .i64 k)] st (.ret (.sc (.bool (hasDst k)))) st):=by
  refine pure_intro (by rw [h.F]; rfl) rfl ?_
  unfold hasDst
  simp only [v_r07_HasDst,kB,kC,cellsOf,kE,xn,xi,xm,xe,xf,xg,xh,xl,xk,xj,reduceIte,reduceCtorEq,ya,xz,xu]
  repeat' first | (refine gO_t ?_ ?_<;>(intro hc; simp only [*,kB,kC,cellsOf,kE,xn,xi,xm,xe,xf,xg,xh,xl,xk,xj,reduceIte,reduceCtorEq,ya,xz,xu])) | (refine gO_f ?_ ?_<;>(intro hc; simp only [*,kB,kC,cellsOf,kE,xn,xi,xm,xe,xf,xg,xh,xl,xk,xj,reduceIte,reduceCtorEq,ya,xz,xu])) | (refine condO_intro ?_ ?_<;>(intro hc; simp only [*,kB,kC,cellsOf,kE,xn,xi,xm,xe,xf,xg,xh,xl,xk,xj,reduceIte,reduceCtorEq,ya,xz,xu]))
  all_goals first | exact ⟨_,rfl⟩ | exact ⟨rfl,_,rfl⟩ | exact ⟨trivial,_,rfl⟩ | exact ⟨[],(List.append_nil _).symm⟩
theorem j_r07_HasA (h : On X) (k : Int) : J X.P X.F X.H (.call 60 [.sc (.int .i64 k)] st (.ret (.sc (.bool (hasA k)))) st):=by
  refine pure_intro (by rw [h.F]; rfl) rfl ?_
  unfold hasA
  simp only [v_r07_HasA,kB,kC,cellsOf,kE,xn,xi,xm,xe,xf,xg,xh,xl,xk,xj,reduceIte,reduceCtorEq,ya,xz,xu]
  repeat' first | (refine gO_t ?_ ?_<;>(intro hc; simp only [*,kB,kC,cellsOf,kE,xn,xi,xm,xe,xf,xg,xh,xl,xk,xj,reduceIte,reduceCtorEq,ya,xz,xu])) | (refine gO_f ?_ ?_<;>(intro hc; simp only [*,kB,kC,cellsOf,kE,xn,xi,xm,xe,xf,xg,xh,xl,xk,xj,reduceIte,reduceCtorEq,ya,xz,xu])) | (refine condO_intro ?_ ?_<;>(intro hc; simp only [*,kB,kC,cellsOf,kE,xn,xi,xm,xe,xf,xg,xh,xl,xk,xj,reduceIte,reduceCtorEq,ya,xz,xu]))
  all_goals first | exact ⟨_,rfl⟩ | exact ⟨rfl,_,rfl⟩ | exact ⟨trivial,_,rfl⟩ | exact ⟨[],(List.append_nil _).symm⟩
theorem j_r07_HasB (h : On X) (k : Int) : J X.P X.F X.H (.call 61 [.sc (.int .i64 k)] st (.ret (.sc (.bool (hasB k)))) st):=by
  refine pure_intro (by rw [h.F]; rfl) rfl ?_
  unfold hasB
  simp only [v_r07_HasB,kB,kC,cellsOf,kE,xn,xi,xm,xe,xf,xg,xh,xl,xk,xj,reduceIte,reduceCtorEq,ya,xz,xu]
  repeat' first | (refine gO_t ?_ ?_<;>(intro hc; simp only [*,kB,kC,cellsOf,kE,xn,xi,xm,xe,xf,xg,xh,xl,xk,xj,reduceIte,reduceCtorEq,ya,xz,xu])) | (refine gO_f ?_ ?_<;>(intro hc; simp only [*,kB,kC,cellsOf,kE,xn,xi,xm,xe,xf,xg,xh,xl,xk,xj,reduceIte,reduceCtorEq,ya,xz,xu])) | (refine condO_intro ?_ ?_<;>(intro hc; simp only [*,kB,kC,cellsOf,kE,xn,xi,xm,xe,xf,xg,xh,xl,xk,xj,reduceIte,reduceCtorEq,ya,xz,xu]))
  all_goals first | exact ⟨_,rfl⟩ | exact ⟨rfl,_,rfl⟩ | exact ⟨trivial,_,rfl⟩ | exact ⟨[],(List.append_nil _).symm⟩
theorem j_r07_HasC (h : On X) (k : Int) : J X.P X.F X.H (.call 62 [.sc (.int .i64 k)] st (.ret (.sc (.bool (hasC k)))) st):=by
  refine pure_intro (by rw [h.F]; rfl) rfl ?_
  unfold hasC
  simp only [v_r07_HasC,kB,kC,cellsOf,kE,xn,xi,xm,xe,xf,xg,xh,xl,xk,xj,reduceIte,reduceCtorEq,ya,xz,xu]
  repeat' first | (refine gO_t ?_ ?_<;>(intro hc; simp only [*,kB,kC,cellsOf,kE,xn,xi,xm,xe,xf,xg,xh,xl,xk,xj,reduceIte,reduceCtorEq,ya,xz,xu])) | (refine gO_f ?_ ?_<;>(intro hc; simp only [*,kB,kC,cellsOf,kE,xn,xi,xm,xe,xf,xg,xh,xl,xk,xj,reduceIte,reduceCtorEq,ya,xz,xu])) | (refine condO_intro ?_ ?_<;>(intro hc; simp only [*,kB,kC,cellsOf,kE,xn,xi,xm,xe,xf,xg,xh,xl,xk,xj,reduceIte,reduceCtorEq,ya,xz,xu]))
  all_goals first | exact ⟨_,rfl⟩ | exact ⟨rfl,_,rfl⟩ | exact ⟨trivial,_,rfl⟩ | exact ⟨[],(List.append_nil _).symm⟩
theorem j_r07_Array (h : On X) (k : Int) : J X.P X.F X.H (.call 87 [.sc (.int .i64 k)] st (.ret (.sc (.bool (arrK k)))) st):=by
  refine pure_intro (by rw [h.F]; rfl) rfl ?_
  unfold arrK
  simp only [v_r07_Array,kB,kC,cellsOf,kE,xn,xi,xm,xe,xf,xg,xh,xl,xk,xj,reduceIte,reduceCtorEq,ya,xz,xu]
  repeat' first | (refine gO_t ?_ ?_<;>(intro hc; simp only [*,kB,kC,cellsOf,kE,xn,xi,xm,xe,xf,xg,xh,xl,xk,xj,reduceIte,reduceCtorEq,ya,xz,xu])) | (refine gO_f ?_ ?_<;>(intro hc; simp only [*,kB,kC,cellsOf,kE,xn,xi,xm,xe,xf,xg,xh,xl,xk,xj,reduceIte,reduceCtorEq,ya,xz,xu])) | (refine condO_intro ?_ ?_<;>(intro hc; simp only [*,kB,kC,cellsOf,kE,xn,xi,xm,xe,xf,xg,xh,xl,xk,xj,reduceIte,reduceCtorEq,ya,xz,xu]))
  all_goals first | exact ⟨_,rfl⟩ | exact ⟨rfl,_,rfl⟩ | exact ⟨trivial,_,rfl⟩ | exact ⟨[],(List.append_nil _).symm⟩
theorem j_r07_Cell (h : On X) (k : Int) : J X.P X.F X.H (.call 88 [.sc (.int .i64 k)] st (.ret (.sc (.bool (cellK k)))) st):=by
  refine pure_intro (by rw [h.F]; rfl) rfl ?_
  unfold cellK
  simp only [v_r07_Cell,kB,kC,cellsOf,kE,xn,xi,xm,xe,xf,xg,xh,xl,xk,xj,reduceIte,reduceCtorEq,ya,xz,xu]
  repeat' first | (refine gO_t ?_ ?_<;>(intro hc; simp only [*,kB,kC,cellsOf,kE,xn,xi,xm,xe,xf,xg,xh,xl,xk,xj,reduceIte,reduceCtorEq,ya,xz,xu])) | (refine gO_f ?_ ?_<;>(intro hc; simp only [*,kB,kC,cellsOf,kE,xn,xi,xm,xe,xf,xg,xh,xl,xk,xj,reduceIte,reduceCtorEq,ya,xz,xu])) | (refine condO_intro ?_ ?_<;>(intro hc; simp only [*,kB,kC,cellsOf,kE,xn,xi,xm,xe,xf,xg,xh,xl,xk,xj,reduceIte,reduceCtorEq,ya,xz,xu]))
  all_goals first | exact ⟨_,rfl⟩ | exact ⟨rfl,_,rfl⟩ | exact ⟨trivial,_,rfl⟩ | exact ⟨[],(List.append_nil _).symm⟩
theorem j_r07_EndA (h : On X) (k : Int) : J X.P X.F X.H (.call 63 [.sc (.int .i64 k)] st (.ret (.sc (.bool (endA k)))) st):=by
  refine pure_intro (by rw [h.F]; rfl) rfl ?_
  unfold endA
  simp only [v_r07_EndA,kB,kC,cellsOf,kE,xn,xi,xm,xe,xf,xg,xh,xl,xk,xj,reduceIte,reduceCtorEq,ya,xz,xu]
  repeat' first | (refine gO_t ?_ ?_<;>(intro hc; simp only [*,kB,kC,cellsOf,kE,xn,xi,xm,xe,xf,xg,xh,xl,xk,xj,reduceIte,reduceCtorEq,ya,xz,xu])) | (refine gO_f ?_ ?_<;>(intro hc; simp only [*,kB,kC,cellsOf,kE,xn,xi,xm,xe,xf,xg,xh,xl,xk,xj,reduceIte,reduceCtorEq,ya,xz,xu])) | (refine condO_intro ?_ ?_<;>(intro hc; simp only [*,kB,kC,cellsOf,kE,xn,xi,xm,xe,xf,xg,xh,xl,xk,xj,reduceIte,reduceCtorEq,ya,xz,xu]))
  all_goals first | exact ⟨_,rfl⟩ | exact ⟨rfl,_,rfl⟩ | exact ⟨trivial,_,rfl⟩ | exact ⟨[],(List.append_nil _).symm⟩
theorem j_r07_EndTo (h : On X) (k : Int) : J X.P X.F X.H (.call 64 [.sc (.int .i64 k)] st (.ret (.sc (.bool (endTo k)))) st):=by
  refine pure_intro (by rw [h.F]; rfl) rfl ?_
  unfold endTo
  simp only [v_r07_EndTo,kB,kC,cellsOf,kE,xn,xi,xm,xe,xf,xg,xh,xl,xk,xj,reduceIte,reduceCtorEq,ya,xz,xu]
  repeat' first | (refine gO_t ?_ ?_<;>(intro hc; simp only [*,kB,kC,cellsOf,kE,xn,xi,xm,xe,xf,xg,xh,xl,xk,xj,reduceIte,reduceCtorEq,ya,xz,xu])) | (refine gO_f ?_ ?_<;>(intro hc; simp only [*,kB,kC,cellsOf,kE,xn,xi,xm,xe,xf,xg,xh,xl,xk,xj,reduceIte,reduceCtorEq,ya,xz,xu])) | (refine condO_intro ?_ ?_<;>(intro hc; simp only [*,kB,kC,cellsOf,kE,xn,xi,xm,xe,xf,xg,xh,xl,xk,xj,reduceIte,reduceCtorEq,ya,xz,xu]))
  all_goals first | exact ⟨_,rfl⟩ | exact ⟨rfl,_,rfl⟩ | exact ⟨trivial,_,rfl⟩ | exact ⟨[],(List.append_nil _).symm⟩
theorem j_r07_EndElse (h : On X) (k : Int) : J X.P X.F X.H (.call 65 [.sc (.int .i64 k)] st (.ret (.sc (.bool (endElse k)))) st):=by
  refine pure_intro (by rw [h.F]; rfl) rfl ?_
  unfold endElse
  simp only [v_r07_EndElse,kB,kC,cellsOf,kE,xn,xi,xm,xe,xf,xg,xh,xl,xk,xj,reduceIte,reduceCtorEq,ya,xz,xu]
  repeat' first | (refine gO_t ?_ ?_<;>(intro hc; simp only [*,kB,kC,cellsOf,kE,xn,xi,xm,xe,xf,xg,xh,xl,xk,xj,reduceIte,reduceCtorEq,ya,xz,xu])) | (refine gO_f ?_ ?_<;>(intro hc; simp only [*,kB,kC,cellsOf,kE,xn,xi,xm,xe,xf,xg,xh,xl,xk,xj,reduceIte,reduceCtorEq,ya,xz,xu])) | (refine condO_intro ?_ ?_<;>(intro hc; simp only [*,kB,kC,cellsOf,kE,xn,xi,xm,xe,xf,xg,xh,xl,xk,xj,reduceIte,reduceCtorEq,ya,xz,xu]))
  all_goals first | exact ⟨_,rfl⟩ | exact ⟨rfl,_,rfl⟩ | exact ⟨trivial,_,rfl⟩ | exact ⟨[],(List.append_nil _).symm⟩
end
end Go.VX.Seat
end
section
namespace Go.VX.Seat
def regOkA (regs r : Int) : Bool:=decide (0≤r) && decide (r < regs)
section
variable {X : Cx} {st : St}
theorem j_r07_HasN (h : On X) (k : Int) : J X.P X.F X.H (.call 75 [.sc (.int .i64 k)] st (.ret (.sc (.bool (decide (k = 1) || arrK k || cellK k || decide (k = 21))))) st):=by
  refine pure_intro (by rw [h.F]; rfl) rfl ?_
  simp only [v_r07_HasN,kB,kC,cellsOf,kE,xn,xi,xm,xe,xf,xg,xh,xl,xk,xj,reduceIte,reduceCtorEq,ya,xz,xu]
  repeat' first
    | refine callO_same (j_r07_Array h _) ?_; simp only [kB,kC,cellsOf,kE,xn,xi,xm,xe,xf,xg,xh,xl,xk,xj,reduceIte,reduceCtorEq,ya,xz,xu]
    | refine callO_same (j_r07_Cell h _) ?_; simp only [kB,kC,cellsOf,kE,xn,xi,xm,xe,xf,xg,xh,xl,xk,xj,reduceIte,reduceCtorEq,ya,xz,xu]
    | first | (refine gO_t ?_ ?_<;>(intro hc; simp only [*,kB,kC,cellsOf,kE,xn,xi,xm,xe,xf,xg,xh,xl,xk,xj,reduceIte,reduceCtorEq,ya,xz,xu])) | (refine gO_f ?_ ?_<;>(intro hc; simp only [*,kB,kC,cellsOf,kE,xn,xi,xm,xe,xf,xg,xh,xl,xk,xj,reduceIte,reduceCtorEq,ya,xz,xu])) | (refine condO_intro ?_ ?_<;>(intro hc; simp only [*,kB,kC,cellsOf,kE,xn,xi,xm,xe,xf,xg,xh,xl,xk,xj,reduceIte,reduceCtorEq,ya,xz,xu]))
  all_goals first | exact ⟨_,rfl⟩ | exact ⟨rfl,_,rfl⟩ | exact ⟨trivial,_,rfl⟩ | exact ⟨[],(List.append_nil _).symm⟩
theorem j_r07_register (h : On X) (s p c sp bl : AV) (regs r : Int) : J X.P X.F X.H (.call 50 [.agg [s,p,.sc (.int .i64 regs),c,sp,bl],.sc (.int .i64 r)] st (.ret (.sc (.bool (regOkA regs r)))) st):=by
  refine pure_intro (by rw [h.F]; rfl) rfl ?_
  unfold regOkA
  simp only [v_r07_register,kB,kC,cellsOf,kE,xn,xi,xm,xe,xf,xg,xh,xl,xk,xj,reduceIte,reduceCtorEq,ya,xz,xu]
  repeat' first
    | first | (refine gO_t ?_ ?_<;>(intro hc; simp only [*,kB,kC,cellsOf,kE,xn,xi,xm,xe,xf,xg,xh,xl,xk,xj,reduceIte,reduceCtorEq,ya,xz,xu])) | (refine gO_f ?_ ?_<;>(intro hc; simp only [*,kB,kC,cellsOf,kE,xn,xi,xm,xe,xf,xg,xh,xl,xk,xj,reduceIte,reduceCtorEq,ya,xz,xu])) | (refine condO_intro ?_ ?_<;>(intro hc; simp only [*,kB,kC,cellsOf,kE,xn,xi,xm,xe,xf,xg,xh,xl,xk,xj,reduceIte,reduceCtorEq,ya,xz,xu]))
  all_goals first | exact ⟨_,rfl⟩ | exact ⟨rfl,_,rfl⟩ | exact ⟨trivial,_,rfl⟩ | exact ⟨[],(List.append_nil _).symm⟩
theorem j_r07_there (h : On X) (s p g c sp bl : AV) (nb : Nat) (r : Int) (hb : lenA bl = some nb) : J X.P X.F X.H (.call 89 [.agg [s,p,g,c,sp,bl],.sc (.int .i64 r)] st (.ret (.sc (.bool (regOkA nb r)))) st):=by
  refine pure_intro (by rw [h.F]; rfl) rfl ?_
  unfold regOkA
  simp only [v_r07_there,hb,kB,kC,cellsOf,kE,xn,xi,xm,xe,xf,xg,xh,xl,xk,xj,reduceIte,reduceCtorEq,ya,xz,xu]
  repeat' first
    | first | (refine gO_t ?_ ?_<;>(intro hc; simp only [*,kB,kC,cellsOf,kE,xn,xi,xm,xe,xf,xg,xh,xl,xk,xj,reduceIte,reduceCtorEq,ya,xz,xu])) | (refine gO_f ?_ ?_<;>(intro hc; simp only [*,kB,kC,cellsOf,kE,xn,xi,xm,xe,xf,xg,xh,xl,xk,xj,reduceIte,reduceCtorEq,ya,xz,xu])) | (refine condO_intro ?_ ?_<;>(intro hc; simp only [*,kB,kC,cellsOf,kE,xn,xi,xm,xe,xf,xg,xh,xl,xk,xj,reduceIte,reduceCtorEq,ya,xz,xu]))
    | simp only [hb,Option.map_some,kB,kC,cellsOf,kE,xn,xi,xm,xe,xf,xg,xh,xl,xk,xj,reduceIte,reduceCtorEq,ya,xz,xu]
  all_goals first | exact ⟨_,rfl⟩ | exact ⟨rfl,_,rfl⟩ | exact ⟨trivial,_,rfl⟩ | exact ⟨[],(List.append_nil _).symm⟩

def hasN (k : Int) : Bool:=decide (k = 1) || arrK k || cellK k || decide (k = 21)
def manyOf (ns nb : Nat) (spill k : Int) : Int:=if arrK k then ns else if cellK k then spill else if decide (k = 21) then nb else -1
def opErr (ns nb : Nat) (regs spill k d a b c n g : Int) : Int :=
  if oneK k = false then 4 else
  if (hasDst k && !regOkA regs d) || (hasA k && !regOkA regs a) || (hasB k && !regOkA regs b) || (hasC k && !regOkA regs c) then 2 else
  if decide (g≠-1) && !regOkA regs g then 2 else
  if decide (0≤manyOf ns nb spill k) && (decide (n < 0) || decide (manyOf ns nb spill k≤n)) then 5 else
  if (!hasDst k && decide (d≠0)) || (!hasA k && decide (a≠0)) || (!hasB k && decide (b≠0)) || (!hasC k && decide (c≠0)) then 4 else
  if !hasN k && decide (n≠0) then 4 else 0
end
end Go.VX.Seat
end
section
set_option maxRecDepth 4000
namespace Go.VX.Seat
open Go.Proofs
def opEq (k d a b c n g k' d' a' b' c' n' g' : Int) : Bool:=if k == k' then if d == d' then if a == a' then if b == b' then if c == c' then if n == n' then if g == g' then true else false else false else false else false else false else false else false
def endEq (k a t e k' a' t' e' : Int) : Bool:=if k == k' then if a == a' then if t == t' then if e == e' then true else false else false else false else false
theorem opEq_iff (k d a b c n g k' d' a' b' c' n' g' : Int) : opEq k d a b c n g k' d' a' b' c' n' g' = true↔(k = k'∧d = d'∧a = a'∧b = b'∧c = c'∧n = n'∧g = g'):=by
  unfold opEq
  repeat' split
  all_goals simp_all
theorem endEq_iff (k a t e k' a' t' e' : Int) : endEq k a t e k' a' t' e' = true↔(k = k'∧a = a'∧t = t'∧e = e'):=by
  unfold endEq
  repeat' split
  all_goals simp_all
noncomputable def fl_op : List Field:=(Tryz.prog.fieldsOf 46).toList
theorem fl_op_eq : fl_op = [fl_op.getD 0 default,fl_op.getD 1 default,fl_op.getD 2 default,fl_op.getD 3 default,fl_op.getD 4 default,fl_op.getD 5 default,fl_op.getD 6 default]:=by kernel_rfl
theorem op_fields (k d a b c n g k' d' a' b' c' n' g' : Int) : closed Tryz.prog (Op.eqFields 9999 #[.int .i64 k,.int .i64 d,.int .i64 a,.int .i64 b,.int .i64 c,.int .i64 n,.int .i64 g] #[.int .i64 k',.int .i64 d',.int .i64 a',.int .i64 b',.int .i64 c',.int .i64 n',.int .i64 g'] fl_op) = some (opEq k d a b c n g k' d' a' b' c' n' g'):=by
  rw [fl_op_eq]
  rw [closed_fields (a:=.int .i64 k) (b:=.int .i64 k') (r:=k == k') (by kernel_rfl) (by kernel_rfl) (by kernel_rfl) (by kernel_rfl)]
  rw [closed_fields (a:=.int .i64 d) (b:=.int .i64 d') (r:=d == d') (by kernel_rfl) (by kernel_rfl) (by kernel_rfl) (by kernel_rfl)]
  rw [closed_fields (a:=.int .i64 a) (b:=.int .i64 a') (r:=a == a') (by kernel_rfl) (by kernel_rfl) (by kernel_rfl) (by kernel_rfl)]
  rw [closed_fields (a:=.int .i64 b) (b:=.int .i64 b') (r:=b == b') (by kernel_rfl) (by kernel_rfl) (by kernel_rfl) (by kernel_rfl)]
  rw [closed_fields (a:=.int .i64 c) (b:=.int .i64 c') (r:=c == c') (by kernel_rfl) (by kernel_rfl) (by kernel_rfl) (by kernel_rfl)]
  rw [closed_fields (a:=.int .i64 n) (b:=.int .i64 n') (r:=n == n') (by kernel_rfl) (by kernel_rfl) (by kernel_rfl) (by kernel_rfl)]
  rw [closed_fields (a:=.int .i64 g) (b:=.int .i64 g') (r:=g == g') (by kernel_rfl) (by kernel_rfl) (by kernel_rfl) (by kernel_rfl)]
  rw [closed_fields_nil]
  unfold opEq
  repeat' split
  all_goals rfl
theorem op_equal (k d a b c n g k' d' a' b' c' n' g' : Int) : closed Tryz.prog (Op.equal 46 (.agg #[.int .i64 k,.int .i64 d,.int .i64 a,.int .i64 b,.int .i64 c,.int .i64 n,.int .i64 g]) (.agg #[.int .i64 k',.int .i64 d',.int .i64 a',.int .i64 b',.int .i64 c',.int .i64 n',.int .i64 g'])) = some (opEq k d a b c n g k' d' a' b' c' n' g'):=by
  unfold Op.equal Op.maxDepth
  rw [closed_struct (P:=Tryz.prog) 9999 46 _ _ (fs:=Tryz.prog.fieldsOf 46) (by kernel_rfl) (by kernel_rfl)]
  exact op_fields k d a b c n g k' d' a' b' c' n' g'
theorem c_neq_op (ox oy : Operand) (k d a b c n g k' d' a' b' c' n' g' : Int) :
    closed Tryz.prog (do eqGuard .neq 46 ox oy (.agg #[.int .i64 k,.int .i64 d,.int .i64 a,.int .i64 b,.int .i64 c,.int .i64 n,.int .i64 g]) (.agg #[.int .i64 k',.int .i64 d',.int .i64 a',.int .i64 b',.int .i64 c',.int .i64 n',.int .i64 g']); binOp .neq 46 (.agg #[.int .i64 k,.int .i64 d,.int .i64 a,.int .i64 b,.int .i64 c,.int .i64 n,.int .i64 g]) (.agg #[.int .i64 k',.int .i64 d',.int .i64 a',.int .i64 b',.int .i64 c',.int .i64 n',.int .i64 g'])) = some (.bool (!opEq k d a b c n g k' d' a' b' c' n' g')):=by
  rw [closed_bind]
  have h1 : closed Tryz.prog (eqGuard .neq 46 ox oy (.agg #[.int .i64 k,.int .i64 d,.int .i64 a,.int .i64 b,.int .i64 c,.int .i64 n,.int .i64 g]) (.agg #[.int .i64 k',.int .i64 d',.int .i64 a',.int .i64 b',.int .i64 c',.int .i64 n',.int .i64 g'])) = some ():=by kernel_rfl
  rw [h1]
  simp only [Option.bind_some]
  have h2 : binOp .neq 46 (.agg #[.int .i64 k,.int .i64 d,.int .i64 a,.int .i64 b,.int .i64 c,.int .i64 n,.int .i64 g]) (.agg #[.int .i64 k',.int .i64 d',.int .i64 a',.int .i64 b',.int .i64 c',.int .i64 n',.int .i64 g']) = (do pure (Value.bool (!(← Op.equal 46 (.agg #[.int .i64 k,.int .i64 d,.int .i64 a,.int .i64 b,.int .i64 c,.int .i64 n,.int .i64 g]) (.agg #[.int .i64 k',.int .i64 d',.int .i64 a',.int .i64 b',.int .i64 c',.int .i64 n',.int .i64 g']))))):=rfl
  rw [h2,closed_bind,op_equal]
  rfl
noncomputable def fl_end : List Field:=(Tryz.prog.fieldsOf 75).toList
theorem fl_end_eq : fl_end = [fl_end.getD 0 default,fl_end.getD 1 default,fl_end.getD 2 default,fl_end.getD 3 default]:=by kernel_rfl
theorem end_fields (k a t e k' a' t' e' : Int) : closed Tryz.prog (Op.eqFields 9999 #[.int .i64 k,.int .i64 a,.int .i64 t,.int .i64 e] #[.int .i64 k',.int .i64 a',.int .i64 t',.int .i64 e'] fl_end) = some (endEq k a t e k' a' t' e'):=by
  rw [fl_end_eq]
  rw [closed_fields (a:=.int .i64 k) (b:=.int .i64 k') (r:=k == k') (by kernel_rfl) (by kernel_rfl) (by kernel_rfl) (by kernel_rfl)]
  rw [closed_fields (a:=.int .i64 a) (b:=.int .i64 a') (r:=a == a') (by kernel_rfl) (by kernel_rfl) (by kernel_rfl) (by kernel_rfl)]
  rw [closed_fields (a:=.int .i64 t) (b:=.int .i64 t') (r:=t == t') (by kernel_rfl) (by kernel_rfl) (by kernel_rfl) (by kernel_rfl)]
  rw [closed_fields (a:=.int .i64 e) (b:=.int .i64 e') (r:=e == e') (by kernel_rfl) (by kernel_rfl) (by kernel_rfl) (by kernel_rfl)]
  rw [closed_fields_nil]
  unfold endEq
  repeat' split
  all_goals rfl
theorem end_equal (k a t e k' a' t' e' : Int) : closed Tryz.prog (Op.equal 75 (.agg #[.int .i64 k,.int .i64 a,.int .i64 t,.int .i64 e]) (.agg #[.int .i64 k',.int .i64 a',.int .i64 t',.int .i64 e'])) = some (endEq k a t e k' a' t' e'):=by
  unfold Op.equal Op.maxDepth
  rw [closed_struct (P:=Tryz.prog) 9999 75 _ _ (fs:=Tryz.prog.fieldsOf 75) (by kernel_rfl) (by kernel_rfl)]
  exact end_fields k a t e k' a' t' e'
theorem c_neq_end (ox oy : Operand) (k a t e k' a' t' e' : Int) :
    closed Tryz.prog (do eqGuard .neq 75 ox oy (.agg #[.int .i64 k,.int .i64 a,.int .i64 t,.int .i64 e]) (.agg #[.int .i64 k',.int .i64 a',.int .i64 t',.int .i64 e']); binOp .neq 75 (.agg #[.int .i64 k,.int .i64 a,.int .i64 t,.int .i64 e]) (.agg #[.int .i64 k',.int .i64 a',.int .i64 t',.int .i64 e'])) = some (.bool (!endEq k a t e k' a' t' e')):=by
  rw [closed_bind]
  have h1 : closed Tryz.prog (eqGuard .neq 75 ox oy (.agg #[.int .i64 k,.int .i64 a,.int .i64 t,.int .i64 e]) (.agg #[.int .i64 k',.int .i64 a',.int .i64 t',.int .i64 e'])) = some ():=by kernel_rfl
  rw [h1]
  simp only [Option.bind_some]
  have h2 : binOp .neq 75 (.agg #[.int .i64 k,.int .i64 a,.int .i64 t,.int .i64 e]) (.agg #[.int .i64 k',.int .i64 a',.int .i64 t',.int .i64 e']) = (do pure (Value.bool (!(← Op.equal 75 (.agg #[.int .i64 k,.int .i64 a,.int .i64 t,.int .i64 e]) (.agg #[.int .i64 k',.int .i64 a',.int .i64 t',.int .i64 e']))))):=rfl
  rw [h2,closed_bind,end_equal]
  rfl
end Go.VX.Seat
end
section
set_option maxRecDepth 4000
namespace Go.VX.Seat
def endErr (nb : Nat) (regs k a t e : Int) : Int :=
  if decide (k < 1) || decide (4 < k) then 4 else
  if endA k && !regOkA regs a then 2 else
  if (endTo k && !regOkA nb t) || (endElse k && !regOkA nb e) then 5 else
  if (!endA k && decide (a≠0)) || (!endTo k && decide (t≠0)) || (!endElse k && decide (e≠0)) then 4 else 0
section
variable {X : Cx} {st : St}
theorem j_r07_end (h : On X) (s p cd sp bl : AV) (nb : Nat) (hb : lenA bl = some nb) (regs k a t e : Int) :
    J X.P X.F X.H (.call 52 [.agg [s,p,iA regs,cd,sp,bl],.agg [iA k,iA a,iA t,iA e]] st (.ret (iA (endErr nb regs k a t e))) st):=by
  refine pure_intro (by rw [h.F]; rfl) rfl ?_
  unfold endErr
  simp only [v_r07_end,kB,kC,cellsOf,kE,xn,xi,xm,xe,xf,xg,xh,xl,xk,xj,reduceIte,reduceCtorEq,ya,xz,xu]
  refine cutG (mS m0) [2,3] (fun _=>(decide (k < 1) || decide (4 < k)) = false) ?_ ?_
  · repeat' first | (refine callO_same (j_r07_EndA h _) ?_; simp only [*,kB,kC,cellsOf,kE,xn,xi,xm,xe,xf,xg,xh,xl,xk,xj,reduceIte,reduceCtorEq,ya,xz,xu]) | (refine callO_same (j_r07_EndTo h _) ?_; simp only [*,kB,kC,cellsOf,kE,xn,xi,xm,xe,xf,xg,xh,xl,xk,xj,reduceIte,reduceCtorEq,ya,xz,xu]) | (refine callO_same (j_r07_EndElse h _) ?_; simp only [*,kB,kC,cellsOf,kE,xn,xi,xm,xe,xf,xg,xh,xl,xk,xj,reduceIte,reduceCtorEq,ya,xz,xu]) | (refine callO_same (j_r07_there h _ _ _ _ _ _ _ _ hb) ?_; simp only [*,kB,kC,cellsOf,kE,xn,xi,xm,xe,xf,xg,xh,xl,xk,xj,reduceIte,reduceCtorEq,ya,xz,xu]) | (refine callO_same (j_r07_register h _ _ _ _ _ _ _) ?_; simp only [*,kB,kC,cellsOf,kE,xn,xi,xm,xe,xf,xg,xh,xl,xk,xj,reduceIte,reduceCtorEq,ya,xz,xu]) | (refine callO_same (j_r07_Array h _) ?_; simp only [*,kB,kC,cellsOf,kE,xn,xi,xm,xe,xf,xg,xh,xl,xk,xj,reduceIte,reduceCtorEq,ya,xz,xu]) | (refine callO_same (j_r07_Cell h _) ?_; simp only [*,kB,kC,cellsOf,kE,xn,xi,xm,xe,xf,xg,xh,xl,xk,xj,reduceIte,reduceCtorEq,ya,xz,xu]) | (refine callO_same (j_r07_HasN h _) ?_; simp only [*,kB,kC,cellsOf,kE,xn,xi,xm,xe,xf,xg,xh,xl,xk,xj,reduceIte,reduceCtorEq,ya,xz,xu]) | first | (refine gO_t ?_ ?_<;>(intro hc; simp only [*,kB,kC,cellsOf,kE,xn,xi,xm,xe,xf,xg,xh,xl,xk,xj,reduceIte,reduceCtorEq,ya,xz,xu])) | (refine gO_f ?_ ?_<;>(intro hc; simp only [*,kB,kC,cellsOf,kE,xn,xi,xm,xe,xf,xg,xh,xl,xk,xj,reduceIte,reduceCtorEq,ya,xz,xu])) | (refine condO_intro ?_ ?_<;>(intro hc; simp only [*,kB,kC,cellsOf,kE,xn,xi,xm,xe,xf,xg,xh,xl,xk,xj,reduceIte,reduceCtorEq,ya,xz,xu]))
    all_goals first | exact ⟨_,rfl⟩ | exact ⟨rfl,_,rfl⟩ | exact ⟨trivial,_,rfl⟩ | exact ⟨[],(List.append_nil _).symm⟩
  · intro e1 hL hR
    simp only [hR,kB,kC,cellsOf,kE,xn,xi,xm,xe,xf,xg,xh,xl,xk,xj,reduceIte,reduceCtorEq,ya,xz,xu] at hL ⊢
    obtain ⟨h2,h3⟩:=hL
    simp only [*,kB,kC,cellsOf,kE,xn,xi,xm,xe,xf,xg,xh,xl,xk,xj,reduceIte,reduceCtorEq,ya,xz,xu]
    refine cutCall (mS m0) [2,3] (fun _=>(endA k && !regOkA regs a) = false) ?_ ?_
    · repeat' first | (refine callO_same (j_r07_EndA h _) ?_; simp only [*,kB,kC,cellsOf,kE,xn,xi,xm,xe,xf,xg,xh,xl,xk,xj,reduceIte,reduceCtorEq,ya,xz,xu]) | (refine callO_same (j_r07_EndTo h _) ?_; simp only [*,kB,kC,cellsOf,kE,xn,xi,xm,xe,xf,xg,xh,xl,xk,xj,reduceIte,reduceCtorEq,ya,xz,xu]) | (refine callO_same (j_r07_EndElse h _) ?_; simp only [*,kB,kC,cellsOf,kE,xn,xi,xm,xe,xf,xg,xh,xl,xk,xj,reduceIte,reduceCtorEq,ya,xz,xu]) | (refine callO_same (j_r07_there h _ _ _ _ _ _ _ _ hb) ?_; simp only [*,kB,kC,cellsOf,kE,xn,xi,xm,xe,xf,xg,xh,xl,xk,xj,reduceIte,reduceCtorEq,ya,xz,xu]) | (refine callO_same (j_r07_register h _ _ _ _ _ _ _) ?_; simp only [*,kB,kC,cellsOf,kE,xn,xi,xm,xe,xf,xg,xh,xl,xk,xj,reduceIte,reduceCtorEq,ya,xz,xu]) | (refine callO_same (j_r07_Array h _) ?_; simp only [*,kB,kC,cellsOf,kE,xn,xi,xm,xe,xf,xg,xh,xl,xk,xj,reduceIte,reduceCtorEq,ya,xz,xu]) | (refine callO_same (j_r07_Cell h _) ?_; simp only [*,kB,kC,cellsOf,kE,xn,xi,xm,xe,xf,xg,xh,xl,xk,xj,reduceIte,reduceCtorEq,ya,xz,xu]) | (refine callO_same (j_r07_HasN h _) ?_; simp only [*,kB,kC,cellsOf,kE,xn,xi,xm,xe,xf,xg,xh,xl,xk,xj,reduceIte,reduceCtorEq,ya,xz,xu]) | first | (refine gO_t ?_ ?_<;>(intro hc; simp only [*,kB,kC,cellsOf,kE,xn,xi,xm,xe,xf,xg,xh,xl,xk,xj,reduceIte,reduceCtorEq,ya,xz,xu])) | (refine gO_f ?_ ?_<;>(intro hc; simp only [*,kB,kC,cellsOf,kE,xn,xi,xm,xe,xf,xg,xh,xl,xk,xj,reduceIte,reduceCtorEq,ya,xz,xu])) | (refine condO_intro ?_ ?_<;>(intro hc; simp only [*,kB,kC,cellsOf,kE,xn,xi,xm,xe,xf,xg,xh,xl,xk,xj,reduceIte,reduceCtorEq,ya,xz,xu]))
      all_goals first | exact ⟨_,rfl⟩ | exact ⟨rfl,_,rfl⟩ | exact ⟨trivial,_,rfl⟩ | exact ⟨[],(List.append_nil _).symm⟩
    · intro e2 hL hR
      simp only [hR,kB,kC,cellsOf,kE,xn,xi,xm,xe,xf,xg,xh,xl,xk,xj,reduceIte,reduceCtorEq,ya,xz,xu] at hL ⊢
      simp only [h2,h3] at hL
      obtain ⟨h2,h3⟩:=hL
      simp only [*,kB,kC,cellsOf,kE,xn,xi,xm,xe,xf,xg,xh,xl,xk,xj,reduceIte,reduceCtorEq,ya,xz,xu]
      refine cutCall (mS m0) [2,3] (fun _=>((endTo k && !regOkA nb t) || (endElse k && !regOkA nb e)) = false) ?_ ?_
      · repeat' first | (refine callO_same (j_r07_EndA h _) ?_; simp only [*,kB,kC,cellsOf,kE,xn,xi,xm,xe,xf,xg,xh,xl,xk,xj,reduceIte,reduceCtorEq,ya,xz,xu]) | (refine callO_same (j_r07_EndTo h _) ?_; simp only [*,kB,kC,cellsOf,kE,xn,xi,xm,xe,xf,xg,xh,xl,xk,xj,reduceIte,reduceCtorEq,ya,xz,xu]) | (refine callO_same (j_r07_EndElse h _) ?_; simp only [*,kB,kC,cellsOf,kE,xn,xi,xm,xe,xf,xg,xh,xl,xk,xj,reduceIte,reduceCtorEq,ya,xz,xu]) | (refine callO_same (j_r07_there h _ _ _ _ _ _ _ _ hb) ?_; simp only [*,kB,kC,cellsOf,kE,xn,xi,xm,xe,xf,xg,xh,xl,xk,xj,reduceIte,reduceCtorEq,ya,xz,xu]) | (refine callO_same (j_r07_register h _ _ _ _ _ _ _) ?_; simp only [*,kB,kC,cellsOf,kE,xn,xi,xm,xe,xf,xg,xh,xl,xk,xj,reduceIte,reduceCtorEq,ya,xz,xu]) | (refine callO_same (j_r07_Array h _) ?_; simp only [*,kB,kC,cellsOf,kE,xn,xi,xm,xe,xf,xg,xh,xl,xk,xj,reduceIte,reduceCtorEq,ya,xz,xu]) | (refine callO_same (j_r07_Cell h _) ?_; simp only [*,kB,kC,cellsOf,kE,xn,xi,xm,xe,xf,xg,xh,xl,xk,xj,reduceIte,reduceCtorEq,ya,xz,xu]) | (refine callO_same (j_r07_HasN h _) ?_; simp only [*,kB,kC,cellsOf,kE,xn,xi,xm,xe,xf,xg,xh,xl,xk,xj,reduceIte,reduceCtorEq,ya,xz,xu]) | first | (refine gO_t ?_ ?_<;>(intro hc; simp only [*,kB,kC,cellsOf,kE,xn,xi,xm,xe,xf,xg,xh,xl,xk,xj,reduceIte,reduceCtorEq,ya,xz,xu])) | (refine gO_f ?_ ?_<;>(intro hc; simp only [*,kB,kC,cellsOf,kE,xn,xi,xm,xe,xf,xg,xh,xl,xk,xj,reduceIte,reduceCtorEq,ya,xz,xu])) | (refine condO_intro ?_ ?_<;>(intro hc; simp only [*,kB,kC,cellsOf,kE,xn,xi,xm,xe,xf,xg,xh,xl,xk,xj,reduceIte,reduceCtorEq,ya,xz,xu]))
        all_goals first | exact ⟨_,rfl⟩ | exact ⟨rfl,_,rfl⟩ | exact ⟨trivial,_,rfl⟩ | exact ⟨[],(List.append_nil _).symm⟩
      · intro e3 hL hR
        simp only [hR,kB,kC,cellsOf,kE,xn,xi,xm,xe,xf,xg,xh,xl,xk,xj,reduceIte,reduceCtorEq,ya,xz,xu] at hL ⊢
        simp only [h2,h3] at hL
        obtain ⟨h2,h3⟩:=hL
        simp only [*,kB,kC,cellsOf,kE,xn,xi,xm,xe,xf,xg,xh,xl,xk,xj,reduceIte,reduceCtorEq,ya,xz,xu]
        repeat' first | (refine callO_same (j_r07_EndA h _) ?_; simp only [*,kB,kC,cellsOf,kE,xn,xi,xm,xe,xf,xg,xh,xl,xk,xj,reduceIte,reduceCtorEq,ya,xz,xu]) | (refine callO_same (j_r07_EndTo h _) ?_; simp only [*,kB,kC,cellsOf,kE,xn,xi,xm,xe,xf,xg,xh,xl,xk,xj,reduceIte,reduceCtorEq,ya,xz,xu]) | (refine callO_same (j_r07_EndElse h _) ?_; simp only [*,kB,kC,cellsOf,kE,xn,xi,xm,xe,xf,xg,xh,xl,xk,xj,reduceIte,reduceCtorEq,ya,xz,xu]) | (refine callO_same (j_r07_there h _ _ _ _ _ _ _ _ hb) ?_; simp only [*,kB,kC,cellsOf,kE,xn,xi,xm,xe,xf,xg,xh,xl,xk,xj,reduceIte,reduceCtorEq,ya,xz,xu]) | (refine callO_same (j_r07_register h _ _ _ _ _ _ _) ?_; simp only [*,kB,kC,cellsOf,kE,xn,xi,xm,xe,xf,xg,xh,xl,xk,xj,reduceIte,reduceCtorEq,ya,xz,xu]) | (refine callO_same (j_r07_Array h _) ?_; simp only [*,kB,kC,cellsOf,kE,xn,xi,xm,xe,xf,xg,xh,xl,xk,xj,reduceIte,reduceCtorEq,ya,xz,xu]) | (refine callO_same (j_r07_Cell h _) ?_; simp only [*,kB,kC,cellsOf,kE,xn,xi,xm,xe,xf,xg,xh,xl,xk,xj,reduceIte,reduceCtorEq,ya,xz,xu]) | (refine callO_same (j_r07_HasN h _) ?_; simp only [*,kB,kC,cellsOf,kE,xn,xi,xm,xe,xf,xg,xh,xl,xk,xj,reduceIte,reduceCtorEq,ya,xz,xu]) | first | (refine gO_t ?_ ?_<;>(intro hc; simp only [*,kB,kC,cellsOf,kE,xn,xi,xm,xe,xf,xg,xh,xl,xk,xj,reduceIte,reduceCtorEq,ya,xz,xu])) | (refine gO_f ?_ ?_<;>(intro hc; simp only [*,kB,kC,cellsOf,kE,xn,xi,xm,xe,xf,xg,xh,xl,xk,xj,reduceIte,reduceCtorEq,ya,xz,xu])) | (refine condO_intro ?_ ?_<;>(intro hc; simp only [*,kB,kC,cellsOf,kE,xn,xi,xm,xe,xf,xg,xh,xl,xk,xj,reduceIte,reduceCtorEq,ya,xz,xu]))
        all_goals first | exact ⟨_,rfl⟩ | exact ⟨rfl,_,rfl⟩ | exact ⟨trivial,_,rfl⟩ | exact ⟨[],(List.append_nil _).symm⟩
end
end Go.VX.Seat
end
section
set_option maxRecDepth 4000
namespace Go.VX.Seat
section
variable {X : Cx} {st : St}
theorem j_r07_op (h : On X) (s p cd bl : AV) (ns nb : Nat) (hs : lenA s = some ns) (hb : lenA bl = some nb) (regs spill k d a b c n g : Int) :
    J X.P X.F X.H (.call 51 [.agg [s,p,.sc (.int .i64 regs),cd,.sc (.int .i64 spill),bl],.agg [.sc (.int .i64 k),.sc (.int .i64 d),.sc (.int .i64 a),.sc (.int .i64 b),.sc (.int .i64 c),.sc (.int .i64 n),.sc (.int .i64 g)]] st (.ret (.sc (.int .i64 (opErr ns nb regs spill k d a b c n g)))) st):=by
  refine pure_intro (by rw [h.F]; rfl) rfl ?_
  unfold opErr
  simp only [v_r07_op,kB,kC,cellsOf,kE,xn,xi,xm,xe,xf,xg,xh,xl,xk,xj,reduceIte,reduceCtorEq,ya,xz,xu]
  refine callO_same (j_r07_One h _) ?_
  simp only [kB,kC,cellsOf,kE,xn,xi,xm,xe,xf,xg,xh,xl,xk,xj,reduceIte,reduceCtorEq,ya,xz,xu]
  refine condO_intro ?_ ?_<;>intro h1<;>simp only [kB,kC,cellsOf,kE,xn,xi,xm,xe,xf,xg,xh,xl,xk,xj,reduceIte,reduceCtorEq,ya,xz,xu]
  · have h1 : oneK k = false:=by simpa using h1
    simp only [h1,kB,kC,cellsOf,kE,xn,xi,xm,xe,xf,xg,xh,xl,xk,xj,reduceIte,reduceCtorEq,ya,xz,xu]
    first | exact ⟨_,rfl⟩ | exact ⟨rfl,_,rfl⟩ | exact ⟨trivial,_,rfl⟩ | exact ⟨[],(List.append_nil _).symm⟩
  · have h1 : oneK k = true:=by simpa using h1
    simp only [h1,kB,kC,cellsOf,kE,xn,xi,xm,xe,xf,xg,xh,xl,xk,xj,reduceIte,reduceCtorEq,ya,xz,xu]
    refine callO_same (j_r07_HasDst h _) ?_
    simp only [kB,kC,cellsOf,kE,xn,xi,xm,xe,xf,xg,xh,xl,xk,xj,reduceIte,reduceCtorEq,ya,xz,xu]
    refine callO_same (j_r07_HasA h _) ?_
    simp only [kB,kC,cellsOf,kE,xn,xi,xm,xe,xf,xg,xh,xl,xk,xj,reduceIte,reduceCtorEq,ya,xz,xu]
    refine callO_same (j_r07_HasB h _) ?_
    simp only [kB,kC,cellsOf,kE,xn,xi,xm,xe,xf,xg,xh,xl,xk,xj,reduceIte,reduceCtorEq,ya,xz,xu]
    refine callO_same (j_r07_HasC h _) ?_
    simp only [kB,kC,cellsOf,kE,xn,xi,xm,xe,xf,xg,xh,xl,xk,xj,reduceIte,reduceCtorEq,ya,xz,xu]
    refine loop_cut [2,3,5,6] (fun e=>((hasDst k && !regOkA regs d) || (hasA k && !regOkA regs a) || (hasB k && !regOkA regs b) || (hasC k && !regOkA regs c)) = false) ?_ ?_
    · refine loop_live [2,3,5,6] (fun m e=>∃ i : Int,0≤i∧i + m = 4∧e 7 = .sc (.int .i64 i)∧(0 < i→(hasDst k && !regOkA regs d) = false)∧(1 < i→(hasA k && !regOkA regs a) = false)∧(2 < i→(hasB k && !regOkA regs b) = false)∧(3 < i→(hasC k && !regOkA regs c) = false)) 4 ?_ ?_
      · exact ⟨0,by omega,by omega,by simp only [kB,kC,cellsOf,kE,xn,xi,xm,xe,xf,xg,xh,xl,xk,xj,reduceIte,reduceCtorEq,ya,xz,xu],by omega,by omega,by omega,by omega⟩
      · intro m e hL ⟨i,hi,him,h7,f0,f1,f2,f3⟩
        simp only [kB,kC,cellsOf,kE,xn,xi,xm,xe,xf,xg,xh,xl,xk,xj,reduceIte,reduceCtorEq,ya,xz,xu] at hL
        obtain ⟨h2,h3,h5,h6⟩:=hL
        have : i = 0∨i = 1∨i = 2∨i = 3∨i = 4:=by omega
        rcases this with rfl | rfl | rfl | rfl | rfl
        all_goals
          simp only [h2,h3,h5,h6,h7,kB,kC,cellsOf,kE,xn,xi,xm,xe,xf,xg,xh,xl,xk,xj,reduceIte,reduceCtorEq,ya,xz,xu]
          repeat' first | (refine callO_same (j_r07_EndA h _) ?_; simp only [*,kB,kC,cellsOf,kE,xn,xi,xm,xe,xf,xg,xh,xl,xk,xj,reduceIte,reduceCtorEq,ya,xz,xu]) | (refine callO_same (j_r07_EndTo h _) ?_; simp only [*,kB,kC,cellsOf,kE,xn,xi,xm,xe,xf,xg,xh,xl,xk,xj,reduceIte,reduceCtorEq,ya,xz,xu]) | (refine callO_same (j_r07_EndElse h _) ?_; simp only [*,kB,kC,cellsOf,kE,xn,xi,xm,xe,xf,xg,xh,xl,xk,xj,reduceIte,reduceCtorEq,ya,xz,xu]) | (refine callO_same (j_r07_there h _ _ _ _ _ _ _ _ hb) ?_; simp only [*,kB,kC,cellsOf,kE,xn,xi,xm,xe,xf,xg,xh,xl,xk,xj,reduceIte,reduceCtorEq,ya,xz,xu]) | (refine callO_same (j_r07_register h _ _ _ _ _ _ _) ?_; simp only [*,kB,kC,cellsOf,kE,xn,xi,xm,xe,xf,xg,xh,xl,xk,xj,reduceIte,reduceCtorEq,ya,xz,xu]) | (refine callO_same (j_r07_Array h _) ?_; simp only [*,kB,kC,cellsOf,kE,xn,xi,xm,xe,xf,xg,xh,xl,xk,xj,reduceIte,reduceCtorEq,ya,xz,xu]) | (refine callO_same (j_r07_Cell h _) ?_; simp only [*,kB,kC,cellsOf,kE,xn,xi,xm,xe,xf,xg,xh,xl,xk,xj,reduceIte,reduceCtorEq,ya,xz,xu]) | (refine callO_same (j_r07_HasN h _) ?_; simp only [*,kB,kC,cellsOf,kE,xn,xi,xm,xe,xf,xg,xh,xl,xk,xj,reduceIte,reduceCtorEq,ya,xz,xu]) | first | (refine gO_t ?_ ?_<;>(intro hc; simp only [*,kB,kC,cellsOf,kE,xn,xi,xm,xe,xf,xg,xh,xl,xk,xj,reduceIte,reduceCtorEq,ya,xz,xu])) | (refine gO_f ?_ ?_<;>(intro hc; simp only [*,kB,kC,cellsOf,kE,xn,xi,xm,xe,xf,xg,xh,xl,xk,xj,reduceIte,reduceCtorEq,ya,xz,xu])) | (refine condO_intro ?_ ?_<;>(intro hc; simp only [*,kB,kC,cellsOf,kE,xn,xi,xm,xe,xf,xg,xh,xl,xk,xj,reduceIte,reduceCtorEq,ya,xz,xu]))
        all_goals first
          | first | exact ⟨_,rfl⟩ | exact ⟨rfl,_,rfl⟩ | exact ⟨trivial,_,rfl⟩ | exact ⟨[],(List.append_nil _).symm⟩
          | exact ⟨m - 1,by omega,_,by omega,by omega,rfl,by intro hh; first | omega | simp_all,by intro hh; first | omega | simp_all,by intro hh; first | omega | simp_all,by intro hh; first | omega | simp_all⟩
          | simp only [f0 (by omega),f1 (by omega),f2 (by omega),f3 (by omega),Bool.or_self,and_self]
    · intro e hL hR
      simp only [hR,kB,kC,cellsOf,kE,xn,xi,xm,xe,xf,xg,xh,xl,xk,xj,reduceIte,reduceCtorEq,ya,xz,xu] at hL ⊢
      obtain ⟨h2,h3,h5,h6⟩:=hL
      simp only [*,kB,kC,cellsOf,kE,xn,xi,xm,xe,xf,xg,xh,xl,xk,xj,reduceIte,reduceCtorEq,ya,xz,xu]
      refine cutG (mS m0) [2,3,5,6] (fun _=>(decide (g≠-1) && !regOkA regs g) = false) ?_ ?_
      · repeat' first | (refine callO_same (j_r07_EndA h _) ?_; simp only [*,kB,kC,cellsOf,kE,xn,xi,xm,xe,xf,xg,xh,xl,xk,xj,reduceIte,reduceCtorEq,ya,xz,xu]) | (refine callO_same (j_r07_EndTo h _) ?_; simp only [*,kB,kC,cellsOf,kE,xn,xi,xm,xe,xf,xg,xh,xl,xk,xj,reduceIte,reduceCtorEq,ya,xz,xu]) | (refine callO_same (j_r07_EndElse h _) ?_; simp only [*,kB,kC,cellsOf,kE,xn,xi,xm,xe,xf,xg,xh,xl,xk,xj,reduceIte,reduceCtorEq,ya,xz,xu]) | (refine callO_same (j_r07_there h _ _ _ _ _ _ _ _ hb) ?_; simp only [*,kB,kC,cellsOf,kE,xn,xi,xm,xe,xf,xg,xh,xl,xk,xj,reduceIte,reduceCtorEq,ya,xz,xu]) | (refine callO_same (j_r07_register h _ _ _ _ _ _ _) ?_; simp only [*,kB,kC,cellsOf,kE,xn,xi,xm,xe,xf,xg,xh,xl,xk,xj,reduceIte,reduceCtorEq,ya,xz,xu]) | (refine callO_same (j_r07_Array h _) ?_; simp only [*,kB,kC,cellsOf,kE,xn,xi,xm,xe,xf,xg,xh,xl,xk,xj,reduceIte,reduceCtorEq,ya,xz,xu]) | (refine callO_same (j_r07_Cell h _) ?_; simp only [*,kB,kC,cellsOf,kE,xn,xi,xm,xe,xf,xg,xh,xl,xk,xj,reduceIte,reduceCtorEq,ya,xz,xu]) | (refine callO_same (j_r07_HasN h _) ?_; simp only [*,kB,kC,cellsOf,kE,xn,xi,xm,xe,xf,xg,xh,xl,xk,xj,reduceIte,reduceCtorEq,ya,xz,xu]) | first | (refine gO_t ?_ ?_<;>(intro hc; simp only [*,kB,kC,cellsOf,kE,xn,xi,xm,xe,xf,xg,xh,xl,xk,xj,reduceIte,reduceCtorEq,ya,xz,xu])) | (refine gO_f ?_ ?_<;>(intro hc; simp only [*,kB,kC,cellsOf,kE,xn,xi,xm,xe,xf,xg,xh,xl,xk,xj,reduceIte,reduceCtorEq,ya,xz,xu])) | (refine condO_intro ?_ ?_<;>(intro hc; simp only [*,kB,kC,cellsOf,kE,xn,xi,xm,xe,xf,xg,xh,xl,xk,xj,reduceIte,reduceCtorEq,ya,xz,xu]))
        all_goals first | exact ⟨_,rfl⟩ | exact ⟨rfl,_,rfl⟩ | exact ⟨trivial,_,rfl⟩ | exact ⟨[],(List.append_nil _).symm⟩
      · intro e1 hL hR2
        simp only [hR2,kB,kC,cellsOf,kE,xn,xi,xm,xe,xf,xg,xh,xl,xk,xj,reduceIte,reduceCtorEq,ya,xz,xu] at hL ⊢
        simp only [h2,h3,h5,h6] at hL
        obtain ⟨g2,g3,g5,g6⟩:=hL
        simp only [*,kB,kC,cellsOf,kE,xn,xi,xm,xe,xf,xg,xh,xl,xk,xj,reduceIte,reduceCtorEq,ya,xz,xu]
        refine cutCall (mS (mB m0)) [2,3,5,6] (fun e=>e 8 = .sc (.int .i64 (manyOf ns nb spill k))) ?_ ?_
        · unfold manyOf
          repeat' first | (refine callO_same (j_r07_EndA h _) ?_; simp only [*,kB,kC,cellsOf,kE,xn,xi,xm,xe,xf,xg,xh,xl,xk,xj,reduceIte,reduceCtorEq,ya,xz,xu]) | (refine callO_same (j_r07_EndTo h _) ?_; simp only [*,kB,kC,cellsOf,kE,xn,xi,xm,xe,xf,xg,xh,xl,xk,xj,reduceIte,reduceCtorEq,ya,xz,xu]) | (refine callO_same (j_r07_EndElse h _) ?_; simp only [*,kB,kC,cellsOf,kE,xn,xi,xm,xe,xf,xg,xh,xl,xk,xj,reduceIte,reduceCtorEq,ya,xz,xu]) | (refine callO_same (j_r07_there h _ _ _ _ _ _ _ _ hb) ?_; simp only [*,kB,kC,cellsOf,kE,xn,xi,xm,xe,xf,xg,xh,xl,xk,xj,reduceIte,reduceCtorEq,ya,xz,xu]) | (refine callO_same (j_r07_register h _ _ _ _ _ _ _) ?_; simp only [*,kB,kC,cellsOf,kE,xn,xi,xm,xe,xf,xg,xh,xl,xk,xj,reduceIte,reduceCtorEq,ya,xz,xu]) | (refine callO_same (j_r07_Array h _) ?_; simp only [*,kB,kC,cellsOf,kE,xn,xi,xm,xe,xf,xg,xh,xl,xk,xj,reduceIte,reduceCtorEq,ya,xz,xu]) | (refine callO_same (j_r07_Cell h _) ?_; simp only [*,kB,kC,cellsOf,kE,xn,xi,xm,xe,xf,xg,xh,xl,xk,xj,reduceIte,reduceCtorEq,ya,xz,xu]) | (refine callO_same (j_r07_HasN h _) ?_; simp only [*,kB,kC,cellsOf,kE,xn,xi,xm,xe,xf,xg,xh,xl,xk,xj,reduceIte,reduceCtorEq,ya,xz,xu]) | first | (refine gO_t ?_ ?_<;>(intro hc; simp only [*,kB,kC,cellsOf,kE,xn,xi,xm,xe,xf,xg,xh,xl,xk,xj,reduceIte,reduceCtorEq,ya,xz,xu])) | (refine gO_f ?_ ?_<;>(intro hc; simp only [*,kB,kC,cellsOf,kE,xn,xi,xm,xe,xf,xg,xh,xl,xk,xj,reduceIte,reduceCtorEq,ya,xz,xu])) | (refine condO_intro ?_ ?_<;>(intro hc; simp only [*,kB,kC,cellsOf,kE,xn,xi,xm,xe,xf,xg,xh,xl,xk,xj,reduceIte,reduceCtorEq,ya,xz,xu]))
        · intro e hL hR
          simp only [g2,g3,g5,g6,kB,kC,cellsOf,kE,xn,xi,xm,xe,xf,xg,xh,xl,xk,xj,reduceIte,reduceCtorEq,ya,xz,xu] at hL
          obtain ⟨h2,h3,h5,h6⟩:=hL
          generalize manyOf ns nb spill k = mm at hR ⊢
          simp only [*,kB,kC,cellsOf,kE,xn,xi,xm,xe,xf,xg,xh,xl,xk,xj,reduceIte,reduceCtorEq,ya,xz,xu]
          refine cutG (mS m0) [2,3,5,6] (fun e=>(decide (0≤mm) && (decide (n < 0) || decide (mm≤n))) = false) ?_ ?_
          · repeat' first | (refine callO_same (j_r07_EndA h _) ?_; simp only [*,kB,kC,cellsOf,kE,xn,xi,xm,xe,xf,xg,xh,xl,xk,xj,reduceIte,reduceCtorEq,ya,xz,xu]) | (refine callO_same (j_r07_EndTo h _) ?_; simp only [*,kB,kC,cellsOf,kE,xn,xi,xm,xe,xf,xg,xh,xl,xk,xj,reduceIte,reduceCtorEq,ya,xz,xu]) | (refine callO_same (j_r07_EndElse h _) ?_; simp only [*,kB,kC,cellsOf,kE,xn,xi,xm,xe,xf,xg,xh,xl,xk,xj,reduceIte,reduceCtorEq,ya,xz,xu]) | (refine callO_same (j_r07_there h _ _ _ _ _ _ _ _ hb) ?_; simp only [*,kB,kC,cellsOf,kE,xn,xi,xm,xe,xf,xg,xh,xl,xk,xj,reduceIte,reduceCtorEq,ya,xz,xu]) | (refine callO_same (j_r07_register h _ _ _ _ _ _ _) ?_; simp only [*,kB,kC,cellsOf,kE,xn,xi,xm,xe,xf,xg,xh,xl,xk,xj,reduceIte,reduceCtorEq,ya,xz,xu]) | (refine callO_same (j_r07_Array h _) ?_; simp only [*,kB,kC,cellsOf,kE,xn,xi,xm,xe,xf,xg,xh,xl,xk,xj,reduceIte,reduceCtorEq,ya,xz,xu]) | (refine callO_same (j_r07_Cell h _) ?_; simp only [*,kB,kC,cellsOf,kE,xn,xi,xm,xe,xf,xg,xh,xl,xk,xj,reduceIte,reduceCtorEq,ya,xz,xu]) | (refine callO_same (j_r07_HasN h _) ?_; simp only [*,kB,kC,cellsOf,kE,xn,xi,xm,xe,xf,xg,xh,xl,xk,xj,reduceIte,reduceCtorEq,ya,xz,xu]) | first | (refine gO_t ?_ ?_<;>(intro hc; simp only [*,kB,kC,cellsOf,kE,xn,xi,xm,xe,xf,xg,xh,xl,xk,xj,reduceIte,reduceCtorEq,ya,xz,xu])) | (refine gO_f ?_ ?_<;>(intro hc; simp only [*,kB,kC,cellsOf,kE,xn,xi,xm,xe,xf,xg,xh,xl,xk,xj,reduceIte,reduceCtorEq,ya,xz,xu])) | (refine condO_intro ?_ ?_<;>(intro hc; simp only [*,kB,kC,cellsOf,kE,xn,xi,xm,xe,xf,xg,xh,xl,xk,xj,reduceIte,reduceCtorEq,ya,xz,xu]))
            all_goals first | exact ⟨_,rfl⟩ | exact ⟨rfl,_,rfl⟩ | exact ⟨trivial,_,rfl⟩ | exact ⟨[],(List.append_nil _).symm⟩
          · intro e1 hL hR
            simp only [hR,kB,kC,cellsOf,kE,xn,xi,xm,xe,xf,xg,xh,xl,xk,xj,reduceIte,reduceCtorEq,ya,xz,xu] at hL ⊢
            simp only [h2,h3,h5,h6] at hL
            obtain ⟨g2,g3,g5,g6⟩:=hL
            try simp only [*,kB,kC,cellsOf,kE,xn,xi,xm,xe,xf,xg,xh,xl,xk,xj,reduceIte,reduceCtorEq,ya,xz,xu]
            refine cutLoop (mB m0) [2,3,5,6] (fun e=>((!hasDst k && decide (d≠0)) || (!hasA k && decide (a≠0)) || (!hasB k && decide (b≠0)) || (!hasC k && decide (c≠0))) = false) ?_ ?_
            · refine loop_live [2,3,5,6] (fun m e=>∃ i : Int,0≤i∧i + m = 4∧e 9 = .sc (.int .i64 i)∧(0 < i→(!hasDst k && decide (d≠0)) = false)∧(1 < i→(!hasA k && decide (a≠0)) = false)∧(2 < i→(!hasB k && decide (b≠0)) = false)∧(3 < i→(!hasC k && decide (c≠0)) = false)) 4 ?_ ?_
              · exact ⟨0,by omega,by omega,by simp only [kB,kC,cellsOf,kE,xn,xi,xm,xe,xf,xg,xh,xl,xk,xj,reduceIte,reduceCtorEq,ya,xz,xu],by omega,by omega,by omega,by omega⟩
              · intro m e hL ⟨i,hi,him,h7,f0,f1,f2,f3⟩
                simp only [kB,kC,cellsOf,kE,xn,xi,xm,xe,xf,xg,xh,xl,xk,xj,reduceIte,reduceCtorEq,ya,xz,xu] at hL
                simp only [g2,g3,g5,g6] at hL
                obtain ⟨h2,h3,h5,h6⟩:=hL
                have : i = 0∨i = 1∨i = 2∨i = 3∨i = 4:=by omega
                rcases this with rfl | rfl | rfl | rfl | rfl
                all_goals
                  simp only [h2,h3,h5,h6,h7,kB,kC,cellsOf,kE,xn,xi,xm,xe,xf,xg,xh,xl,xk,xj,reduceIte,reduceCtorEq,ya,xz,xu]
                  repeat' first | (refine callO_same (j_r07_EndA h _) ?_; simp only [*,kB,kC,cellsOf,kE,xn,xi,xm,xe,xf,xg,xh,xl,xk,xj,reduceIte,reduceCtorEq,ya,xz,xu]) | (refine callO_same (j_r07_EndTo h _) ?_; simp only [*,kB,kC,cellsOf,kE,xn,xi,xm,xe,xf,xg,xh,xl,xk,xj,reduceIte,reduceCtorEq,ya,xz,xu]) | (refine callO_same (j_r07_EndElse h _) ?_; simp only [*,kB,kC,cellsOf,kE,xn,xi,xm,xe,xf,xg,xh,xl,xk,xj,reduceIte,reduceCtorEq,ya,xz,xu]) | (refine callO_same (j_r07_there h _ _ _ _ _ _ _ _ hb) ?_; simp only [*,kB,kC,cellsOf,kE,xn,xi,xm,xe,xf,xg,xh,xl,xk,xj,reduceIte,reduceCtorEq,ya,xz,xu]) | (refine callO_same (j_r07_register h _ _ _ _ _ _ _) ?_; simp only [*,kB,kC,cellsOf,kE,xn,xi,xm,xe,xf,xg,xh,xl,xk,xj,reduceIte,reduceCtorEq,ya,xz,xu]) | (refine callO_same (j_r07_Array h _) ?_; simp only [*,kB,kC,cellsOf,kE,xn,xi,xm,xe,xf,xg,xh,xl,xk,xj,reduceIte,reduceCtorEq,ya,xz,xu]) | (refine callO_same (j_r07_Cell h _) ?_; simp only [*,kB,kC,cellsOf,kE,xn,xi,xm,xe,xf,xg,xh,xl,xk,xj,reduceIte,reduceCtorEq,ya,xz,xu]) | (refine callO_same (j_r07_HasN h _) ?_; simp only [*,kB,kC,cellsOf,kE,xn,xi,xm,xe,xf,xg,xh,xl,xk,xj,reduceIte,reduceCtorEq,ya,xz,xu]) | first | (refine gO_t ?_ ?_<;>(intro hc; simp only [*,kB,kC,cellsOf,kE,xn,xi,xm,xe,xf,xg,xh,xl,xk,xj,reduceIte,reduceCtorEq,ya,xz,xu])) | (refine gO_f ?_ ?_<;>(intro hc; simp only [*,kB,kC,cellsOf,kE,xn,xi,xm,xe,xf,xg,xh,xl,xk,xj,reduceIte,reduceCtorEq,ya,xz,xu])) | (refine condO_intro ?_ ?_<;>(intro hc; simp only [*,kB,kC,cellsOf,kE,xn,xi,xm,xe,xf,xg,xh,xl,xk,xj,reduceIte,reduceCtorEq,ya,xz,xu]))
                all_goals first
                  | first | exact ⟨_,rfl⟩ | exact ⟨rfl,_,rfl⟩ | exact ⟨trivial,_,rfl⟩ | exact ⟨[],(List.append_nil _).symm⟩
                  | exact ⟨m - 1,by omega,_,by omega,by omega,rfl,by intro hh; first | omega | simp_all,by intro hh; first | omega | simp_all,by intro hh; first | omega | simp_all,by intro hh; first | omega | simp_all⟩
                  | simp only [g2,g3,g5,g6,f0 (by omega),f1 (by omega),f2 (by omega),f3 (by omega),Bool.or_self,and_self]
            · intro e hL hR
              simp only [hR,kB,kC,cellsOf,kE,xn,xi,xm,xe,xf,xg,xh,xl,xk,xj,reduceIte,reduceCtorEq,ya,xz,xu] at hL ⊢
              simp only [g2,g3,g5,g6] at hL
              obtain ⟨h2,h3,h5,h6⟩:=hL
              unfold hasN
              simp only [*,kB,kC,cellsOf,kE,xn,xi,xm,xe,xf,xg,xh,xl,xk,xj,reduceIte,reduceCtorEq,ya,xz,xu]
              repeat' first | (refine callO_same (j_r07_EndA h _) ?_; simp only [*,kB,kC,cellsOf,kE,xn,xi,xm,xe,xf,xg,xh,xl,xk,xj,reduceIte,reduceCtorEq,ya,xz,xu]) | (refine callO_same (j_r07_EndTo h _) ?_; simp only [*,kB,kC,cellsOf,kE,xn,xi,xm,xe,xf,xg,xh,xl,xk,xj,reduceIte,reduceCtorEq,ya,xz,xu]) | (refine callO_same (j_r07_EndElse h _) ?_; simp only [*,kB,kC,cellsOf,kE,xn,xi,xm,xe,xf,xg,xh,xl,xk,xj,reduceIte,reduceCtorEq,ya,xz,xu]) | (refine callO_same (j_r07_there h _ _ _ _ _ _ _ _ hb) ?_; simp only [*,kB,kC,cellsOf,kE,xn,xi,xm,xe,xf,xg,xh,xl,xk,xj,reduceIte,reduceCtorEq,ya,xz,xu]) | (refine callO_same (j_r07_register h _ _ _ _ _ _ _) ?_; simp only [*,kB,kC,cellsOf,kE,xn,xi,xm,xe,xf,xg,xh,xl,xk,xj,reduceIte,reduceCtorEq,ya,xz,xu]) | (refine callO_same (j_r07_Array h _) ?_; simp only [*,kB,kC,cellsOf,kE,xn,xi,xm,xe,xf,xg,xh,xl,xk,xj,reduceIte,reduceCtorEq,ya,xz,xu]) | (refine callO_same (j_r07_Cell h _) ?_; simp only [*,kB,kC,cellsOf,kE,xn,xi,xm,xe,xf,xg,xh,xl,xk,xj,reduceIte,reduceCtorEq,ya,xz,xu]) | (refine callO_same (j_r07_HasN h _) ?_; simp only [*,kB,kC,cellsOf,kE,xn,xi,xm,xe,xf,xg,xh,xl,xk,xj,reduceIte,reduceCtorEq,ya,xz,xu]) | first | (refine gO_t ?_ ?_<;>(intro hc; simp only [*,kB,kC,cellsOf,kE,xn,xi,xm,xe,xf,xg,xh,xl,xk,xj,reduceIte,reduceCtorEq,ya,xz,xu])) | (refine gO_f ?_ ?_<;>(intro hc; simp only [*,kB,kC,cellsOf,kE,xn,xi,xm,xe,xf,xg,xh,xl,xk,xj,reduceIte,reduceCtorEq,ya,xz,xu])) | (refine condO_intro ?_ ?_<;>(intro hc; simp only [*,kB,kC,cellsOf,kE,xn,xi,xm,xe,xf,xg,xh,xl,xk,xj,reduceIte,reduceCtorEq,ya,xz,xu]))
              all_goals first | exact ⟨_,rfl⟩ | exact ⟨rfl,_,rfl⟩ | exact ⟨trivial,_,rfl⟩ | exact ⟨[],(List.append_nil _).symm⟩
end
end Go.VX.Seat
end
section
set_option maxRecDepth 4000
namespace Go.VX.Seat
open Go.Proofs
structure OpV where
  k : Int
  d : Int
  a : Int
  b : Int
  c : Int
  n : Int
  g : Int
  deriving DecidableEq
structure EndV where
  k : Int
  a : Int
  t : Int
  e : Int
  deriving DecidableEq
structure BlkV where
  ops : List OpV
  e : EndV
  catch_ : Int
  deriving DecidableEq
structure UnitV where
  sizes : List Int
  params : Int
  regs : Int
  code : Int
  spill : Int
  blocks : List BlkV
  deriving DecidableEq
def OpV.row (o : OpV) : List AV:=[iA o.k,iA o.d,iA o.a,iA o.b,iA o.c,iA o.n,iA o.g]
def BlkV.row (b : BlkV) (v : AV) : List AV:=[v,iA b.e.k,iA b.e.a,iA b.e.t,iA b.e.e,iA b.catch_]
abbrev OpsAt (st : St) (lo hi : Nat) (v : AV) (l : List OpV) : Prop:=ArrAt st lo hi v 7 (l.map OpV.row)
abbrev IntsAt (st : St) (lo hi : Nat) (v : AV) (l : List Int) : Prop:=ArrAt st lo hi v 1 (l.map fun n=>[iA n])
def BlksAt (st : St) (lo hi : Nat) (v : AV) (l : List BlkV) : Prop:=∃ f : Nat→AV,ArrAt st lo hi v 6 (l.mapIdx fun i b=>b.row (f i))∧∀ i (h : i < l.length),OpsAt st lo hi (f i) l[i].ops
def UnitAt (st : St) (lo hi : Nat) (v : AV) (u : UnitV) : Prop:=∃ s bl,v = .agg [s,iA u.params,iA u.regs,iA u.code,iA u.spill,bl]∧IntsAt st lo hi s u.sizes∧BlksAt st lo hi bl u.blocks
section
variable {X : Cx} {st : St}
theorem j_r07_SameOps (h : On X) {lo hi lo' hi' : Nat} {v w : AV} {xs ys : List OpV} (hv : OpsAt st lo hi v xs) (hw : OpsAt st lo' hi' w ys) (hlen : (xs.length : Int) < 4611686018427387904) :
    J X.P X.F X.H (.call 86 [v,w] st (.ret (bA (decide (xs = ys)))) st):=by
  refine pure_intro (by rw [h.F]; rfl) rfl ?_
  have l1:=hv.len
  have l2:=hw.len
  simp only [List.length_map] at l1 l2
  simp only [v_r07_SameOps,l1,l2,kB,kC,cellsOf,kE,xn,xi,xm,xe,xf,xg,xh,xl,xk,xj,reduceIte,reduceCtorEq,ya,xz,xu]
  by_cases hne : xs.length = ys.length
  case neg =>
    have : xs≠ys:=fun e=>hne (by rw [e])
    have h3 : ((xs.length : Int)≠(ys.length : Int)):=by omega
    simp only [h3,this,ne_eq,not_false_eq_true,kB,kC,cellsOf,kE,xn,xi,xm,xe,xf,xg,xh,xl,xk,xj,reduceIte,reduceCtorEq,ya,xz,xu]
    first | exact ⟨_,rfl⟩ | exact ⟨rfl,_,rfl⟩ | exact ⟨trivial,_,rfl⟩ | exact ⟨[],(List.append_nil _).symm⟩
  have h3 : ¬ ((xs.length : Int)≠(ys.length : Int)):=by omega
  simp only [h3,kB,kC,cellsOf,kE,xn,xi,xm,xe,xf,xg,xh,xl,xk,xj,reduceIte,reduceCtorEq,ya,xz,xu]
  refine loop_live [0,1] (fun m e=>∃ i : Nat,i + m = xs.length∧e 5 = iA i∧∀ j (h1 : j < xs.length) (h2 : j < ys.length),j < i→xs[j] = ys[j]) xs.length ?_ ?_
  · exact ⟨0,by omega,by simp only [kB,kC,cellsOf,kE,xn,xi,xm,xe,xf,xg,xh,xl,xk,xj,reduceIte,reduceCtorEq,ya,xz,xu],fun j _ _ hj=>absurd hj (by omega)⟩
  · intro m e hL ⟨i,him,h5,hpre⟩
    simp only [kB,kC,cellsOf,kE,xn,xi,xm,xe,xf,xg,xh,xl,xk,xj,reduceIte,reduceCtorEq,ya,xz,xu] at hL
    obtain ⟨h0,h1⟩:=hL
    simp only [*,kB,kC,cellsOf,kE,xn,xi,xm,xe,xf,xg,xh,xl,xk,xj,reduceIte,reduceCtorEq,ya,xz,xu]
    refine condO_intro ?_ ?_<;>intro hc<;>simp only [kB,kC,cellsOf,kE,xn,xi,xm,xe,xf,xg,xh,xl,xk,xj,reduceIte,reduceCtorEq,ya,xz,xu]
    · have hi : i < xs.length:=by have:=of_decide_eq_true hc; omega
      obtain ⟨b1,o1,he1,hn1,_,_⟩:=hv.get i (by simpa using hi)
      obtain ⟨b2,o2,he2,hn2,_,_⟩:=hw.get i (by simpa using (by omega : i < ys.length))
      simp only [List.getElem_map,OpV.row] at hn1 hn2
      simp only [*,h.P,c_neq_op,kB,kC,cellsOf,kE,xn,xi,xm,xe,xf,xg,xh,xl,xk,xj,reduceIte,reduceCtorEq,ya,xz,xu]
      refine condO_intro ?_ ?_<;>intro hq<;>simp only [*,kB,kC,cellsOf,kE,xn,xi,xm,xe,xf,xg,xh,xl,xk,xj,reduceIte,reduceCtorEq,ya,xz,xu]
      · have : xs≠ys:=by
          rintro rfl
          have:=(opEq_iff _ _ _ _ _ _ _ _ _ _ _ _ _ _).2 (⟨rfl,rfl,rfl,rfl,rfl,rfl,rfl⟩ : xs[i].k = xs[i].k∧xs[i].d = xs[i].d∧xs[i].a = xs[i].a∧xs[i].b = xs[i].b∧xs[i].c = xs[i].c∧xs[i].n = xs[i].n∧xs[i].g = xs[i].g)
          rw [this] at hq
          cases hq
        simp only [this,kB,kC,cellsOf,kE,xn,xi,xm,xe,xf,xg,xh,xl,xk,xj,reduceIte,reduceCtorEq,ya,xz,xu]
        first | exact ⟨_,rfl⟩ | exact ⟨rfl,_,rfl⟩ | exact ⟨trivial,_,rfl⟩ | exact ⟨[],(List.append_nil _).symm⟩
      · have he : xs[i] = ys[i]:=by
          have:=(opEq_iff _ _ _ _ _ _ _ _ _ _ _ _ _ _).1 (by simpa using hq)
          obtain ⟨q1,q2,q3,q4,q5,q6,q7⟩:=this
          cases hx : xs[i]; cases hy : ys[i]
          rw [hx,hy] at q1 q2 q3 q4 q5 q6 q7
          simp_all
        rw [wrap_small (by omega) (by omega)]
        refine ⟨m - 1,by omega,i + 1,by omega,by simp,fun j h1 h2 hj=>?_⟩
        by_cases hji : j = i
        · subst hji; exact he
        · exact hpre j (by omega) h2 (by omega)
    · have hi : i = xs.length:=by have:=of_decide_eq_false hc; omega
      have : xs = ys:=List.ext_getElem hne fun j h1 h2=>hpre j h1 h2 (by omega)
      simp only [this,kB,kC,cellsOf,kE,xn,xi,xm,xe,xf,xg,xh,xl,xk,xj,reduceIte,reduceCtorEq,ya,xz,xu]
      first | exact ⟨_,rfl⟩ | exact ⟨rfl,_,rfl⟩ | exact ⟨trivial,_,rfl⟩ | exact ⟨[],(List.append_nil _).symm⟩
end
end Go.VX.Seat
end
section
set_option maxRecDepth 4000
namespace Go.VX.Seat
open Go.Proofs
section
variable {X : Cx} {st : St}
theorem j_r07_SameBlocks (h : On X) {lo hi lo' hi' : Nat} {v w : AV} {xs ys : List BlkV} (hv : BlksAt st lo hi v xs) (hw : BlksAt st lo' hi' w ys) (hlen : (xs.length : Int) < 4611686018427387904) (hops : ∀ b ∈ xs,(b.ops.length : Int) < 4611686018427387904) :
    J X.P X.F X.H (.call 49 [v,w] st (.ret (bA (decide (xs = ys)))) st):=by
  refine pure_intro (by rw [h.F]; rfl) rfl ?_
  obtain ⟨fv,hv,hvo⟩:=hv
  obtain ⟨fw,hw,hwo⟩:=hw
  have l1:=hv.len
  have l2:=hw.len
  simp only [List.length_mapIdx] at l1 l2
  simp only [v_r07_SameBlocks,l1,l2,kB,kC,cellsOf,kE,xn,xi,xm,xe,xf,xg,xh,xl,xk,xj,reduceIte,reduceCtorEq,ya,xz,xu]
  by_cases hne : xs.length = ys.length
  case neg =>
    have : xs≠ys:=fun e=>hne (by rw [e])
    have h3 : ((xs.length : Int)≠(ys.length : Int)):=by omega
    simp only [h3,this,ne_eq,not_false_eq_true,kB,kC,cellsOf,kE,xn,xi,xm,xe,xf,xg,xh,xl,xk,xj,reduceIte,reduceCtorEq,ya,xz,xu]
    first | exact ⟨_,rfl⟩ | exact ⟨rfl,_,rfl⟩ | exact ⟨trivial,_,rfl⟩ | exact ⟨[],(List.append_nil _).symm⟩
  have h3 : ¬ ((xs.length : Int)≠(ys.length : Int)):=by omega
  simp only [h3,kB,kC,cellsOf,kE,xn,xi,xm,xe,xf,xg,xh,xl,xk,xj,reduceIte,reduceCtorEq,ya,xz,xu]
  refine loop_live [0,1] (fun m e=>∃ i : Nat,i + m = xs.length∧e 5 = iA i∧∀ j (h1 : j < xs.length) (h2 : j < ys.length),j < i→xs[j] = ys[j]) xs.length ?_ ?_
  · exact ⟨0,by omega,by simp only [kB,kC,cellsOf,kE,xn,xi,xm,xe,xf,xg,xh,xl,xk,xj,reduceIte,reduceCtorEq,ya,xz,xu],fun j _ _ hj=>absurd hj (by omega)⟩
  · intro m e hL ⟨i,him,h5,hpre⟩
    simp only [kB,kC,cellsOf,kE,xn,xi,xm,xe,xf,xg,xh,xl,xk,xj,reduceIte,reduceCtorEq,ya,xz,xu] at hL
    obtain ⟨h0,h1⟩:=hL
    simp only [*,kB,kC,cellsOf,kE,xn,xi,xm,xe,xf,xg,xh,xl,xk,xj,reduceIte,reduceCtorEq,ya,xz,xu]
    refine condO_intro ?_ ?_<;>intro hc<;>simp only [kB,kC,cellsOf,kE,xn,xi,xm,xe,xf,xg,xh,xl,xk,xj,reduceIte,reduceCtorEq,ya,xz,xu]
    · have hi : i < xs.length:=by have:=of_decide_eq_true hc; omega
      have hi2 : i < ys.length:=by omega
      obtain ⟨b1,o1,he1,hn1,ha1,hm1⟩:=hv.get i (by simpa using hi)
      obtain ⟨b2,o2,he2,hn2,ha2,hm2⟩:=hw.get i (by simpa using (by omega : i < ys.length))
      simp only [List.getElem_mapIdx,BlkV.row] at hn1 hn2 ha1 ha2 hm1 hm2
      have p1:=fun L=>ha1 L 0 (by omega)
      have p2:=fun L=>ha2 L 0 (by omega)
      have q1:=fun L=>ha1 L 5 (by omega)
      have q2:=fun L=>ha2 L 5 (by omega)
      have r1:=fun L=>hm1 L 1 4 (by omega)
      have r2:=fun L=>hm2 L 1 4 (by omega)
      simp only [kB,kC,cellsOf,kE,xn,xi,xm,xe,xf,xg,xh,xl,xk,xj,reduceIte,reduceCtorEq,ya,xz,xu] at p1 p2 q1 q2 r1 r2
      simp only [*,h.P,c_neq_end,kB,kC,cellsOf,kE,xn,xi,xm,xe,xf,xg,xh,xl,xk,xj,reduceIte,reduceCtorEq,ya,xz,xu]
      have hso:=j_r07_SameOps (st:=st++[]) h ((hvo i hi).mono []) ((hwo i hi2).mono []) (hops _ (List.getElem_mem hi))
      refine callO_same hso ?_
      have hxy : xs[i] = ys[i]↔(xs[i].ops = ys[i].ops∧endEq xs[i].e.k xs[i].e.a xs[i].e.t xs[i].e.e ys[i].e.k ys[i].e.a ys[i].e.t ys[i].e.e = true∧xs[i].catch_ = ys[i].catch_):=by
        rw [endEq_iff]
        cases hx : xs[i]; cases hy : ys[i]
        simp only [BlkV.mk.injEq]
        rename_i o1 e1 c1 o2 e2 c2
        cases e1; cases e2
        simp
      generalize xs[i].ops = A at *
      generalize ys[i].ops = B at *
      simp only [*,h.P,c_neq_end,kB,kC,cellsOf,kE,xn,xi,xm,xe,xf,xg,xh,xl,xk,xj,reduceIte,reduceCtorEq,ya,xz,xu]
      refine cutG (mS (mB m0)) [0,1,5] (fun _=>xs[i] = ys[i]) ?_ ?_
      · repeat' first
          | first | (refine gO_t ?_ ?_<;>(intro hc; simp only [*,kB,kC,cellsOf,kE,xn,xi,xm,xe,xf,xg,xh,xl,xk,xj,reduceIte,reduceCtorEq,ya,xz,xu])) | (refine gO_f ?_ ?_<;>(intro hc; simp only [*,kB,kC,cellsOf,kE,xn,xi,xm,xe,xf,xg,xh,xl,xk,xj,reduceIte,reduceCtorEq,ya,xz,xu])) | (refine condO_intro ?_ ?_<;>(intro hc; simp only [*,kB,kC,cellsOf,kE,xn,xi,xm,xe,xf,xg,xh,xl,xk,xj,reduceIte,reduceCtorEq,ya,xz,xu]))
          | simp only [*,h.P,c_neq_end,kB,kC,cellsOf,kE,xn,xi,xm,xe,xf,xg,xh,xl,xk,xj,reduceIte,reduceCtorEq,ya,xz,xu]
        iterate 3
          have hne2 : xs≠ys:=fun e=>by
            have hx : xs[i] = ys[i]:=by subst e; rfl
            obtain ⟨x1,x2,x3⟩:=hxy.1 hx
            simp [x1,x2,x3] at hc
          · simp only [hne2,decide_false]
            exact ⟨trivial,_,rfl⟩
        simp_all
      · intro e1 hL hR
        simp only [kB,kC,cellsOf,kE,xn,xi,xm,xe,xf,xg,xh,xl,xk,xj,reduceIte,reduceCtorEq,ya,xz,xu] at hL ⊢
        simp only [h0,h1,h5] at hL
        obtain ⟨g0,g1,g5⟩:=hL
        simp only [*,kB,kC,cellsOf,kE,xn,xi,xm,xe,xf,xg,xh,xl,xk,xj,reduceIte,reduceCtorEq,ya,xz,xu]
        rw [wrap_small (by omega) (by omega)]
        refine ⟨m - 1,by omega,i + 1,by omega,by simp,fun j h1 h2 hj=>?_⟩
        by_cases hji : j = i
        · subst hji; exact hR
        · exact hpre j (by omega) h2 (by omega)
    · have hi : i = xs.length:=by have:=of_decide_eq_false hc; omega
      have : xs = ys:=List.ext_getElem hne fun j h1 h2=>hpre j h1 h2 (by omega)
      simp only [this,kB,kC,cellsOf,kE,xn,xi,xm,xe,xf,xg,xh,xl,xk,xj,reduceIte,reduceCtorEq,ya,xz,xu]
      first | exact ⟨_,rfl⟩ | exact ⟨rfl,_,rfl⟩ | exact ⟨trivial,_,rfl⟩ | exact ⟨[],(List.append_nil _).symm⟩
end
end Go.VX.Seat
end
section
set_option maxRecDepth 4000
namespace Go.VX.Seat
open Go.Proofs
theorem unit_ext {U V : UnitV} (h1 : U.sizes = V.sizes) (h2 : U.params = V.params) (h3 : U.regs = V.regs) (h4 : U.code = V.code) (h5 : U.spill = V.spill) (h6 : U.blocks = V.blocks) : U = V:=by
  cases U; cases V; simp_all
def Fits (U : UnitV) : Prop:=(U.sizes.length : Int) < 4611686018427387904∧(U.blocks.length : Int) < 4611686018427387904∧∀ b ∈ U.blocks,(b.ops.length : Int) < 4611686018427387904
theorem BlksAt.mono {st : St} {lo hi : Nat} {v : AV} {l : List BlkV} (h : BlksAt st lo hi v l) (m : St) : BlksAt (st++m) lo hi v l :=
  let ⟨f,h1,h2⟩:=h; ⟨f,h1.mono m,fun i hi=>(h2 i hi).mono m⟩
theorem UnitAt.mono {st : St} {lo hi : Nat} {v : AV} {U : UnitV} (h : UnitAt st lo hi v U) (m : St) : UnitAt (st++m) lo hi v U :=
  let ⟨s,bl,h1,h2,h3⟩:=h; ⟨s,bl,h1,h2.mono m,h3.mono m⟩
theorem BlksAt.ext {st s : St} {lo hi : Nat} {v : AV} {l : List BlkV} (h : BlksAt st lo hi v l) (he : Ext st s) : BlksAt s lo hi v l:=by obtain ⟨L,rfl⟩:=he; exact h.mono L
theorem UnitAt.ext {st s : St} {lo hi : Nat} {v : AV} {U : UnitV} (h : UnitAt st lo hi v U) (he : Ext st s) : UnitAt s lo hi v U:=by obtain ⟨L,rfl⟩:=he; exact h.mono L
theorem isCell_len {v : AV} {n : Nat} (h : lenA v = some n) : AV.isCell v = true:=by
  unfold lenA at h
  split at h
  · rfl
  · rfl
  · cases h
section
variable {X : Cx} {st : St}
theorem j_r07_Same (h : On X) {lo hi lo' hi' : Nat} {v w : AV} {U V : UnitV} (hv : UnitAt st lo hi v U) (hw : UnitAt st lo' hi' w V) (hf : Fits U) :
    J X.P X.F X.H (.call 16 [v,w] st (.ret (bA (decide (U = V)))) st):=by
  refine pure_intro (by rw [h.F]; rfl) rfl ?_
  obtain ⟨s,bl,rfl,hs,hb⟩:=hv
  obtain ⟨s',bl',rfl,hs',hb'⟩:=hw
  have l1:=hs.len
  have l2:=hs'.len
  simp only [List.length_map] at l1 l2
  simp only [v_r07_Same,l1,l2,kB,kC,cellsOf,kE,xn,xi,xm,xe,xf,xg,xh,xl,xk,xj,reduceIte,reduceCtorEq,ya,xz,xu]
  refine cutG (mS m0) [2,3] (fun _=>U.sizes.length = V.sizes.length∧U.params = V.params∧U.regs = V.regs∧U.code = V.code∧U.spill = V.spill) ?_ ?_
  · repeat' first | (refine gO_t ?_ ?_<;>(intro hc; simp only [*,kB,kC,cellsOf,kE,xn,xi,xm,xe,xf,xg,xh,xl,xk,xj,reduceIte,reduceCtorEq,ya,xz,xu])) | (refine gO_f ?_ ?_<;>(intro hc; simp only [*,kB,kC,cellsOf,kE,xn,xi,xm,xe,xf,xg,xh,xl,xk,xj,reduceIte,reduceCtorEq,ya,xz,xu])) | (refine condO_intro ?_ ?_<;>(intro hc; simp only [*,kB,kC,cellsOf,kE,xn,xi,xm,xe,xf,xg,xh,xl,xk,xj,reduceIte,reduceCtorEq,ya,xz,xu]))
    iterate 5
      have hne2 : U≠V:=fun e=>by
        subst e
        have:=of_decide_eq_true hc
        simp at this
      · simp only [hne2,decide_false]
        exact ⟨trivial,_,rfl⟩
    simp_all
    omega
  · intro e1 hL ⟨e1',e2,e3,e4,e5⟩
    simp only [kB,kC,cellsOf,kE,xn,xi,xm,xe,xf,xg,xh,xl,xk,xj,reduceIte,reduceCtorEq,ya,xz,xu] at hL ⊢
    obtain ⟨h2,h3⟩:=hL
    refine cutLoop (mB m0) [2,3] (fun _=>U.sizes = V.sizes) ?_ ?_
    · refine loop_live [2,3] (fun m e=>∃ i : Nat,i + m = U.sizes.length∧e 5 = iA i∧∀ j (h1 : j < U.sizes.length) (h2 : j < V.sizes.length),j < i→U.sizes[j] = V.sizes[j]) U.sizes.length ?_ ?_
      · exact ⟨0,by omega,by simp only [kB,kC,cellsOf,kE,xn,xi,xm,xe,xf,xg,xh,xl,xk,xj,reduceIte,reduceCtorEq,ya,xz,xu],fun j _ _ hj=>absurd hj (by omega)⟩
      · intro m e hL ⟨i,him,h5,hpre⟩
        simp only [kB,kC,cellsOf,kE,xn,xi,xm,xe,xf,xg,xh,xl,xk,xj,reduceIte,reduceCtorEq,ya,xz,xu] at hL
        simp only [h2,h3] at hL
        obtain ⟨h2',h3'⟩:=hL
        simp only [h2',h3',h5,l1,l2,kB,kC,cellsOf,kE,xn,xi,xm,xe,xf,xg,xh,xl,xk,xj,reduceIte,reduceCtorEq,ya,xz,xu]
        refine condO_intro ?_ ?_<;>intro hc<;>simp only [kB,kC,cellsOf,kE,xn,xi,xm,xe,xf,xg,xh,xl,xk,xj,reduceIte,reduceCtorEq,ya,xz,xu]
        · have hi : i < U.sizes.length:=by have:=of_decide_eq_true hc; omega
          have hi2 : i < V.sizes.length:=by omega
          obtain ⟨b1,o1,he1,hn1,ha1,hm1⟩:=hs.get i (by simpa using hi)
          obtain ⟨b2,o2,he2,hn2,ha2,hm2⟩:=hs'.get i (by simpa using hi2)
          have p1:=fun L=>ha1 L 0 (by omega)
          have p2:=fun L=>ha2 L 0 (by omega)
          simp only [List.getElem_map,Nat.add_zero,kB,kC,cellsOf,kE,xn,xi,xm,xe,xf,xg,xh,xl,xk,xj,reduceIte,reduceCtorEq,ya,xz,xu] at p1 p2
          simp only [h2',h3',h5,l1,l2,he1,he2,p1,p2,kB,kC,cellsOf,kE,xn,xi,xm,xe,xf,xg,xh,xl,xk,xj,reduceIte,reduceCtorEq,ya,xz,xu]
          refine condO_intro ?_ ?_<;>intro hq<;>simp only [h2',h3',h5,h2,h3,kB,kC,cellsOf,kE,xn,xi,xm,xe,xf,xg,xh,xl,xk,xj,reduceIte,reduceCtorEq,ya,xz,xu]
          · have hne2 : U≠V:=fun e=>by
              subst e
              have:=of_decide_eq_true hq
              simp at this
            simp only [hne2,decide_false]
            exact ⟨trivial,_,rfl⟩
          · rw [wrap_small (by omega) (by have:=hf.1; omega)]
            refine ⟨m - 1,by omega,i + 1,by omega,by simp,fun j h1 h2 hj=>?_⟩
            by_cases hji : j = i
            · subst hji
              have:=of_decide_eq_false hq
              omega
            · exact hpre j (by omega) h2 (by omega)
        · have hi : i = U.sizes.length:=by have:=of_decide_eq_false hc; omega
          simp only [h2',h3',h2,h3,kB,kC,cellsOf,kE,xn,xi,xm,xe,xf,xg,xh,xl,xk,xj,reduceIte,reduceCtorEq,ya,xz,xu]
          exact List.ext_getElem e1' fun j h1 h2=>hpre j h1 h2 (by omega)
    · intro e hL hss
      simp only [kB,kC,cellsOf,kE,xn,xi,xm,xe,xf,xg,xh,xl,xk,xj,reduceIte,reduceCtorEq,ya,xz,xu] at hL ⊢
      simp only [h2,h3] at hL
      obtain ⟨h2',h3'⟩:=hL
      simp only [h2',h3',kB,kC,cellsOf,kE,xn,xi,xm,xe,xf,xg,xh,xl,xk,xj,reduceIte,reduceCtorEq,ya,xz,xu]
      refine callO_same (j_r07_SameBlocks h (lo:=lo) (hi:=hi) (lo':=lo') (hi':=hi') (xs:=U.blocks) (ys:=V.blocks) ?_ ?_ hf.2.1 hf.2.2) ?_
      · exact hb.mono _
      · exact hb'.mono _
      · simp only [kB,kC,cellsOf,kE,xn,xi,xm,xe,xf,xg,xh,xl,xk,xj,reduceIte,reduceCtorEq,ya,xz,xu]
        have hiff : (U.blocks = V.blocks)↔(U = V):=⟨fun h6=>unit_ext hss e2 e3 e4 e5 h6,fun e=>by rw [e]⟩
        simp only [hiff]
        exact ⟨trivial,_,rfl⟩
end
end Go.VX.Seat
end
