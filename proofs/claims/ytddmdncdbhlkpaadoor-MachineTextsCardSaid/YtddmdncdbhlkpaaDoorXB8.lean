/- A part of the proofs of the statements of one layer: L1, L2, L3, L4, L5, L0, S1, S2, S3, S4, S5, S6, S7, S8, S9, S10, S11, S12, S13, S14, S15, S16, S17, S18, S19, S20, S21, S22, S24, S23, E1, H2n, E2n, G1. No condition is added here. -/
import Derived.Test.YtddmdncdbhlkpaaDoorChecked
import Derived.Test.YtddmdncdbhlkpaaDoorXB7
set_option linter.unusedVariables false
set_option linter.unusedSimpArgs false
section
set_option maxRecDepth 20000
namespace Go.VX.Seat
noncomputable abbrev PR (f : Func) : Option VFun:=prepFun Go.Proofs.Tryd.prog [0,3,4,1,2] f
instance (n : Nat) : OfNat VOpd n:=⟨.tmp n⟩
abbrev zi (n : Int) : VOpd:=.con (.int .i64 n)
abbrev zm (i d s : Nat) : VOper:=⟨i,some d,.mv (.tmp s),none,[]⟩
abbrev zl (i d s : Nat) : VOper:=⟨i,some d,.load none (.tmp s),none,[]⟩
abbrev zf (i d k s : Nat) : VOper:=⟨i,some d,.fieldA k (.tmp s),none,[]⟩
abbrev zo (i d : Nat) (x : VOp) : VOper:=⟨i,some d,x,none,[]⟩
abbrev zn (i : Nat) (x : VOp) : VOper:=⟨i,none,x,none,[]⟩
abbrev zg (i d : Nat) (x : VOp) (c : Nat) (b : Bool) : VOper:=⟨i,some d,x,some (c,b),[]⟩
def v_l19_MachineTexts : VFun :=
⟨.seq (.reg [zo 0 2 (.box (.tmp 0)),
 zo 1 4 (.mv (.con (.bool false)))])
 (.seq (.seq (.reg [zm 0 12 1,
 zo 1 13 (.bi .len [9] 3 [(.tmp 12)]),
 zo 2 14 (.bin .gtr 3 true (.tmp 13) (zi 600))])
 (.cond (.tmp 14)
 (.seq (.reg [zo 0 15 (.call 14 []),
 zm 1 4 15])
 (.ret))
 (.skip)))
 (.seq (.reg [zo 0 17 (.load (some 11) (.tmp 2)),
 zo 1 18 (.call 17 [(.tmp 17)]),
 zm 2 16 18,
 zo 3 19 (.ext (.tmp 16) 0),
 zo 4 20 (.ext (.tmp 16) 1),
 zm 5 5 19,
 zm 6 6 20])
 (.seq (.reg [zo 0 21 (.load (some 11) (.tmp 2)),
 zo 1 22 (.call 12 [(.tmp 21)]),
 zm 2 7 22])
 (.seq (.seq (.reg [zm 0 23 6,
 zm 1 24 7,
 zo 2 25 (.bin .neq 27 false (.tmp 23) (.tmp 24)),
 zm 3 26 25,
 zg 4 27 (.mv (.tmp 7)) 26 false,
 zg 5 28 (.bin .eql 27 true (.tmp 27) (zi 0)) 26 false,
 zg 6 29 (.mv (.tmp 28)) 26 false,
 zg 7 30 (.mv (.tmp 5)) 29 true,
 zg 8 31 (.load (some 11) (.tmp 2)) 29 true,
 zg 9 32 (.call 18 [(.tmp 31)]) 29 true,
 zg 10 33 (.bin .neq 9 false (.tmp 30) (.tmp 32)) 29 true,
 zg 11 34 (.pick (.tmp 29) (.tmp 33) (.con (.bool false))) 26 false,
 zo 12 35 (.pick (.tmp 26) (.con (.bool true)) (.tmp 34)),
 zm 13 36 35,
 zg 14 37 (.mv (.tmp 7)) 36 false,
 zg 15 38 (.bin .neq 27 true (.tmp 37) (zi 0)) 36 false,
 zg 16 39 (.mv (.tmp 38)) 36 false,
 zg 17 40 (.mv (.tmp 5)) 39 true,
 zg 18 41 (.bin .neq 9 true (.tmp 40) (.con (.string ⟨#[]⟩))) 39 true,
 zg 19 42 (.pick (.tmp 39) (.tmp 41) (.con (.bool false))) 36 false,
 zo 20 43 (.pick (.tmp 36) (.con (.bool true)) (.tmp 42))])
 (.cond (.tmp 43)
 (.seq (.reg [zo 0 4 (.mv (.con (.bool false)))])
 (.ret))
 (.skip)))
 (.seq (.reg [zm 0 45 1,
 zo 1 46 (.call 19 [(.tmp 45)]),
 zm 2 44 46,
 zo 3 47 (.ext (.tmp 44) 0),
 zo 4 48 (.ext (.tmp 44) 1),
 zo 5 8 (.alloc [(.int .i64 0),(.int .i64 0),(.int .i64 0),(.int .i64 0),(.int .i64 0),(.int .i64 0),(.int .i64 0),(.int .i64 0),(.int .i64 0),(.int .i64 0),(.int .i64 0)]),
 zn 6 (.store 11 (.tmp 8) (.tmp 47)),
 zm 7 9 48])
 (.seq (.reg [zm 0 50 1,
 zo 1 51 (.call 20 [(.tmp 50)]),
 zm 2 49 51,
 zo 3 52 (.ext (.tmp 49) 0),
 zo 4 53 (.ext (.tmp 49) 1),
 zo 5 10 (.alloc [(.int .i64 0),(.int .i64 0),(.int .i64 0),(.int .i64 0),(.int .i64 0),(.int .i64 0),(.int .i64 0),(.int .i64 0),(.int .i64 0),(.int .i64 0),(.int .i64 0)]),
 zn 6 (.store 11 (.tmp 10) (.tmp 52)),
 zm 7 11 53])
 (.seq (.reg [zo 0 54 (.load (some 11) (.tmp 8)),
 zo 1 55 (.load (some 11) (.tmp 10)),
 zo 2 56 (.bin .eql 24 false (.tmp 54) (.tmp 55)),
 zm 3 57 56,
 zg 4 58 (.mv (.tmp 9)) 57 true,
 zg 5 59 (.mv (.tmp 11)) 57 true,
 zg 6 60 (.bin .eql 27 false (.tmp 58) (.tmp 59)) 57 true,
 zo 7 61 (.pick (.tmp 57) (.tmp 60) (.con (.bool false))),
 zm 8 62 61,
 zg 9 63 (.call 14 []) 62 true,
 zo 10 64 (.pick (.tmp 62) (.tmp 63) (.con (.bool false))),
 zm 11 4 64])
 (.ret)))))))),
 [.tmp 4]⟩
theorem p_l19_MachineTexts : PR Go.Proofs.Tryd.f4 = some v_l19_MachineTexts:=by kernel_rfl

def v10u : VFun :=
⟨.seq (.reg [zo 0 2 (.box 0),
 zo 1 4 (.mv (.con (.bool false))),
 zo 2 5 (.mv (zi 0))])
 (.seq (.reg [zo 0 9 (.load (some 11) 2),
 zm 1 10 1,
 zo 2 11 (.call 29 [9,10]),
 zm 3 8 11,
 zo 4 12 (.ext 8 0),
 zo 5 13 (.ext 8 1),
 zo 6 6 (.alloc [(.int .i64 0),(.int .i64 0),(.int .i64 0),(.int .i64 0),(.int .i64 0),(.int .i64 0),(.int .i64 0),(.int .i64 0),(.int .i64 0),(.int .i64 0),(.int .i64 0),(.int .i64 0),(.int .i64 0),(.int .i64 0),(.int .i64 0),(.int .i64 0),(.int .i64 0),(.int .i64 0),(.int .i64 0),(.int .i64 0),(.int .i64 0),(.int .i64 0),(.int .i64 0)]),
 zn 7 (.store 23 6 12),
 zm 8 7 13])
 (.seq (.reg [zm 0 14 7,
 zo 1 15 (.bin .eql 27 true 14 (zi 0)),
 zm 2 16 15,
 zg 3 17 (.load (some 23) 6) 16 true,
 zg 4 18 (.call 30 [17]) 16 true,
 zo 5 19 (.pick 16 18 (.con (.bool false))),
 zm 6 20 7,
 zm 7 4 19,
 zm 8 5 20])
 (.ret))),
 [.tmp 4,.tmp 5]⟩
theorem p10u : PR Go.Proofs.Tryd.f10 = some v10u:=by kernel_rfl

def v11u : VFun :=
⟨.seq (.reg [zo 0 2 (.box 0),
 zo 1 4 (.mv (zi 0)),
 zo 2 5 (.mv (zi 0))])
 (.seq (.reg [zo 0 9 (.load (some 11) 2),
 zm 1 10 1,
 zo 2 11 (.call 29 [9,10]),
 zm 3 8 11,
 zo 4 12 (.ext 8 0),
 zo 5 13 (.ext 8 1),
 zo 6 6 (.alloc [(.int .i64 0),(.int .i64 0),(.int .i64 0),(.int .i64 0),(.int .i64 0),(.int .i64 0),(.int .i64 0),(.int .i64 0),(.int .i64 0),(.int .i64 0),(.int .i64 0),(.int .i64 0),(.int .i64 0),(.int .i64 0),(.int .i64 0),(.int .i64 0),(.int .i64 0),(.int .i64 0),(.int .i64 0),(.int .i64 0),(.int .i64 0),(.int .i64 0),(.int .i64 0)]),
 zn 7 (.store 23 6 12),
 zm 8 7 13])
 (.seq (.seq (.reg [zm 0 14 7,
 zo 1 15 (.bin .neq 27 true 14 (zi 0))])
 (.cond 15
 (.seq (.reg [zm 0 16 7,
 zo 1 4 (.mv (zi 0)),
 zm 2 5 16])
 (.ret))
 (.skip)))
 (.seq (.reg [zo 0 17 (.load (some 23) 6),
 zo 1 18 (.call 31 [17]),
 zm 2 4 18,
 zo 3 5 (.mv (zi 0))])
 (.ret)))),
 [.tmp 4,.tmp 5]⟩
theorem p11u : PR Go.Proofs.Tryd.f11 = some v11u:=by kernel_rfl

def v_r19_Check : VFun :=
⟨.seq (.reg [zo 0 1 (.box (.tmp 0)),
 zo 1 2 (.mv (zi 0))])
 (.seq (.seq (.reg [zo 0 3 (.mv (zi 0))])
 (.block 0
 (.loop
 (.seq (.seq (.reg [zm 0 4 3,
 zo 1 5 (.bin .lss 3 true (.tmp 4) (zi 4))])
 (.cond (.tmp 5)
 (.skip)
 (.exit 0)))
 (.seq (.block 1
 (.seq (.reg [zm 0 8 3,
 zf 1 9 0 1,
 zo 2 10 (.idxA (some 4) 1 (.tmp 9) (.tmp 8)),
 zl 3 11 10,
 zo 4 12 (.bin .lss 3 true (.tmp 11) (zi 1)),
 zm 5 13 12,
 zg 6 14 (.mv (.tmp 3)) 13 false,
 zg 7 15 (.fieldA 0 (.tmp 1)) 13 false,
 zg 8 16 (.idxA (some 4) 1 (.tmp 15) (.tmp 14)) 13 false,
 zg 9 17 (.load none (.tmp 16)) 13 false,
 zg 10 18 (.bin .gtr 3 true (.tmp 17) (zi 8)) 13 false,
 zo 11 19 (.pick (.tmp 13) (.con (.bool true)) (.tmp 18)),
 zm 12 20 19,
 zg 13 21 (.mv (.tmp 3)) 20 false,
 zg 14 22 (.fieldA 4 (.tmp 1)) 20 false,
 zg 15 23 (.idxA (some 4) 1 (.tmp 22) (.tmp 21)) 20 false,
 zg 16 24 (.load none (.tmp 23)) 20 false,
 zg 17 25 (.bin .lss 3 true (.tmp 24) (zi 1)) 20 false,
 zo 18 26 (.pick (.tmp 20) (.con (.bool true)) (.tmp 25)),
 zm 19 27 26,
 zg 20 28 (.mv (.tmp 3)) 27 false,
 zg 21 29 (.fieldA 4 (.tmp 1)) 27 false,
 zg 22 30 (.idxA (some 4) 1 (.tmp 29) (.tmp 28)) 27 false,
 zg 23 31 (.load none (.tmp 30)) 27 false,
 zg 24 32 (.bin .gtr 3 true (.tmp 31) (zi 8)) 27 false,
 zo 25 33 (.pick (.tmp 27) (.con (.bool true)) (.tmp 32))])
 (.cond (.tmp 33)
 (.seq (.reg [zo 0 2 (.mv (zi 2))])
 (.ret))
 (.skip))))
 (.reg [zm 0 6 3,
 zo 1 7 (.bin .add 3 true (.tmp 6) (zi 1)),
 zm 2 3 7]))))))
 (.seq (.seq (.reg [zf 0 34 8 1,
 zl 1 35 34,
 zo 2 36 (.bin .lss 3 true (.tmp 35) (zi 1)),
 zm 3 37 36,
 zg 4 38 (.fieldA 8 (.tmp 1)) 37 false,
 zg 5 39 (.load none (.tmp 38)) 37 false,
 zg 6 40 (.bin .gtr 3 true (.tmp 39) (zi 4096)) 37 false,
 zo 7 41 (.pick (.tmp 37) (.con (.bool true)) (.tmp 40)),
 zm 8 42 41,
 zg 9 43 (.fieldA 9 (.tmp 1)) 42 false,
 zg 10 44 (.load none (.tmp 43)) 42 false,
 zg 11 45 (.bin .lss 3 true (.tmp 44) (zi 1)) 42 false,
 zo 12 46 (.pick (.tmp 42) (.con (.bool true)) (.tmp 45)),
 zm 13 47 46,
 zg 14 48 (.fieldA 9 (.tmp 1)) 47 false,
 zg 15 49 (.load none (.tmp 48)) 47 false,
 zg 16 50 (.bin .gtr 3 true (.tmp 49) (zi 8)) 47 false,
 zo 17 51 (.pick (.tmp 47) (.con (.bool true)) (.tmp 50)),
 zm 18 52 51,
 zg 19 53 (.fieldA 10 (.tmp 1)) 52 false,
 zg 20 54 (.load none (.tmp 53)) 52 false,
 zg 21 55 (.bin .lss 3 true (.tmp 54) (zi 4)) 52 false,
 zo 22 56 (.pick (.tmp 52) (.con (.bool true)) (.tmp 55)),
 zm 23 57 56,
 zg 24 58 (.fieldA 10 (.tmp 1)) 57 false,
 zg 25 59 (.load none (.tmp 58)) 57 false,
 zg 26 60 (.bin .gtr 3 true (.tmp 59) (zi 32)) 57 false,
 zo 27 61 (.pick (.tmp 57) (.con (.bool true)) (.tmp 60))])
 (.cond (.tmp 61)
 (.seq (.reg [zo 0 2 (.mv (zi 2))])
 (.ret))
 (.skip)))
 (.seq (.reg [zo 0 2 (.mv (zi 0))])
 (.ret)))),
 [.tmp 2]⟩
theorem p_r19_Check : PR Go.Proofs.Tryd.f12 = some v_r19_Check:=by kernel_rfl

def v14u : VFun :=
⟨.seq (.reg [zo 0 0 (.mv (.con (.bool false)))])
 (.seq (.reg [zo 0 15 (.build [(.int .i64 0),(.int .i64 0),(.int .i64 0),(.int .i64 0),(.int .i64 0),(.int .i64 0),(.int .i64 0)] [(0,1,(zi 3)),(1,1,(zi 4)),(2,1,(zi 0)),(3,1,(zi 2)),(6,1,(zi 6))]),
 zo 1 16 (.build [(.int .i64 0),(.int .i64 0),(.int .i64 0),(.int .i64 0),(.int .i64 0),(.int .i64 0),(.int .i64 0)] [(0,1,(zi 3)),(1,1,(zi 5)),(2,1,(zi 2)),(3,1,(zi 6)),(6,1,(zi (-1)))]),
 zo 2 1 (.alloc [(.int .i64 0),(.int .i64 0),(.int .i64 0),(.int .i64 0),(.int .i64 0),(.int .i64 0),(.int .i64 0)]),
 zo 3 2 (.alloc [(.int .i64 0),(.int .i64 0),(.int .i64 0),(.int .i64 0),(.int .i64 0),(.int .i64 0),(.int .i64 0)]),
 zn 4 (.store 7 1 15),
 zn 5 (.store 7 2 16)])
 (.seq (.reg [zo 1 19 (.load (some 7) 1),
 zo 2 20 (.load (some 7) 2),
 zo 3 21 (.bslice 7 2 [(.int .i64 0),(.int .i64 0),(.int .i64 0),(.int .i64 0),(.int .i64 0),(.int .i64 0),(.int .i64 0)] [(0,7,19),(7,7,20)]),
 ⟨0,(some 18),.call 32 [],none,[1,2]⟩,
 zo 4 22 (.call 10 [18,21]),
 zm 5 17 22,
 zo 6 23 (.ext 17 0),
 zo 7 24 (.ext 17 1),
 zm 8 3 23,
 zm 9 4 24])
 (.seq (.reg [zo 1 27 (.load (some 7) 1),
 zo 2 28 (.bslice 7 1 [(.int .i64 0),(.int .i64 0),(.int .i64 0),(.int .i64 0),(.int .i64 0),(.int .i64 0),(.int .i64 0)] [(0,7,27)]),
 ⟨0,(some 26),.call 32 [],none,[1]⟩,
 zo 3 29 (.call 10 [26,28]),
 zm 4 25 29,
 zo 5 30 (.ext 25 0),
 zo 6 31 (.ext 25 1),
 zm 7 5 30,
 zm 8 6 31])
 (.seq (.reg [zo 1 34 (.load (some 7) 1),
 zo 2 35 (.load (some 7) 2),
 zo 3 36 (.load (some 7) 1),
 zo 4 37 (.bslice 7 3 [(.int .i64 0),(.int .i64 0),(.int .i64 0),(.int .i64 0),(.int .i64 0),(.int .i64 0),(.int .i64 0)] [(0,7,34),(7,7,35),(14,7,36)]),
 ⟨0,(some 33),.call 32 [],none,[1,2,1]⟩,
 zo 5 38 (.call 11 [33,37]),
 zm 6 32 38,
 zo 7 39 (.ext 32 0),
 zo 8 40 (.ext 32 1),
 zm 9 7 39,
 zm 10 8 40])
 (.seq (.reg [zo 0 42 (.call 32 []),
 zo 1 43 (.call 17 [42]),
 zm 2 41 43,
 zo 3 44 (.ext 41 0),
 zo 4 45 (.ext 41 1),
 zm 5 9 44,
 zm 6 10 45])
 (.seq (.reg [zo 0 47 (.call 19 [(.con (.string ⟨#[117,110,105,116,115,32,50,32,49,32,49,32,49,32,108,97,116,101,110,99,121,32,49,32,51,32,50,32,49,32,114,101,103,115,32,51,50,32,98,97,110,107,115,32,50,32,112,111,114,116,115,32,52]⟩))]),
 zm 1 46 47,
 zo 2 48 (.ext 46 0),
 zo 3 49 (.ext 46 1),
 zo 4 11 (.alloc [(.int .i64 0),(.int .i64 0),(.int .i64 0),(.int .i64 0),(.int .i64 0),(.int .i64 0),(.int .i64 0),(.int .i64 0),(.int .i64 0),(.int .i64 0),(.int .i64 0)]),
 zn 5 (.store 11 11 48),
 zm 6 12 49])
 (.seq (.reg [zo 0 51 (.call 32 []),
 zo 1 52 (.call 23 [51,(zi 13)]),
 zm 2 50 52,
 zo 3 53 (.ext 50 0),
 zo 4 54 (.ext 50 1),
 zm 5 13 53,
 zm 6 14 54])
 (.seq (.reg [zm 0 55 3,
 zo 1 56 (.un .not 55),
 zm 2 57 56,
 zg 3 58 (.mv 4) 57 true,
 zg 4 59 (.bin .eql 27 true 58 (zi 0)) 57 true,
 zo 5 60 (.pick 57 59 (.con (.bool false))),
 zm 6 61 60,
 zg 7 62 (.mv 5) 61 true,
 zo 8 63 (.pick 61 62 (.con (.bool false))),
 zm 9 64 63,
 zg 10 65 (.mv 6) 64 true,
 zg 11 66 (.bin .eql 27 true 65 (zi 0)) 64 true,
 zo 12 67 (.pick 64 66 (.con (.bool false))),
 zm 13 68 67,
 zg 14 69 (.mv 7) 68 true,
 zg 15 70 (.bin .eql 3 true 69 (zi 2)) 68 true,
 zo 16 71 (.pick 68 70 (.con (.bool false))),
 zm 17 72 71,
 zg 18 73 (.mv 8) 72 true,
 zg 19 74 (.bin .eql 27 true 73 (zi 0)) 72 true,
 zo 20 75 (.pick 72 74 (.con (.bool false))),
 zm 21 76 75,
 zg 22 77 (.mv 9) 76 true,
 zg 23 78 (.bin .eql 9 true 77 (.con (.string ⟨#[117,110,105,116,115,32,50,32,49,32,49,32,49,32,108,97,116,101,110,99,121,32,49,32,51,32,50,32,49,32,114,101,103,115,32,51,50,32,98,97,110,107,115,32,50,32,112,111,114,116,115,32,52]⟩))) 76 true,
 zo 24 79 (.pick 76 78 (.con (.bool false))),
 zm 25 80 79,
 zg 26 81 (.mv 10) 80 true,
 zg 27 82 (.bin .eql 27 true 81 (zi 0)) 80 true,
 zo 28 83 (.pick 80 82 (.con (.bool false))),
 zm 29 84 83,
 zg 30 85 (.load (some 11) 11) 84 true,
 ⟨31,(some 86),.call 32 [],(some (84,true)),[11]⟩,
 zg 32 87 (.bin .eql 24 false 85 86) 84 true,
 zo 33 88 (.pick 84 87 (.con (.bool false))),
 zm 34 89 88,
 zg 35 90 (.mv 12) 89 true,
 zg 36 91 (.bin .eql 27 true 90 (zi 0)) 89 true,
 zo 37 92 (.pick 89 91 (.con (.bool false))),
 zm 38 93 92,
 zg 39 94 (.mv 13) 93 true,
 zg 40 95 (.bin .eql 3 true 94 (zi 3)) 93 true,
 zo 41 96 (.pick 93 95 (.con (.bool false))),
 zm 42 97 96,
 zg 43 98 (.mv 14) 97 true,
 zg 44 99 (.bin .eql 27 true 98 (zi 0)) 97 true,
 zo 45 100 (.pick 97 99 (.con (.bool false))),
 zm 46 101 100,
 zg 47 102 (.build [(.int .i64 0),(.int .i64 0),(.int .i64 0),(.int .i64 0),(.int .i64 0),(.int .i64 0),(.int .i64 0),(.int .i64 0),(.int .i64 0),(.int .i64 0),(.int .i64 0)] []) 101 true,
 zg 48 103 (.call 27 [102]) 101 true,
 zg 49 104 (.bin .eql 27 true 103 (zi 2)) 101 true,
 zo 50 105 (.pick 101 104 (.con (.bool false))),
 zm 51 0 105])
 (.ret))))))))),
 [.tmp 0]⟩
theorem p14u : PR Go.Proofs.Tryd.f14 = some v14u:=by kernel_rfl

end Go.VX.Seat
end
section
set_option maxRecDepth 20000
namespace Go.VX.Seat
def v_machine_Text : VFun :=
⟨.seq (.reg [zo 0 1 (.box (.tmp 0)),
 zo 1 2 (.mv (.con (.string ⟨#[]⟩))),
 zo 2 3 (.mv (zi 0))])
 (.seq (.seq (.reg [zo 0 5 (.load (some 11) (.tmp 1)),
 zo 1 6 (.call 27 [(.tmp 5)]),
 zm 2 4 6])
 (.seq (.reg [zm 0 7 4,
 zo 1 8 (.bin .neq 27 true (.tmp 7) (zi 0))])
 (.cond (.tmp 8)
 (.seq (.reg [zm 0 9 4,
 zo 1 2 (.mv (.con (.string ⟨#[]⟩))),
 zm 2 3 9])
 (.ret))
 (.skip))))
 (.seq (.reg [zo 0 10 (.load (some 11) (.tmp 1)),
 zo 1 11 (.call 34 [(.tmp 10)]),
 zm 2 2 11,
 zo 3 3 (.mv (zi 0))])
 (.ret))),
 [.tmp 2,.tmp 3]⟩
theorem p_machine_Text : PR Go.Proofs.Tryd.f17 = some v_machine_Text:=by kernel_rfl

def v_r19_Text : VFun :=
⟨.seq (.reg [zo 0 1 (.box (.tmp 0)),
 zo 1 2 (.mv (.con (.string ⟨#[]⟩)))])
 (.seq (.reg [zo 0 3 (.mv (.con (.string ⟨#[117,110,105,116,115]⟩)))])
 (.seq (.seq (.reg [zo 0 4 (.mv (zi 0))])
 (.block 0
 (.loop
 (.seq (.seq (.reg [zm 0 6 4,
 zo 1 7 (.bin .lss 3 true (.tmp 6) (zi 4))])
 (.cond (.tmp 7)
 (.skip)
 (.exit 0)))
 (.seq (.block 1
 (.reg [zm 0 10 3,
 zm 1 11 4,
 zf 2 12 0 1,
 zo 3 13 (.idxA (some 4) 1 (.tmp 12) (.tmp 11)),
 zl 4 14 13,
 zo 5 15 (.call 35 [(.tmp 14)]),
 zo 6 16 (.bin .add 9 true (.con (.string ⟨#[32]⟩)) (.tmp 15)),
 zo 7 17 (.bin .add 9 false (.tmp 10) (.tmp 16)),
 zm 8 3 17]))
 (.reg [zm 0 8 4,
 zo 1 9 (.bin .add 3 true (.tmp 8) (zi 1)),
 zm 2 4 9]))))))
 (.seq (.reg [zm 0 18 3,
 zo 1 19 (.bin .add 9 true (.tmp 18) (.con (.string ⟨#[32,108,97,116,101,110,99,121]⟩))),
 zm 2 3 19])
 (.seq (.seq (.reg [zo 0 5 (.mv (zi 0))])
 (.block 2
 (.loop
 (.seq (.seq (.reg [zm 0 20 5,
 zo 1 21 (.bin .lss 3 true (.tmp 20) (zi 4))])
 (.cond (.tmp 21)
 (.skip)
 (.exit 2)))
 (.seq (.block 3
 (.reg [zm 0 24 3,
 zm 1 25 5,
 zf 2 26 4 1,
 zo 3 27 (.idxA (some 4) 1 (.tmp 26) (.tmp 25)),
 zl 4 28 27,
 zo 5 29 (.call 35 [(.tmp 28)]),
 zo 6 30 (.bin .add 9 true (.con (.string ⟨#[32]⟩)) (.tmp 29)),
 zo 7 31 (.bin .add 9 false (.tmp 24) (.tmp 30)),
 zm 8 3 31]))
 (.reg [zm 0 22 5,
 zo 1 23 (.bin .add 3 true (.tmp 22) (zi 1)),
 zm 2 5 23]))))))
 (.seq (.reg [zm 0 32 3,
 zo 1 33 (.bin .add 9 true (.tmp 32) (.con (.string ⟨#[32,114,101,103,115,32]⟩))),
 zf 2 34 8 1,
 zl 3 35 34,
 zf 7 39 9 1,
 zl 8 40 39,
 zf 12 44 10 1,
 zl 13 45 44,
 ⟨4,(some 36),.call 35 [(.tmp 35)],none,[(.tmp 39),(.tmp 44)]⟩,
 zo 5 37 (.bin .add 9 false (.tmp 33) (.tmp 36)),
 zo 6 38 (.bin .add 9 true (.tmp 37) (.con (.string ⟨#[32,98,97,110,107,115,32]⟩))),
 ⟨9,(some 41),.call 35 [(.tmp 40)],none,[(.tmp 44)]⟩,
 zo 10 42 (.bin .add 9 false (.tmp 38) (.tmp 41)),
 zo 11 43 (.bin .add 9 true (.tmp 42) (.con (.string ⟨#[32,112,111,114,116,115,32]⟩))),
 zo 14 46 (.call 35 [(.tmp 45)]),
 zo 15 47 (.bin .add 9 false (.tmp 43) (.tmp 46)),
 zm 16 2 47])
 (.ret)))))),
 [.tmp 2]⟩
theorem p_r19_Text : PR Go.Proofs.Tryd.f18 = some v_r19_Text:=by kernel_rfl

def v_machine_Parse : VFun :=
⟨.seq (.reg [zo 0 2 (.alloc [(.int .i64 0),(.int .i64 0),(.int .i64 0),(.int .i64 0),(.int .i64 0),(.int .i64 0),(.int .i64 0),(.int .i64 0),(.int .i64 0),(.int .i64 0),(.int .i64 0)]),
 zo 1 3 (.mv (zi 0))])
 (.seq (.seq (.reg [zm 0 8 0,
 zo 1 9 (.bi .len [9] 3 [(.tmp 8)]),
 zo 2 10 (.bin .gtr 3 true (.tmp 9) (zi 400))])
 (.cond (.tmp 10)
 (.seq (.reg [zo 0 11 (.build [(.int .i64 0),(.int .i64 0),(.int .i64 0),(.int .i64 0),(.int .i64 0),(.int .i64 0),(.int .i64 0),(.int .i64 0),(.int .i64 0),(.int .i64 0),(.int .i64 0)] []),
 zn 1 (.store 11 (.tmp 2) (.tmp 11)),
 zo 2 3 (.mv (zi 3))])
 (.ret))
 (.skip)))
 (.seq (.reg [zm 0 12 0,
 zo 1 13 (.call 36 [(.tmp 12),(.con (.string ⟨#[32]⟩))]),
 zo 2 4 (.alloc [(.slice none 0 0)]),
 zn 3 (.store 1 (.tmp 4) (.tmp 13))])
 (.seq (.seq (.reg [zl 0 14 4,
 zo 1 15 (.len (.tmp 14)),
 zo 2 16 (.bin .neq 3 true (.tmp 15) (zi 16))])
 (.cond (.tmp 16)
 (.seq (.reg [zo 0 17 (.build [(.int .i64 0),(.int .i64 0),(.int .i64 0),(.int .i64 0),(.int .i64 0),(.int .i64 0),(.int .i64 0),(.int .i64 0),(.int .i64 0),(.int .i64 0),(.int .i64 0)] []),
 zn 1 (.store 11 (.tmp 2) (.tmp 17)),
 zo 2 3 (.mv (zi 4))])
 (.ret))
 (.skip)))
 (.seq (.reg [zo 0 18 (.mkfn 37 [] [(.tmp 4)]),
 zm 1 5 18])
 (.seq (.reg [zo 0 6 (.alloc [(.int .i64 0),(.int .i64 0),(.int .i64 0),(.int .i64 0),(.int .i64 0),(.int .i64 0),(.int .i64 0),(.int .i64 0),(.int .i64 0),(.int .i64 0),(.int .i64 0)])])
 (.seq (.seq (.reg [zo 0 19 (.mv (zi 0))])
 (.block 0
 (.loop
 (.seq (.reg [zo 0 20 (.bin .lss 3 true (.tmp 19) (zi 4))])
 (.seq (.cond (.tmp 20)
 (.skip)
 (.exit 0))
 (.seq (.block 1
 (.seq (.reg [zm 0 21 19,
 zm 1 7 21])
 (.reg [zm 0 22 7,
 zm 1 23 7,
 zm 2 24 5,
 zm 3 25 7,
 zo 4 26 (.bin .add 3 true (zi 1) (.tmp 25)),
 zm 6 28 5,
 zm 7 29 7,
 zo 8 30 (.bin .add 3 true (zi 6) (.tmp 29)),
 zf 10 32 0 6,
 zf 13 34 4 6,
 zo 5 27 (.callv (.tmp 24) [(.tmp 26)]),
 zo 11 33 (.idxA (some 4) 1 (.tmp 32) (.tmp 22)),
 zo 9 31 (.callv (.tmp 28) [(.tmp 30)]),
 zn 12 (.store 1 (.tmp 33) (.tmp 27)),
 zo 14 35 (.idxA (some 4) 1 (.tmp 34) (.tmp 23)),
 zn 15 (.store 1 (.tmp 35) (.tmp 31))])))
 (.reg [zo 0 36 (.bin .add 3 true (.tmp 19) (zi 1)),
 zm 1 19 36])))))))
 (.seq (.reg [zm 0 37 5,
 zo 1 38 (.callv (.tmp 37) [(zi 11)]),
 zm 2 39 5,
 zo 3 40 (.callv (.tmp 39) [(zi 13)]),
 zm 4 41 5,
 zo 5 42 (.callv (.tmp 41) [(zi 15)]),
 zf 6 43 8 6,
 zn 7 (.store 1 (.tmp 43) (.tmp 38)),
 zf 8 44 9 6,
 zn 9 (.store 1 (.tmp 44) (.tmp 40)),
 zf 10 45 10 6,
 zn 11 (.store 1 (.tmp 45) (.tmp 42))])
 (.seq (.seq (.reg [zo 0 46 (.load (some 11) (.tmp 6)),
 zo 1 47 (.call 34 [(.tmp 46)]),
 zm 2 48 0,
 zo 3 49 (.bin .neq 9 false (.tmp 47) (.tmp 48)),
 zm 4 50 49,
 zg 5 51 (.load (some 11) (.tmp 6)) 50 false,
 zg 6 52 (.call 27 [(.tmp 51)]) 50 false,
 zg 7 53 (.bin .neq 27 true (.tmp 52) (zi 0)) 50 false,
 zo 8 54 (.pick (.tmp 50) (.con (.bool true)) (.tmp 53))])
 (.cond (.tmp 54)
 (.seq (.reg [zo 0 55 (.build [(.int .i64 0),(.int .i64 0),(.int .i64 0),(.int .i64 0),(.int .i64 0),(.int .i64 0),(.int .i64 0),(.int .i64 0),(.int .i64 0),(.int .i64 0),(.int .i64 0)] []),
 zn 1 (.store 11 (.tmp 2) (.tmp 55)),
 zo 2 3 (.mv (zi 4))])
 (.ret))
 (.skip)))
 (.seq (.reg [zo 0 56 (.load (some 11) (.tmp 6)),
 zn 1 (.store 11 (.tmp 2) (.tmp 56)),
 zo 2 3 (.mv (zi 0))])
 (.ret)))))))))),
 [.cell 2 (some 11),.tmp 3]⟩
theorem p_machine_Parse : PR Go.Proofs.Tryd.f19 = some v_machine_Parse:=by kernel_rfl

def v_r19_Parse : VFun :=
⟨.seq (.reg [zo 0 2 (.alloc [(.int .i64 0),(.int .i64 0),(.int .i64 0),(.int .i64 0),(.int .i64 0),(.int .i64 0),(.int .i64 0),(.int .i64 0),(.int .i64 0),(.int .i64 0),(.int .i64 0)]),
 zo 1 3 (.mv (zi 0))])
 (.seq (.seq (.reg [zm 0 7 0,
 zo 1 8 (.bi .len [9] 3 [(.tmp 7)]),
 zo 2 9 (.bin .gtr 3 true (.tmp 8) (zi 400))])
 (.cond (.tmp 9)
 (.seq (.reg [zo 0 10 (.build [(.int .i64 0),(.int .i64 0),(.int .i64 0),(.int .i64 0),(.int .i64 0),(.int .i64 0),(.int .i64 0),(.int .i64 0),(.int .i64 0),(.int .i64 0),(.int .i64 0)] []),
 zn 1 (.store 11 (.tmp 2) (.tmp 10)),
 zo 2 3 (.mv (zi 3))])
 (.ret))
 (.skip)))
 (.seq (.reg [zm 0 11 0,
 zo 1 12 (.call 39 [(.tmp 11)]),
 zm 2 4 12])
 (.seq (.reg [zo 0 5 (.alloc [(.int .i64 0),(.int .i64 0),(.int .i64 0),(.int .i64 0),(.int .i64 0),(.int .i64 0),(.int .i64 0),(.int .i64 0),(.int .i64 0),(.int .i64 0),(.int .i64 0)])])
 (.seq (.seq (.reg [zm 0 13 4,
 zo 1 14 (.len (.tmp 13)),
 zo 2 15 (.bin .neq 3 true (.tmp 14) (zi 16))])
 (.cond (.tmp 15)
 (.seq (.reg [zo 0 16 (.build [(.int .i64 0),(.int .i64 0),(.int .i64 0),(.int .i64 0),(.int .i64 0),(.int .i64 0),(.int .i64 0),(.int .i64 0),(.int .i64 0),(.int .i64 0),(.int .i64 0)] []),
 zn 1 (.store 11 (.tmp 2) (.tmp 16)),
 zo 2 3 (.mv (zi 4))])
 (.ret))
 (.skip)))
 (.seq (.seq (.reg [zo 0 6 (.mv (zi 0))])
 (.block 0
 (.loop
 (.seq (.seq (.reg [zm 0 17 6,
 zo 1 18 (.bin .lss 3 true (.tmp 17) (zi 4))])
 (.cond (.tmp 18)
 (.skip)
 (.exit 0)))
 (.seq (.block 1
 (.reg [zm 0 21 6,
 zm 1 22 6,
 zm 2 23 4,
 zm 3 24 6,
 zo 4 25 (.bin .add 3 true (zi 1) (.tmp 24)),
 zo 5 26 (.idxA none 1 (.tmp 23) (.tmp 25)),
 zl 6 27 26,
 zm 8 29 4,
 zm 9 30 6,
 zo 10 31 (.bin .add 3 true (zi 6) (.tmp 30)),
 zo 11 32 (.idxA none 1 (.tmp 29) (.tmp 31)),
 zl 12 33 32,
 zf 14 35 0 5,
 zf 17 37 4 5,
 ⟨7,(some 28),.call 40 [(.tmp 27)],none,[(.tmp 32)]⟩,
 zo 15 36 (.idxA (some 4) 1 (.tmp 35) (.tmp 21)),
 zo 13 34 (.call 40 [(.tmp 33)]),
 zn 16 (.store 1 (.tmp 36) (.tmp 28)),
 zo 18 38 (.idxA (some 4) 1 (.tmp 37) (.tmp 22)),
 zn 19 (.store 1 (.tmp 38) (.tmp 34))]))
 (.reg [zm 0 19 6,
 zo 1 20 (.bin .add 3 true (.tmp 19) (zi 1)),
 zm 2 6 20]))))))
 (.seq (.reg [zm 0 39 4,
 zo 1 40 (.idxA none 1 (.tmp 39) (zi 11)),
 zl 2 41 40,
 zm 4 43 4,
 zo 5 44 (.idxA none 1 (.tmp 43) (zi 13)),
 zl 6 45 44,
 zm 8 47 4,
 zo 9 48 (.idxA none 1 (.tmp 47) (zi 15)),
 zl 10 49 48,
 ⟨3,(some 42),.call 40 [(.tmp 41)],none,[(.tmp 44),(.tmp 48)]⟩,
 zf 12 51 8 5,
 ⟨7,(some 46),.call 40 [(.tmp 45)],none,[(.tmp 48)]⟩,
 zo 11 50 (.call 40 [(.tmp 49)]),
 zn 13 (.store 1 (.tmp 51) (.tmp 42)),
 zf 14 52 9 5,
 zn 15 (.store 1 (.tmp 52) (.tmp 46)),
 zf 16 53 10 5,
 zn 17 (.store 1 (.tmp 53) (.tmp 50))])
 (.seq (.seq (.reg [zo 0 54 (.load (some 11) (.tmp 5)),
 zo 1 55 (.call 18 [(.tmp 54)]),
 zm 2 56 0,
 zo 3 57 (.bin .neq 9 false (.tmp 55) (.tmp 56)),
 zm 4 58 57,
 zg 5 59 (.load (some 11) (.tmp 5)) 58 false,
 zg 6 60 (.call 12 [(.tmp 59)]) 58 false,
 zg 7 61 (.bin .neq 27 true (.tmp 60) (zi 0)) 58 false,
 zo 8 62 (.pick (.tmp 58) (.con (.bool true)) (.tmp 61))])
 (.cond (.tmp 62)
 (.seq (.reg [zo 0 63 (.build [(.int .i64 0),(.int .i64 0),(.int .i64 0),(.int .i64 0),(.int .i64 0),(.int .i64 0),(.int .i64 0),(.int .i64 0),(.int .i64 0),(.int .i64 0),(.int .i64 0)] []),
 zn 1 (.store 11 (.tmp 2) (.tmp 63)),
 zo 2 3 (.mv (zi 4))])
 (.ret))
 (.skip)))
 (.seq (.reg [zo 0 64 (.load (some 11) (.tmp 5)),
 zn 1 (.store 11 (.tmp 2) (.tmp 64)),
 zo 2 3 (.mv (zi 0))])
 (.ret))))))))),
 [.cell 2 (some 11),.tmp 3]⟩
theorem p_r19_Parse : PR Go.Proofs.Tryd.f20 = some v_r19_Parse:=by kernel_rfl

def v21u : VFun :=
⟨.seq (.reg [zo 0 2 (.mv (zi 0)),
 zo 1 3 (.mv (.con (.bool false)))])
 (.seq (.seq (.reg [zm 0 6 0])
 (.block 0
 (.seq (.seq (.reg [zo 0 8 (.bin .eql 3 true 6 (zi 26)),
 zm 1 7 8])
 (.cond 7
 (.skip)
 (.seq (.reg [zo 0 9 (.bin .eql 3 true 6 (zi 27)),
 zm 1 7 9])
 (.cond 7
 (.skip)
 (.reg [zo 0 10 (.bin .eql 3 true 6 (zi 28)),
 zm 1 7 10])))))
 (.cond 7
 (.seq (.reg [zo 0 2 (.mv (zi 3)),
 zo 1 3 (.mv (.con (.bool true)))])
 (.ret))
 (.skip)))))
 (.seq (.reg [zm 0 12 0,
 zo 1 13 (.call 41 [12]),
 zm 2 11 13,
 zo 3 14 (.ext 11 0),
 zo 4 15 (.ext 11 1),
 zm 5 4 14,
 zm 6 5 15])
 (.seq (.reg [zm 0 16 4,
 zm 1 17 5,
 zo 2 18 (.bin .eql 27 true 17 (zi 0)),
 zm 3 2 16,
 zm 4 3 18])
 (.ret)))),
 [.tmp 2,.tmp 3]⟩
theorem p21u : PR Go.Proofs.Tryd.f21 = some v21u:=by kernel_rfl

def v23u : VFun :=
⟨.seq (.reg [zo 0 2 (.box 0),
 zo 1 4 (.mv (zi 0)),
 zo 2 5 (.mv (zi 0))])
 (.seq (.seq (.reg [zo 0 9 (.load (some 11) 2),
 zo 1 10 (.call 27 [9]),
 zm 2 6 10])
 (.seq (.reg [zm 0 11 6,
 zo 1 12 (.bin .neq 27 true 11 (zi 0))])
 (.cond 12
 (.seq (.reg [zm 0 13 6,
 zo 1 4 (.mv (zi 0)),
 zm 2 5 13])
 (.ret))
 (.skip))))
 (.seq (.reg [zm 0 15 1,
 zo 1 16 (.call 21 [15]),
 zm 2 14 16,
 zo 3 17 (.ext 14 0),
 zo 4 18 (.ext 14 1),
 zm 5 7 17,
 zm 6 8 18])
 (.seq (.seq (.reg [zm 0 19 8,
 zo 1 20 (.un .not 19)])
 (.cond 20
 (.seq (.reg [zo 0 4 (.mv (zi 0)),
 zo 1 5 (.mv (zi 2))])
 (.ret))
 (.skip)))
 (.seq (.reg [zm 0 21 7,
 zf 1 22 4 2,
 zo 2 23 (.idxA (some 4) 1 22 21),
 zl 3 24 23,
 zm 4 4 24,
 zo 5 5 (.mv (zi 0))])
 (.ret))))),
 [.tmp 4,.tmp 5]⟩
theorem p23u : PR Go.Proofs.Tryd.f23 = some v23u:=by kernel_rfl

def v25u : VFun :=
⟨.seq (.reg [zo 0 1 (.box 0),
 zo 1 2 (.mv (.con (.slice none 0 0)))])
 (.seq (.reg [zo 0 3 (.mv (.con (.slice none 0 0)))])
 (.seq (.seq (.reg [zf 0 7 0 1,
 zl 1 8 7])
 (.block 0
 (.seq (.seq (.reg [zo 0 15 (.bin .eql 3 true 8 (zi 26)),
 zm 1 14 15])
 (.cond 14
 (.skip)
 (.seq (.reg [zo 0 16 (.bin .eql 3 true 8 (zi 27)),
 zm 1 14 16])
 (.cond 14
 (.skip)
 (.reg [zo 0 17 (.bin .eql 3 true 8 (zi 28)),
 zm 1 14 17])))))
 (.cond 14
 (.seq (.seq (.reg [zf 0 18 6 1,
 zl 1 19 18,
 zo 2 20 (.bin .neq 3 true 19 (zi (-1)))])
 (.cond 20
 (.reg [zm 0 21 3,
 zf 1 22 6 1,
 zl 2 23 22,
 zo 3 24 (.bslice 1 1 [(.int .i64 0)] [(0,1,23)]),
 zo 4 25 (.append 1 8 21 24),
 zm 5 3 25])
 (.skip)))
 (.seq (.reg [zf 0 26 0 1,
 zl 1 27 26,
 zo 2 28 (.bin .neq 3 true 27 (zi 26))])
 (.cond 28
 (.reg [zm 0 29 3,
 zf 1 30 2 1,
 zl 2 31 30,
 zo 3 32 (.bslice 1 1 [(.int .i64 0)] [(0,1,31)]),
 zo 4 33 (.append 1 8 29 32),
 zm 5 3 33])
 (.skip))))
 (.reg [zo 0 10 (.load (some 7) 1),
 zo 1 11 (.call 43 [10]),
 zm 2 9 11,
 zo 3 12 (.ext 9 0),
 zo 4 13 (.ext 9 1),
 zm 5 3 12])))))
 (.seq (.reg [zo 0 4 (.mv (.con (.slice none 0 0)))])
 (.seq (.seq (.reg [zm 0 34 3,
 zo 1 35 (.len 34),
 zo 2 36 (.mv (zi 0))])
 (.block 1
 (.loop
 (.seq (.reg [zo 0 37 (.bin .lss 3 false 36 35)])
 (.seq (.cond 37
 (.skip)
 (.exit 1))
 (.seq (.block 2
 (.seq (.reg [zo 0 38 (.idxA none 1 34 36),
 zl 1 39 38,
 zm 2 6 39])
 (.seq (.reg [zm 0 40 4,
 zm 1 41 6,
 zo 2 42 (.call 44 [40,41]),
 zo 3 43 (.un .not 42)])
 (.cond 43
 (.reg [zm 0 44 4,
 zm 1 45 6,
 zo 2 46 (.bslice 1 1 [(.int .i64 0)] [(0,1,45)]),
 zo 3 47 (.append 1 8 44 46),
 zm 4 4 47])
 (.skip)))))
 (.reg [zo 0 48 (.bin .add 3 true 36 (zi 1)),
 zm 1 36 48])))))))
 (.seq (.reg [zm 0 49 4,
 zm 1 2 49])
 (.ret)))))),
 [.tmp 2]⟩
theorem p25u : PR Go.Proofs.Tryd.f25 = some v25u:=by kernel_rfl

def v_machine_Check : VFun :=
⟨.seq (.reg [zo 0 1 (.box (.tmp 0)),
 zo 1 2 (.mv (zi 0))])
 (.seq (.seq (.reg [zo 0 4 (.mv (zi 0))])
 (.block 0
 (.loop
 (.seq (.reg [zo 0 5 (.bin .lss 3 true (.tmp 4) (zi 4))])
 (.seq (.cond (.tmp 5)
 (.skip)
 (.exit 0))
 (.seq (.block 1
 (.seq (.reg [zm 0 6 4,
 zm 1 3 6])
 (.seq (.reg [zm 0 7 3,
 zf 1 8 0 1,
 zo 2 9 (.idxA (some 4) 1 (.tmp 8) (.tmp 7)),
 zl 3 10 9,
 zo 4 11 (.call 42 [(.tmp 10),(zi 1),(zi 8)]),
 zo 5 12 (.un .not (.tmp 11)),
 zm 6 13 12,
 zg 7 14 (.mv (.tmp 3)) 13 false,
 zg 8 15 (.fieldA 4 (.tmp 1)) 13 false,
 zg 9 16 (.idxA (some 4) 1 (.tmp 15) (.tmp 14)) 13 false,
 zg 10 17 (.load none (.tmp 16)) 13 false,
 zg 11 18 (.call 42 [(.tmp 17),(zi 1),(zi 8)]) 13 false,
 zg 12 19 (.un .not (.tmp 18)) 13 false,
 zo 13 20 (.pick (.tmp 13) (.con (.bool true)) (.tmp 19))])
 (.cond (.tmp 20)
 (.seq (.reg [zo 0 2 (.mv (zi 2))])
 (.ret))
 (.skip)))))
 (.reg [zo 0 21 (.bin .add 3 true (.tmp 4) (zi 1)),
 zm 1 4 21])))))))
 (.seq (.seq (.reg [zf 0 22 8 1,
 zl 1 23 22,
 zo 2 24 (.call 42 [(.tmp 23),(zi 1),(zi 4096)]),
 zo 3 25 (.un .not (.tmp 24)),
 zm 4 26 25,
 zg 5 27 (.fieldA 9 (.tmp 1)) 26 false,
 zg 6 28 (.load none (.tmp 27)) 26 false,
 zg 7 29 (.call 42 [(.tmp 28),(zi 1),(zi 8)]) 26 false,
 zg 8 30 (.un .not (.tmp 29)) 26 false,
 zo 9 31 (.pick (.tmp 26) (.con (.bool true)) (.tmp 30)),
 zm 10 32 31,
 zg 11 33 (.fieldA 10 (.tmp 1)) 32 false,
 zg 12 34 (.load none (.tmp 33)) 32 false,
 zg 13 35 (.call 42 [(.tmp 34),(zi 4),(zi 32)]) 32 false,
 zg 14 36 (.un .not (.tmp 35)) 32 false,
 zo 15 37 (.pick (.tmp 32) (.con (.bool true)) (.tmp 36))])
 (.cond (.tmp 37)
 (.seq (.reg [zo 0 2 (.mv (zi 2))])
 (.ret))
 (.skip)))
 (.seq (.reg [zo 0 2 (.mv (zi 0))])
 (.ret)))),
 [.tmp 2]⟩
theorem p_machine_Check : PR Go.Proofs.Tryd.f27 = some v_machine_Check:=by kernel_rfl

def v29u : VFun :=
⟨.seq (.reg [zo 0 2 (.box 0),
 zo 1 4 (.alloc [(.int .i64 0),(.int .i64 0),(.int .i64 0),(.int .i64 0),(.int .i64 0),(.int .i64 0),(.int .i64 0),(.int .i64 0),(.int .i64 0),(.int .i64 0),(.int .i64 0),(.int .i64 0),(.int .i64 0),(.int .i64 0),(.int .i64 0),(.int .i64 0),(.int .i64 0),(.int .i64 0),(.int .i64 0),(.int .i64 0),(.int .i64 0),(.int .i64 0),(.int .i64 0)]),
 zo 2 5 (.mv (zi 0))])
 (.seq (.seq (.reg [zo 0 14 (.load (some 11) 2),
 zo 1 15 (.call 27 [14]),
 zm 2 6 15])
 (.seq (.reg [zm 0 16 6,
 zo 1 17 (.bin .neq 27 true 16 (zi 0))])
 (.cond 17
 (.seq (.reg [zo 0 18 (.build [(.int .i64 0),(.int .i64 0),(.int .i64 0),(.int .i64 0),(.int .i64 0),(.int .i64 0),(.int .i64 0),(.int .i64 0),(.int .i64 0),(.int .i64 0),(.int .i64 0),(.int .i64 0),(.int .i64 0),(.int .i64 0),(.int .i64 0),(.int .i64 0),(.int .i64 0),(.int .i64 0),(.int .i64 0),(.int .i64 0),(.int .i64 0),(.int .i64 0),(.int .i64 0)] []),
 zm 1 19 6,
 zn 2 (.store 23 4 18),
 zm 3 5 19])
 (.ret))
 (.skip))))
 (.seq (.seq (.reg [zm 0 20 1,
 zo 1 21 (.len 20),
 zo 2 22 (.bin .gtr 3 true 21 (zi 400))])
 (.cond 22
 (.seq (.reg [zo 0 23 (.build [(.int .i64 0),(.int .i64 0),(.int .i64 0),(.int .i64 0),(.int .i64 0),(.int .i64 0),(.int .i64 0),(.int .i64 0),(.int .i64 0),(.int .i64 0),(.int .i64 0),(.int .i64 0),(.int .i64 0),(.int .i64 0),(.int .i64 0),(.int .i64 0),(.int .i64 0),(.int .i64 0),(.int .i64 0),(.int .i64 0),(.int .i64 0),(.int .i64 0),(.int .i64 0)] []),
 zn 1 (.store 23 4 23),
 zo 2 5 (.mv (zi 3))])
 (.ret))
 (.skip)))
 (.seq (.reg [zo 0 24 (.load (some 11) 2),
 zo 1 25 (.call 46 [24]),
 zo 2 7 (.alloc [(.int .i64 0),(.int .i64 0),(.int .i64 0),(.int .i64 0),(.int .i64 0),(.int .i64 0),(.int .i64 0),(.int .i64 0),(.int .i64 0),(.int .i64 0),(.int .i64 0),(.int .i64 0),(.int .i64 0),(.int .i64 0),(.int .i64 0),(.int .i64 0),(.int .i64 0),(.int .i64 0),(.int .i64 0),(.int .i64 0),(.int .i64 0),(.int .i64 0),(.int .i64 0)]),
 zn 3 (.store 23 7 25)])
 (.seq (.seq (.reg [zm 0 26 1,
 zo 1 27 (.len 26),
 zo 2 28 (.mv (zi 0))])
 (.block 0
 (.loop
 (.seq (.reg [zo 0 29 (.bin .lss 3 false 28 27)])
 (.seq (.cond 29
 (.skip)
 (.exit 0))
 (.seq (.block 1
 (.seq (.reg [zo 0 30 (.idxA none 7 26 28),
 zo 1 31 (.load (some 7) 30),
 zo 2 9 (.alloc [(.int .i64 0),(.int .i64 0),(.int .i64 0),(.int .i64 0),(.int .i64 0),(.int .i64 0),(.int .i64 0)]),
 zn 3 (.store 7 9 31)])
 (.seq (.seq (.reg [zf 0 33 0 9,
 zl 1 34 33,
 zo 2 35 (.call 21 [34]),
 zm 3 32 35,
 zo 4 36 (.ext 32 0),
 zo 5 37 (.ext 32 1),
 zm 6 10 36,
 zm 7 11 37])
 (.seq (.reg [zm 0 38 11,
 zo 1 39 (.un .not 38)])
 (.cond 39
 (.seq (.reg [zo 0 40 (.build [(.int .i64 0),(.int .i64 0),(.int .i64 0),(.int .i64 0),(.int .i64 0),(.int .i64 0),(.int .i64 0),(.int .i64 0),(.int .i64 0),(.int .i64 0),(.int .i64 0),(.int .i64 0),(.int .i64 0),(.int .i64 0),(.int .i64 0),(.int .i64 0),(.int .i64 0),(.int .i64 0),(.int .i64 0),(.int .i64 0),(.int .i64 0),(.int .i64 0),(.int .i64 0)] []),
 zn 1 (.store 23 4 40),
 zo 2 5 (.mv (zi 2))])
 (.ret))
 (.skip))))
 (.seq (.seq (.reg [zo 0 41 (.load (some 7) 9),
 zo 1 42 (.call 25 [41]),
 zo 2 43 (.len 42),
 zo 3 44 (.mv (zi 0))])
 (.block 2
 (.loop
 (.seq (.reg [zo 0 45 (.bin .lss 3 false 44 43)])
 (.seq (.cond 45
 (.skip)
 (.exit 2))
 (.seq (.block 3
 (.seq (.reg [zo 0 46 (.idxA none 1 42 44),
 zl 1 47 46,
 zm 2 13 47])
 (.seq (.reg [zm 0 48 13,
 zf 1 49 8 2,
 zl 2 50 49,
 zo 3 51 (.bin .sub 3 true 50 (zi 1)),
 zo 4 52 (.call 42 [48,(zi 0),51]),
 zo 5 53 (.un .not 52)])
 (.cond 53
 (.seq (.reg [zo 0 54 (.build [(.int .i64 0),(.int .i64 0),(.int .i64 0),(.int .i64 0),(.int .i64 0),(.int .i64 0),(.int .i64 0),(.int .i64 0),(.int .i64 0),(.int .i64 0),(.int .i64 0),(.int .i64 0),(.int .i64 0),(.int .i64 0),(.int .i64 0),(.int .i64 0),(.int .i64 0),(.int .i64 0),(.int .i64 0),(.int .i64 0),(.int .i64 0),(.int .i64 0),(.int .i64 0)] []),
 zn 1 (.store 23 4 54),
 zo 2 5 (.mv (zi 2))])
 (.ret))
 (.skip)))))
 (.reg [zo 0 55 (.bin .add 3 true 44 (zi 1)),
 zm 1 44 55])))))))
 (.reg [zo 0 56 (.load (some 23) 7),
 zo 1 57 (.load (some 7) 9),
 zo 2 58 (.call 47 [56,57]),
 zn 3 (.store 23 7 58)])))))
 (.reg [zo 0 59 (.bin .add 3 true 28 (zi 1)),
 zm 1 28 59])))))))
 (.seq (.reg [zo 0 60 (.load (some 23) 7),
 zn 1 (.store 23 4 60),
 zo 2 5 (.mv (zi 0))])
 (.ret)))))),
 [.cell 4 (some 23),.tmp 5]⟩
theorem p29u : PR Go.Proofs.Tryd.f29 = some v29u:=by kernel_rfl

def v30u : VFun :=
⟨.seq (.reg [zo 0 1 (.box 0),
 zo 1 2 (.mv (.con (.bool false)))])
 (.seq (.seq (.reg [zf 0 5 11 1,
 zo 1 6 (.load (some 4) 5),
 zo 2 7 (.mv (zi 0))])
 (.block 0
 (.loop
 (.seq (.reg [zo 0 8 (.bin .lss 3 true 7 (zi 4))])
 (.seq (.cond 8
 (.skip)
 (.exit 0))
 (.seq (.block 1
 (.seq (.reg [zm 0 9 7,
 zo 1 10 (.idx 4 none 1 6 7),
 zm 2 3 9,
 zm 3 4 10])
 (.seq (.reg [zm 0 11 4,
 zm 1 12 3,
 zf 2 13 0 1,
 zf 3 14 0 13,
 zo 4 15 (.idxA (some 4) 1 14 12),
 zl 5 16 15,
 zo 6 17 (.bin .gtr 3 false 11 16)])
 (.cond 17
 (.seq (.reg [zo 0 2 (.mv (.con (.bool false)))])
 (.ret))
 (.skip)))))
 (.reg [zo 0 18 (.bin .add 3 true 7 (zi 1)),
 zm 1 7 18])))))))
 (.seq (.reg [zf 0 19 15 1,
 zo 1 20 (.slice (some 8) 1 19 none none none),
 zf 3 22 0 1,
 zf 4 23 10 22,
 zl 5 24 23,
 ⟨2,(some 21),.call 48 [20],none,[23]⟩,
 zo 6 25 (.bin .leq 3 false 21 24),
 zm 7 2 25])
 (.ret))),
 [.tmp 2]⟩
theorem p30u : PR Go.Proofs.Tryd.f30 = some v30u:=by kernel_rfl

def v31u : VFun :=
⟨.seq (.reg [zo 0 1 (.box 0),
 zo 1 2 (.mv (zi 0))])
 (.seq (.reg [zo 0 3 (.mv (zi 0))])
 (.seq (.seq (.reg [zf 0 6 11 1,
 zo 1 7 (.load (some 4) 6),
 zo 2 8 (.mv (zi 0))])
 (.block 0
 (.loop
 (.seq (.reg [zo 0 9 (.bin .lss 3 true 8 (zi 4))])
 (.seq (.cond 9
 (.skip)
 (.exit 0))
 (.seq (.block 1
 (.seq (.reg [zm 0 10 8,
 zo 1 11 (.idx 4 none 1 7 8),
 zm 2 4 10,
 zm 3 5 11])
 (.reg [zm 0 12 3,
 zm 1 13 5,
 zm 2 14 4,
 zf 3 15 0 1,
 zf 4 16 0 15,
 zo 5 17 (.idxA (some 4) 1 16 14),
 zl 6 18 17,
 zo 7 19 (.call 49 [13,18]),
 zo 8 20 (.bi .max [3,3] 3 [12,19]),
 zm 9 3 20])))
 (.reg [zo 0 21 (.bin .add 3 true 8 (zi 1)),
 zm 1 8 21])))))))
 (.seq (.reg [zm 0 22 3,
 zf 1 23 15 1,
 zo 2 24 (.slice (some 8) 1 23 none none none),
 zf 4 26 0 1,
 zf 5 27 10 26,
 zl 6 28 27,
 ⟨3,(some 25),.call 48 [24],none,[27]⟩,
 zo 7 29 (.call 49 [25,28]),
 zo 8 30 (.bi .max [3,3] 3 [22,29]),
 zm 9 2 30])
 (.ret)))),
 [.tmp 2]⟩
theorem p31u : PR Go.Proofs.Tryd.f31 = some v31u:=by kernel_rfl

def v32u : VFun :=
⟨.seq (.reg [zo 0 0 (.alloc [(.int .i64 0),(.int .i64 0),(.int .i64 0),(.int .i64 0),(.int .i64 0),(.int .i64 0),(.int .i64 0),(.int .i64 0),(.int .i64 0),(.int .i64 0),(.int .i64 0)])])
 (.seq (.reg [zo 0 1 (.build [(.int .i64 0),(.int .i64 0),(.int .i64 0),(.int .i64 0)] [(0,1,(zi 2)),(1,1,(zi 1)),(2,1,(zi 1)),(3,1,(zi 1))]),
 zo 1 2 (.build [(.int .i64 0),(.int .i64 0),(.int .i64 0),(.int .i64 0)] [(0,1,(zi 1)),(1,1,(zi 3)),(2,1,(zi 2)),(3,1,(zi 1))]),
 zo 2 3 (.build [(.int .i64 0),(.int .i64 0),(.int .i64 0),(.int .i64 0),(.int .i64 0),(.int .i64 0),(.int .i64 0),(.int .i64 0),(.int .i64 0),(.int .i64 0),(.int .i64 0)] [(0,4,1),(4,4,2),(8,1,(zi 32)),(9,1,(zi 2)),(10,1,(zi 4))]),
 zn 3 (.store 11 0 3)])
 (.ret)),
 [.cell 0 (some 11)]⟩
theorem p32u : PR Go.Proofs.Tryd.f32 = some v32u:=by kernel_rfl

def v_machine_write : VFun :=
⟨.seq (.reg [zo 0 1 (.box (.tmp 0)),
 zo 1 2 (.mv (.con (.string ⟨#[]⟩)))])
 (.seq (.reg [zo 0 8 (.bslice 1 1 [(.string ⟨#[]⟩)] [(0,1,(.con (.string ⟨#[117,110,105,116,115]⟩)))]),
 zm 1 3 8])
 (.seq (.seq (.reg [zf 0 9 0 1,
 zo 1 10 (.load (some 4) (.tmp 9)),
 zo 2 11 (.mv (zi 0))])
 (.block 0
 (.loop
 (.seq (.reg [zo 0 12 (.bin .lss 3 true (.tmp 11) (zi 4))])
 (.seq (.cond (.tmp 12)
 (.skip)
 (.exit 0))
 (.seq (.block 1
 (.seq (.reg [zo 0 13 (.idx 4 none 1 (.tmp 10) (.tmp 11)),
 zm 1 5 13])
 (.reg [zm 0 14 3,
 zm 1 15 5,
 zo 2 16 (.call 35 [(.tmp 15)]),
 zo 3 17 (.bslice 1 1 [(.string ⟨#[]⟩)] [(0,1,(.tmp 16))]),
 zo 4 18 (.append 1 16 (.tmp 14) (.tmp 17)),
 zm 5 3 18])))
 (.reg [zo 0 19 (.bin .add 3 true (.tmp 11) (zi 1)),
 zm 1 11 19])))))))
 (.seq (.reg [zm 0 20 3,
 zo 1 21 (.bslice 1 1 [(.string ⟨#[]⟩)] [(0,1,(.con (.string ⟨#[108,97,116,101,110,99,121]⟩)))]),
 zo 2 22 (.append 1 16 (.tmp 20) (.tmp 21)),
 zm 3 3 22])
 (.seq (.seq (.reg [zf 0 23 4 1,
 zo 1 24 (.load (some 4) (.tmp 23)),
 zo 2 25 (.mv (zi 0))])
 (.block 2
 (.loop
 (.seq (.reg [zo 0 26 (.bin .lss 3 true (.tmp 25) (zi 4))])
 (.seq (.cond (.tmp 26)
 (.skip)
 (.exit 2))
 (.seq (.block 3
 (.seq (.reg [zo 0 27 (.idx 4 none 1 (.tmp 24) (.tmp 25)),
 zm 1 7 27])
 (.reg [zm 0 28 3,
 zm 1 29 7,
 zo 2 30 (.call 35 [(.tmp 29)]),
 zo 3 31 (.bslice 1 1 [(.string ⟨#[]⟩)] [(0,1,(.tmp 30))]),
 zo 4 32 (.append 1 16 (.tmp 28) (.tmp 31)),
 zm 5 3 32])))
 (.reg [zo 0 33 (.bin .add 3 true (.tmp 25) (zi 1)),
 zm 1 25 33])))))))
 (.seq (.reg [zm 0 34 3,
 zf 1 35 8 1,
 zl 2 36 35,
 zf 4 38 9 1,
 zl 5 39 38,
 zf 7 41 10 1,
 zl 8 42 41,
 ⟨3,(some 37),.call 35 [(.tmp 36)],none,[(.tmp 38),(.tmp 41)]⟩,
 ⟨6,(some 40),.call 35 [(.tmp 39)],none,[(.tmp 41)]⟩,
 zo 9 43 (.call 35 [(.tmp 42)]),
 zo 10 44 (.bslice 1 6 [(.string ⟨#[]⟩)] [(0,1,(.con (.string ⟨#[114,101,103,115]⟩))),(1,1,(.tmp 37)),(2,1,(.con (.string ⟨#[98,97,110,107,115]⟩))),(3,1,(.tmp 40)),(4,1,(.con (.string ⟨#[112,111,114,116,115]⟩))),(5,1,(.tmp 43))]),
 zo 11 45 (.append 1 16 (.tmp 34) (.tmp 44)),
 zm 12 3 45])
 (.seq (.reg [zm 0 46 3,
 zo 1 47 (.call 50 [(.tmp 46),(.con (.string ⟨#[32]⟩))]),
 zm 2 2 47])
 (.ret))))))),
 [.tmp 2]⟩
theorem p_machine_write : PR Go.Proofs.Tryd.f34 = some v_machine_write:=by kernel_rfl

end Go.VX.Seat
end
section
set_option maxRecDepth 20000
namespace Go.VX.Seat
def v35u : VFun :=
⟨.seq (.reg [zo 0 2 (.mv (.con (.string ⟨#[]⟩)))])
 (.seq (.reg [zm 0 3 0,
 zo 1 4 (.call 51 [3]),
 zm 2 2 4])
 (.ret)),
 [.tmp 2]⟩
theorem p35u : PR Go.Proofs.Tryd.f35 = some v35u:=by kernel_rfl

def v_strings_Split : VFun :=
⟨.seq (.reg [zo 0 4 (.mv (.con (.slice none 0 0)))])
 (.seq (.reg [zm 0 5 0,
 zm 1 6 1,
 zo 2 7 (.call 52 [(.tmp 5),(.tmp 6),(zi 0),(zi (-1))]),
 zm 3 4 7])
 (.ret)),
 [.tmp 4]⟩
theorem p_strings_Split : PR Go.Proofs.Tryd.f36 = some v_strings_Split:=by kernel_rfl

def v_machine_Parse_c1 : VFun :=
⟨.seq (.reg [zo 0 3 (.mv (zi 0))])
 (.seq (.reg [zl 0 7 1,
 zm 1 8 0,
 zo 2 9 (.idxA none 1 (.tmp 7) (.tmp 8)),
 zl 3 10 9,
 zo 4 11 (.call 38 [(.tmp 10)]),
 zm 5 6 11,
 zo 6 12 (.ext (.tmp 6) 0),
 zo 7 13 (.ext (.tmp 6) 1),
 zm 8 4 12,
 zm 9 5 13])
 (.seq (.reg [zm 0 14 4,
 zm 1 3 14])
 (.ret))),
 [.tmp 3]⟩
theorem p_machine_Parse_c1 : PR Go.Proofs.Tryd.f37 = some v_machine_Parse_c1:=by kernel_rfl

def v38u : VFun :=
⟨.seq (.reg [zo 0 2 (.mv (zi 0)),
 zo 1 3 (.mv (.con .nilIface))])
 (.seq (.reg [zm 0 7 0,
 zo 1 8 (.call 53 [7]),
 zm 2 6 8,
 zo 3 9 (.ext 6 0),
 zo 4 10 (.ext 6 1),
 zm 5 4 9,
 zm 6 5 10])
 (.seq (.seq (.reg [zm 0 11 5,
 zo 1 12 (.bin .neq 71 true 11 (.con .nilIface))])
 (.cond 12
 (.seq (.reg [zm 0 13 4,
 zm 1 14 0,
 zm 2 15 5,
 zo 3 16 (.call 54 [(.con (.string ⟨#[65,116,111,105]⟩)),14,(zi 0),(zi 0),15]),
 zm 4 2 13,
 zm 5 3 16])
 (.ret))
 (.skip)))
 (.seq (.reg [zm 0 17 4,
 zm 1 2 17,
 zo 2 3 (.mv (.con .nilIface))])
 (.ret)))),
 [.tmp 2,.tmp 3]⟩
theorem p38u : PR Go.Proofs.Tryd.f38 = some v38u:=by kernel_rfl

def v_r19_words : VFun :=
⟨.seq (.reg [zo 0 2 (.mv (.con (.slice none 0 0)))])
 (.seq (.reg [zo 0 3 (.mv (.con (.slice none 0 0)))])
 (.seq (.reg [zo 0 4 (.mv (zi 0))])
 (.seq (.seq (.reg [zo 0 5 (.mv (zi 0))])
 (.block 0
 (.loop
 (.seq (.seq (.reg [zm 0 6 5,
 zm 1 7 0,
 zo 2 8 (.bi .len [9] 3 [(.tmp 7)]),
 zo 3 9 (.bin .leq 3 false (.tmp 6) (.tmp 8))])
 (.cond (.tmp 9)
 (.skip)
 (.exit 0)))
 (.seq (.block 1
 (.seq (.reg [zm 0 12 5,
 zm 1 13 0,
 zo 2 14 (.bi .len [9] 3 [(.tmp 13)]),
 zo 3 15 (.bin .eql 3 false (.tmp 12) (.tmp 14)),
 zm 4 16 15,
 zg 5 17 (.mv (.tmp 0)) 16 false,
 zg 6 18 (.mv (.tmp 5)) 16 false,
 zg 7 19 (.idxS 9 (.tmp 17) (.tmp 18)) 16 false,
 zg 8 20 (.bin .eql 5 true (.tmp 19) (.con (.int .u8 32))) 16 false,
 zo 9 21 (.pick (.tmp 16) (.con (.bool true)) (.tmp 20))])
 (.cond (.tmp 21)
 (.seq (.reg [zm 0 22 3,
 zm 1 23 0,
 zm 2 24 4,
 zm 3 25 5,
 zo 4 26 (.slS 9 (.tmp 23) (some (.tmp 24)) (some (.tmp 25))),
 zo 5 27 (.bslice 1 1 [(.string ⟨#[]⟩)] [(0,1,(.tmp 26))]),
 zo 6 28 (.append 1 16 (.tmp 22) (.tmp 27)),
 zm 7 3 28])
 (.reg [zm 0 29 5,
 zo 1 30 (.bin .add 3 true (.tmp 29) (zi 1)),
 zm 2 4 30]))
 (.skip))))
 (.reg [zm 0 10 5,
 zo 1 11 (.bin .add 3 true (.tmp 10) (zi 1)),
 zm 2 5 11]))))))
 (.seq (.reg [zm 0 31 3,
 zm 1 2 31])
 (.ret))))),
 [.tmp 2]⟩
theorem p_r19_words : PR Go.Proofs.Tryd.f39 = some v_r19_words:=by kernel_rfl

def v_r19_number : VFun :=
⟨.seq (.reg [zo 0 2 (.mv (zi 0))])
 (.seq (.reg [zo 0 3 (.mv (zi 0))])
 (.seq (.seq (.reg [zo 0 4 (.mv (zi 0))])
 (.block 0
 (.loop
 (.seq (.seq (.reg [zm 0 5 4,
 zm 1 6 0,
 zo 2 7 (.bi .len [9] 3 [(.tmp 6)]),
 zo 3 8 (.bin .lss 3 false (.tmp 5) (.tmp 7)),
 zm 4 9 8,
 zg 5 10 (.mv (.tmp 4)) 9 true,
 zg 6 11 (.bin .lss 3 true (.tmp 10) (zi 6)) 9 true,
 zo 7 12 (.pick (.tmp 9) (.tmp 11) (.con (.bool false)))])
 (.cond (.tmp 12)
 (.skip)
 (.exit 0)))
 (.seq (.block 1
 (.seq (.reg [zm 0 15 0,
 zm 1 16 4,
 zo 2 17 (.idxS 9 (.tmp 15) (.tmp 16)),
 zo 3 18 (.bin .geq 5 true (.tmp 17) (.con (.int .u8 48))),
 zm 4 19 18,
 zg 5 20 (.mv (.tmp 0)) 19 true,
 zg 6 21 (.mv (.tmp 4)) 19 true,
 zg 7 22 (.idxS 9 (.tmp 20) (.tmp 21)) 19 true,
 zg 8 23 (.bin .leq 5 true (.tmp 22) (.con (.int .u8 57))) 19 true,
 zo 9 24 (.pick (.tmp 19) (.tmp 23) (.con (.bool false)))])
 (.cond (.tmp 24)
 (.reg [zm 0 25 3,
 zo 1 26 (.bin .mul 3 true (zi 10) (.tmp 25)),
 zm 2 27 0,
 zm 3 28 4,
 zo 4 29 (.idxS 9 (.tmp 27) (.tmp 28)),
 zo 5 30 (.bin .sub 5 true (.tmp 29) (.con (.int .u8 48))),
 zo 6 31 (.conv 5 3 (.tmp 30)),
 zo 7 32 (.bin .add 3 false (.tmp 26) (.tmp 31)),
 zm 8 3 32])
 (.skip))))
 (.reg [zm 0 13 4,
 zo 1 14 (.bin .add 3 true (.tmp 13) (zi 1)),
 zm 2 4 14]))))))
 (.seq (.reg [zm 0 33 3,
 zm 1 2 33])
 (.ret)))),
 [.tmp 2]⟩
theorem p_r19_number : PR Go.Proofs.Tryd.f40 = some v_r19_number:=by kernel_rfl

def v41u : VFun :=
⟨.seq (.reg [zo 0 2 (.mv (zi 0)),
 zo 1 3 (.mv (zi 0))])
 (.seq (.reg [zm 0 7 0,
 zo 1 8 (.call 55 [7]),
 zm 2 6 8,
 zo 3 9 (.ext 6 0),
 zo 4 10 (.ext 6 1),
 zo 5 4 (.alloc [(.int .i64 0),(.int .i64 0),(.string ⟨#[]⟩)]),
 zn 6 (.store 3 4 9),
 zm 7 5 10])
 (.seq (.seq (.reg [zm 0 11 5,
 zo 1 12 (.un .not 11)])
 (.cond 12
 (.seq (.reg [zo 0 2 (.mv (zi 0)),
 zo 1 3 (.mv (zi 4))])
 (.ret))
 (.skip)))
 (.seq (.reg [zf 0 13 1 4,
 zl 1 14 13,
 zm 2 2 14,
 zo 3 3 (.mv (zi 0))])
 (.ret)))),
 [.tmp 2,.tmp 3]⟩
theorem p41u : PR Go.Proofs.Tryd.f41 = some v41u:=by kernel_rfl

def v_machine_in : VFun :=
⟨.seq (.reg [zo 0 6 (.mv (.con (.bool false)))])
 (.seq (.reg [zm 0 7 0,
 zm 1 8 1,
 zo 2 9 (.bin .geq 3 false (.tmp 7) (.tmp 8)),
 zm 3 10 9,
 zg 4 11 (.mv (.tmp 0)) 10 true,
 zg 5 12 (.mv (.tmp 2)) 10 true,
 zg 6 13 (.bin .leq 3 false (.tmp 11) (.tmp 12)) 10 true,
 zo 7 14 (.pick (.tmp 10) (.tmp 13) (.con (.bool false))),
 zm 8 6 14])
 (.ret)),
 [.tmp 6]⟩
theorem p_machine_in : PR Go.Proofs.Tryd.f42 = some v_machine_in:=by kernel_rfl

def v43u : VFun :=
⟨.seq (.reg [zo 0 1 (.box 0),
 zo 1 2 (.mv (.con (.slice none 0 0))),
 zo 2 3 (.mv (zi 0))])
 (.seq (.seq (.reg [zf 0 7 0 1,
 zl 1 8 7,
 zo 2 9 (.call 55 [8]),
 zm 3 6 9,
 zo 4 10 (.ext 6 0),
 zo 5 11 (.ext 6 1),
 zo 6 4 (.alloc [(.int .i64 0),(.int .i64 0),(.string ⟨#[]⟩)]),
 zn 7 (.store 3 4 10),
 zm 8 5 11])
 (.seq (.reg [zm 0 12 5,
 zo 1 13 (.un .not 12)])
 (.cond 13
 (.seq (.reg [zo 0 2 (.mv (.con (.slice none 0 0))),
 zo 1 3 (.mv (zi 4))])
 (.ret))
 (.skip))))
 (.seq (.seq (.reg [zf 0 14 6 1,
 zl 1 15 14,
 zo 2 16 (.bin .neq 3 true 15 (zi (-1)))])
 (.cond 16
 (.seq (.reg [zf 0 17 6 1,
 zl 1 18 17,
 zo 2 19 (.bslice 1 1 [(.int .i64 0)] [(0,1,18)]),
 zo 3 20 (.load (some 7) 1),
 ⟨4,(some 21),.call 56 [20],none,[17]⟩,
 zo 5 22 (.append 1 8 19 21),
 zm 6 2 22,
 zo 7 3 (.mv (zi 0))])
 (.ret))
 (.skip)))
 (.seq (.reg [zo 0 23 (.load (some 7) 1),
 zo 1 24 (.call 56 [23]),
 zm 2 2 24,
 zo 3 3 (.mv (zi 0))])
 (.ret)))),
 [.tmp 2,.tmp 3]⟩
theorem p43u : PR Go.Proofs.Tryd.f43 = some v43u:=by kernel_rfl

def v44u : VFun :=
⟨.seq (.reg [zo 0 4 (.mv (.con (.bool false)))])
 (.seq (.reg [zm 0 5 0,
 zm 1 6 1,
 zo 2 7 (.call 57 [5,6]),
 zo 3 8 (.bin .geq 3 true 7 (zi 0)),
 zm 4 4 8])
 (.ret)),
 [.tmp 4]⟩
theorem p44u : PR Go.Proofs.Tryd.f44 = some v44u:=by kernel_rfl

def v46u : VFun :=
⟨.seq (.reg [zo 0 1 (.box 0),
 zo 1 2 (.alloc [(.int .i64 0),(.int .i64 0),(.int .i64 0),(.int .i64 0),(.int .i64 0),(.int .i64 0),(.int .i64 0),(.int .i64 0),(.int .i64 0),(.int .i64 0),(.int .i64 0),(.int .i64 0),(.int .i64 0),(.int .i64 0),(.int .i64 0),(.int .i64 0),(.int .i64 0),(.int .i64 0),(.int .i64 0),(.int .i64 0),(.int .i64 0),(.int .i64 0),(.int .i64 0)])])
 (.seq (.reg [zo 0 3 (.load (some 11) 1),
 zo 1 4 (.build [(.int .i64 0),(.int .i64 0),(.int .i64 0),(.int .i64 0),(.int .i64 0),(.int .i64 0),(.int .i64 0),(.int .i64 0),(.int .i64 0),(.int .i64 0),(.int .i64 0),(.int .i64 0),(.int .i64 0),(.int .i64 0),(.int .i64 0),(.int .i64 0),(.int .i64 0),(.int .i64 0),(.int .i64 0),(.int .i64 0),(.int .i64 0),(.int .i64 0),(.int .i64 0)] [(0,11,3)]),
 zn 2 (.store 23 2 4)])
 (.ret)),
 [.cell 2 (some 23)]⟩
theorem p46u : PR Go.Proofs.Tryd.f46 = some v46u:=by kernel_rfl

def v47u : VFun :=
⟨.seq (.reg [zo 0 2 (.box 0),
 zo 1 3 (.box 1),
 zo 2 4 (.alloc [(.int .i64 0),(.int .i64 0),(.int .i64 0),(.int .i64 0),(.int .i64 0),(.int .i64 0),(.int .i64 0),(.int .i64 0),(.int .i64 0),(.int .i64 0),(.int .i64 0),(.int .i64 0),(.int .i64 0),(.int .i64 0),(.int .i64 0),(.int .i64 0),(.int .i64 0),(.int .i64 0),(.int .i64 0),(.int .i64 0),(.int .i64 0),(.int .i64 0),(.int .i64 0)])])
 (.seq (.reg [zf 0 10 0 3,
 zl 1 11 10,
 zo 2 12 (.call 21 [11]),
 zm 3 9 12,
 zo 4 13 (.ext 9 0),
 zo 5 14 (.ext 9 1),
 zm 6 5 13,
 zm 7 6 14])
 (.seq (.reg [zm 0 15 5,
 zf 1 16 11 2,
 zo 2 17 (.idxA (some 4) 1 16 15),
 zl 3 18 17,
 zo 4 19 (.bin .add 3 true 18 (zi 1)),
 zf 5 20 11 2,
 zo 6 21 (.idxA (some 4) 1 20 15),
 zn 7 (.store 1 21 19)])
 (.seq (.seq (.reg [zo 0 22 (.load (some 7) 3),
 zo 1 23 (.call 25 [22]),
 zo 2 24 (.len 23),
 zo 3 25 (.mv (zi 0))])
 (.block 0
 (.loop
 (.seq (.reg [zo 0 26 (.bin .lss 3 false 25 24)])
 (.seq (.cond 26
 (.skip)
 (.exit 0))
 (.seq (.block 1
 (.seq (.reg [zo 0 27 (.idxA none 1 23 25),
 zl 1 28 27,
 zm 2 8 28])
 (.reg [zm 0 29 8,
 zf 1 30 0 2,
 zf 2 31 9 30,
 zl 3 32 31,
 zo 4 33 (.bin .rem 3 false 29 32),
 zf 5 34 15 2,
 zo 6 35 (.idxA (some 8) 1 34 33),
 zl 7 36 35,
 zo 8 37 (.bin .add 3 true 36 (zi 1)),
 zf 9 38 15 2,
 zo 10 39 (.idxA (some 8) 1 38 33),
 zn 11 (.store 1 39 37)])))
 (.reg [zo 0 40 (.bin .add 3 true 25 (zi 1)),
 zm 1 25 40])))))))
 (.seq (.reg [zo 0 41 (.load (some 23) 2),
 zn 1 (.store 23 4 41)])
 (.ret))))),
 [.cell 4 (some 23)]⟩
theorem p47u : PR Go.Proofs.Tryd.f47 = some v47u:=by kernel_rfl

def v48u : VFun :=
⟨.seq (.reg [zo 0 2 (.mv (zi 0))])
 (.seq (.seq (.reg [zm 0 5 0,
 zo 1 6 (.len 5),
 zo 2 7 (.bin .lss 3 true 6 (zi 1))])
 (.cond 7
 (.reg [zo 0 8 (.mkif 9 (.con (.string ⟨#[115,108,105,99,101,115,46,77,97,120,58,32,101,109,112,116,121,32,108,105,115,116]⟩))),
 zn 1 (.panic 8)])
 (.skip)))
 (.seq (.reg [zm 0 9 0,
 zo 1 10 (.idxA none 1 9 (zi 0)),
 zl 2 11 10,
 zm 3 3 11])
 (.seq (.seq (.reg [zo 0 4 (.mv (zi 1))])
 (.block 0
 (.loop
 (.seq (.seq (.reg [zm 0 12 4,
 zm 1 13 0,
 zo 2 14 (.len 13),
 zo 3 15 (.bin .lss 3 false 12 14)])
 (.cond 15
 (.skip)
 (.exit 0)))
 (.seq (.block 1
 (.reg [zm 0 18 3,
 zm 1 19 0,
 zm 2 20 4,
 zo 3 21 (.idxA none 1 19 20),
 zl 4 22 21,
 zo 5 23 (.bi .max [3,3] 3 [18,22]),
 zm 6 3 23]))
 (.reg [zm 0 16 4,
 zo 1 17 (.bin .add 3 true 16 (zi 1)),
 zm 2 4 17]))))))
 (.seq (.reg [zm 0 24 3,
 zm 1 2 24])
 (.ret))))),
 [.tmp 2]⟩
theorem p48u : PR Go.Proofs.Tryd.f48 = some v48u:=by kernel_rfl

def v49u : VFun :=
⟨.seq (.reg [zo 0 4 (.mv (zi 0))])
 (.seq (.reg [zm 0 5 0,
 zm 1 6 1,
 zo 2 7 (.bin .add 3 false 5 6),
 zo 3 8 (.bin .sub 3 true 7 (zi 1)),
 zm 4 9 1,
 zo 5 10 (.bin .quo 3 false 8 9),
 zm 6 4 10])
 (.ret)),
 [.tmp 4]⟩
theorem p49u : PR Go.Proofs.Tryd.f49 = some v49u:=by kernel_rfl

def v50u : VFun :=
⟨.seq (.reg [zo 0 4 (.mv (.con (.string ⟨#[]⟩)))])
 (.seq (.seq (.reg [zm 0 11 0,
 zo 1 12 (.len 11)])
 (.block 0
 (.seq (.reg [zo 0 14 (.bin .eql 3 true 12 (zi 0)),
 zm 1 13 14])
 (.cond 13
 (.seq (.reg [zo 0 4 (.mv (.con (.string ⟨#[]⟩)))])
 (.ret))
 (.seq (.reg [zo 0 16 (.bin .eql 3 true 12 (zi 1)),
 zm 1 15 16])
 (.cond 15
 (.seq (.reg [zm 0 17 0,
 zo 1 18 (.idxA none 1 17 (zi 0)),
 zl 2 19 18,
 zm 3 4 19])
 (.ret))
 (.skip)))))))
 (.seq (.reg [zo 0 5 (.mv (zi 0))])
 (.seq (.seq (.reg [zm 0 20 1,
 zo 1 21 (.bi .len [9] 3 [20]),
 zo 2 22 (.bin .gtr 3 true 21 (zi 0))])
 (.cond 22
 (.seq (.seq (.reg [zm 0 23 1,
 zo 1 24 (.bi .len [9] 3 [23]),
 zm 2 25 0,
 zo 3 26 (.len 25),
 zo 4 27 (.bin .sub 3 true 26 (zi 1)),
 zo 5 28 (.bin .quo 3 true (zi 9223372036854775807) 27),
 zo 6 29 (.bin .geq 3 false 24 28)])
 (.cond 29
 (.reg [zo 0 30 (.mkif 9 (.con (.string ⟨#[115,116,114,105,110,103,115,58,32,74,111,105,110,32,111,117,116,112,117,116,32,108,101,110,103,116,104,32,111,118,101,114,102,108,111,119]⟩))),
 zn 1 (.panic 30)])
 (.skip)))
 (.reg [zm 0 31 5,
 zm 1 32 1,
 zo 2 33 (.bi .len [9] 3 [32]),
 zm 3 34 0,
 zo 4 35 (.len 34),
 zo 5 36 (.bin .sub 3 true 35 (zi 1)),
 zo 6 37 (.bin .mul 3 false 33 36),
 zo 7 38 (.bin .add 3 false 31 37),
 zm 8 5 38]))
 (.skip)))
 (.seq (.seq (.reg [zm 0 39 0,
 zo 1 40 (.len 39),
 zo 2 41 (.mv (zi 0))])
 (.block 1
 (.loop
 (.seq (.reg [zo 0 42 (.bin .lss 3 false 41 40)])
 (.seq (.cond 42
 (.skip)
 (.exit 1))
 (.seq (.block 2
 (.seq (.reg [zo 0 43 (.idxA none 1 39 41),
 zl 1 44 43,
 zm 2 7 44])
 (.seq (.seq (.reg [zm 0 45 7,
 zo 1 46 (.bi .len [9] 3 [45]),
 zm 2 47 5,
 zo 3 48 (.bin .sub 3 true (zi 9223372036854775807) 47),
 zo 4 49 (.bin .gtr 3 false 46 48)])
 (.cond 49
 (.reg [zo 0 50 (.mkif 9 (.con (.string ⟨#[115,116,114,105,110,103,115,58,32,74,111,105,110,32,111,117,116,112,117,116,32,108,101,110,103,116,104,32,111,118,101,114,102,108,111,119]⟩))),
 zn 1 (.panic 50)])
 (.skip)))
 (.reg [zm 0 51 5,
 zm 1 52 7,
 zo 2 53 (.bi .len [9] 3 [52]),
 zo 3 54 (.bin .add 3 false 51 53),
 zm 4 5 54]))))
 (.reg [zo 0 55 (.bin .add 3 true 41 (zi 1)),
 zm 1 41 55])))))))
 (.seq (.reg [zo 0 8 (.allocF [(.int .i64 1),(.int .i64 99),(.int .i64 5),(.string ⟨#[]⟩)])])
 (.seq (.reg [zm 0 56 5,
 zo 1 57 (.call 60 [8,56])])
 (.seq (.reg [zm 0 58 0,
 zo 1 59 (.idxA none 1 58 (zi 0)),
 zl 2 60 59,
 zo 3 61 (.call 61 [8,60])])
 (.seq (.seq (.reg [zm 0 62 0,
 zo 1 63 (.slice none 1 62 (some (zi 1)) none none),
 zo 2 64 (.len 63),
 zo 3 65 (.mv (zi 0))])
 (.block 3
 (.loop
 (.seq (.reg [zo 0 66 (.bin .lss 3 false 65 64)])
 (.seq (.cond 66
 (.skip)
 (.exit 3))
 (.seq (.block 4
 (.seq (.reg [zo 0 67 (.idxA none 1 63 65),
 zl 1 68 67,
 zm 2 10 68])
 (.seq (.reg [zm 0 69 1,
 zo 1 70 (.call 61 [8,69])])
 (.reg [zm 0 71 10,
 zo 1 72 (.call 61 [8,71])]))))
 (.reg [zo 0 73 (.bin .add 3 true 65 (zi 1)),
 zm 1 65 73])))))))
 (.seq (.reg [zo 0 74 (.call 62 [8]),
 zm 1 4 74])
 (.ret)))))))))),
 [.tmp 4]⟩
theorem p50u : PR Go.Proofs.Tryd.f50 = some v50u:=by kernel_rfl

def v51u : VFun :=
⟨.seq (.reg [zo 0 2 (.mv (.con (.string ⟨#[]⟩)))])
 (.seq (.reg [zm 0 3 0,
 zo 1 4 (.call 63 [3,(zi 10)]),
 zm 2 2 4])
 (.ret)),
 [.tmp 2]⟩
theorem p51u : PR Go.Proofs.Tryd.f51 = some v51u:=by kernel_rfl

def v_strings_genSplit : VFun :=
⟨.seq (.reg [zo 0 8 (.mv (.con (.slice none 0 0)))])
 (.seq (.seq (.reg [zm 0 12 3,
 zo 1 13 (.bin .eql 3 true (.tmp 12) (zi 0))])
 (.cond (.tmp 13)
 (.seq (.reg [zo 0 8 (.mv (.con (.slice none 0 0)))])
 (.ret))
 (.skip)))
 (.seq (.seq (.reg [zm 0 14 1,
 zo 1 15 (.bin .eql 9 true (.tmp 14) (.con (.string ⟨#[]⟩)))])
 (.cond (.tmp 15)
 (.seq (.reg [zm 0 16 0,
 zm 1 17 3,
 zo 2 18 (.call 64 [(.tmp 16),(.tmp 17)]),
 zm 3 8 18])
 (.ret))
 (.skip)))
 (.seq (.seq (.reg [zm 0 19 3,
 zo 1 20 (.bin .lss 3 true (.tmp 19) (zi 0))])
 (.cond (.tmp 20)
 (.reg [zm 0 21 0,
 zm 1 22 1,
 zo 2 23 (.call 65 [(.tmp 21),(.tmp 22)]),
 zo 3 24 (.bin .add 3 true (.tmp 23) (zi 1)),
 zm 4 3 24])
 (.skip)))
 (.seq (.reg [zm 0 25 3,
 zm 1 26 0,
 zo 2 27 (.bi .len [9] 3 [(.tmp 26)]),
 zo 3 28 (.bin .add 3 true (.tmp 27) (zi 1)),
 zo 4 29 (.bi .min [3,3] 3 [(.tmp 25),(.tmp 28)]),
 zm 5 3 29])
 (.seq (.reg [zm 0 30 3,
 zo 1 31 (.mksl 1 16 [(.string ⟨#[]⟩)] (.tmp 30) (.tmp 30)),
 zm 2 9 31])
 (.seq (.reg [zm 0 32 3,
 zo 1 33 (.bin .sub 3 true (.tmp 32) (zi 1)),
 zm 2 3 33])
 (.seq (.reg [zo 0 10 (.mv (zi 0))])
 (.seq (.block 0
 (.loop
 (.seq (.seq (.reg [zm 0 34 10,
 zm 1 35 3,
 zo 2 36 (.bin .lss 3 false (.tmp 34) (.tmp 35))])
 (.cond (.tmp 36)
 (.skip)
 (.exit 0)))
 (.block 1
 (.seq (.reg [zm 0 37 0,
 zm 1 38 1,
 zo 2 39 (.call 66 [(.tmp 37),(.tmp 38)]),
 zm 3 11 39])
 (.seq (.seq (.reg [zm 0 40 11,
 zo 1 41 (.bin .lss 3 true (.tmp 40) (zi 0))])
 (.cond (.tmp 41)
 (.exit 0)
 (.skip)))
 (.seq (.reg [zm 0 42 9,
 zm 1 43 10,
 zm 2 44 0,
 zm 3 45 11,
 zm 4 46 2,
 zo 5 47 (.bin .add 3 false (.tmp 45) (.tmp 46)),
 zo 6 48 (.slS 9 (.tmp 44) none (some (.tmp 47))),
 zo 7 49 (.idxA none 1 (.tmp 42) (.tmp 43)),
 zn 8 (.store 1 (.tmp 49) (.tmp 48))])
 (.seq (.reg [zm 0 50 0,
 zm 1 51 11,
 zm 2 52 1,
 zo 3 53 (.bi .len [9] 3 [(.tmp 52)]),
 zo 4 54 (.bin .add 3 false (.tmp 51) (.tmp 53)),
 zo 5 55 (.slS 9 (.tmp 50) (some (.tmp 54)) none),
 zm 6 0 55])
 (.reg [zm 0 56 10,
 zo 1 57 (.bin .add 3 true (.tmp 56) (zi 1)),
 zm 2 10 57])))))))))
 (.seq (.reg [zm 0 58 9,
 zm 1 59 10,
 zm 2 60 0,
 zo 3 61 (.idxA none 1 (.tmp 58) (.tmp 59)),
 zn 4 (.store 1 (.tmp 61) (.tmp 60))])
 (.seq (.reg [zm 0 62 9,
 zm 1 63 10,
 zo 2 64 (.bin .add 3 true (.tmp 63) (zi 1)),
 zo 3 65 (.slice none 1 (.tmp 62) none (some (.tmp 64)) none),
 zm 4 8 65])
 (.ret))))))))))),
 [.tmp 8]⟩
theorem p_strings_genSplit : PR Go.Proofs.Tryd.f52 = some v_strings_genSplit:=by kernel_rfl

def v53u : VFun :=
⟨.seq (.reg [zo 0 2 (.mv (zi 0)),
 zo 1 3 (.mv (.con .nilIface))])
 (.seq (.reg [zm 0 11 0,
 zo 1 12 (.bi .len [9] 3 [11]),
 zm 2 4 12])
 (.seq (.seq (.reg [zo 0 13 (.mv (.con (.bool false))),
 zg 1 14 (.mv 4) 13 true,
 zg 2 15 (.bin .lss 3 true (zi 0) 14) 13 true,
 zg 3 16 (.mv 15) 13 true,
 zg 4 17 (.mv 4) 16 true,
 zg 5 18 (.bin .lss 3 true 17 (zi 10)) 16 true,
 zg 6 19 (.pick 16 18 (.con (.bool false))) 13 true,
 zo 7 20 (.pick 13 19 (.con (.bool false))),
 zm 8 21 20,
 zg 9 22 (.mv (.con (.bool true))) 21 false,
 zg 10 23 (.mv 4) 22 true,
 zg 11 24 (.bin .lss 3 true (zi 0) 23) 22 true,
 zg 12 25 (.mv 24) 22 true,
 zg 13 26 (.mv 4) 25 true,
 zg 14 27 (.bin .lss 3 true 26 (zi 19)) 25 true,
 zg 15 28 (.pick 25 27 (.con (.bool false))) 22 true,
 zg 16 29 (.pick 22 28 (.con (.bool false))) 21 false,
 zo 17 30 (.pick 21 (.con (.bool true)) 29)])
 (.cond 30
 (.seq (.reg [zm 0 31 0,
 zm 1 5 31])
 (.seq (.seq (.reg [zm 0 32 0,
 zo 1 33 (.idxS 9 32 (zi 0)),
 zo 2 34 (.bin .eql 5 true 33 (.con (.int .u8 45))),
 zm 3 35 34,
 zg 4 36 (.mv 0) 35 false,
 zg 5 37 (.idxS 9 36 (zi 0)) 35 false,
 zg 6 38 (.bin .eql 5 true 37 (.con (.int .u8 43))) 35 false,
 zo 7 39 (.pick 35 (.con (.bool true)) 38)])
 (.cond 39
 (.seq (.reg [zm 0 40 0,
 zo 1 41 (.slS 9 40 (some (zi 1)) none),
 zm 2 0 41])
 (.seq (.reg [zm 0 42 0,
 zo 1 43 (.bi .len [9] 3 [42]),
 zo 2 44 (.bin .lss 3 true 43 (zi 1))])
 (.cond 44
 (.seq (.reg [zo 0 45 (.mkif 105 (zi 2)),
 zo 1 2 (.mv (zi 0)),
 zm 2 3 45])
 (.ret))
 (.skip))))
 (.skip)))
 (.seq (.reg [zo 0 6 (.mv (zi 0))])
 (.seq (.seq (.reg [zm 0 46 0,
 zo 1 47 (.s2b 46),
 zo 2 48 (.len 47),
 zo 3 49 (.mv (zi 0))])
 (.block 0
 (.loop
 (.seq (.reg [zo 0 50 (.bin .lss 3 false 49 48)])
 (.seq (.cond 50
 (.skip)
 (.exit 0))
 (.seq (.block 1
 (.seq (.reg [zo 0 51 (.idxA none 1 47 49),
 zl 1 52 51,
 zm 2 8 52])
 (.seq (.reg [zm 0 53 8,
 zo 1 54 (.bin .sub 5 true 53 (.con (.int .u8 48))),
 zm 2 8 54])
 (.seq (.seq (.reg [zm 0 55 8,
 zo 1 56 (.bin .gtr 5 true 55 (.con (.int .u8 9)))])
 (.cond 56
 (.seq (.reg [zo 0 57 (.mkif 105 (zi 2)),
 zo 1 2 (.mv (zi 0)),
 zm 2 3 57])
 (.ret))
 (.skip)))
 (.reg [zm 0 58 6,
 zo 1 59 (.bin .mul 3 true 58 (zi 10)),
 zm 2 60 8,
 zo 3 61 (.conv 5 3 60),
 zo 4 62 (.bin .add 3 false 59 61),
 zm 5 6 62])))))
 (.reg [zo 0 63 (.bin .add 3 true 49 (zi 1)),
 zm 1 49 63])))))))
 (.seq (.seq (.reg [zm 0 64 5,
 zo 1 65 (.idxS 9 64 (zi 0)),
 zo 2 66 (.bin .eql 5 true 65 (.con (.int .u8 45)))])
 (.cond 66
 (.reg [zm 0 67 6,
 zo 1 68 (.un .neg 67),
 zm 2 6 68])
 (.skip)))
 (.seq (.reg [zm 0 69 6,
 zm 1 2 69,
 zo 2 3 (.mv (.con .nilIface))])
 (.ret)))))))
 (.skip)))
 (.seq (.reg [zm 0 71 0,
 zo 1 72 (.call 67 [71,(zi 10),(zi 0)]),
 zm 2 70 72,
 zo 3 73 (.ext 70 0),
 zo 4 74 (.ext 70 1),
 zm 5 9 73,
 zm 6 10 74])
 (.seq (.reg [zm 0 75 9,
 zm 1 76 10,
 zm 2 2 75,
 zm 3 3 76])
 (.ret))))),
 [.tmp 2,.tmp 3]⟩
theorem p53u : PR Go.Proofs.Tryd.f53 = some v53u:=by kernel_rfl

def v54u : VFun :=
⟨.seq (.reg [zo 0 10 (.mv (.con .nilIface))])
 (.seq (.seq (.reg [zm 0 11 4])
 (.block 0
 (.seq (.reg [zo 0 13 (.mkif 105 (zi 2)),
 zo 1 14 (.bin .eql 71 false 11 13),
 zm 2 12 14])
 (.cond 12
 (.seq (.reg [zm 0 15 0,
 zm 1 16 1,
 zo 2 17 (.call 68 [15,16]),
 zo 3 18 (.mkif 108 17),
 zm 4 10 18])
 (.ret))
 (.seq (.reg [zo 0 20 (.mkif 105 (zi 1)),
 zo 1 21 (.bin .eql 71 false 11 20),
 zm 2 19 21])
 (.cond 19
 (.seq (.reg [zm 0 22 0,
 zm 1 23 1,
 zo 2 24 (.call 69 [22,23]),
 zo 3 25 (.mkif 108 24),
 zm 4 10 25])
 (.ret))
 (.seq (.reg [zo 0 27 (.mkif 105 (zi 3)),
 zo 1 28 (.bin .eql 71 false 11 27),
 zm 2 26 28])
 (.cond 26
 (.seq (.reg [zm 0 29 0,
 zm 1 30 1,
 zm 2 31 2,
 zo 3 32 (.call 70 [29,30,31]),
 zo 4 33 (.mkif 108 32),
 zm 5 10 33])
 (.ret))
 (.seq (.reg [zo 0 35 (.mkif 105 (zi 4)),
 zo 1 36 (.bin .eql 71 false 11 35),
 zm 2 34 36])
 (.cond 34
 (.seq (.reg [zm 0 37 0,
 zm 1 38 1,
 zm 2 39 3,
 zo 3 40 (.call 71 [37,38,39]),
 zo 4 41 (.mkif 108 40),
 zm 5 10 41])
 (.ret))
 (.skip)))))))))))
 (.seq (.reg [zm 0 42 4,
 zm 1 10 42])
 (.ret))),
 [.tmp 10]⟩
theorem p54u : PR Go.Proofs.Tryd.f54 = some v54u:=by kernel_rfl

def v55u : VFun :=
⟨.seq (.reg [zo 0 2 (.alloc [(.int .i64 0),(.int .i64 0),(.string ⟨#[]⟩)]),
 zo 1 3 (.mv (.con (.bool false)))])
 (.seq (.seq (.reg [zm 0 4 0,
 zo 1 5 (.bin .lss 3 true 4 (zi 1)),
 zm 2 6 5,
 zg 3 7 (.mv 0) 6 false,
 zg 4 8 (.bin .gtr 3 true 7 (zi 25)) 6 false,
 zo 5 9 (.pick 6 (.con (.bool true)) 8)])
 (.cond 9
 (.seq (.reg [zo 0 10 (.build [(.int .i64 0),(.int .i64 0),(.string ⟨#[]⟩)] []),
 zn 1 (.store 3 2 10),
 zo 2 3 (.mv (.con (.bool false)))])
 (.ret))
 (.skip)))
 (.seq (.reg [zm 0 11 0,
 zo 1 12 (.bin .sub 3 true 11 (zi 1)),
 zo 2 13 (.idxA (some 25) 3 (.glo 0) 12),
 zo 3 14 (.load (some 3) 13),
 zn 4 (.store 3 2 14),
 zo 5 3 (.mv (.con (.bool true)))])
 (.ret))),
 [.cell 2 (some 3),.tmp 3]⟩
theorem p55u : PR Go.Proofs.Tryd.f55 = some v55u:=by kernel_rfl

def v56u : VFun :=
⟨.seq (.reg [zo 0 1 (.box 0),
 zo 1 2 (.mv (.con (.slice none 0 0)))])
 (.seq (.reg [zf 0 9 0 1,
 zl 1 10 9,
 zo 2 11 (.call 55 [10]),
 zm 3 8 11,
 zo 4 12 (.ext 8 0),
 zo 5 13 (.ext 8 1),
 zo 6 3 (.alloc [(.int .i64 0),(.int .i64 0),(.string ⟨#[]⟩)]),
 zn 7 (.store 3 3 12),
 zm 8 4 13])
 (.seq (.reg [zo 0 5 (.mv (.con (.slice none 0 0)))])
 (.seq (.seq (.reg [zf 0 14 2 1,
 zl 1 15 14,
 zf 2 16 3 1,
 zl 3 17 16,
 zf 4 18 4 1,
 zl 5 19 18,
 zo 6 20 (.build [(.int .i64 0),(.int .i64 0),(.int .i64 0)] [(0,1,15),(1,1,17),(2,1,19)]),
 zo 7 21 (.mv (zi 0))])
 (.block 0
 (.loop
 (.seq (.reg [zo 0 22 (.bin .lss 3 true 21 (zi 3))])
 (.seq (.cond 22
 (.skip)
 (.exit 0))
 (.seq (.block 1
 (.seq (.reg [zm 0 23 21,
 zo 1 24 (.idx 3 none 1 20 21),
 zm 2 6 23,
 zm 3 7 24])
 (.seq (.reg [zf 0 25 0 3,
 zl 1 26 25,
 zm 2 27 6,
 zo 3 28 (.bin .shl 3 true (zi 2) 27),
 zo 4 29 (.bin .and 3 false 26 28),
 zo 5 30 (.bin .neq 3 true 29 (zi 0))])
 (.cond 30
 (.reg [zm 0 31 5,
 zm 1 32 7,
 zo 2 33 (.bslice 1 1 [(.int .i64 0)] [(0,1,32)]),
 zo 3 34 (.append 1 8 31 33),
 zm 4 5 34])
 (.skip)))))
 (.reg [zo 0 35 (.bin .add 3 true 21 (zi 1)),
 zm 1 21 35])))))))
 (.seq (.reg [zm 0 36 5,
 zm 1 2 36])
 (.ret))))),
 [.tmp 2]⟩
theorem p56u : PR Go.Proofs.Tryd.f56 = some v56u:=by kernel_rfl

def v57u : VFun :=
⟨.seq (.reg [zo 0 4 (.mv (zi 0))])
 (.seq (.seq (.reg [zm 0 6 0,
 zo 1 7 (.len 6),
 zo 2 8 (.mv (zi 0))])
 (.block 0
 (.loop
 (.seq (.reg [zo 0 9 (.bin .lss 3 false 8 7)])
 (.seq (.cond 9
 (.skip)
 (.exit 0))
 (.seq (.block 1
 (.seq (.reg [zm 0 10 8,
 zm 1 5 10])
 (.seq (.reg [zm 0 11 1,
 zm 1 12 0,
 zm 2 13 5,
 zo 3 14 (.idxA none 1 12 13),
 zl 4 15 14,
 zo 5 16 (.bin .eql 3 false 11 15)])
 (.cond 16
 (.seq (.reg [zm 0 17 5,
 zm 1 4 17])
 (.ret))
 (.skip)))))
 (.reg [zo 0 18 (.bin .add 3 true 8 (zi 1)),
 zm 1 8 18])))))))
 (.seq (.reg [zo 0 4 (.mv (zi (-1)))])
 (.ret))),
 [.tmp 4]⟩
theorem p57u : PR Go.Proofs.Tryd.f57 = some v57u:=by kernel_rfl

def v61u : VFun :=
⟨.seq (.reg [zo 0 4 (.mv (zi 0)),
 zo 1 5 (.mv (.con .nilIface))])
 (.seq (.reg [zm 0 6 0,
 zo 1 7 (.call 73 [6])])
 (.seq (.reg [zm 0 8 0,
 zm 1 9 0,
 zo 2 10 (.nilck 9),
 zf 3 11 1 10,
 zl 4 12 11,
 zm 5 13 1,
 zo 6 14 (.append 1 1 12 13),
 zo 7 15 (.nilck 8),
 zf 8 16 1 15,
 zn 9 (.store 1 16 14)])
 (.seq (.reg [zm 0 17 1,
 zo 1 18 (.bi .len [9] 3 [17]),
 zm 2 4 18,
 zo 3 5 (.mv (.con .nilIface))])
 (.ret)))),
 [.tmp 4,.tmp 5]⟩
theorem p61u : PR Go.Proofs.Tryd.f61 = some v61u:=by kernel_rfl

def v63u : VFun :=
⟨.seq (.reg [zo 0 4 (.mv (.con (.string ⟨#[]⟩)))])
 (.seq (.seq (.reg [zm 0 10 1,
 zo 1 11 (.bin .eql 3 true 10 (zi 10))])
 (.cond 11
 (.seq (.seq (.reg [zm 0 12 0,
 zo 1 13 (.bin .leq 2 true (zi 0) 12),
 zm 2 14 13,
 zg 3 15 (.mv 0) 14 true,
 zg 4 16 (.bin .lss 2 true 15 (zi 100)) 14 true,
 zo 5 17 (.pick 14 16 (.con (.bool false)))])
 (.cond 17
 (.seq (.reg [zm 0 18 0,
 zo 1 19 (.call 75 [18]),
 zm 2 4 19])
 (.ret))
 (.skip)))
 (.seq (.reg [zo 0 5 (.alloc [(.int .u8 0),(.int .u8 0),(.int .u8 0),(.int .u8 0),(.int .u8 0),(.int .u8 0),(.int .u8 0),(.int .u8 0),(.int .u8 0),(.int .u8 0),(.int .u8 0),(.int .u8 0),(.int .u8 0),(.int .u8 0),(.int .u8 0),(.int .u8 0),(.int .u8 0),(.int .u8 0),(.int .u8 0),(.int .u8 0),(.int .u8 0),(.int .u8 0),(.int .u8 0),(.int .u8 0)])])
 (.seq (.reg [zm 0 20 0,
 zo 1 21 (.conv 2 115 20),
 zm 2 6 21])
 (.seq (.seq (.reg [zm 0 22 0,
 zo 1 23 (.bin .lss 2 true 22 (zi 0))])
 (.cond 23
 (.reg [zm 0 24 6,
 zo 1 25 (.un .neg 24),
 zm 2 6 25])
 (.skip)))
 (.seq (.reg [zm 0 26 6,
 zo 1 27 (.call 76 [26]),
 zm 2 7 27])
 (.seq (.reg [zm 0 28 7,
 zo 1 29 (.bin .add 3 true (zi 1) 28),
 zo 2 30 (.slice (some 24) 1 5 (some (zi 1)) (some 29) none),
 zm 3 31 6,
 zo 4 32 (.call 77 [30,31])])
 (.seq (.seq (.reg [zm 0 33 0,
 zo 1 34 (.bin .lss 2 true 33 (zi 0))])
 (.cond 34
 (.seq (.reg [zo 0 35 (.idxA (some 24) 1 5 (zi 0)),
 zn 1 (.store 1 35 (.con (.int .u8 45)))])
 (.seq (.reg [zm 0 36 7,
 zo 1 37 (.bin .add 3 true (zi 1) 36),
 zo 2 38 (.slice (some 24) 1 5 none (some 37) none),
 zo 3 39 (.b2s 38),
 zm 4 4 39])
 (.ret)))
 (.skip)))
 (.seq (.reg [zm 0 40 7,
 zo 1 41 (.bin .add 3 true (zi 1) 40),
 zo 2 42 (.slice (some 24) 1 5 (some (zi 1)) (some 41) none),
 zo 3 43 (.b2s 42),
 zm 4 4 43])
 (.ret)))))))))
 (.skip)))
 (.seq (.reg [zm 0 45 0,
 zo 1 46 (.conv 2 115 45),
 zm 2 47 1,
 zm 3 48 0,
 zo 4 49 (.bin .lss 2 true 48 (zi 0)),
 zo 5 50 (.call 78 [(.con (.slice none 0 0)),46,47,49,(.con (.bool false))]),
 zm 6 44 50,
 zo 7 51 (.ext 44 0),
 zo 8 52 (.ext 44 1),
 zm 9 8 51,
 zm 10 9 52])
 (.seq (.reg [zm 0 53 9,
 zm 1 4 53])
 (.ret)))),
 [.tmp 4]⟩
theorem p63u : PR Go.Proofs.Tryd.f63 = some v63u:=by kernel_rfl

def v64u : VFun :=
⟨.seq (.reg [zo 0 4 (.mv (.con (.slice none 0 0)))])
 (.seq (.reg [zm 0 10 0,
 zo 1 11 (.call 79 [10]),
 zm 2 5 11])
 (.seq (.seq (.reg [zm 0 12 1,
 zo 1 13 (.bin .lss 3 true 12 (zi 0)),
 zm 2 14 13,
 zg 3 15 (.mv 1) 14 false,
 zg 4 16 (.mv 5) 14 false,
 zg 5 17 (.bin .gtr 3 false 15 16) 14 false,
 zo 6 18 (.pick 14 (.con (.bool true)) 17)])
 (.cond 18
 (.reg [zm 0 19 5,
 zm 1 1 19])
 (.skip)))
 (.seq (.reg [zm 0 20 1,
 zo 1 21 (.mksl 1 16 [(.string ⟨#[]⟩)] 20 20),
 zm 2 6 21])
 (.seq (.seq (.reg [zo 0 7 (.mv (zi 0))])
 (.block 0
 (.loop
 (.seq (.seq (.reg [zm 0 22 7,
 zm 1 23 1,
 zo 2 24 (.bin .sub 3 true 23 (zi 1)),
 zo 3 25 (.bin .lss 3 false 22 24)])
 (.cond 25
 (.skip)
 (.exit 0)))
 (.seq (.block 1
 (.seq (.reg [zm 0 29 0,
 zo 1 30 (.call 80 [29]),
 zm 2 28 30,
 zo 3 31 (.ext 28 0),
 zo 4 32 (.ext 28 1),
 zm 5 8 31,
 zm 6 9 32])
 (.seq (.reg [zm 0 33 6,
 zm 1 34 7,
 zm 2 35 0,
 zm 3 36 9,
 zo 4 37 (.slS 9 35 none (some 36)),
 zo 5 38 (.idxA none 1 33 34),
 zn 6 (.store 1 38 37)])
 (.reg [zm 0 39 0,
 zm 1 40 9,
 zo 2 41 (.slS 9 39 (some 40) none),
 zm 3 0 41]))))
 (.reg [zm 0 26 7,
 zo 1 27 (.bin .add 3 true 26 (zi 1)),
 zm 2 7 27]))))))
 (.seq (.seq (.reg [zm 0 42 1,
 zo 1 43 (.bin .gtr 3 true 42 (zi 0))])
 (.cond 43
 (.reg [zm 0 44 6,
 zm 1 45 1,
 zo 2 46 (.bin .sub 3 true 45 (zi 1)),
 zm 3 47 0,
 zo 4 48 (.idxA none 1 44 46),
 zn 5 (.store 1 48 47)])
 (.skip)))
 (.seq (.reg [zm 0 49 6,
 zm 1 4 49])
 (.ret))))))),
 [.tmp 4]⟩
theorem p64u : PR Go.Proofs.Tryd.f64 = some v64u:=by kernel_rfl

end Go.VX.Seat
end
section
set_option maxRecDepth 20000
namespace Go.VX.Seat
def v_strings_Count : VFun :=
⟨.seq (.reg [zo 0 4 (.mv (zi 0))])
 (.seq (.seq (.reg [zm 0 7 1,
 zo 1 8 (.bi .len [9] 3 [(.tmp 7)]),
 zo 2 9 (.bin .eql 3 true (.tmp 8) (zi 0))])
 (.cond (.tmp 9)
 (.seq (.reg [zm 0 10 0,
 zo 1 11 (.call 79 [(.tmp 10)]),
 zo 2 12 (.bin .add 3 true (.tmp 11) (zi 1)),
 zm 3 4 12])
 (.ret))
 (.skip)))
 (.seq (.seq (.reg [zm 0 13 1,
 zo 1 14 (.bi .len [9] 3 [(.tmp 13)]),
 zo 2 15 (.bin .eql 3 true (.tmp 14) (zi 1))])
 (.cond (.tmp 15)
 (.seq (.reg [zm 0 16 0,
 zm 1 17 1,
 zo 2 18 (.idxS 9 (.tmp 17) (zi 0)),
 zo 3 19 (.call 81 [(.tmp 16),(.tmp 18)]),
 zm 4 4 19])
 (.ret))
 (.skip)))
 (.seq (.reg [zo 0 5 (.mv (zi 0))])
 (.block 0
 (.loop
 (.block 1
 (.seq (.reg [zm 0 20 0,
 zm 1 21 1,
 zo 2 22 (.call 66 [(.tmp 20),(.tmp 21)]),
 zm 3 6 22])
 (.seq (.seq (.reg [zm 0 23 6,
 zo 1 24 (.bin .eql 3 true (.tmp 23) (zi (-1)))])
 (.cond (.tmp 24)
 (.seq (.reg [zm 0 25 5,
 zm 1 4 25])
 (.ret))
 (.skip)))
 (.seq (.reg [zm 0 26 5,
 zo 1 27 (.bin .add 3 true (.tmp 26) (zi 1)),
 zm 2 5 27])
 (.reg [zm 0 28 0,
 zm 1 29 6,
 zm 2 30 1,
 zo 3 31 (.bi .len [9] 3 [(.tmp 30)]),
 zo 4 32 (.bin .add 3 false (.tmp 29) (.tmp 31)),
 zo 5 33 (.slS 9 (.tmp 28) (some (.tmp 32)) none),
 zm 6 0 33])))))))))),
 [.tmp 4]⟩
theorem p_strings_Count : PR Go.Proofs.Tryd.f65 = some v_strings_Count:=by kernel_rfl

def v_strings_Index : VFun :=
⟨.seq (.reg [zo 0 4 (.mv (zi 0))])
 (.seq (.reg [zm 0 5 0,
 zm 1 6 1,
 zo 2 7 (.call 82 [(.tmp 5),(.tmp 6)]),
 zm 3 4 7])
 (.ret)),
 [.tmp 4]⟩
theorem p_strings_Index : PR Go.Proofs.Tryd.f66 = some v_strings_Index:=by kernel_rfl

def v67u : VFun :=
⟨.seq (.reg [zo 0 6 (.mv (zi 0)),
 zo 1 7 (.mv (.con .nilIface))])
 (.seq (.seq (.reg [zm 0 12 0,
 zo 1 13 (.bin .eql 9 true 12 (.con (.string ⟨#[]⟩)))])
 (.cond 13
 (.seq (.reg [zo 0 14 (.mkif 105 (zi 2)),
 zo 1 6 (.mv (zi 0)),
 zm 2 7 14])
 (.ret))
 (.skip)))
 (.seq (.reg [zo 0 8 (.mv (.con (.bool false)))])
 (.seq (.seq (.reg [zm 0 15 0,
 zo 1 16 (.idxS 9 15 (zi 0))])
 (.block 0
 (.seq (.reg [zo 0 18 (.bin .eql 5 true 16 (.con (.int .u8 43))),
 zm 1 17 18])
 (.cond 17
 (.reg [zm 0 19 0,
 zo 1 20 (.slS 9 19 (some (zi 1)) none),
 zm 2 0 20])
 (.seq (.reg [zo 0 22 (.bin .eql 5 true 16 (.con (.int .u8 45))),
 zm 1 21 22])
 (.cond 21
 (.seq (.reg [zm 0 23 0,
 zo 1 24 (.slS 9 23 (some (zi 1)) none),
 zm 2 0 24])
 (.reg [zo 0 8 (.mv (.con (.bool true)))]))
 (.skip)))))))
 (.seq (.reg [zo 0 9 (.mv (.con (.int .u64 0)))])
 (.seq (.reg [zm 0 26 0,
 zm 1 27 1,
 zm 2 28 2,
 zo 3 29 (.call 83 [26,27,28]),
 zm 4 25 29,
 zo 5 30 (.ext 25 0),
 zo 6 31 (.ext 25 1),
 zm 7 9 30,
 zm 8 7 31])
 (.seq (.seq (.reg [zm 0 32 7,
 zo 1 33 (.bin .neq 71 true 32 (.con .nilIface)),
 zm 2 34 33,
 zg 3 35 (.mv 7) 34 true,
 zg 4 36 (.mkif 105 (zi 1)) 34 true,
 zg 5 37 (.bin .neq 71 false 35 36) 34 true,
 zo 6 38 (.pick 34 37 (.con (.bool false)))])
 (.cond 38
 (.seq (.reg [zm 0 39 7,
 zo 1 6 (.mv (zi 0)),
 zm 2 7 39])
 (.ret))
 (.skip)))
 (.seq (.seq (.reg [zm 0 40 2,
 zo 1 41 (.bin .eql 3 true 40 (zi 0))])
 (.cond 41
 (.reg [zo 0 2 (.mv (zi 64))])
 (.skip)))
 (.seq (.reg [zm 0 42 2,
 zo 1 43 (.bin .sub 3 true 42 (zi 1)),
 zo 2 44 (.conv 3 125 43),
 zo 3 45 (.bin .shl 115 true (.con (.int .u64 1)) 44),
 zm 4 10 45])
 (.seq (.seq (.reg [zm 0 46 8,
 zo 1 47 (.un .not 46),
 zm 2 48 47,
 zg 3 49 (.mv 9) 48 true,
 zg 4 50 (.mv 10) 48 true,
 zg 5 51 (.bin .geq 115 false 49 50) 48 true,
 zo 6 52 (.pick 48 51 (.con (.bool false)))])
 (.cond 52
 (.seq (.reg [zm 0 53 10,
 zo 1 54 (.bin .sub 115 true 53 (.con (.int .u64 1))),
 zo 2 55 (.conv 115 2 54),
 zo 3 56 (.mkif 105 (zi 1)),
 zm 4 6 55,
 zm 5 7 56])
 (.ret))
 (.skip)))
 (.seq (.seq (.reg [zm 0 57 8,
 zm 1 58 57,
 zg 2 59 (.mv 9) 58 true,
 zg 3 60 (.mv 10) 58 true,
 zg 4 61 (.bin .gtr 115 false 59 60) 58 true,
 zo 5 62 (.pick 58 61 (.con (.bool false)))])
 (.cond 62
 (.seq (.reg [zm 0 63 10,
 zo 1 64 (.conv 115 2 63),
 zo 2 65 (.un .neg 64),
 zo 3 66 (.mkif 105 (zi 1)),
 zm 4 6 65,
 zm 5 7 66])
 (.ret))
 (.skip)))
 (.seq (.reg [zm 0 67 9,
 zo 1 68 (.conv 115 2 67),
 zm 2 11 68])
 (.seq (.seq (.reg [zm 0 69 8])
 (.cond 69
 (.reg [zm 0 70 11,
 zo 1 71 (.un .neg 70),
 zm 2 11 71])
 (.skip)))
 (.seq (.reg [zm 0 72 11,
 zm 1 6 72,
 zo 2 7 (.mv (.con .nilIface))])
 (.ret)))))))))))))),
 [.tmp 6,.tmp 7]⟩
theorem p67u : PR Go.Proofs.Tryd.f67 = some v67u:=by kernel_rfl

def v68u : VFun :=
⟨.seq (.reg [zo 0 4 (.mv (.con (.pointer none)))])
 (.seq (.reg [zm 0 5 0,
 zm 1 6 1,
 zo 3 8 (.load none (.glo 3)),
 ⟨2,(some 7),.call 84 [6],none,[(.glo 3)]⟩,
 zo 4 9 (.build [(.string ⟨#[]⟩),(.string ⟨#[]⟩),.nilIface] [(0,1,5),(1,1,7),(2,1,8)]),
 zo 5 10 (.box 9),
 zm 6 4 10])
 (.ret)),
 [.tmp 4]⟩
theorem p68u : PR Go.Proofs.Tryd.f68 = some v68u:=by kernel_rfl

def v69u : VFun :=
⟨.seq (.reg [zo 0 4 (.mv (.con (.pointer none)))])
 (.seq (.reg [zm 0 5 0,
 zm 1 6 1,
 zo 3 8 (.load none (.glo 4)),
 ⟨2,(some 7),.call 84 [6],none,[(.glo 4)]⟩,
 zo 4 9 (.build [(.string ⟨#[]⟩),(.string ⟨#[]⟩),.nilIface] [(0,1,5),(1,1,7),(2,1,8)]),
 zo 5 10 (.box 9),
 zm 6 4 10])
 (.ret)),
 [.tmp 4]⟩
theorem p69u : PR Go.Proofs.Tryd.f69 = some v69u:=by kernel_rfl

def v70u : VFun :=
⟨.seq (.reg [zo 0 6 (.mv (.con (.pointer none)))])
 (.seq (.reg [zm 0 7 0,
 zm 1 8 1,
 zo 2 9 (.call 84 [8]),
 zm 3 10 2,
 zo 4 11 (.call 35 [10]),
 zo 5 12 (.bin .add 9 true (.con (.string ⟨#[105,110,118,97,108,105,100,32,98,97,115,101,32]⟩)) 11),
 zo 6 13 (.call 85 [12]),
 zo 7 14 (.build [(.string ⟨#[]⟩),(.string ⟨#[]⟩),.nilIface] [(0,1,7),(1,1,9),(2,1,13)]),
 zo 8 15 (.box 14),
 zm 9 6 15])
 (.ret)),
 [.tmp 6]⟩
theorem p70u : PR Go.Proofs.Tryd.f70 = some v70u:=by kernel_rfl

def v71u : VFun :=
⟨.seq (.reg [zo 0 6 (.mv (.con (.pointer none)))])
 (.seq (.reg [zm 0 7 0,
 zm 1 8 1,
 zo 2 9 (.call 84 [8]),
 zm 3 10 2,
 zo 4 11 (.call 35 [10]),
 zo 5 12 (.bin .add 9 true (.con (.string ⟨#[105,110,118,97,108,105,100,32,98,105,116,32,115,105,122,101,32]⟩)) 11),
 zo 6 13 (.call 85 [12]),
 zo 7 14 (.build [(.string ⟨#[]⟩),(.string ⟨#[]⟩),.nilIface] [(0,1,7),(1,1,9),(2,1,13)]),
 zo 8 15 (.box 14),
 zm 9 6 15])
 (.ret)),
 [.tmp 6]⟩
theorem p71u : PR Go.Proofs.Tryd.f71 = some v71u:=by kernel_rfl

def v75u : VFun :=
⟨.seq (.reg [zo 0 2 (.mv (.con (.string ⟨#[]⟩)))])
 (.seq (.seq (.reg [zm 0 3 0,
 zo 1 4 (.bin .lss 3 true 3 (zi 10))])
 (.cond 4
 (.seq (.reg [zm 0 5 0,
 zm 1 6 0,
 zo 2 7 (.bin .add 3 true 6 (zi 1)),
 zo 3 8 (.slS 9 (.con (.string ⟨#[48,49,50,51,52,53,54,55,56,57,97,98,99,100,101,102,103,104,105,106,107,108,109,110,111,112,113,114,115,116,117,118,119,120,121,122]⟩)) (some 5) (some 7)),
 zm 4 2 8])
 (.ret))
 (.skip)))
 (.seq (.reg [zm 0 9 0,
 zo 1 10 (.bin .mul 3 true 9 (zi 2)),
 zm 2 11 0,
 zo 3 12 (.bin .mul 3 true 11 (zi 2)),
 zo 4 13 (.bin .add 3 true 12 (zi 2)),
 zo 5 14 (.slS 9 (.con (.string ⟨#[48,48,48,49,48,50,48,51,48,52,48,53,48,54,48,55,48,56,48,57,49,48,49,49,49,50,49,51,49,52,49,53,49,54,49,55,49,56,49,57,50,48,50,49,50,50,50,51,50,52,50,53,50,54,50,55,50,56,50,57,51,48,51,49,51,50,51,51,51,52,51,53,51,54,51,55,51,56,51,57,52,48,52,49,52,50,52,51,52,52,52,53,52,54,52,55,52,56,52,57,53,48,53,49,53,50,53,51,53,52,53,53,53,54,53,55,53,56,53,57,54,48,54,49,54,50,54,51,54,52,54,53,54,54,54,55,54,56,54,57,55,48,55,49,55,50,55,51,55,52,55,53,55,54,55,55,55,56,55,57,56,48,56,49,56,50,56,51,56,52,56,53,56,54,56,55,56,56,56,57,57,48,57,49,57,50,57,51,57,52,57,53,57,54,57,55,57,56,57,57]⟩)) (some 10) (some 13)),
 zm 6 2 14])
 (.ret))),
 [.tmp 2]⟩
theorem p75u : PR Go.Proofs.Tryd.f75 = some v75u:=by kernel_rfl

def v76u : VFun :=
⟨.seq (.reg [zo 0 2 (.mv (zi 0))])
 (.seq (.reg [zm 0 4 0,
 zo 1 5 (.call 89 [4]),
 zo 2 6 (.call 88 [5]),
 zm 3 3 6])
 (.seq (.reg [zm 0 7 3,
 zm 1 8 0,
 zm 2 9 3,
 zo 3 10 (.idxA (some 20) 1 (.glo 1) 9),
 zl 4 11 10,
 zo 5 12 (.bin .geq 115 false 8 11),
 zo 6 13 (.call 90 [12]),
 zo 7 14 (.bin .add 3 false 7 13),
 zm 8 2 14])
 (.ret))),
 [.tmp 2]⟩
theorem p76u : PR Go.Proofs.Tryd.f76 = some v76u:=by kernel_rfl

def v77u : VFun :=
⟨.seq (.reg [zm 0 17 0,
 zo 1 18 (.len 17),
 zm 2 4 18])
 (.seq (.block 0
 (.loop
 (.seq (.seq (.reg [zm 0 19 4,
 zo 1 20 (.bin .geq 3 true 19 (zi 8))])
 (.cond 20
 (.skip)
 (.exit 0)))
 (.block 1
 (.seq (.reg [zm 0 21 1,
 zo 1 22 (.bin .rem 115 true 21 (.con (.int .u64 100000000))),
 zo 2 23 (.conv 115 135 22),
 zm 3 5 23])
 (.seq (.reg [zm 0 24 1,
 zo 1 25 (.bin .quo 115 true 24 (.con (.int .u64 100000000))),
 zm 2 1 25])
 (.seq (.reg [zm 0 26 5,
 zo 1 27 (.bin .quo 135 true 26 (.con (.int .u32 10000))),
 zm 2 28 5,
 zo 3 29 (.bin .rem 135 true 28 (.con (.int .u32 10000))),
 zm 4 6 27,
 zm 5 7 29])
 (.seq (.reg [zm 0 30 7,
 zo 1 31 (.bin .quo 135 true 30 (.con (.int .u32 100))),
 zo 2 32 (.bin .mul 135 true 31 (.con (.int .u32 2))),
 zm 3 33 7,
 zo 4 34 (.bin .rem 135 true 33 (.con (.int .u32 100))),
 zo 5 35 (.bin .mul 135 true 34 (.con (.int .u32 2))),
 zm 6 8 32,
 zm 7 9 35])
 (.seq (.reg [zm 0 36 6,
 zo 1 37 (.bin .quo 135 true 36 (.con (.int .u32 100))),
 zo 2 38 (.bin .mul 135 true 37 (.con (.int .u32 2))),
 zm 3 39 6,
 zo 4 40 (.bin .rem 135 true 39 (.con (.int .u32 100))),
 zo 5 41 (.bin .mul 135 true 40 (.con (.int .u32 2))),
 zm 6 10 38,
 zm 7 11 41])
 (.seq (.reg [zm 0 42 0,
 zm 1 43 4,
 zo 2 44 (.bin .sub 3 true 43 (zi 1)),
 zm 3 45 0,
 zm 4 46 4,
 zo 5 47 (.bin .sub 3 true 46 (zi 2)),
 zm 6 48 9,
 zo 7 49 (.bin .add 135 true 48 (.con (.int .u32 1))),
 zo 8 50 (.idxS 9 (.con (.string ⟨#[48,48,48,49,48,50,48,51,48,52,48,53,48,54,48,55,48,56,48,57,49,48,49,49,49,50,49,51,49,52,49,53,49,54,49,55,49,56,49,57,50,48,50,49,50,50,50,51,50,52,50,53,50,54,50,55,50,56,50,57,51,48,51,49,51,50,51,51,51,52,51,53,51,54,51,55,51,56,51,57,52,48,52,49,52,50,52,51,52,52,52,53,52,54,52,55,52,56,52,57,53,48,53,49,53,50,53,51,53,52,53,53,53,54,53,55,53,56,53,57,54,48,54,49,54,50,54,51,54,52,54,53,54,54,54,55,54,56,54,57,55,48,55,49,55,50,55,51,55,52,55,53,55,54,55,55,55,56,55,57,56,48,56,49,56,50,56,51,56,52,56,53,56,54,56,55,56,56,56,57,57,48,57,49,57,50,57,51,57,52,57,53,57,54,57,55,57,56,57,57]⟩)) 49),
 zm 9 51 9,
 zo 10 52 (.idxS 9 (.con (.string ⟨#[48,48,48,49,48,50,48,51,48,52,48,53,48,54,48,55,48,56,48,57,49,48,49,49,49,50,49,51,49,52,49,53,49,54,49,55,49,56,49,57,50,48,50,49,50,50,50,51,50,52,50,53,50,54,50,55,50,56,50,57,51,48,51,49,51,50,51,51,51,52,51,53,51,54,51,55,51,56,51,57,52,48,52,49,52,50,52,51,52,52,52,53,52,54,52,55,52,56,52,57,53,48,53,49,53,50,53,51,53,52,53,53,53,54,53,55,53,56,53,57,54,48,54,49,54,50,54,51,54,52,54,53,54,54,54,55,54,56,54,57,55,48,55,49,55,50,55,51,55,52,55,53,55,54,55,55,55,56,55,57,56,48,56,49,56,50,56,51,56,52,56,53,56,54,56,55,56,56,56,57,57,48,57,49,57,50,57,51,57,52,57,53,57,54,57,55,57,56,57,57]⟩)) 51),
 zo 11 53 (.idxA none 1 42 44),
 zn 12 (.store 1 53 50),
 zo 13 54 (.idxA none 1 45 47),
 zn 14 (.store 1 54 52)])
 (.seq (.reg [zm 0 55 0,
 zm 1 56 4,
 zo 2 57 (.bin .sub 3 true 56 (zi 3)),
 zm 3 58 0,
 zm 4 59 4,
 zo 5 60 (.bin .sub 3 true 59 (zi 4)),
 zm 6 61 8,
 zo 7 62 (.bin .add 135 true 61 (.con (.int .u32 1))),
 zo 8 63 (.idxS 9 (.con (.string ⟨#[48,48,48,49,48,50,48,51,48,52,48,53,48,54,48,55,48,56,48,57,49,48,49,49,49,50,49,51,49,52,49,53,49,54,49,55,49,56,49,57,50,48,50,49,50,50,50,51,50,52,50,53,50,54,50,55,50,56,50,57,51,48,51,49,51,50,51,51,51,52,51,53,51,54,51,55,51,56,51,57,52,48,52,49,52,50,52,51,52,52,52,53,52,54,52,55,52,56,52,57,53,48,53,49,53,50,53,51,53,52,53,53,53,54,53,55,53,56,53,57,54,48,54,49,54,50,54,51,54,52,54,53,54,54,54,55,54,56,54,57,55,48,55,49,55,50,55,51,55,52,55,53,55,54,55,55,55,56,55,57,56,48,56,49,56,50,56,51,56,52,56,53,56,54,56,55,56,56,56,57,57,48,57,49,57,50,57,51,57,52,57,53,57,54,57,55,57,56,57,57]⟩)) 62),
 zm 9 64 8,
 zo 10 65 (.idxS 9 (.con (.string ⟨#[48,48,48,49,48,50,48,51,48,52,48,53,48,54,48,55,48,56,48,57,49,48,49,49,49,50,49,51,49,52,49,53,49,54,49,55,49,56,49,57,50,48,50,49,50,50,50,51,50,52,50,53,50,54,50,55,50,56,50,57,51,48,51,49,51,50,51,51,51,52,51,53,51,54,51,55,51,56,51,57,52,48,52,49,52,50,52,51,52,52,52,53,52,54,52,55,52,56,52,57,53,48,53,49,53,50,53,51,53,52,53,53,53,54,53,55,53,56,53,57,54,48,54,49,54,50,54,51,54,52,54,53,54,54,54,55,54,56,54,57,55,48,55,49,55,50,55,51,55,52,55,53,55,54,55,55,55,56,55,57,56,48,56,49,56,50,56,51,56,52,56,53,56,54,56,55,56,56,56,57,57,48,57,49,57,50,57,51,57,52,57,53,57,54,57,55,57,56,57,57]⟩)) 64),
 zo 11 66 (.idxA none 1 55 57),
 zn 12 (.store 1 66 63),
 zo 13 67 (.idxA none 1 58 60),
 zn 14 (.store 1 67 65)])
 (.seq (.reg [zm 0 68 0,
 zm 1 69 4,
 zo 2 70 (.bin .sub 3 true 69 (zi 5)),
 zm 3 71 0,
 zm 4 72 4,
 zo 5 73 (.bin .sub 3 true 72 (zi 6)),
 zm 6 74 11,
 zo 7 75 (.bin .add 135 true 74 (.con (.int .u32 1))),
 zo 8 76 (.idxS 9 (.con (.string ⟨#[48,48,48,49,48,50,48,51,48,52,48,53,48,54,48,55,48,56,48,57,49,48,49,49,49,50,49,51,49,52,49,53,49,54,49,55,49,56,49,57,50,48,50,49,50,50,50,51,50,52,50,53,50,54,50,55,50,56,50,57,51,48,51,49,51,50,51,51,51,52,51,53,51,54,51,55,51,56,51,57,52,48,52,49,52,50,52,51,52,52,52,53,52,54,52,55,52,56,52,57,53,48,53,49,53,50,53,51,53,52,53,53,53,54,53,55,53,56,53,57,54,48,54,49,54,50,54,51,54,52,54,53,54,54,54,55,54,56,54,57,55,48,55,49,55,50,55,51,55,52,55,53,55,54,55,55,55,56,55,57,56,48,56,49,56,50,56,51,56,52,56,53,56,54,56,55,56,56,56,57,57,48,57,49,57,50,57,51,57,52,57,53,57,54,57,55,57,56,57,57]⟩)) 75),
 zm 9 77 11,
 zo 10 78 (.idxS 9 (.con (.string ⟨#[48,48,48,49,48,50,48,51,48,52,48,53,48,54,48,55,48,56,48,57,49,48,49,49,49,50,49,51,49,52,49,53,49,54,49,55,49,56,49,57,50,48,50,49,50,50,50,51,50,52,50,53,50,54,50,55,50,56,50,57,51,48,51,49,51,50,51,51,51,52,51,53,51,54,51,55,51,56,51,57,52,48,52,49,52,50,52,51,52,52,52,53,52,54,52,55,52,56,52,57,53,48,53,49,53,50,53,51,53,52,53,53,53,54,53,55,53,56,53,57,54,48,54,49,54,50,54,51,54,52,54,53,54,54,54,55,54,56,54,57,55,48,55,49,55,50,55,51,55,52,55,53,55,54,55,55,55,56,55,57,56,48,56,49,56,50,56,51,56,52,56,53,56,54,56,55,56,56,56,57,57,48,57,49,57,50,57,51,57,52,57,53,57,54,57,55,57,56,57,57]⟩)) 77),
 zo 11 79 (.idxA none 1 68 70),
 zn 12 (.store 1 79 76),
 zo 13 80 (.idxA none 1 71 73),
 zn 14 (.store 1 80 78)])
 (.seq (.reg [zm 0 81 0,
 zm 1 82 4,
 zo 2 83 (.bin .sub 3 true 82 (zi 7)),
 zm 3 84 0,
 zm 4 85 4,
 zo 5 86 (.bin .sub 3 true 85 (zi 8)),
 zm 6 87 10,
 zo 7 88 (.bin .add 135 true 87 (.con (.int .u32 1))),
 zo 8 89 (.idxS 9 (.con (.string ⟨#[48,48,48,49,48,50,48,51,48,52,48,53,48,54,48,55,48,56,48,57,49,48,49,49,49,50,49,51,49,52,49,53,49,54,49,55,49,56,49,57,50,48,50,49,50,50,50,51,50,52,50,53,50,54,50,55,50,56,50,57,51,48,51,49,51,50,51,51,51,52,51,53,51,54,51,55,51,56,51,57,52,48,52,49,52,50,52,51,52,52,52,53,52,54,52,55,52,56,52,57,53,48,53,49,53,50,53,51,53,52,53,53,53,54,53,55,53,56,53,57,54,48,54,49,54,50,54,51,54,52,54,53,54,54,54,55,54,56,54,57,55,48,55,49,55,50,55,51,55,52,55,53,55,54,55,55,55,56,55,57,56,48,56,49,56,50,56,51,56,52,56,53,56,54,56,55,56,56,56,57,57,48,57,49,57,50,57,51,57,52,57,53,57,54,57,55,57,56,57,57]⟩)) 88),
 zm 9 90 10,
 zo 10 91 (.idxS 9 (.con (.string ⟨#[48,48,48,49,48,50,48,51,48,52,48,53,48,54,48,55,48,56,48,57,49,48,49,49,49,50,49,51,49,52,49,53,49,54,49,55,49,56,49,57,50,48,50,49,50,50,50,51,50,52,50,53,50,54,50,55,50,56,50,57,51,48,51,49,51,50,51,51,51,52,51,53,51,54,51,55,51,56,51,57,52,48,52,49,52,50,52,51,52,52,52,53,52,54,52,55,52,56,52,57,53,48,53,49,53,50,53,51,53,52,53,53,53,54,53,55,53,56,53,57,54,48,54,49,54,50,54,51,54,52,54,53,54,54,54,55,54,56,54,57,55,48,55,49,55,50,55,51,55,52,55,53,55,54,55,55,55,56,55,57,56,48,56,49,56,50,56,51,56,52,56,53,56,54,56,55,56,56,56,57,57,48,57,49,57,50,57,51,57,52,57,53,57,54,57,55,57,56,57,57]⟩)) 90),
 zo 11 92 (.idxA none 1 81 83),
 zn 12 (.store 1 92 89),
 zo 13 93 (.idxA none 1 84 86),
 zn 14 (.store 1 93 91)])
 (.reg [zm 0 94 4,
 zo 1 95 (.bin .sub 3 true 94 (zi 8)),
 zm 2 4 95]))))))))))))))
 (.seq (.reg [zm 0 96 1,
 zo 1 97 (.conv 115 135 96),
 zm 2 12 97])
 (.seq (.seq (.reg [zm 0 98 4,
 zo 1 99 (.bin .geq 3 true 98 (zi 4))])
 (.cond 99
 (.seq (.reg [zm 0 100 12,
 zo 1 101 (.bin .rem 135 true 100 (.con (.int .u32 10000))),
 zm 2 13 101])
 (.seq (.reg [zm 0 102 12,
 zo 1 103 (.bin .quo 135 true 102 (.con (.int .u32 10000))),
 zm 2 12 103])
 (.seq (.reg [zm 0 104 13,
 zo 1 105 (.bin .quo 135 true 104 (.con (.int .u32 100))),
 zo 2 106 (.bin .mul 135 true 105 (.con (.int .u32 2))),
 zm 3 107 13,
 zo 4 108 (.bin .rem 135 true 107 (.con (.int .u32 100))),
 zo 5 109 (.bin .mul 135 true 108 (.con (.int .u32 2))),
 zm 6 14 106,
 zm 7 15 109])
 (.seq (.reg [zm 0 110 0,
 zm 1 111 4,
 zo 2 112 (.bin .sub 3 true 111 (zi 1)),
 zm 3 113 0,
 zm 4 114 4,
 zo 5 115 (.bin .sub 3 true 114 (zi 2)),
 zm 6 116 15,
 zo 7 117 (.bin .add 135 true 116 (.con (.int .u32 1))),
 zo 8 118 (.idxS 9 (.con (.string ⟨#[48,48,48,49,48,50,48,51,48,52,48,53,48,54,48,55,48,56,48,57,49,48,49,49,49,50,49,51,49,52,49,53,49,54,49,55,49,56,49,57,50,48,50,49,50,50,50,51,50,52,50,53,50,54,50,55,50,56,50,57,51,48,51,49,51,50,51,51,51,52,51,53,51,54,51,55,51,56,51,57,52,48,52,49,52,50,52,51,52,52,52,53,52,54,52,55,52,56,52,57,53,48,53,49,53,50,53,51,53,52,53,53,53,54,53,55,53,56,53,57,54,48,54,49,54,50,54,51,54,52,54,53,54,54,54,55,54,56,54,57,55,48,55,49,55,50,55,51,55,52,55,53,55,54,55,55,55,56,55,57,56,48,56,49,56,50,56,51,56,52,56,53,56,54,56,55,56,56,56,57,57,48,57,49,57,50,57,51,57,52,57,53,57,54,57,55,57,56,57,57]⟩)) 117),
 zm 9 119 15,
 zo 10 120 (.idxS 9 (.con (.string ⟨#[48,48,48,49,48,50,48,51,48,52,48,53,48,54,48,55,48,56,48,57,49,48,49,49,49,50,49,51,49,52,49,53,49,54,49,55,49,56,49,57,50,48,50,49,50,50,50,51,50,52,50,53,50,54,50,55,50,56,50,57,51,48,51,49,51,50,51,51,51,52,51,53,51,54,51,55,51,56,51,57,52,48,52,49,52,50,52,51,52,52,52,53,52,54,52,55,52,56,52,57,53,48,53,49,53,50,53,51,53,52,53,53,53,54,53,55,53,56,53,57,54,48,54,49,54,50,54,51,54,52,54,53,54,54,54,55,54,56,54,57,55,48,55,49,55,50,55,51,55,52,55,53,55,54,55,55,55,56,55,57,56,48,56,49,56,50,56,51,56,52,56,53,56,54,56,55,56,56,56,57,57,48,57,49,57,50,57,51,57,52,57,53,57,54,57,55,57,56,57,57]⟩)) 119),
 zo 11 121 (.idxA none 1 110 112),
 zn 12 (.store 1 121 118),
 zo 13 122 (.idxA none 1 113 115),
 zn 14 (.store 1 122 120)])
 (.seq (.reg [zm 0 123 0,
 zm 1 124 4,
 zo 2 125 (.bin .sub 3 true 124 (zi 3)),
 zm 3 126 0,
 zm 4 127 4,
 zo 5 128 (.bin .sub 3 true 127 (zi 4)),
 zm 6 129 14,
 zo 7 130 (.bin .add 135 true 129 (.con (.int .u32 1))),
 zo 8 131 (.idxS 9 (.con (.string ⟨#[48,48,48,49,48,50,48,51,48,52,48,53,48,54,48,55,48,56,48,57,49,48,49,49,49,50,49,51,49,52,49,53,49,54,49,55,49,56,49,57,50,48,50,49,50,50,50,51,50,52,50,53,50,54,50,55,50,56,50,57,51,48,51,49,51,50,51,51,51,52,51,53,51,54,51,55,51,56,51,57,52,48,52,49,52,50,52,51,52,52,52,53,52,54,52,55,52,56,52,57,53,48,53,49,53,50,53,51,53,52,53,53,53,54,53,55,53,56,53,57,54,48,54,49,54,50,54,51,54,52,54,53,54,54,54,55,54,56,54,57,55,48,55,49,55,50,55,51,55,52,55,53,55,54,55,55,55,56,55,57,56,48,56,49,56,50,56,51,56,52,56,53,56,54,56,55,56,56,56,57,57,48,57,49,57,50,57,51,57,52,57,53,57,54,57,55,57,56,57,57]⟩)) 130),
 zm 9 132 14,
 zo 10 133 (.idxS 9 (.con (.string ⟨#[48,48,48,49,48,50,48,51,48,52,48,53,48,54,48,55,48,56,48,57,49,48,49,49,49,50,49,51,49,52,49,53,49,54,49,55,49,56,49,57,50,48,50,49,50,50,50,51,50,52,50,53,50,54,50,55,50,56,50,57,51,48,51,49,51,50,51,51,51,52,51,53,51,54,51,55,51,56,51,57,52,48,52,49,52,50,52,51,52,52,52,53,52,54,52,55,52,56,52,57,53,48,53,49,53,50,53,51,53,52,53,53,53,54,53,55,53,56,53,57,54,48,54,49,54,50,54,51,54,52,54,53,54,54,54,55,54,56,54,57,55,48,55,49,55,50,55,51,55,52,55,53,55,54,55,55,55,56,55,57,56,48,56,49,56,50,56,51,56,52,56,53,56,54,56,55,56,56,56,57,57,48,57,49,57,50,57,51,57,52,57,53,57,54,57,55,57,56,57,57]⟩)) 132),
 zo 11 134 (.idxA none 1 123 125),
 zn 12 (.store 1 134 131),
 zo 13 135 (.idxA none 1 126 128),
 zn 14 (.store 1 135 133)])
 (.reg [zm 0 136 4,
 zo 1 137 (.bin .sub 3 true 136 (zi 4)),
 zm 2 4 137]))))))
 (.skip)))
 (.seq (.seq (.reg [zm 0 138 4,
 zo 1 139 (.bin .geq 3 true 138 (zi 2))])
 (.cond 139
 (.seq (.reg [zm 0 140 12,
 zo 1 141 (.bin .rem 135 true 140 (.con (.int .u32 100))),
 zo 2 142 (.bin .mul 135 true 141 (.con (.int .u32 2))),
 zm 3 16 142])
 (.seq (.reg [zm 0 143 12,
 zo 1 144 (.bin .quo 135 true 143 (.con (.int .u32 100))),
 zm 2 12 144])
 (.seq (.reg [zm 0 145 0,
 zm 1 146 4,
 zo 2 147 (.bin .sub 3 true 146 (zi 1)),
 zm 3 148 0,
 zm 4 149 4,
 zo 5 150 (.bin .sub 3 true 149 (zi 2)),
 zm 6 151 16,
 zo 7 152 (.bin .add 135 true 151 (.con (.int .u32 1))),
 zo 8 153 (.idxS 9 (.con (.string ⟨#[48,48,48,49,48,50,48,51,48,52,48,53,48,54,48,55,48,56,48,57,49,48,49,49,49,50,49,51,49,52,49,53,49,54,49,55,49,56,49,57,50,48,50,49,50,50,50,51,50,52,50,53,50,54,50,55,50,56,50,57,51,48,51,49,51,50,51,51,51,52,51,53,51,54,51,55,51,56,51,57,52,48,52,49,52,50,52,51,52,52,52,53,52,54,52,55,52,56,52,57,53,48,53,49,53,50,53,51,53,52,53,53,53,54,53,55,53,56,53,57,54,48,54,49,54,50,54,51,54,52,54,53,54,54,54,55,54,56,54,57,55,48,55,49,55,50,55,51,55,52,55,53,55,54,55,55,55,56,55,57,56,48,56,49,56,50,56,51,56,52,56,53,56,54,56,55,56,56,56,57,57,48,57,49,57,50,57,51,57,52,57,53,57,54,57,55,57,56,57,57]⟩)) 152),
 zm 9 154 16,
 zo 10 155 (.idxS 9 (.con (.string ⟨#[48,48,48,49,48,50,48,51,48,52,48,53,48,54,48,55,48,56,48,57,49,48,49,49,49,50,49,51,49,52,49,53,49,54,49,55,49,56,49,57,50,48,50,49,50,50,50,51,50,52,50,53,50,54,50,55,50,56,50,57,51,48,51,49,51,50,51,51,51,52,51,53,51,54,51,55,51,56,51,57,52,48,52,49,52,50,52,51,52,52,52,53,52,54,52,55,52,56,52,57,53,48,53,49,53,50,53,51,53,52,53,53,53,54,53,55,53,56,53,57,54,48,54,49,54,50,54,51,54,52,54,53,54,54,54,55,54,56,54,57,55,48,55,49,55,50,55,51,55,52,55,53,55,54,55,55,55,56,55,57,56,48,56,49,56,50,56,51,56,52,56,53,56,54,56,55,56,56,56,57,57,48,57,49,57,50,57,51,57,52,57,53,57,54,57,55,57,56,57,57]⟩)) 154),
 zo 11 156 (.idxA none 1 145 147),
 zn 12 (.store 1 156 153),
 zo 13 157 (.idxA none 1 148 150),
 zn 14 (.store 1 157 155)])
 (.reg [zm 0 158 4,
 zo 1 159 (.bin .sub 3 true 158 (zi 2)),
 zm 2 4 159]))))
 (.skip)))
 (.seq (.reg [zm 0 160 4,
 zo 1 161 (.bin .gtr 3 true 160 (zi 0))])
 (.cond 161
 (.reg [zm 0 162 0,
 zm 1 163 12,
 zo 2 164 (.bin .add 135 true (.con (.int .u32 48)) 163),
 zo 3 165 (.conv 135 5 164),
 zo 4 166 (.idxA none 1 162 (zi 0)),
 zn 5 (.store 1 166 165)])
 (.skip))))))),
 []⟩
theorem p77u : PR Go.Proofs.Tryd.f77 = some v77u:=by kernel_rfl

def v78u : VFun :=
⟨.seq (.reg [zo 0 10 (.mv (.con (.slice none 0 0))),
 zo 1 11 (.mv (.con (.string ⟨#[]⟩)))])
 (.seq (.seq (.reg [zm 0 19 2,
 zo 1 20 (.bin .lss 3 true 19 (zi 2)),
 zm 2 21 20,
 zg 3 22 (.mv 2) 21 false,
 zg 4 23 (.bin .eql 3 true 22 (zi 10)) 21 false,
 zo 5 24 (.pick 21 (.con (.bool true)) 23),
 zm 6 25 24,
 zg 7 26 (.mv 2) 25 false,
 zg 8 27 (.bin .gtr 3 true 26 (zi 36)) 25 false,
 zo 9 28 (.pick 25 (.con (.bool true)) 27)])
 (.cond 28
 (.reg [zo 0 29 (.mkif 9 (.con (.string ⟨#[115,116,114,99,111,110,118,58,32,105,108,108,101,103,97,108,32,65,112,112,101,110,100,73,110,116,47,70,111,114,109,97,116,73,110,116,32,98,97,115,101]⟩))),
 zn 1 (.panic 29)])
 (.skip)))
 (.seq (.reg [zo 0 12 (.alloc [(.int .u8 0),(.int .u8 0),(.int .u8 0),(.int .u8 0),(.int .u8 0),(.int .u8 0),(.int .u8 0),(.int .u8 0),(.int .u8 0),(.int .u8 0),(.int .u8 0),(.int .u8 0),(.int .u8 0),(.int .u8 0),(.int .u8 0),(.int .u8 0),(.int .u8 0),(.int .u8 0),(.int .u8 0),(.int .u8 0),(.int .u8 0),(.int .u8 0),(.int .u8 0),(.int .u8 0),(.int .u8 0),(.int .u8 0),(.int .u8 0),(.int .u8 0),(.int .u8 0),(.int .u8 0),(.int .u8 0),(.int .u8 0),(.int .u8 0),(.int .u8 0),(.int .u8 0),(.int .u8 0),(.int .u8 0),(.int .u8 0),(.int .u8 0),(.int .u8 0),(.int .u8 0),(.int .u8 0),(.int .u8 0),(.int .u8 0),(.int .u8 0),(.int .u8 0),(.int .u8 0),(.int .u8 0),(.int .u8 0),(.int .u8 0),(.int .u8 0),(.int .u8 0),(.int .u8 0),(.int .u8 0),(.int .u8 0),(.int .u8 0),(.int .u8 0),(.int .u8 0),(.int .u8 0),(.int .u8 0),(.int .u8 0),(.int .u8 0),(.int .u8 0),(.int .u8 0),(.int .u8 0)])])
 (.seq (.reg [zo 0 13 (.mv (zi 65))])
 (.seq (.seq (.reg [zm 0 30 3])
 (.cond 30
 (.reg [zm 0 31 1,
 zo 1 32 (.un .neg 31),
 zm 2 1 32])
 (.skip)))
 (.seq (.seq (.reg [zm 0 33 2,
 zo 1 34 (.call 91 [33])])
 (.cond 34
 (.seq (.reg [zm 0 35 2,
 zo 1 36 (.conv 3 125 35),
 zo 2 37 (.call 92 [36]),
 zo 3 38 (.conv 3 125 37),
 zm 4 14 38])
 (.seq (.reg [zm 0 39 2,
 zo 1 40 (.conv 3 115 39),
 zm 2 15 40])
 (.seq (.reg [zm 0 41 2,
 zo 1 42 (.conv 3 125 41),
 zo 2 43 (.bin .sub 125 true 42 (.con (.int .u64 1))),
 zm 3 16 43])
 (.seq (.block 0
 (.loop
 (.seq (.seq (.reg [zm 0 44 1,
 zm 1 45 15,
 zo 2 46 (.bin .geq 115 false 44 45)])
 (.cond 46
 (.skip)
 (.exit 0)))
 (.block 1
 (.seq (.reg [zm 0 47 13,
 zo 1 48 (.bin .sub 3 true 47 (zi 1)),
 zm 2 13 48])
 (.seq (.reg [zm 0 49 13,
 zm 1 50 1,
 zm 2 51 16,
 zo 3 52 (.bin .and 125 false 50 51),
 zo 4 53 (.idxS 9 (.con (.string ⟨#[48,49,50,51,52,53,54,55,56,57,97,98,99,100,101,102,103,104,105,106,107,108,109,110,111,112,113,114,115,116,117,118,119,120,121,122]⟩)) 52),
 zo 5 54 (.idxA (some 65) 1 12 49),
 zn 6 (.store 1 54 53)])
 (.reg [zm 0 55 1,
 zm 1 56 14,
 zo 2 57 (.bin .shr 115 false 55 56),
 zm 3 1 57])))))))
 (.seq (.reg [zm 0 58 13,
 zo 1 59 (.bin .sub 3 true 58 (zi 1)),
 zm 2 13 59])
 (.reg [zm 0 60 13,
 zm 1 61 1,
 zo 2 62 (.idxS 9 (.con (.string ⟨#[48,49,50,51,52,53,54,55,56,57,97,98,99,100,101,102,103,104,105,106,107,108,109,110,111,112,113,114,115,116,117,118,119,120,121,122]⟩)) 61),
 zo 3 63 (.idxA (some 65) 1 12 60),
 zn 4 (.store 1 63 62)]))))))
 (.seq (.reg [zm 0 64 2,
 zo 1 65 (.conv 3 115 64),
 zm 2 17 65])
 (.seq (.block 2
 (.loop
 (.seq (.seq (.reg [zm 0 66 1,
 zm 1 67 17,
 zo 2 68 (.bin .geq 115 false 66 67)])
 (.cond 68
 (.skip)
 (.exit 2)))
 (.block 3
 (.seq (.reg [zm 0 69 13,
 zo 1 70 (.bin .sub 3 true 69 (zi 1)),
 zm 2 13 70])
 (.seq (.reg [zm 0 71 1,
 zm 1 72 17,
 zo 2 73 (.bin .quo 115 false 71 72),
 zm 3 18 73])
 (.seq (.reg [zm 0 74 13,
 zm 1 75 1,
 zm 2 76 18,
 zm 3 77 17,
 zo 4 78 (.bin .mul 115 false 76 77),
 zo 5 79 (.bin .sub 115 false 75 78),
 zo 6 80 (.idxS 9 (.con (.string ⟨#[48,49,50,51,52,53,54,55,56,57,97,98,99,100,101,102,103,104,105,106,107,108,109,110,111,112,113,114,115,116,117,118,119,120,121,122]⟩)) 79),
 zo 7 81 (.idxA (some 65) 1 12 74),
 zn 8 (.store 1 81 80)])
 (.reg [zm 0 82 18,
 zm 1 1 82]))))))))
 (.seq (.reg [zm 0 83 13,
 zo 1 84 (.bin .sub 3 true 83 (zi 1)),
 zm 2 13 84])
 (.reg [zm 0 85 13,
 zm 1 86 1,
 zo 2 87 (.idxS 9 (.con (.string ⟨#[48,49,50,51,52,53,54,55,56,57,97,98,99,100,101,102,103,104,105,106,107,108,109,110,111,112,113,114,115,116,117,118,119,120,121,122]⟩)) 86),
 zo 3 88 (.idxA (some 65) 1 12 85),
 zn 4 (.store 1 88 87)]))))))
 (.seq (.seq (.reg [zm 0 89 3])
 (.cond 89
 (.seq (.reg [zm 0 90 13,
 zo 1 91 (.bin .sub 3 true 90 (zi 1)),
 zm 2 13 91])
 (.reg [zm 0 92 13,
 zo 1 93 (.idxA (some 65) 1 12 92),
 zn 2 (.store 1 93 (.con (.int .u8 45)))]))
 (.skip)))
 (.seq (.seq (.reg [zm 0 94 4])
 (.cond 94
 (.seq (.reg [zm 0 95 0,
 zm 1 96 13,
 zo 2 97 (.slice (some 65) 1 12 (some 96) none none),
 zo 3 98 (.append 1 1 95 97),
 zm 4 10 98])
 (.ret))
 (.skip)))
 (.seq (.reg [zm 0 99 13,
 zo 1 100 (.slice (some 65) 1 12 (some 99) none none),
 zo 2 101 (.b2s 100),
 zm 3 11 101])
 (.ret))))))))),
 [.tmp 10,.tmp 11]⟩
theorem p78u : PR Go.Proofs.Tryd.f78 = some v78u:=by kernel_rfl

def v80u : VFun :=
⟨.seq (.reg [zo 0 2 (.mv (.con (.int .i32 0))),
 zo 1 3 (.mv (zi 0))])
 (.seq (.seq (.reg [zm 0 4 0,
 zo 1 5 (.bin .neq 9 true 4 (.con (.string ⟨#[]⟩))),
 zm 2 6 5,
 zg 3 7 (.mv 0) 6 true,
 zg 4 8 (.idxS 9 7 (zi 0)) 6 true,
 zg 5 9 (.bin .lss 5 true 8 (.con (.int .u8 128))) 6 true,
 zo 6 10 (.pick 6 9 (.con (.bool false)))])
 (.cond 10
 (.seq (.reg [zm 0 11 0,
 zo 1 12 (.idxS 9 11 (zi 0)),
 zo 2 13 (.conv 5 21 12),
 zm 3 2 13,
 zo 4 3 (.mv (zi 1))])
 (.ret))
 (.reg [zm 0 15 0,
 zo 1 16 (.call 93 [15]),
 zm 2 14 16,
 zo 3 17 (.ext 14 0),
 zo 4 18 (.ext 14 1),
 zm 5 2 17,
 zm 6 3 18])))
 (.ret)),
 [.tmp 2,.tmp 3]⟩
theorem p80u : PR Go.Proofs.Tryd.f80 = some v80u:=by kernel_rfl

def v_internal_stringslite_Index : VFun :=
⟨.seq (.reg [zo 0 4 (.mv (zi 0))])
 (.seq (.reg [zm 0 14 1,
 zo 1 15 (.bi .len [9] 3 [(.tmp 14)]),
 zm 2 5 15])
 (.seq (.block 0
 (.seq (.reg [zm 0 17 5,
 zo 1 18 (.bin .eql 3 true (.tmp 17) (zi 0)),
 zm 2 19 18,
 zg 3 20 (.mv (.tmp 1)) 19 false,
 zg 4 21 (.mv (.tmp 0)) 19 false,
 zg 5 22 (.bin .eql 9 false (.tmp 20) (.tmp 21)) 19 false,
 zo 6 23 (.pick (.tmp 19) (.con (.bool true)) (.tmp 22)),
 zm 7 16 23])
 (.cond (.tmp 16)
 (.seq (.reg [zo 0 4 (.mv (zi 0))])
 (.ret))
 (.seq (.reg [zm 0 25 5,
 zo 1 26 (.bin .eql 3 true (.tmp 25) (zi 1)),
 zm 2 24 26])
 (.cond (.tmp 24)
 (.seq (.reg [zm 0 27 0,
 zm 1 28 1,
 zo 2 29 (.idxS 9 (.tmp 28) (zi 0)),
 zo 3 30 (.call 94 [(.tmp 27),(.tmp 29)]),
 zm 4 4 30])
 (.ret))
 (.seq (.reg [zm 0 32 5,
 zm 1 33 0,
 zo 2 34 (.bi .len [9] 3 [(.tmp 33)]),
 zo 3 35 (.bin .geq 3 false (.tmp 32) (.tmp 34)),
 zm 4 31 35])
 (.cond (.tmp 31)
 (.seq (.reg [zo 0 4 (.mv (zi (-1)))])
 (.ret))
 (.seq (.reg [zm 0 37 5,
 zo 1 38 (.load none (.glo 2)),
 zo 2 39 (.bin .leq 3 false (.tmp 37) (.tmp 38)),
 zm 3 40 39,
 zg 4 41 (.mv (.tmp 0)) 40 true,
 zg 5 42 (.bi .len [9] 3 [(.tmp 41)]) 40 true,
 zg 6 43 (.bin .leq 3 true (.tmp 42) (zi 64)) 40 true,
 zo 7 44 (.pick (.tmp 40) (.tmp 43) (.con (.bool false))),
 zm 8 36 44])
 (.cond (.tmp 36)
 (.seq (.reg [zm 0 45 0,
 zm 1 46 1,
 zo 2 47 (.call 95 [(.tmp 45),(.tmp 46)]),
 zm 3 4 47])
 (.ret))
 (.skip))))))))))
 (.seq (.reg [zm 0 48 1,
 zo 1 49 (.idxS 9 (.tmp 48) (zi 0)),
 zm 2 6 49])
 (.seq (.reg [zm 0 50 1,
 zo 1 51 (.idxS 9 (.tmp 50) (zi 1)),
 zm 2 7 51])
 (.seq (.reg [zo 0 8 (.mv (zi 0))])
 (.seq (.reg [zm 0 52 0,
 zo 1 53 (.bi .len [9] 3 [(.tmp 52)]),
 zm 2 54 5,
 zo 3 55 (.bin .sub 3 false (.tmp 53) (.tmp 54)),
 zo 4 56 (.bin .add 3 true (.tmp 55) (zi 1)),
 zm 5 9 56])
 (.seq (.reg [zo 0 10 (.mv (zi 0))])
 (.seq (.block 1
 (.loop
 (.seq (.seq (.reg [zm 0 57 8,
 zm 1 58 9,
 zo 2 59 (.bin .lss 3 false (.tmp 57) (.tmp 58))])
 (.cond (.tmp 59)
 (.skip)
 (.exit 1)))
 (.block 2
 (.seq (.seq (.reg [zm 0 60 0,
 zm 1 61 8,
 zo 2 62 (.idxS 9 (.tmp 60) (.tmp 61)),
 zm 3 63 6,
 zo 4 64 (.bin .neq 5 false (.tmp 62) (.tmp 63))])
 (.cond (.tmp 64)
 (.seq (.reg [zm 0 65 0,
 zm 1 66 8,
 zo 2 67 (.bin .add 3 true (.tmp 66) (zi 1)),
 zm 3 68 9,
 zo 4 69 (.slS 9 (.tmp 65) (some (.tmp 67)) (some (.tmp 68))),
 zm 5 70 6,
 zo 6 71 (.call 94 [(.tmp 69),(.tmp 70)]),
 zm 7 11 71])
 (.seq (.seq (.reg [zm 0 72 11,
 zo 1 73 (.bin .lss 3 true (.tmp 72) (zi 0))])
 (.cond (.tmp 73)
 (.seq (.reg [zo 0 4 (.mv (zi (-1)))])
 (.ret))
 (.skip)))
 (.reg [zm 0 74 8,
 zm 1 75 11,
 zo 2 76 (.bin .add 3 true (.tmp 75) (zi 1)),
 zo 3 77 (.bin .add 3 false (.tmp 74) (.tmp 76)),
 zm 4 8 77])))
 (.skip)))
 (.seq (.seq (.reg [zm 0 78 0,
 zm 1 79 8,
 zo 2 80 (.bin .add 3 true (.tmp 79) (zi 1)),
 zo 3 81 (.idxS 9 (.tmp 78) (.tmp 80)),
 zm 4 82 7,
 zo 5 83 (.bin .eql 5 false (.tmp 81) (.tmp 82)),
 zm 6 84 83,
 zg 7 85 (.mv (.tmp 0)) 84 true,
 zg 8 86 (.mv (.tmp 8)) 84 true,
 zg 9 87 (.mv (.tmp 8)) 84 true,
 zg 10 88 (.mv (.tmp 5)) 84 true,
 zg 11 89 (.bin .add 3 false (.tmp 87) (.tmp 88)) 84 true,
 zg 12 90 (.slS 9 (.tmp 85) (some (.tmp 86)) (some (.tmp 89))) 84 true,
 zg 13 91 (.mv (.tmp 1)) 84 true,
 zg 14 92 (.bin .eql 9 false (.tmp 90) (.tmp 91)) 84 true,
 zo 15 93 (.pick (.tmp 84) (.tmp 92) (.con (.bool false)))])
 (.cond (.tmp 93)
 (.seq (.reg [zm 0 94 8,
 zm 1 4 94])
 (.ret))
 (.skip)))
 (.seq (.reg [zm 0 95 8,
 zo 1 96 (.bin .add 3 true (.tmp 95) (zi 1)),
 zm 2 8 96])
 (.seq (.reg [zm 0 97 10,
 zo 1 98 (.bin .add 3 true (.tmp 97) (zi 1)),
 zm 2 10 98])
 (.seq (.reg [zm 0 99 5,
 zo 1 100 (.load none (.glo 2)),
 zo 2 101 (.bin .leq 3 false (.tmp 99) (.tmp 100)),
 zm 3 102 101,
 zg 4 103 (.mv (.tmp 10)) 102 true,
 zg 5 104 (.mv (.tmp 8)) 102 true,
 zg 6 105 (.call 96 [(.tmp 104)]) 102 true,
 zg 7 106 (.bin .gtr 3 false (.tmp 103) (.tmp 105)) 102 true,
 zo 8 107 (.pick (.tmp 102) (.tmp 106) (.con (.bool false)))])
 (.cond (.tmp 107)
 (.seq (.reg [zm 0 108 0,
 zm 1 109 8,
 zo 2 110 (.slS 9 (.tmp 108) (some (.tmp 109)) none),
 zm 3 111 1,
 zo 4 112 (.call 95 [(.tmp 110),(.tmp 111)]),
 zm 5 12 112])
 (.seq (.seq (.reg [zm 0 113 12,
 zo 1 114 (.bin .geq 3 true (.tmp 113) (zi 0))])
 (.cond (.tmp 114)
 (.seq (.reg [zm 0 115 12,
 zm 1 116 8,
 zo 2 117 (.bin .add 3 false (.tmp 115) (.tmp 116)),
 zm 3 4 117])
 (.ret))
 (.skip)))
 (.seq (.reg [zo 0 4 (.mv (zi (-1)))])
 (.ret))))
 (.seq (.reg [zm 0 118 5,
 zo 1 119 (.load none (.glo 2)),
 zo 2 120 (.bin .gtr 3 false (.tmp 118) (.tmp 119)),
 zm 3 121 120,
 zg 4 122 (.mv (.tmp 10)) 121 true,
 zg 5 123 (.mv (.tmp 8)) 121 true,
 zg 6 124 (.bin .shr 3 true (.tmp 123) (.con (.int .u64 4))) 121 true,
 zg 7 125 (.bin .add 3 true (zi 4) (.tmp 124)) 121 true,
 zg 8 126 (.bin .geq 3 false (.tmp 122) (.tmp 125)) 121 true,
 zo 9 127 (.pick (.tmp 121) (.tmp 126) (.con (.bool false))),
 zm 10 128 127,
 zg 11 129 (.mv (.tmp 8)) 128 true,
 zg 12 130 (.mv (.tmp 9)) 128 true,
 zg 13 131 (.bin .lss 3 false (.tmp 129) (.tmp 130)) 128 true,
 zo 14 132 (.pick (.tmp 128) (.tmp 131) (.con (.bool false)))])
 (.cond (.tmp 132)
 (.seq (.reg [zm 0 133 0,
 zm 1 134 8,
 zo 2 135 (.slS 9 (.tmp 133) (some (.tmp 134)) none),
 zm 3 136 1,
 zo 4 137 (.call 97 [(.tmp 135),(.tmp 136)]),
 zm 5 13 137])
 (.seq (.seq (.reg [zm 0 138 13,
 zo 1 139 (.bin .lss 3 true (.tmp 138) (zi 0))])
 (.cond (.tmp 139)
 (.seq (.reg [zo 0 4 (.mv (zi (-1)))])
 (.ret))
 (.skip)))
 (.seq (.reg [zm 0 140 8,
 zm 1 141 13,
 zo 2 142 (.bin .add 3 false (.tmp 140) (.tmp 141)),
 zm 3 4 142])
 (.ret))))
 (.skip)))))))))))))
 (.seq (.reg [zo 0 4 (.mv (zi (-1)))])
 (.ret)))))))))),
 [.tmp 4]⟩
theorem p_internal_stringslite_Index : PR Go.Proofs.Tryd.f82 = some v_internal_stringslite_Index:=by kernel_rfl

end Go.VX.Seat
end
section
set_option maxRecDepth 20000
namespace Go.VX.Seat
def v83u : VFun :=
⟨.seq (.reg [zo 0 6 (.mv (.con (.int .u64 0))),
 zo 1 7 (.mv (.con .nilIface))])
 (.seq (.seq (.reg [zm 0 18 0,
 zo 1 19 (.bin .eql 9 true 18 (.con (.string ⟨#[]⟩)))])
 (.cond 19
 (.seq (.reg [zo 0 20 (.mkif 105 (zi 2)),
 zo 1 6 (.mv (.con (.int .u64 0))),
 zm 2 7 20])
 (.ret))
 (.skip)))
 (.seq (.reg [zm 0 21 1,
 zo 1 22 (.bin .eql 3 true 21 (zi 0)),
 zm 2 8 22])
 (.seq (.reg [zm 0 23 0,
 zm 1 9 23])
 (.seq (.block 0
 (.seq (.reg [zm 0 26 1,
 zo 1 27 (.bin .leq 3 true (zi 2) 26),
 zm 2 28 27,
 zg 3 29 (.mv 1) 28 true,
 zg 4 30 (.bin .leq 3 true 29 (zi 36)) 28 true,
 zo 5 31 (.pick 28 30 (.con (.bool false))),
 zm 6 25 31])
 (.cond 25
 (.skip)
 (.seq (.reg [zm 0 33 1,
 zo 1 34 (.bin .eql 3 true 33 (zi 0)),
 zm 2 32 34])
 (.cond 32
 (.seq (.reg [zo 0 1 (.mv (zi 10))])
 (.seq (.reg [zm 0 35 0,
 zo 1 36 (.idxS 9 35 (zi 0)),
 zo 2 37 (.bin .eql 5 true 36 (.con (.int .u8 48)))])
 (.cond 37
 (.block 1
 (.seq (.reg [zm 0 41 0,
 zo 1 42 (.bi .len [9] 3 [41]),
 zo 2 43 (.bin .geq 3 true 42 (zi 3)),
 zm 3 44 43,
 zg 4 45 (.mv 0) 44 true,
 zg 5 46 (.idxS 9 45 (zi 1)) 44 true,
 zg 6 47 (.call 98 [46]) 44 true,
 zg 7 48 (.bin .eql 5 true 47 (.con (.int .u8 98))) 44 true,
 zo 8 49 (.pick 44 48 (.con (.bool false))),
 zm 9 40 49])
 (.cond 40
 (.seq (.reg [zo 0 1 (.mv (zi 2))])
 (.reg [zm 0 50 0,
 zo 1 51 (.slS 9 50 (some (zi 2)) none),
 zm 2 0 51]))
 (.seq (.reg [zm 0 53 0,
 zo 1 54 (.bi .len [9] 3 [53]),
 zo 2 55 (.bin .geq 3 true 54 (zi 3)),
 zm 3 56 55,
 zg 4 57 (.mv 0) 56 true,
 zg 5 58 (.idxS 9 57 (zi 1)) 56 true,
 zg 6 59 (.call 98 [58]) 56 true,
 zg 7 60 (.bin .eql 5 true 59 (.con (.int .u8 111))) 56 true,
 zo 8 61 (.pick 56 60 (.con (.bool false))),
 zm 9 52 61])
 (.cond 52
 (.seq (.reg [zo 0 1 (.mv (zi 8))])
 (.reg [zm 0 62 0,
 zo 1 63 (.slS 9 62 (some (zi 2)) none),
 zm 2 0 63]))
 (.seq (.reg [zm 0 65 0,
 zo 1 66 (.bi .len [9] 3 [65]),
 zo 2 67 (.bin .geq 3 true 66 (zi 3)),
 zm 3 68 67,
 zg 4 69 (.mv 0) 68 true,
 zg 5 70 (.idxS 9 69 (zi 1)) 68 true,
 zg 6 71 (.call 98 [70]) 68 true,
 zg 7 72 (.bin .eql 5 true 71 (.con (.int .u8 120))) 68 true,
 zo 8 73 (.pick 68 72 (.con (.bool false))),
 zm 9 64 73])
 (.cond 64
 (.seq (.reg [zo 0 1 (.mv (zi 16))])
 (.reg [zm 0 74 0,
 zo 1 75 (.slS 9 74 (some (zi 2)) none),
 zm 2 0 75]))
 (.seq (.reg [zo 0 1 (.mv (zi 8))])
 (.reg [zm 0 38 0,
 zo 1 39 (.slS 9 38 (some (zi 1)) none),
 zm 2 0 39])))))))))
 (.skip))))
 (.seq (.reg [zo 0 24 (.mkif 105 (zi 3)),
 zo 1 6 (.mv (.con (.int .u64 0))),
 zm 2 7 24])
 (.ret)))))))
 (.seq (.seq (.reg [zm 0 76 2,
 zo 1 77 (.bin .eql 3 true 76 (zi 0))])
 (.cond 77
 (.reg [zo 0 2 (.mv (zi 64))])
 (.seq (.reg [zm 0 78 2,
 zo 1 79 (.bin .lss 3 true 78 (zi 0)),
 zm 2 80 79,
 zg 3 81 (.mv 2) 80 false,
 zg 4 82 (.bin .gtr 3 true 81 (zi 64)) 80 false,
 zo 5 83 (.pick 80 (.con (.bool true)) 82)])
 (.cond 83
 (.seq (.reg [zo 0 84 (.mkif 105 (zi 4)),
 zo 1 6 (.mv (.con (.int .u64 0))),
 zm 2 7 84])
 (.ret))
 (.skip)))))
 (.seq (.reg [zo 0 10 (.mv (.con (.int .u64 0)))])
 (.seq (.seq (.reg [zm 0 85 1])
 (.block 2
 (.seq (.reg [zo 0 91 (.bin .eql 3 true 85 (zi 10)),
 zm 1 90 91])
 (.cond 90
 (.reg [zo 0 10 (.mv (.con (.int .u64 1844674407370955162)))])
 (.seq (.reg [zo 0 93 (.bin .eql 3 true 85 (zi 16)),
 zm 1 92 93])
 (.cond 92
 (.reg [zo 0 10 (.mv (.con (.int .u64 1152921504606846976)))])
 (.reg [zm 0 86 1,
 zo 1 87 (.conv 3 115 86),
 zo 2 88 (.bin .quo 115 true (.con (.int .u64 18446744073709551615)) 87),
 zo 3 89 (.bin .add 115 true 88 (.con (.int .u64 1))),
 zm 4 10 89])))))))
 (.seq (.reg [zm 0 94 2,
 zo 1 95 (.conv 3 125 94),
 zo 2 96 (.bin .shl 115 true (.con (.int .u64 1)) 95),
 zo 3 97 (.bin .sub 115 true 96 (.con (.int .u64 1))),
 zm 4 11 97])
 (.seq (.reg [zo 0 12 (.mv (.con (.bool false)))])
 (.seq (.reg [zo 0 13 (.mv (.con (.int .u64 0)))])
 (.seq (.seq (.reg [zm 0 98 0,
 zo 1 99 (.s2b 98),
 zo 2 100 (.len 99),
 zo 3 101 (.mv (zi 0))])
 (.block 3
 (.loop
 (.seq (.reg [zo 0 102 (.bin .lss 3 false 101 100)])
 (.seq (.cond 102
 (.skip)
 (.exit 3))
 (.seq (.block 4
 (.seq (.reg [zo 0 103 (.idxA none 1 99 101),
 zl 1 104 103,
 zm 2 15 104])
 (.seq (.reg [zo 0 16 (.mv (.con (.int .u8 0)))])
 (.seq (.block 5
 (.seq (.reg [zm 0 107 15,
 zo 1 108 (.bin .eql 5 true 107 (.con (.int .u8 95))),
 zm 2 109 108,
 zg 3 110 (.mv 8) 109 true,
 zo 4 111 (.pick 109 110 (.con (.bool false))),
 zm 5 106 111])
 (.cond 106
 (.seq (.reg [zo 0 12 (.mv (.con (.bool true)))])
 (.exit 4))
 (.seq (.reg [zm 0 113 15,
 zo 1 114 (.bin .leq 5 true (.con (.int .u8 48)) 113),
 zm 2 115 114,
 zg 3 116 (.mv 15) 115 true,
 zg 4 117 (.bin .leq 5 true 116 (.con (.int .u8 57))) 115 true,
 zo 5 118 (.pick 115 117 (.con (.bool false))),
 zm 6 112 118])
 (.cond 112
 (.reg [zm 0 119 15,
 zo 1 120 (.bin .sub 5 true 119 (.con (.int .u8 48))),
 zm 2 16 120])
 (.seq (.reg [zm 0 122 15,
 zo 1 123 (.call 98 [122]),
 zo 2 124 (.bin .leq 5 true (.con (.int .u8 97)) 123),
 zm 3 125 124,
 zg 4 126 (.mv 15) 125 true,
 zg 5 127 (.call 98 [126]) 125 true,
 zg 6 128 (.bin .leq 5 true 127 (.con (.int .u8 122))) 125 true,
 zo 7 129 (.pick 125 128 (.con (.bool false))),
 zm 8 121 129])
 (.cond 121
 (.reg [zm 0 130 15,
 zo 1 131 (.call 98 [130]),
 zo 2 132 (.bin .sub 5 true 131 (.con (.int .u8 97))),
 zo 3 133 (.bin .add 5 true 132 (.con (.int .u8 10))),
 zm 4 16 133])
 (.seq (.reg [zo 0 105 (.mkif 105 (zi 2)),
 zo 1 6 (.mv (.con (.int .u64 0))),
 zm 2 7 105])
 (.ret)))))))))
 (.seq (.seq (.reg [zm 0 134 16,
 zm 1 135 1,
 zo 2 136 (.conv 3 5 135),
 zo 3 137 (.bin .geq 5 false 134 136)])
 (.cond 137
 (.seq (.reg [zo 0 138 (.mkif 105 (zi 2)),
 zo 1 6 (.mv (.con (.int .u64 0))),
 zm 2 7 138])
 (.ret))
 (.skip)))
 (.seq (.seq (.reg [zm 0 139 13,
 zm 1 140 10,
 zo 2 141 (.bin .geq 115 false 139 140)])
 (.cond 141
 (.seq (.reg [zm 0 142 11,
 zo 1 143 (.mkif 105 (zi 1)),
 zm 2 6 142,
 zm 3 7 143])
 (.ret))
 (.skip)))
 (.seq (.reg [zm 0 144 13,
 zm 1 145 1,
 zo 2 146 (.conv 3 115 145),
 zo 3 147 (.bin .mul 115 false 144 146),
 zm 4 13 147])
 (.seq (.reg [zm 0 148 13,
 zm 1 149 16,
 zo 2 150 (.conv 5 115 149),
 zo 3 151 (.bin .add 115 false 148 150),
 zm 4 17 151])
 (.seq (.seq (.reg [zm 0 152 17,
 zm 1 153 13,
 zo 2 154 (.bin .lss 115 false 152 153),
 zm 3 155 154,
 zg 4 156 (.mv 17) 155 false,
 zg 5 157 (.mv 11) 155 false,
 zg 6 158 (.bin .gtr 115 false 156 157) 155 false,
 zo 7 159 (.pick 155 (.con (.bool true)) 158)])
 (.cond 159
 (.seq (.reg [zm 0 160 11,
 zo 1 161 (.mkif 105 (zi 1)),
 zm 2 6 160,
 zm 3 7 161])
 (.ret))
 (.skip)))
 (.reg [zm 0 162 17,
 zm 1 13 162]))))))))))
 (.reg [zo 0 163 (.bin .add 3 true 101 (zi 1)),
 zm 1 101 163])))))))
 (.seq (.seq (.reg [zm 0 164 12,
 zm 1 165 164,
 zg 2 166 (.mv 9) 165 true,
 zg 3 167 (.call 99 [166]) 165 true,
 zg 4 168 (.un .not 167) 165 true,
 zo 5 169 (.pick 165 168 (.con (.bool false)))])
 (.cond 169
 (.seq (.reg [zo 0 170 (.mkif 105 (zi 2)),
 zo 1 6 (.mv (.con (.int .u64 0))),
 zm 2 7 170])
 (.ret))
 (.skip)))
 (.seq (.reg [zm 0 171 13,
 zm 1 6 171,
 zo 2 7 (.mv (.con .nilIface))])
 (.ret)))))))))))))),
 [.tmp 6,.tmp 7]⟩
theorem p83u : PR Go.Proofs.Tryd.f83 = some v83u:=by kernel_rfl

def v85u : VFun :=
⟨.seq (.reg [zo 0 2 (.mv (.con .nilIface))])
 (.seq (.reg [zm 0 3 0,
 zo 1 4 (.build [(.string ⟨#[]⟩)] [(0,1,3)]),
 zo 2 5 (.box 4),
 zo 3 6 (.mkif 141 5),
 zm 4 2 6])
 (.ret)),
 [.tmp 2]⟩
theorem p85u : PR Go.Proofs.Tryd.f85 = some v85u:=by kernel_rfl

def v88u : VFun :=
⟨.seq (.reg [zo 0 2 (.mv (zi 0))])
 (.seq (.reg [zm 0 3 0,
 zo 1 4 (.bin .mul 3 true 3 (zi 78913)),
 zo 2 5 (.bin .shr 3 true 4 (.con (.int .u64 18))),
 zm 3 2 5])
 (.ret)),
 [.tmp 2]⟩
theorem p88u : PR Go.Proofs.Tryd.f88 = some v88u:=by kernel_rfl

def v89u : VFun :=
⟨.seq (.reg [zo 0 2 (.mv (zi 0))])
 (.seq (.seq (.reg [zm 0 3 0,
 zo 1 4 (.bin .geq 115 true 3 (.con (.int .u64 4294967296)))])
 (.cond 4
 (.seq (.reg [zm 0 5 0,
 zo 1 6 (.bin .shr 115 true 5 (.con (.int .u64 32))),
 zm 2 0 6])
 (.reg [zo 0 2 (.mv (zi 32))]))
 (.skip)))
 (.seq (.seq (.reg [zm 0 7 0,
 zo 1 8 (.bin .geq 115 true 7 (.con (.int .u64 65536)))])
 (.cond 8
 (.seq (.reg [zm 0 9 0,
 zo 1 10 (.bin .shr 115 true 9 (.con (.int .u64 16))),
 zm 2 0 10])
 (.reg [zm 0 11 2,
 zo 1 12 (.bin .add 3 true 11 (zi 16)),
 zm 2 2 12]))
 (.skip)))
 (.seq (.seq (.reg [zm 0 13 0,
 zo 1 14 (.bin .geq 115 true 13 (.con (.int .u64 256)))])
 (.cond 14
 (.seq (.reg [zm 0 15 0,
 zo 1 16 (.bin .shr 115 true 15 (.con (.int .u64 8))),
 zm 2 0 16])
 (.reg [zm 0 17 2,
 zo 1 18 (.bin .add 3 true 17 (zi 8)),
 zm 2 2 18]))
 (.skip)))
 (.seq (.reg [zm 0 19 2,
 zm 1 20 0,
 zo 2 21 (.conv 115 5 20),
 zo 3 22 (.idxS 9 (.con (.string ⟨#[0,1,2,2,3,3,3,3,4,4,4,4,4,4,4,4,5,5,5,5,5,5,5,5,5,5,5,5,5,5,5,5,6,6,6,6,6,6,6,6,6,6,6,6,6,6,6,6,6,6,6,6,6,6,6,6,6,6,6,6,6,6,6,6,7,7,7,7,7,7,7,7,7,7,7,7,7,7,7,7,7,7,7,7,7,7,7,7,7,7,7,7,7,7,7,7,7,7,7,7,7,7,7,7,7,7,7,7,7,7,7,7,7,7,7,7,7,7,7,7,7,7,7,7,7,7,7,7,8,8,8,8,8,8,8,8,8,8,8,8,8,8,8,8,8,8,8,8,8,8,8,8,8,8,8,8,8,8,8,8,8,8,8,8,8,8,8,8,8,8,8,8,8,8,8,8,8,8,8,8,8,8,8,8,8,8,8,8,8,8,8,8,8,8,8,8,8,8,8,8,8,8,8,8,8,8,8,8,8,8,8,8,8,8,8,8,8,8,8,8,8,8,8,8,8,8,8,8,8,8,8,8,8,8,8,8,8,8,8,8,8,8,8,8,8,8,8,8,8,8,8,8,8,8,8,8]⟩)) 21),
 zo 4 23 (.conv 5 3 22),
 zo 5 24 (.bin .add 3 false 19 23),
 zm 6 2 24])
 (.ret))))),
 [.tmp 2]⟩
theorem p89u : PR Go.Proofs.Tryd.f89 = some v89u:=by kernel_rfl

def v90u : VFun :=
⟨.seq (.reg [zo 0 2 (.mv (zi 0))])
 (.seq (.seq (.reg [zm 0 3 0])
 (.cond 3
 (.seq (.reg [zo 0 2 (.mv (zi 1))])
 (.ret))
 (.skip)))
 (.seq (.reg [zo 0 2 (.mv (zi 0))])
 (.ret))),
 [.tmp 2]⟩
theorem p90u : PR Go.Proofs.Tryd.f90 = some v90u:=by kernel_rfl

def v91u : VFun :=
⟨.seq (.reg [zo 0 2 (.mv (.con (.bool false)))])
 (.seq (.reg [zm 0 3 0,
 zm 1 4 0,
 zo 2 5 (.bin .sub 3 true 4 (zi 1)),
 zo 3 6 (.bin .and 3 false 3 5),
 zo 4 7 (.bin .eql 3 true 6 (zi 0)),
 zm 5 2 7])
 (.ret)),
 [.tmp 2]⟩
theorem p91u : PR Go.Proofs.Tryd.f91 = some v91u:=by kernel_rfl

def v92u : VFun :=
⟨.seq (.reg [zo 0 2 (.mv (zi 0))])
 (.seq (.cond (.con (.bool false))
 (.seq (.reg [zm 0 3 0,
 zo 1 4 (.conv 125 135 3),
 zo 2 5 (.call 100 [4]),
 zm 3 2 5])
 (.ret))
 (.skip))
 (.seq (.reg [zm 0 6 0,
 zo 1 7 (.call 101 [6]),
 zm 2 2 7])
 (.ret))),
 [.tmp 2]⟩
theorem p92u : PR Go.Proofs.Tryd.f92 = some v92u:=by kernel_rfl

def v_internal_stringslite_IndexByte : VFun :=
⟨.seq (.reg [zo 0 4 (.mv (zi 0))])
 (.seq (.reg [zm 0 5 0,
 zm 1 6 1,
 zo 2 7 (.call 102 [(.tmp 5),(.tmp 6)]),
 zm 3 4 7])
 (.ret)),
 [.tmp 4]⟩
theorem p_internal_stringslite_IndexByte : PR Go.Proofs.Tryd.f94 = some v_internal_stringslite_IndexByte:=by kernel_rfl

def v96u : VFun :=
⟨.seq (.reg [zo 0 2 (.mv (zi 0))])
 (.seq (.reg [zm 0 3 0,
 zo 1 4 (.bin .add 3 true 3 (zi 16)),
 zo 2 5 (.bin .quo 3 true 4 (zi 8)),
 zm 3 2 5])
 (.ret)),
 [.tmp 2]⟩
theorem p96u : PR Go.Proofs.Tryd.f96 = some v96u:=by kernel_rfl

def v97u : VFun :=
⟨.seq (.reg [zo 0 4 (.mv (zi 0))])
 (.seq (.reg [zm 0 12 1,
 zo 1 13 (.call 103 [12]),
 zm 2 11 13,
 zo 3 14 (.ext 11 0),
 zo 4 15 (.ext 11 1),
 zm 5 5 14,
 zm 6 6 15])
 (.seq (.reg [zm 0 16 1,
 zo 1 17 (.bi .len [9] 3 [16]),
 zm 2 7 17])
 (.seq (.reg [zo 0 8 (.mv (.con (.int .u32 0)))])
 (.seq (.seq (.reg [zo 0 9 (.mv (zi 0))])
 (.block 0
 (.loop
 (.seq (.seq (.reg [zm 0 18 9,
 zm 1 19 7,
 zo 2 20 (.bin .lss 3 false 18 19)])
 (.cond 20
 (.skip)
 (.exit 0)))
 (.seq (.block 1
 (.reg [zm 0 23 8,
 zo 1 24 (.bin .mul 135 true 23 (.con (.int .u32 16777619))),
 zm 2 25 0,
 zm 3 26 9,
 zo 4 27 (.idxS 9 25 26),
 zo 5 28 (.conv 5 135 27),
 zo 6 29 (.bin .add 135 false 24 28),
 zm 7 8 29]))
 (.reg [zm 0 21 9,
 zo 1 22 (.bin .add 3 true 21 (zi 1)),
 zm 2 9 22]))))))
 (.seq (.seq (.reg [zm 0 30 8,
 zm 1 31 5,
 zo 2 32 (.bin .eql 135 false 30 31),
 zm 3 33 32,
 zg 4 34 (.mv 0) 33 true,
 zg 5 35 (.mv 7) 33 true,
 zg 6 36 (.slS 9 34 none (some 35)) 33 true,
 zg 7 37 (.mv 1) 33 true,
 zg 8 38 (.bin .eql 9 false 36 37) 33 true,
 zo 9 39 (.pick 33 38 (.con (.bool false)))])
 (.cond 39
 (.seq (.reg [zo 0 4 (.mv (zi 0))])
 (.ret))
 (.skip)))
 (.seq (.seq (.reg [zm 0 40 7,
 zm 1 10 40])
 (.block 2
 (.loop
 (.seq (.seq (.reg [zm 0 41 10,
 zm 1 42 0,
 zo 2 43 (.bi .len [9] 3 [42]),
 zo 3 44 (.bin .lss 3 false 41 43)])
 (.cond 44
 (.skip)
 (.exit 2)))
 (.block 3
 (.seq (.reg [zm 0 45 8,
 zo 1 46 (.bin .mul 135 true 45 (.con (.int .u32 16777619))),
 zm 2 8 46])
 (.seq (.reg [zm 0 47 8,
 zm 1 48 0,
 zm 2 49 10,
 zo 3 50 (.idxS 9 48 49),
 zo 4 51 (.conv 5 135 50),
 zo 5 52 (.bin .add 135 false 47 51),
 zm 6 8 52])
 (.seq (.reg [zm 0 53 8,
 zm 1 54 6,
 zm 2 55 0,
 zm 3 56 10,
 zm 4 57 7,
 zo 5 58 (.bin .sub 3 false 56 57),
 zo 6 59 (.idxS 9 55 58),
 zo 7 60 (.conv 5 135 59),
 zo 8 61 (.bin .mul 135 false 54 60),
 zo 9 62 (.bin .sub 135 false 53 61),
 zm 10 8 62])
 (.seq (.reg [zm 0 63 10,
 zo 1 64 (.bin .add 3 true 63 (zi 1)),
 zm 2 10 64])
 (.seq (.reg [zm 0 65 8,
 zm 1 66 5,
 zo 2 67 (.bin .eql 135 false 65 66),
 zm 3 68 67,
 zg 4 69 (.mv 0) 68 true,
 zg 5 70 (.mv 10) 68 true,
 zg 6 71 (.mv 7) 68 true,
 zg 7 72 (.bin .sub 3 false 70 71) 68 true,
 zg 8 73 (.mv 10) 68 true,
 zg 9 74 (.slS 9 69 (some 72) (some 73)) 68 true,
 zg 10 75 (.mv 1) 68 true,
 zg 11 76 (.bin .eql 9 false 74 75) 68 true,
 zo 12 77 (.pick 68 76 (.con (.bool false)))])
 (.cond 77
 (.seq (.reg [zm 0 78 10,
 zm 1 79 7,
 zo 2 80 (.bin .sub 3 false 78 79),
 zm 3 4 80])
 (.ret))
 (.skip))))))))))))
 (.seq (.reg [zo 0 4 (.mv (zi (-1)))])
 (.ret)))))))),
 [.tmp 4]⟩
theorem p97u : PR Go.Proofs.Tryd.f97 = some v97u:=by kernel_rfl

def v98u : VFun :=
⟨.seq (.reg [zo 0 2 (.mv (.con (.int .u8 0)))])
 (.seq (.reg [zm 0 3 0,
 zo 1 4 (.bin .or 5 true 3 (.con (.int .u8 32))),
 zm 2 2 4])
 (.ret)),
 [.tmp 2]⟩
theorem p98u : PR Go.Proofs.Tryd.f98 = some v98u:=by kernel_rfl

def v99u : VFun :=
⟨.seq (.reg [zo 0 2 (.mv (.con (.bool false)))])
 (.seq (.reg [zo 0 3 (.mv (.con (.int .i32 94)))])
 (.seq (.reg [zo 0 4 (.mv (zi 0))])
 (.seq (.seq (.reg [zm 0 6 0,
 zo 1 7 (.bi .len [9] 3 [6]),
 zo 2 8 (.bin .geq 3 true 7 (zi 1)),
 zm 3 9 8,
 zg 4 10 (.mv 0) 9 true,
 zg 5 11 (.idxS 9 10 (zi 0)) 9 true,
 zg 6 12 (.bin .eql 5 true 11 (.con (.int .u8 45))) 9 true,
 zg 7 13 (.mv 12) 9 true,
 zg 8 14 (.mv 0) 13 false,
 zg 9 15 (.idxS 9 14 (zi 0)) 13 false,
 zg 10 16 (.bin .eql 5 true 15 (.con (.int .u8 43))) 13 false,
 zg 11 17 (.pick 13 (.con (.bool true)) 16) 9 true,
 zo 12 18 (.pick 9 17 (.con (.bool false)))])
 (.cond 18
 (.reg [zm 0 19 0,
 zo 1 20 (.slS 9 19 (some (zi 1)) none),
 zm 2 0 20])
 (.skip)))
 (.seq (.reg [zo 0 5 (.mv (.con (.bool false)))])
 (.seq (.seq (.reg [zm 0 21 0,
 zo 1 22 (.bi .len [9] 3 [21]),
 zo 2 23 (.bin .geq 3 true 22 (zi 2)),
 zm 3 24 23,
 zg 4 25 (.mv 0) 24 true,
 zg 5 26 (.idxS 9 25 (zi 0)) 24 true,
 zg 6 27 (.bin .eql 5 true 26 (.con (.int .u8 48))) 24 true,
 zo 7 28 (.pick 24 27 (.con (.bool false))),
 zm 8 29 28,
 zg 9 30 (.mv 0) 29 true,
 zg 10 31 (.idxS 9 30 (zi 1)) 29 true,
 zg 11 32 (.call 98 [31]) 29 true,
 zg 12 33 (.bin .eql 5 true 32 (.con (.int .u8 98))) 29 true,
 zg 13 34 (.mv 33) 29 true,
 zg 14 35 (.mv 0) 34 false,
 zg 15 36 (.idxS 9 35 (zi 1)) 34 false,
 zg 16 37 (.call 98 [36]) 34 false,
 zg 17 38 (.bin .eql 5 true 37 (.con (.int .u8 111))) 34 false,
 zg 18 39 (.pick 34 (.con (.bool true)) 38) 29 true,
 zg 19 40 (.mv 39) 29 true,
 zg 20 41 (.mv 0) 40 false,
 zg 21 42 (.idxS 9 41 (zi 1)) 40 false,
 zg 22 43 (.call 98 [42]) 40 false,
 zg 23 44 (.bin .eql 5 true 43 (.con (.int .u8 120))) 40 false,
 zg 24 45 (.pick 40 (.con (.bool true)) 44) 29 true,
 zo 25 46 (.pick 29 45 (.con (.bool false)))])
 (.cond 46
 (.seq (.reg [zo 0 4 (.mv (zi 2))])
 (.seq (.reg [zo 0 3 (.mv (.con (.int .i32 48)))])
 (.reg [zm 0 47 0,
 zo 1 48 (.idxS 9 47 (zi 1)),
 zo 2 49 (.call 98 [48]),
 zo 3 50 (.bin .eql 5 true 49 (.con (.int .u8 120))),
 zm 4 5 50])))
 (.skip)))
 (.seq (.block 0
 (.loop
 (.seq (.seq (.reg [zm 0 51 4,
 zm 1 52 0,
 zo 2 53 (.bi .len [9] 3 [52]),
 zo 3 54 (.bin .lss 3 false 51 53)])
 (.cond 54
 (.skip)
 (.exit 0)))
 (.seq (.block 1
 (.seq (.seq (.reg [zm 0 57 0,
 zm 1 58 4,
 zo 2 59 (.idxS 9 57 58),
 zo 3 60 (.bin .leq 5 true (.con (.int .u8 48)) 59),
 zm 4 61 60,
 zg 5 62 (.mv 0) 61 true,
 zg 6 63 (.mv 4) 61 true,
 zg 7 64 (.idxS 9 62 63) 61 true,
 zg 8 65 (.bin .leq 5 true 64 (.con (.int .u8 57))) 61 true,
 zo 9 66 (.pick 61 65 (.con (.bool false))),
 zm 10 67 66,
 zg 11 68 (.mv 5) 67 false,
 zg 12 69 (.mv 68) 67 false,
 zg 13 70 (.mv 0) 69 true,
 zg 14 71 (.mv 4) 69 true,
 zg 15 72 (.idxS 9 70 71) 69 true,
 zg 16 73 (.call 98 [72]) 69 true,
 zg 17 74 (.bin .leq 5 true (.con (.int .u8 97)) 73) 69 true,
 zg 18 75 (.pick 69 74 (.con (.bool false))) 67 false,
 zg 19 76 (.mv 75) 67 false,
 zg 20 77 (.mv 0) 76 true,
 zg 21 78 (.mv 4) 76 true,
 zg 22 79 (.idxS 9 77 78) 76 true,
 zg 23 80 (.call 98 [79]) 76 true,
 zg 24 81 (.bin .leq 5 true 80 (.con (.int .u8 102))) 76 true,
 zg 25 82 (.pick 76 81 (.con (.bool false))) 67 false,
 zo 26 83 (.pick 67 (.con (.bool true)) 82)])
 (.cond 83
 (.seq (.reg [zo 0 3 (.mv (.con (.int .i32 48)))])
 (.exit 1))
 (.skip)))
 (.seq (.seq (.reg [zm 0 84 0,
 zm 1 85 4,
 zo 2 86 (.idxS 9 84 85),
 zo 3 87 (.bin .eql 5 true 86 (.con (.int .u8 95)))])
 (.cond 87
 (.seq (.seq (.reg [zm 0 88 3,
 zo 1 89 (.bin .neq 21 true 88 (.con (.int .i32 48)))])
 (.cond 89
 (.seq (.reg [zo 0 2 (.mv (.con (.bool false)))])
 (.ret))
 (.skip)))
 (.seq (.reg [zo 0 3 (.mv (.con (.int .i32 95)))])
 (.exit 1)))
 (.skip)))
 (.seq (.seq (.reg [zm 0 90 3,
 zo 1 91 (.bin .eql 21 true 90 (.con (.int .i32 95)))])
 (.cond 91
 (.seq (.reg [zo 0 2 (.mv (.con (.bool false)))])
 (.ret))
 (.skip)))
 (.reg [zo 0 3 (.mv (.con (.int .i32 33)))])))))
 (.reg [zm 0 55 4,
 zo 1 56 (.bin .add 3 true 55 (zi 1)),
 zm 2 4 56])))))
 (.seq (.reg [zm 0 92 3,
 zo 1 93 (.bin .neq 21 true 92 (.con (.int .i32 95))),
 zm 2 2 93])
 (.ret)))))))),
 [.tmp 2]⟩
theorem p99u : PR Go.Proofs.Tryd.f99 = some v99u:=by kernel_rfl

def v103u : VFun :=
⟨.seq (.reg [zo 0 2 (.mv (.con (.int .u32 0))),
 zo 1 3 (.mv (.con (.int .u32 0)))])
 (.seq (.reg [zo 0 4 (.mv (.con (.int .u32 0)))])
 (.seq (.seq (.reg [zo 0 5 (.mv (zi 0))])
 (.block 0
 (.loop
 (.seq (.seq (.reg [zm 0 9 5,
 zm 1 10 0,
 zo 2 11 (.bi .len [9] 3 [10]),
 zo 3 12 (.bin .lss 3 false 9 11)])
 (.cond 12
 (.skip)
 (.exit 0)))
 (.seq (.block 1
 (.reg [zm 0 15 4,
 zo 1 16 (.bin .mul 135 true 15 (.con (.int .u32 16777619))),
 zm 2 17 0,
 zm 3 18 5,
 zo 4 19 (.idxS 9 17 18),
 zo 5 20 (.conv 5 135 19),
 zo 6 21 (.bin .add 135 false 16 20),
 zm 7 4 21]))
 (.reg [zm 0 13 5,
 zo 1 14 (.bin .add 3 true 13 (zi 1)),
 zm 2 5 14]))))))
 (.seq (.reg [zo 0 6 (.mv (.con (.int .u32 1))),
 zo 1 7 (.mv (.con (.int .u32 16777619)))])
 (.seq (.seq (.reg [zm 0 22 0,
 zo 1 23 (.bi .len [9] 3 [22]),
 zm 2 8 23])
 (.block 2
 (.loop
 (.seq (.seq (.reg [zm 0 24 8,
 zo 1 25 (.bin .gtr 3 true 24 (zi 0))])
 (.cond 25
 (.skip)
 (.exit 2)))
 (.seq (.block 3
 (.seq (.seq (.reg [zm 0 28 8,
 zo 1 29 (.bin .and 3 true 28 (zi 1)),
 zo 2 30 (.bin .neq 3 true 29 (zi 0))])
 (.cond 30
 (.reg [zm 0 31 6,
 zm 1 32 7,
 zo 2 33 (.bin .mul 135 false 31 32),
 zm 3 6 33])
 (.skip)))
 (.reg [zm 0 34 7,
 zm 1 35 7,
 zo 2 36 (.bin .mul 135 false 34 35),
 zm 3 7 36])))
 (.reg [zm 0 26 8,
 zo 1 27 (.bin .shr 3 true 26 (.con (.int .u64 1))),
 zm 2 8 27]))))))
 (.seq (.reg [zm 0 37 4,
 zm 1 38 6,
 zm 2 2 37,
 zm 3 3 38])
 (.ret)))))),
 [.tmp 2,.tmp 3]⟩
theorem p103u : PR Go.Proofs.Tryd.f103 = some v103u:=by kernel_rfl

end Go.VX.Seat
end
section
set_option maxRecDepth 20000
namespace Go.VX.Seat
abbrev FK (n : FuncId) (v : VFun) : Prop:=FunOk Go.Proofs.Tryd.prog [0,3,4,1,2] n v
def fns : List (Nat × VFun):=[(4,v_l19_MachineTexts),(10,v10u),(11,v11u),(12,v_r19_Check),(14,v14u),(17,v_machine_Text),(18,v_r19_Text),(19,v_machine_Parse),(20,v_r19_Parse),(21,v21u),(23,v23u),(25,v25u),(27,v_machine_Check),(29,v29u),(30,v30u),(31,v31u),(32,v32u),(34,v_machine_write),(35,v35u),(36,v_strings_Split),(37,v_machine_Parse_c1),(38,v38u),(39,v_r19_words),(40,v_r19_number),(41,v41u),(42,v_machine_in),(43,v43u),(44,v44u),(46,v46u),(47,v47u),(48,v48u),(49,v49u),(50,v50u),(51,v51u),(52,v_strings_genSplit),(53,v53u),(54,v54u),(55,v55u),(56,v56u),(57,v57u),(61,v61u),(63,v63u),(64,v64u),(65,v_strings_Count),(66,v_strings_Index),(67,v67u),(68,v68u),(69,v69u),(70,v70u),(71,v71u),(75,v75u),(76,v76u),(77,v77u),(78,v78u),(80,v80u),(82,v_internal_stringslite_Index),(83,v83u),(85,v85u),(88,v88u),(89,v89u),(90,v90u),(91,v91u),(92,v92u),(94,v_internal_stringslite_IndexByte),(96,v96u),(97,v97u),(98,v98u),(99,v99u),(103,v103u)]
def fnOf1 (f : FuncId) : Option VFun:=match f with
  | 78=>some v78u
  | 80=>some v80u
  | 82=>some v_internal_stringslite_Index
  | 83=>some v83u
  | 85=>some v85u
  | 88=>some v88u
  | 89=>some v89u
  | 90=>some v90u
  | 91=>some v91u
  | 92=>some v92u
  | 94=>some v_internal_stringslite_IndexByte
  | 96=>some v96u
  | 97=>some v97u
  | 98=>some v98u
  | 99=>some v99u
  | 103=>some v103u
  | _=>none
def fnOf (f : FuncId) : Option VFun:=match f with
  | 4=>some v_l19_MachineTexts
  | 10=>some v10u
  | 11=>some v11u
  | 12=>some v_r19_Check
  | 14=>some v14u
  | 17=>some v_machine_Text
  | 18=>some v_r19_Text
  | 19=>some v_machine_Parse
  | 20=>some v_r19_Parse
  | 21=>some v21u
  | 23=>some v23u
  | 25=>some v25u
  | 27=>some v_machine_Check
  | 29=>some v29u
  | 30=>some v30u
  | 31=>some v31u
  | 32=>some v32u
  | 34=>some v_machine_write
  | 35=>some v35u
  | 36=>some v_strings_Split
  | 37=>some v_machine_Parse_c1
  | 38=>some v38u
  | 39=>some v_r19_words
  | 40=>some v_r19_number
  | 41=>some v41u
  | 42=>some v_machine_in
  | 43=>some v43u
  | 44=>some v44u
  | 46=>some v46u
  | 47=>some v47u
  | 48=>some v48u
  | 49=>some v49u
  | 50=>some v50u
  | 51=>some v51u
  | 52=>some v_strings_genSplit
  | 53=>some v53u
  | 54=>some v54u
  | 55=>some v55u
  | 56=>some v56u
  | 57=>some v57u
  | 61=>some v61u
  | 63=>some v63u
  | 64=>some v64u
  | 65=>some v_strings_Count
  | 66=>some v_strings_Index
  | 67=>some v67u
  | 68=>some v68u
  | 69=>some v69u
  | 70=>some v70u
  | 71=>some v71u
  | 75=>some v75u
  | 76=>some v76u
  | 77=>some v77u
  | f=>fnOf1 f
theorem o_l19_MachineTexts : FK 4 v_l19_MachineTexts:=⟨⟨Go.Proofs.Tryd.f4,_,by kernel_rfl,rfl,by kernel_rfl,p_l19_MachineTexts⟩⟩
theorem o10u : FK 10 v10u:=⟨⟨Go.Proofs.Tryd.f10,_,by kernel_rfl,rfl,by kernel_rfl,p10u⟩⟩
theorem o11u : FK 11 v11u:=⟨⟨Go.Proofs.Tryd.f11,_,by kernel_rfl,rfl,by kernel_rfl,p11u⟩⟩
theorem o_r19_Check : FK 12 v_r19_Check:=⟨⟨Go.Proofs.Tryd.f12,_,by kernel_rfl,rfl,by kernel_rfl,p_r19_Check⟩⟩
theorem o14u : FK 14 v14u:=⟨⟨Go.Proofs.Tryd.f14,_,by kernel_rfl,rfl,by kernel_rfl,p14u⟩⟩
theorem o_machine_Text : FK 17 v_machine_Text:=⟨⟨Go.Proofs.Tryd.f17,_,by kernel_rfl,rfl,by kernel_rfl,p_machine_Text⟩⟩
theorem o_r19_Text : FK 18 v_r19_Text:=⟨⟨Go.Proofs.Tryd.f18,_,by kernel_rfl,rfl,by kernel_rfl,p_r19_Text⟩⟩
theorem o_machine_Parse : FK 19 v_machine_Parse:=⟨⟨Go.Proofs.Tryd.f19,_,by kernel_rfl,rfl,by kernel_rfl,p_machine_Parse⟩⟩
theorem o_r19_Parse : FK 20 v_r19_Parse:=⟨⟨Go.Proofs.Tryd.f20,_,by kernel_rfl,rfl,by kernel_rfl,p_r19_Parse⟩⟩
theorem o21u : FK 21 v21u:=⟨⟨Go.Proofs.Tryd.f21,_,by kernel_rfl,rfl,by kernel_rfl,p21u⟩⟩
theorem o23u : FK 23 v23u:=⟨⟨Go.Proofs.Tryd.f23,_,by kernel_rfl,rfl,by kernel_rfl,p23u⟩⟩
theorem o25u : FK 25 v25u:=⟨⟨Go.Proofs.Tryd.f25,_,by kernel_rfl,rfl,by kernel_rfl,p25u⟩⟩
theorem o_machine_Check : FK 27 v_machine_Check:=⟨⟨Go.Proofs.Tryd.f27,_,by kernel_rfl,rfl,by kernel_rfl,p_machine_Check⟩⟩
theorem o29u : FK 29 v29u:=⟨⟨Go.Proofs.Tryd.f29,_,by kernel_rfl,rfl,by kernel_rfl,p29u⟩⟩
theorem o30u : FK 30 v30u:=⟨⟨Go.Proofs.Tryd.f30,_,by kernel_rfl,rfl,by kernel_rfl,p30u⟩⟩
theorem o31u : FK 31 v31u:=⟨⟨Go.Proofs.Tryd.f31,_,by kernel_rfl,rfl,by kernel_rfl,p31u⟩⟩
theorem o32u : FK 32 v32u:=⟨⟨Go.Proofs.Tryd.f32,_,by kernel_rfl,rfl,by kernel_rfl,p32u⟩⟩
theorem o_machine_write : FK 34 v_machine_write:=⟨⟨Go.Proofs.Tryd.f34,_,by kernel_rfl,rfl,by kernel_rfl,p_machine_write⟩⟩
theorem o35u : FK 35 v35u:=⟨⟨Go.Proofs.Tryd.f35,_,by kernel_rfl,rfl,by kernel_rfl,p35u⟩⟩
theorem o_strings_Split : FK 36 v_strings_Split:=⟨⟨Go.Proofs.Tryd.f36,_,by kernel_rfl,rfl,by kernel_rfl,p_strings_Split⟩⟩
theorem o_machine_Parse_c1 : FK 37 v_machine_Parse_c1:=⟨⟨Go.Proofs.Tryd.f37,_,by kernel_rfl,rfl,by kernel_rfl,p_machine_Parse_c1⟩⟩
theorem o38u : FK 38 v38u:=⟨⟨Go.Proofs.Tryd.f38,_,by kernel_rfl,rfl,by kernel_rfl,p38u⟩⟩
theorem o_r19_words : FK 39 v_r19_words:=⟨⟨Go.Proofs.Tryd.f39,_,by kernel_rfl,rfl,by kernel_rfl,p_r19_words⟩⟩
theorem o_r19_number : FK 40 v_r19_number:=⟨⟨Go.Proofs.Tryd.f40,_,by kernel_rfl,rfl,by kernel_rfl,p_r19_number⟩⟩
theorem o41u : FK 41 v41u:=⟨⟨Go.Proofs.Tryd.f41,_,by kernel_rfl,rfl,by kernel_rfl,p41u⟩⟩
theorem o_machine_in : FK 42 v_machine_in:=⟨⟨Go.Proofs.Tryd.f42,_,by kernel_rfl,rfl,by kernel_rfl,p_machine_in⟩⟩
theorem o43u : FK 43 v43u:=⟨⟨Go.Proofs.Tryd.f43,_,by kernel_rfl,rfl,by kernel_rfl,p43u⟩⟩
theorem o44u : FK 44 v44u:=⟨⟨Go.Proofs.Tryd.f44,_,by kernel_rfl,rfl,by kernel_rfl,p44u⟩⟩
theorem o46u : FK 46 v46u:=⟨⟨Go.Proofs.Tryd.f46,_,by kernel_rfl,rfl,by kernel_rfl,p46u⟩⟩
theorem o47u : FK 47 v47u:=⟨⟨Go.Proofs.Tryd.f47,_,by kernel_rfl,rfl,by kernel_rfl,p47u⟩⟩
theorem o48u : FK 48 v48u:=⟨⟨Go.Proofs.Tryd.f48,_,by kernel_rfl,rfl,by kernel_rfl,p48u⟩⟩
theorem o49u : FK 49 v49u:=⟨⟨Go.Proofs.Tryd.f49,_,by kernel_rfl,rfl,by kernel_rfl,p49u⟩⟩
theorem o50u : FK 50 v50u:=⟨⟨Go.Proofs.Tryd.f50,_,by kernel_rfl,rfl,by kernel_rfl,p50u⟩⟩
theorem o51u : FK 51 v51u:=⟨⟨Go.Proofs.Tryd.f51,_,by kernel_rfl,rfl,by kernel_rfl,p51u⟩⟩
theorem o_strings_genSplit : FK 52 v_strings_genSplit:=⟨⟨Go.Proofs.Tryd.f52,_,by kernel_rfl,rfl,by kernel_rfl,p_strings_genSplit⟩⟩
theorem o53u : FK 53 v53u:=⟨⟨Go.Proofs.Tryd.f53,_,by kernel_rfl,rfl,by kernel_rfl,p53u⟩⟩
theorem o54u : FK 54 v54u:=⟨⟨Go.Proofs.Tryd.f54,_,by kernel_rfl,rfl,by kernel_rfl,p54u⟩⟩
theorem o55u : FK 55 v55u:=⟨⟨Go.Proofs.Tryd.f55,_,by kernel_rfl,rfl,by kernel_rfl,p55u⟩⟩
theorem o56u : FK 56 v56u:=⟨⟨Go.Proofs.Tryd.f56,_,by kernel_rfl,rfl,by kernel_rfl,p56u⟩⟩
theorem o57u : FK 57 v57u:=⟨⟨Go.Proofs.Tryd.f57,_,by kernel_rfl,rfl,by kernel_rfl,p57u⟩⟩
theorem o61u : FK 61 v61u:=⟨⟨Go.Proofs.Tryd.f61,_,by kernel_rfl,rfl,by kernel_rfl,p61u⟩⟩
theorem o63u : FK 63 v63u:=⟨⟨Go.Proofs.Tryd.f63,_,by kernel_rfl,rfl,by kernel_rfl,p63u⟩⟩
theorem o64u : FK 64 v64u:=⟨⟨Go.Proofs.Tryd.f64,_,by kernel_rfl,rfl,by kernel_rfl,p64u⟩⟩
theorem o_strings_Count : FK 65 v_strings_Count:=⟨⟨Go.Proofs.Tryd.f65,_,by kernel_rfl,rfl,by kernel_rfl,p_strings_Count⟩⟩
theorem o_strings_Index : FK 66 v_strings_Index:=⟨⟨Go.Proofs.Tryd.f66,_,by kernel_rfl,rfl,by kernel_rfl,p_strings_Index⟩⟩
theorem o67u : FK 67 v67u:=⟨⟨Go.Proofs.Tryd.f67,_,by kernel_rfl,rfl,by kernel_rfl,p67u⟩⟩
theorem o68u : FK 68 v68u:=⟨⟨Go.Proofs.Tryd.f68,_,by kernel_rfl,rfl,by kernel_rfl,p68u⟩⟩
theorem o69u : FK 69 v69u:=⟨⟨Go.Proofs.Tryd.f69,_,by kernel_rfl,rfl,by kernel_rfl,p69u⟩⟩
theorem o70u : FK 70 v70u:=⟨⟨Go.Proofs.Tryd.f70,_,by kernel_rfl,rfl,by kernel_rfl,p70u⟩⟩
theorem o71u : FK 71 v71u:=⟨⟨Go.Proofs.Tryd.f71,_,by kernel_rfl,rfl,by kernel_rfl,p71u⟩⟩
theorem o75u : FK 75 v75u:=⟨⟨Go.Proofs.Tryd.f75,_,by kernel_rfl,rfl,by kernel_rfl,p75u⟩⟩
theorem o76u : FK 76 v76u:=⟨⟨Go.Proofs.Tryd.f76,_,by kernel_rfl,rfl,by kernel_rfl,p76u⟩⟩
theorem o77u : FK 77 v77u:=⟨⟨Go.Proofs.Tryd.f77,_,by kernel_rfl,rfl,by kernel_rfl,p77u⟩⟩
theorem o78u : FK 78 v78u:=⟨⟨Go.Proofs.Tryd.f78,_,by kernel_rfl,rfl,by kernel_rfl,p78u⟩⟩
theorem o80u : FK 80 v80u:=⟨⟨Go.Proofs.Tryd.f80,_,by kernel_rfl,rfl,by kernel_rfl,p80u⟩⟩
theorem o_internal_stringslite_Index : FK 82 v_internal_stringslite_Index:=⟨⟨Go.Proofs.Tryd.f82,_,by kernel_rfl,rfl,by kernel_rfl,p_internal_stringslite_Index⟩⟩
theorem o83u : FK 83 v83u:=⟨⟨Go.Proofs.Tryd.f83,_,by kernel_rfl,rfl,by kernel_rfl,p83u⟩⟩
theorem o85u : FK 85 v85u:=⟨⟨Go.Proofs.Tryd.f85,_,by kernel_rfl,rfl,by kernel_rfl,p85u⟩⟩
theorem o88u : FK 88 v88u:=⟨⟨Go.Proofs.Tryd.f88,_,by kernel_rfl,rfl,by kernel_rfl,p88u⟩⟩
theorem o89u : FK 89 v89u:=⟨⟨Go.Proofs.Tryd.f89,_,by kernel_rfl,rfl,by kernel_rfl,p89u⟩⟩
theorem o90u : FK 90 v90u:=⟨⟨Go.Proofs.Tryd.f90,_,by kernel_rfl,rfl,by kernel_rfl,p90u⟩⟩
theorem o91u : FK 91 v91u:=⟨⟨Go.Proofs.Tryd.f91,_,by kernel_rfl,rfl,by kernel_rfl,p91u⟩⟩
theorem o92u : FK 92 v92u:=⟨⟨Go.Proofs.Tryd.f92,_,by kernel_rfl,rfl,by kernel_rfl,p92u⟩⟩
theorem o_internal_stringslite_IndexByte : FK 94 v_internal_stringslite_IndexByte:=⟨⟨Go.Proofs.Tryd.f94,_,by kernel_rfl,rfl,by kernel_rfl,p_internal_stringslite_IndexByte⟩⟩
theorem o96u : FK 96 v96u:=⟨⟨Go.Proofs.Tryd.f96,_,by kernel_rfl,rfl,by kernel_rfl,p96u⟩⟩
theorem o97u : FK 97 v97u:=⟨⟨Go.Proofs.Tryd.f97,_,by kernel_rfl,rfl,by kernel_rfl,p97u⟩⟩
theorem o98u : FK 98 v98u:=⟨⟨Go.Proofs.Tryd.f98,_,by kernel_rfl,rfl,by kernel_rfl,p98u⟩⟩
theorem o99u : FK 99 v99u:=⟨⟨Go.Proofs.Tryd.f99,_,by kernel_rfl,rfl,by kernel_rfl,p99u⟩⟩
theorem o103u : FK 103 v103u:=⟨⟨Go.Proofs.Tryd.f103,_,by kernel_rfl,rfl,by kernel_rfl,p103u⟩⟩
theorem fn_ok1 (f : FuncId) (fn : VFun) (h : fnOf1 f = some fn) : FunOk Go.Proofs.Tryd.prog [0,3,4,1,2] f fn:=by
  unfold fnOf1 at h
  split at h
  · cases h; exact o78u
  · cases h; exact o80u
  · cases h; exact o_internal_stringslite_Index
  · cases h; exact o83u
  · cases h; exact o85u
  · cases h; exact o88u
  · cases h; exact o89u
  · cases h; exact o90u
  · cases h; exact o91u
  · cases h; exact o92u
  · cases h; exact o_internal_stringslite_IndexByte
  · cases h; exact o96u
  · cases h; exact o97u
  · cases h; exact o98u
  · cases h; exact o99u
  · cases h; exact o103u
  · cases h
theorem fn_ok (f : FuncId) (fn : VFun) (h : fnOf f = some fn) : FunOk Go.Proofs.Tryd.prog [0,3,4,1,2] f fn:=by
  unfold fnOf at h
  split at h
  · cases h; exact o_l19_MachineTexts
  · cases h; exact o10u
  · cases h; exact o11u
  · cases h; exact o_r19_Check
  · cases h; exact o14u
  · cases h; exact o_machine_Text
  · cases h; exact o_r19_Text
  · cases h; exact o_machine_Parse
  · cases h; exact o_r19_Parse
  · cases h; exact o21u
  · cases h; exact o23u
  · cases h; exact o25u
  · cases h; exact o_machine_Check
  · cases h; exact o29u
  · cases h; exact o30u
  · cases h; exact o31u
  · cases h; exact o32u
  · cases h; exact o_machine_write
  · cases h; exact o35u
  · cases h; exact o_strings_Split
  · cases h; exact o_machine_Parse_c1
  · cases h; exact o38u
  · cases h; exact o_r19_words
  · cases h; exact o_r19_number
  · cases h; exact o41u
  · cases h; exact o_machine_in
  · cases h; exact o43u
  · cases h; exact o44u
  · cases h; exact o46u
  · cases h; exact o47u
  · cases h; exact o48u
  · cases h; exact o49u
  · cases h; exact o50u
  · cases h; exact o51u
  · cases h; exact o_strings_genSplit
  · cases h; exact o53u
  · cases h; exact o54u
  · cases h; exact o55u
  · cases h; exact o56u
  · cases h; exact o57u
  · cases h; exact o61u
  · cases h; exact o63u
  · cases h; exact o64u
  · cases h; exact o_strings_Count
  · cases h; exact o_strings_Index
  · cases h; exact o67u
  · cases h; exact o68u
  · cases h; exact o69u
  · cases h; exact o70u
  · cases h; exact o71u
  · cases h; exact o75u
  · cases h; exact o76u
  · cases h; exact o77u
  · exact fn_ok1 _ fn h
structure On (X : Cx) : Prop where
  F : X.F = fnOf
  P : X.P = Go.Proofs.Tryd.prog
end Go.VX.Seat
end
section
namespace Go.VX.Seat
def oneK (k : Int) : Bool:=decide (1≤k) && decide (k≤25)
def hasDst (k : Int) : Bool:=decide (k≠17) && decide (k≠19) && decide (k≠20) && decide (k≠21) && decide (k≠22)
def hasA (k : Int) : Bool:=decide (k≠1) && decide (k≠18)
def hasB (k : Int) : Bool:=decide (3≤k) && decide (k≤15) || decide (k = 17) || decide (k = 23) || decide (k = 24)
def hasC (k : Int) : Bool:=decide (k = 12)
def arrK (k : Int) : Bool:=decide (k = 16) || decide (k = 17) || decide (k = 25)
def cellK (k : Int) : Bool:=decide (k = 18) || decide (k = 19)
section
variable {X : Cx} {st : St}
end
end Go.VX.Seat
end
section
set_option maxRecDepth 4000
namespace Go.VX.Seat
open Go.Proofs
structure OpV where
  k : Int
  d : Int
  a : Int
  b : Int
  c : Int
  n : Int
  g : Int
  deriving DecidableEq
structure EndV where
  k : Int
  a : Int
  t : Int
  e : Int
  deriving DecidableEq
structure BlkV where
  ops : List OpV
  e : EndV
  catch_ : Int
  deriving DecidableEq
structure UnitV where
  sizes : List Int
  params : Int
  regs : Int
  code : Int
  spill : Int
  blocks : List BlkV
  deriving DecidableEq
def OpV.row (o : OpV) : List AV:=[iA o.k,iA o.d,iA o.a,iA o.b,iA o.c,iA o.n,iA o.g]
def BlkV.row (b : BlkV) (v : AV) : List AV:=[v,iA b.e.k,iA b.e.a,iA b.e.t,iA b.e.e,iA b.catch_]
abbrev OpsAt (st : St) (lo hi : Nat) (v : AV) (l : List OpV) : Prop:=ArrAt st lo hi v 7 (l.map OpV.row)
abbrev IntsAt (st : St) (lo hi : Nat) (v : AV) (l : List Int) : Prop:=ArrAt st lo hi v 1 (l.map fun n=>[iA n])
def BlksAt (st : St) (lo hi : Nat) (v : AV) (l : List BlkV) : Prop:=∃ f : Nat→AV,ArrAt st lo hi v 6 (l.mapIdx fun i b=>b.row (f i))∧∀ i (h : i < l.length),OpsAt st lo hi (f i) l[i].ops
def UnitAt (st : St) (lo hi : Nat) (v : AV) (u : UnitV) : Prop:=∃ s bl,v = .agg [s,iA u.params,iA u.regs,iA u.code,iA u.spill,bl]∧IntsAt st lo hi s u.sizes∧BlksAt st lo hi bl u.blocks
section
variable {X : Cx} {st : St}
end
end Go.VX.Seat
end
section
set_option maxRecDepth 4000
namespace Go.VX.Seat
open Go.Proofs
theorem BlksAt.mono {st : St} {lo hi : Nat} {v : AV} {l : List BlkV} (h : BlksAt st lo hi v l) (m : St) : BlksAt (st++m) lo hi v l :=
  let ⟨f,h1,h2⟩:=h; ⟨f,h1.mono m,fun i hi=>(h2 i hi).mono m⟩
theorem UnitAt.mono {st : St} {lo hi : Nat} {v : AV} {U : UnitV} (h : UnitAt st lo hi v U) (m : St) : UnitAt (st++m) lo hi v U :=
  let ⟨s,bl,h1,h2,h3⟩:=h; ⟨s,bl,h1,h2.mono m,h3.mono m⟩
theorem BlksAt.ext {st s : St} {lo hi : Nat} {v : AV} {l : List BlkV} (h : BlksAt st lo hi v l) (he : Ext st s) : BlksAt s lo hi v l:=by obtain ⟨L,rfl⟩:=he; exact h.mono L
theorem UnitAt.ext {st s : St} {lo hi : Nat} {v : AV} {U : UnitV} (h : UnitAt st lo hi v U) (he : Ext st s) : UnitAt s lo hi v U:=by obtain ⟨L,rfl⟩:=he; exact h.mono L
theorem isCell_len {v : AV} {n : Nat} (h : lenA v = some n) : AV.isCell v = true:=by
  unfold lenA at h
  split at h
  · rfl
  · rfl
  · cases h
section
variable {X : Cx} {st : St}
end
end Go.VX.Seat
end
section
set_option maxRecDepth 4000
namespace Go.VX.Seat
open Go.Proofs
def usesL : List Int:=[17,3,7,7,7,7,7,7,7,7,7,15,7,7,7,35,38,65,66,2,130,2,7,7,35]
def formCells : List AV:=[iA 17,iA 0,.sc (.string ⟨#[99,111,110,115,116]⟩),iA 3,iA 0,.sc (.string ⟨#[109,111,118,101]⟩),iA 7,iA 0,.sc (.string ⟨#[97,100,100]⟩),iA 7,iA 0,.sc (.string ⟨#[115,117,98]⟩),iA 7,iA 0,.sc (.string ⟨#[97,110,100]⟩),iA 7,iA 0,.sc (.string ⟨#[111,114]⟩),iA 7,iA 0,.sc (.string ⟨#[120,111,114]⟩),iA 7,iA 0,.sc (.string ⟨#[115,104,108]⟩),iA 7,iA 0,.sc (.string ⟨#[115,104,114]⟩),iA 7,iA 0,.sc (.string ⟨#[108,101,115,115]⟩),iA 7,iA 0,.sc (.string ⟨#[101,113,117,97,108]⟩),iA 15,iA 0,.sc (.string ⟨#[112,105,99,107]⟩),iA 7,iA 1,.sc (.string ⟨#[109,117,108]⟩),iA 7,iA 1,.sc (.string ⟨#[100,105,118]⟩),iA 7,iA 1,.sc (.string ⟨#[114,101,109]⟩),iA 35,iA 2,.sc (.string ⟨#[108,111,97,100]⟩),iA 38,iA 2,.sc (.string ⟨#[115,116,111,114,101]⟩),iA 65,iA 2,.sc (.string ⟨#[102,101,116,99,104]⟩),iA 66,iA 2,.sc (.string ⟨#[107,101,101,112]⟩),iA 2,iA 3,.sc (.string ⟨#[112,114,105,110,116]⟩),iA 130,iA 3,.sc (.string ⟨#[101,120,105,116]⟩),iA 2,iA 3,.sc (.string ⟨#[99,104,101,99,107]⟩),iA 7,iA 1,.sc (.string ⟨#[100,105,118,115]⟩),iA 7,iA 1,.sc (.string ⟨#[114,101,109,115]⟩),iA 35,iA 2,.sc (.string ⟨#[108,111,97,100,115]⟩)]
def usesK (k : Int) : Int:=if oneK k then usesL.getD (k - 1).toNat 0 else 0
def GlobAt (st : St) : Prop:=BoxAt st 0 formCells
section
variable {X : Cx} {st : St}
end
end Go.VX.Seat
end
section
set_option maxRecDepth 4000
namespace Go.VX.Seat
open Go.Proofs
def andI (a b : Int) : Int:=IntKind.i64.wrap ((BitVec.ofInt 64 a &&& BitVec.ofInt 64 b).toNat : Int)
def bitsOk (k : Int) : Bool :=
  (decide (andI (usesK k) 1≠0) == hasDst k) && (decide (andI (usesK k) 2≠0) == hasA k) && (decide (andI (usesK k) 4≠0) == hasB k) && (decide (andI (usesK k) 8≠0) == hasC k) &&
  (decide (andI (usesK k) 32≠0) == arrK k) && (decide (andI (usesK k) 64≠0) == cellK k) && (decide (andI (usesK k) 128≠0) == decide (k = 21)) && (decide (andI (usesK k) 16≠0) == decide (k = 1))
theorem bits_all : ∀ j : Fin 25,bitsOk ((j.val : Int) + 1) = true:=by decide +kernel
theorem bits {k : Int} (h : oneK k = true) : decide (andI (usesK k) 1≠0) = hasDst k∧decide (andI (usesK k) 2≠0) = hasA k∧decide (andI (usesK k) 4≠0) = hasB k∧decide (andI (usesK k) 8≠0) = hasC k ∧
    decide (andI (usesK k) 32≠0) = arrK k∧decide (andI (usesK k) 64≠0) = cellK k∧decide (andI (usesK k) 128≠0) = decide (k = 21)∧decide (andI (usesK k) 16≠0) = decide (k = 1):=by
  have hk : 1≤k∧k≤25:=by
    unfold oneK at h
    simp at h
    exact h
  have:=bits_all ⟨(k - 1).toNat,by omega⟩
  simp only at this
  rw [show (((k - 1).toNat : Nat) : Int) + 1 = k by omega] at this
  unfold bitsOk at this
  simp only [Bool.and_eq_true,beq_iff_eq] at this
  obtain ⟨⟨⟨⟨⟨⟨⟨a1,a2⟩,a3⟩,a4⟩,a5⟩,a6⟩,a7⟩,a8⟩:=this
  exact ⟨a1,a2,a3,a4,a5,a6,a7,a8⟩
section
variable {X : Cx} {st : St}
end
end Go.VX.Seat
end
section
set_option maxRecDepth 4000
namespace Go.VX.Seat
open Go.Proofs
theorem BoxAt.head (st : St) (cs : List AV) (v : Nat) (L : St) : BoxAt (st++(⟨cs,0,v⟩ :: L)) (st.length + 0) cs:=BoxAt.of (m:=0) (v:=v) (by simp) (by decide)
theorem BoxAt.first (cs : List AV) (v : Nat) (L : St) : BoxAt (⟨cs,0,v⟩ :: L) 0 cs:=BoxAt.of (m:=0) (v:=v) (by simp) (by decide)
section
variable {X : Cx}
end
end Go.VX.Seat
end
section
set_option maxRecDepth 4000
namespace Go.VX.Seat
open Go.Proofs
def AppOk (s : St) (w : AV) : Prop:=∀ b o n e full,w = .sl b o n e full→full = true∨((s[b]?).map (·.mode)) = some 0
structure OwnS (s : St) (lo : Nat) (w : AV) (esz : Nat) (rows : List (List AV)) : Prop where
  arr : ArrAt s lo s.length w esz rows
  bnd : ∀ b,boxOf w = some b→lo≤b∧b < s.length
  app : AppOk s w
def ExactBox (s : St) (w : AV) (esz : Nat) (rows : List (List AV)) : Prop:=rows≠[]→∃ b full ver,w = .sl b 0 rows.length esz full∧s[b]? = some ⟨rows.flatten,0,ver⟩
theorem nil_or_sl {v : AV} {n : Nat} (h : lenA v = some n) : (v = .sc (.slice none 0 0)∧n = 0)∨∃ b o e f,v = .sl b o n e f:=by
  unfold lenA at h
  split at h
  · cases h; exact .inr ⟨_,_,_,_,rfl⟩
  · cases h; exact .inl ⟨rfl,rfl⟩
  · cases h
theorem emptyArr (st : St) (lo hi esz : Nat) : ArrAt st lo hi (.sc (.slice none 0 0)) esz [] where
  len:=rfl
  size:=fun b o len e f h=>by cases h
  row:=fun i h=>absurd h (by simp)
theorem _root_.Go.VX.ArrAt.wide' {st : St} {lo hi lo' hi' : Nat} {v : AV} {esz : Nat} {rows : List (List AV)} (h : ArrAt st lo hi v esz rows) (h1 : lo'≤lo) (h2 : hi≤hi') : ArrAt st lo' hi' v esz rows where
  len:=h.len
  size:=h.size
  row:=fun i hi=>by
    obtain ⟨b,o,a1,a2,a3,a4⟩:=h.row i hi
    exact ⟨b,o,a1,by omega,by omega,a4⟩
theorem _root_.Go.VX.ArrAt.wide {st : St} {lo hi hi' : Nat} {v : AV} {esz : Nat} {rows : List (List AV)} (h : ArrAt st lo hi v esz rows) (h2 : hi≤hi') : ArrAt st lo hi' v esz rows:=h.wide' (Nat.le_refl _) h2
theorem own_nil (s : St) (lo esz : Nat) : OwnS s lo (.sc (.slice none 0 0)) esz []:=⟨emptyArr _ _ _ _,fun b h=>(by cases h),fun b o n e full h=>(by cases h)⟩
section
variable {X : Cx} {st : St}
end
end Go.VX.Seat
end
section
set_option maxRecDepth 4000
namespace Go.VX.Seat
open Go.Proofs
theorem OwnS.agree {X : Nat→Prop} {s s' : St} {lo esz : Nat} {w : AV} {rows : List (List AV)} (h : OwnS s lo w esz rows) (ha : Agree X s s') (hx : ∀ b,boxOf w = some b→¬ X b) : OwnS s' lo w esz rows where
  arr:=(h.arr.agree ha hx).wide ha.len
  bnd:=fun b hb=>⟨(h.bnd b hb).1,Nat.lt_of_lt_of_le (h.bnd b hb).2 ha.len⟩
  app:=fun b o n e full hw=>by
    have hb : boxOf w = some b:=by rw [hw]; rfl
    rcases h.app b o n e full hw with h1 | h1
    · exact .inl h1
    · exact .inr (by rw [ha.eq b (h.bnd b hb).2 (hx b hb)]; exact h1)
theorem ExactBox.agree {X : Nat→Prop} {s s' : St} {esz : Nat} {w : AV} {rows : List (List AV)} (h : ExactBox s w esz rows) (ha : Agree X s s') (hx : ∀ b,boxOf w = some b→¬ X b) : ExactBox s' w esz rows:=fun hne=>by
  obtain ⟨b,full,ver,rfl,hb⟩:=h hne
  exact ⟨b,full,ver,rfl,by rw [ha.eq b (List.getElem?_eq_some_iff.1 hb).1 (hx b rfl)]; exact hb⟩
def blkRows (l : List BlkV) (f : Nat→AV) : List (List AV):=l.mapIdx fun i b=>b.row (f i)
structure OwnB (s : St) (lo : Nat) (bl : AV) (f : Nat→AV) (l : List BlkV) : Prop where
  own : OwnS s lo bl 6 (blkRows l f)
  box : ExactBox s bl 6 (blkRows l f)
  ops : ∀ i (h : i < l.length),OwnS s lo (f i) 7 (l[i].ops.map OpV.row)
  sep1 : ∀ i,i < l.length→∀ b,boxOf bl = some b→boxOf (f i)≠some b
  sep2 : ∀ i j,i < l.length→j < l.length→i≠j→∀ b,boxOf (f i) = some b→boxOf (f j)≠some b
structure OwnZ (s : St) (lo : Nat) (sz bl : AV) (f : Nat→AV) (zs : List Int) (l : List BlkV) : Prop where
  own : OwnS s lo sz 1 (zs.map fun n=>[iA n])
  sep : ∀ b,boxOf sz = some b→boxOf bl≠some b∧∀ i,i < l.length→boxOf (f i)≠some b
structure OwnU (s : St) (lo : Nat) (v : AV) (U : UnitV) : Prop where
  ex : ∃ sz bl f,v = .agg [sz,iA U.params,iA U.regs,iA U.code,iA U.spill,bl]∧OwnZ s lo sz bl f U.sizes U.blocks∧OwnB s lo bl f U.blocks
theorem OwnB.agree {X : Nat→Prop} {s s' : St} {lo : Nat} {bl : AV} {f : Nat→AV} {l : List BlkV} (h : OwnB s lo bl f l) (ha : Agree X s s') (hx : ∀ b,lo≤b→b < s.length→¬ X b) : OwnB s' lo bl f l where
  own:=h.own.agree ha fun b hb=>hx b (h.own.bnd b hb).1 (h.own.bnd b hb).2
  box:=h.box.agree ha fun b hb=>hx b (h.own.bnd b hb).1 (h.own.bnd b hb).2
  ops:=fun i hi=>(h.ops i hi).agree ha fun b hb=>hx b ((h.ops i hi).bnd b hb).1 ((h.ops i hi).bnd b hb).2
  sep1:=h.sep1
  sep2:=h.sep2
theorem OwnZ.agree {X : Nat→Prop} {s s' : St} {lo : Nat} {sz bl : AV} {f : Nat→AV} {zs : List Int} {l : List BlkV} (h : OwnZ s lo sz bl f zs l) (ha : Agree X s s') (hx : ∀ b,lo≤b→b < s.length→¬ X b) : OwnZ s' lo sz bl f zs l where
  own:=h.own.agree ha fun b hb=>hx b (h.own.bnd b hb).1 (h.own.bnd b hb).2
  sep:=h.sep
theorem OwnU.agree {X : Nat→Prop} {s s' : St} {lo : Nat} {v : AV} {U : UnitV} (h : OwnU s lo v U) (ha : Agree X s s') (hx : ∀ b,lo≤b→b < s.length→¬ X b) : OwnU s' lo v U :=
  let ⟨sz,bl,f,e,hz,hb⟩:=h.ex
  ⟨sz,bl,f,e,hz.agree ha hx,hb.agree ha hx⟩
theorem OwnB.blks {s : St} {lo : Nat} {bl : AV} {f : Nat→AV} {l : List BlkV} (h : OwnB s lo bl f l) : BlksAt s lo s.length bl l:=⟨f,h.own.arr,fun i hi=>(h.ops i hi).arr⟩
theorem OwnU.unit {s : St} {lo : Nat} {v : AV} {U : UnitV} (h : OwnU s lo v U) : UnitAt s lo s.length v U :=
  let ⟨sz,bl,f,e,hz,hb⟩:=h.ex
  ⟨sz,bl,e,hz.own.arr,hb.blks⟩
theorem srcCells_arr {s : St} {lo hi esz : Nat} {v : AV} {rows : List (List AV)} (h : ArrAt s lo hi v esz rows) : srcCells s esz rows.length v = some rows.flatten:=by
  by_cases hr : rows = []
  · subst hr
    have hl:=h.len
    rcases nil_or_sl hl with ⟨rfl,_⟩ | ⟨b,o,e,f,rfl⟩
    · rfl
    · obtain ⟨h1,h2⟩:=h.size _ _ _ _ _ rfl
      subst h1
      simp only [srcCells,List.length_nil,Nat.le_refl,true_and,if_true,Nat.zero_mul,h2,List.flatten_nil]
  · exact h.src hr
theorem append_own {P : Program} {env : Env} {s : St} {lo lo' hi' esz bytes : Nat} {x y : VOpd} {rows rows2 : List (List AV)} (hx : OwnS s lo (x.ev env) esz rows) (hlo : lo≤s.length) (hy : ArrAt s lo' hi' (y.ev env) esz rows2)
    (hsz : (rows.length + rows2.length) * (bytes + 1)≤1000000000) (hc : rows2.flatten.all AV.isCell = true) :
    ∃ w s',vop P (.append esz bytes x y) env s = some (.val w,s')∧Agree (fun b=>rows2≠[]∧boxOf (x.ev env) = some b) s s'∧OwnS s' lo w esz (rows++rows2) ∧
      ((rows2 = []∧w = x.ev env∧s' = s)∨(rows2≠[]∧boxOf w = some s.length∧ExactBox s' w esz (rows++rows2))):=by
  have l1:=hx.arr.len
  have l2:=hy.len
  have q1:=srcLen_len l1
  have q2:=srcLen_len l2
  have q3:=srcCells_arr hx.arr
  have q4:=srcCells_arr hy
  have hrl : ∀ r ∈ rows++rows2,r.length = esz:=fun r hr=>by
    rcases List.mem_append.1 hr with hr | hr
    · exact hx.arr.rowlen r hr
    · exact hy.rowlen r hr
  have key : ∀ (s1 : St) (X : Nat→Prop),s1.length = s.length→Agree X s s1→(∀ b,X b→boxOf (x.ev env) = some b)→rows2≠[]→vop P (.append esz bytes x y) env s = some (.val (.sl s.length 0 (rows.length + rows2.length) esz false),s1++[⟨rows.flatten++rows2.flatten,0,0⟩]) →
      ∃ w s',vop P (.append esz bytes x y) env s = some (.val w,s')∧Agree (fun b=>rows2≠[]∧boxOf (x.ev env) = some b) s s'∧OwnS s' lo w esz (rows++rows2) ∧
      ((rows2 = []∧w = x.ev env∧s' = s)∨(rows2≠[]∧boxOf w = some s.length∧ExactBox s' w esz (rows++rows2))):=by
    intro s1 X hl1 ha hX hne hv
    have hb : (s1++[⟨rows.flatten++rows2.flatten,0,0⟩])[s.length]? = some ⟨(rows++rows2).flatten,0,0⟩:=by
      rw [List.getElem?_append_right (by omega),hl1]; simp
    refine ⟨_,_,hv,?_,⟨(ArrAt.ofBox hb (by decide) hrl (by simp)).wide' hlo (by simp [hl1]),fun b h=>?_,fun b o n e full h=>?_⟩,.inr ⟨hne,rfl,fun _=>⟨_,_,_,by rw [List.length_append],hb⟩⟩⟩
    · have:=ha.trans (Agree.app (fun _=>False) s1 [⟨rows.flatten++rows2.flatten,0,0⟩])
      exact this.mono fun n _ h=>by
        rcases h with h | h
        · exact ⟨hne,hX n h⟩
        · exact h.elim
    · cases h
      simp [hl1]
      exact hlo
    · cases h
      exact .inr (by rw [hb]; rfl)
  rcases nil_or_sl l1 with ⟨he,h0⟩ | ⟨b,o,e,f,he⟩
  · have hr : rows = []:=List.length_eq_zero_iff.1 h0
    subst hr
    by_cases hne : rows2 = []
    · subst hne
      refine ⟨_,s,?_,Agree.refl _ _,by simpa using hx,.inl ⟨rfl,rfl,rfl⟩⟩
      simp only [List.length_nil] at q1 q2 q3 q4
      rw [he] at q1 q3 ⊢
      simp only [vop,he,q1,q2,q3,q4]
      rw [if_pos (by simp)]
      rfl
    · refine key s (fun _=>False) rfl (Agree.refl _ _) (fun _ h=>h.elim) hne ?_
      have hm : rows2.length≠0:=fun h=>hne (List.length_eq_zero_iff.1 h)
      simp only [List.length_nil] at q1 q3 hsz
      rw [he] at q1 q3
      simp only [vop,he,q1,q2,q3,q4]
      rw [if_pos (by simpa using hsz)]
      simp only [hm,if_false,List.length_nil,List.flatten_nil,List.nil_append]
  · have h1:=(hx.arr.size _ _ _ _ _ he).1
    subst h1
    by_cases hne : rows2 = []
    · subst hne
      refine ⟨_,s,?_,Agree.refl _ _,by simpa using hx,.inl ⟨rfl,rfl,rfl⟩⟩
      simp only [List.length_nil] at q2 q4
      rw [he] at q1 q3 ⊢
      simp only [vop,he,q1,q2,q3,q4]
      rw [if_pos (by simpa using hsz)]
      rfl
    · have hm : rows2.length≠0:=fun h=>hne (List.length_eq_zero_iff.1 h)
      rw [he] at q1 q3
      cases f with
      | true =>
        refine key s (fun _=>False) rfl (Agree.refl _ _) (fun _ h=>h.elim) hne ?_
        simp only [vop,he,q1,q2,q3,q4]
        rw [if_pos hsz]
        simp only [hm,if_false,if_true]
      | false =>
        have hm0 : ((s[b]?).map (·.mode)) = some 0:=by
          rcases hx.app _ _ _ _ _ he with h | h
          · cases h
          · exact h
        refine key (s.kill b) (fun n=>n = b) ?_ (Agree.kill s b) (fun n hn=>by rw [he,hn]; rfl) hne ?_
        · unfold St.kill
          split<;>simp
        · simp only [vop,he,q1,q2,q3,q4]
          rw [if_pos hsz]
          simp only [hm,if_false,Bool.false_eq_true]
          rw [if_pos ⟨hm0,hc⟩]
theorem opR_append {X : Cx} {K : Env→St→Post3→Prop} {Q : Post3} {d : Option Nat} {k : List VOpd} {env : Env} {s : St} {lo lo' hi' esz bytes : Nat} {x y : VOpd} {rows rows2 : List (List AV)} {vx vy : AV} (ex : x.ev env = vx) (ey : y.ev env = vy) (hx : OwnS s lo vx esz rows) (hlo : lo≤s.length) (hy : ArrAt s lo' hi' vy esz rows2)
    (hsz : (rows.length + rows2.length) * (bytes + 1)≤1000000000) (hc : rows2.flatten.all AV.isCell = true)
    (h : ∀ w s',Agree (fun b=>rows2≠[]∧boxOf vx = some b) s s'→OwnS s' lo w esz (rows++rows2)→((rows2 = []∧w = vx∧s' = s)∨(rows2≠[]∧boxOf w = some s.length∧ExactBox s' w esz (rows++rows2))) →
      keptA env s s' k = true∧K (env.put d w) s' Q) : opR X K d k env s Q (vop X.P (.append esz bytes x y) env s):=by
  subst ex; subst ey
  obtain ⟨w,s',hv,h1,h2,h3⟩:=append_own (P:=X.P) hx hlo hy hsz hc
  rw [hv]
  exact h w s' h1 h2 h3
theorem opR_pre {X : Cx} {K : Env→St→Post3→Prop} {Q : Post3} {d : Option Nat} {k : List VOpd} {env : Env} {s : St} {lo hi esz n : Nat} {x y : VOpd} {rows : List (List AV)} {vx : AV} (ex : x.ev env = vx) (ey : asNat? (y.ev env) = some n) (hx : ArrAt s lo hi vx esz rows) (hn : n≤rows.length)
    (h : ∀ w,ArrAt s lo hi w esz (rows.take n)→keptA env s s k = true∧K (env.put d w) s Q) : opR X K d k env s Q (vop X.P (.slice none esz x none (some y) none) env s):=by
  subst ex
  obtain ⟨w,hw,ha⟩:=hx.pre n hn
  rw [v_slice_pre X.P env s esz x y n ey,hw]
  exact h w ha
theorem wpF_go {X : Cx} {st : St} {f : FuncId} {fn : VFun} {args : List AV} {R : CRes→St→Prop} (hF : X.F f = some fn) (h : xC X fn.body (envOf args) (st++[]) (bodK fn.res R)) : wpF X f args st R:=by
  rw [List.append_nil] at h
  exact wpF_intro hF h
end Go.VX.Seat
end
section
namespace Go.VX
inductive Tr where
  | lf
  | nd (l : Tr) (v : AV) (r : Tr)
  deriving Inhabited
def Tr.get : Tr→Nat→AV
  | .lf,_=>undefA
  | .nd l v r,n=>bif Nat.beq n 0 then v else bif Nat.beq (n % 2) 1 then l.get (n / 2) else r.get (n / 2 - 1)
def Tr.put : Nat→Tr→Nat→AV→Tr
  | 0,t,_,_=>t
  | d + 1,.lf,n,v=>bif Nat.beq n 0 then .nd .lf v .lf else bif Nat.beq (n % 2) 1 then .nd (Tr.put d .lf (n / 2) v) undefA .lf else .nd .lf undefA (Tr.put d .lf (n / 2 - 1) v)
  | d + 1,.nd l x r,n,v=>bif Nat.beq n 0 then .nd l v r else bif Nat.beq (n % 2) 1 then .nd (l.put d (n / 2) v) x r else .nd l x (r.put d (n / 2 - 1) v)
theorem Tr.get_put : ∀ (d : Nat) (t : Tr) (n : Nat) (v : AV) (m : Nat),n + 1 < 2 ^ d→(Tr.put d t n v).get m = if m = n then v else t.get m
  | 0,t,n,v,m,h=>by simp at h
  | d + 1,.lf,n,v,m,h=>by
    have hp : 2 ^ (d + 1) = 2 * 2 ^ d:=by rw [Nat.pow_succ]; omega
    unfold Tr.put
    by_cases h0 : n = 0
    · subst h0
      have : Nat.beq 0 0 = true:=rfl
      simp only [this,cond_true,Tr.get]
      by_cases hm : m = 0
      · subst hm; simp
      · have : Nat.beq m 0 = false:=by cases hb : Nat.beq m 0 with | false=>rfl | true=>exact absurd (Nat.eq_of_beq_eq_true hb) hm
        simp [this,hm]
    · have hb0 : Nat.beq n 0 = false:=by cases hb : Nat.beq n 0 with | false=>rfl | true=>exact absurd (Nat.eq_of_beq_eq_true hb) h0
      simp only [hb0,cond_false]
      cases hb1 : Nat.beq (n % 2) 1 with
      | true =>
        have h1:=Nat.eq_of_beq_eq_true hb1
        simp only [cond_true,Tr.get]
        by_cases hm : m = 0
        · subst hm
          have : Nat.beq 0 0 = true:=rfl
          simp only [this,cond_true]
          rw [if_neg (by omega)]
        · have hm0 : Nat.beq m 0 = false:=by cases hb : Nat.beq m 0 with | false=>rfl | true=>exact absurd (Nat.eq_of_beq_eq_true hb) hm
          simp only [hm0,cond_false]
          cases hb2 : Nat.beq (m % 2) 1 with
          | true =>
            have h2:=Nat.eq_of_beq_eq_true hb2
            simp only [cond_true]
            rw [Tr.get_put d .lf (n / 2) v (m / 2) (by omega)]
            by_cases hmn : m = n
            · subst hmn; simp
            · rw [if_neg (by omega),if_neg hmn]; rfl
          | false =>
            have h2 : m % 2≠1:=fun e=>by rw [e] at hb2; cases hb2
            simp only [cond_false]
            rw [if_neg (by omega)]
      | false =>
        have h1 : n % 2≠1:=fun e=>by rw [e] at hb1; cases hb1
        simp only [cond_false,Tr.get]
        by_cases hm : m = 0
        · subst hm
          have : Nat.beq 0 0 = true:=rfl
          simp only [this,cond_true]
          rw [if_neg (by omega)]
        · have hm0 : Nat.beq m 0 = false:=by cases hb : Nat.beq m 0 with | false=>rfl | true=>exact absurd (Nat.eq_of_beq_eq_true hb) hm
          simp only [hm0,cond_false]
          cases hb2 : Nat.beq (m % 2) 1 with
          | true =>
            have h2:=Nat.eq_of_beq_eq_true hb2
            simp only [cond_true]
            rw [if_neg (by omega)]
          | false =>
            have h2 : m % 2≠1:=fun e=>by rw [e] at hb2; cases hb2
            simp only [cond_false]
            rw [Tr.get_put d .lf (n / 2 - 1) v (m / 2 - 1) (by omega)]
            by_cases hmn : m = n
            · subst hmn; simp
            · rw [if_neg (by omega),if_neg hmn]; rfl
  | d + 1,.nd l x r,n,v,m,h=>by
    have hp : 2 ^ (d + 1) = 2 * 2 ^ d:=by rw [Nat.pow_succ]; omega
    unfold Tr.put
    by_cases h0 : n = 0
    · subst h0
      have : Nat.beq 0 0 = true:=rfl
      simp only [this,cond_true,Tr.get]
      by_cases hm : m = 0
      · subst hm; simp
      · have : Nat.beq m 0 = false:=by cases hb : Nat.beq m 0 with | false=>rfl | true=>exact absurd (Nat.eq_of_beq_eq_true hb) hm
        simp [this,hm]
    · have hb0 : Nat.beq n 0 = false:=by cases hb : Nat.beq n 0 with | false=>rfl | true=>exact absurd (Nat.eq_of_beq_eq_true hb) h0
      simp only [hb0,cond_false]
      cases hb1 : Nat.beq (n % 2) 1 with
      | true =>
        have h1:=Nat.eq_of_beq_eq_true hb1
        simp only [cond_true,Tr.get]
        by_cases hm : m = 0
        · subst hm
          have : Nat.beq 0 0 = true:=rfl
          simp only [this,cond_true]
          rw [if_neg (by omega)]
        · have hm0 : Nat.beq m 0 = false:=by cases hb : Nat.beq m 0 with | false=>rfl | true=>exact absurd (Nat.eq_of_beq_eq_true hb) hm
          simp only [hm0,cond_false]
          cases hb2 : Nat.beq (m % 2) 1 with
          | true =>
            have h2:=Nat.eq_of_beq_eq_true hb2
            simp only [cond_true]
            rw [Tr.get_put d l (n / 2) v (m / 2) (by omega)]
            by_cases hmn : m = n
            · subst hmn; simp
            · rw [if_neg (by omega),if_neg hmn]
          | false =>
            have h2 : m % 2≠1:=fun e=>by rw [e] at hb2; cases hb2
            simp only [cond_false]
            rw [if_neg (by omega)]
      | false =>
        have h1 : n % 2≠1:=fun e=>by rw [e] at hb1; cases hb1
        simp only [cond_false,Tr.get]
        by_cases hm : m = 0
        · subst hm
          have : Nat.beq 0 0 = true:=rfl
          simp only [this,cond_true]
          rw [if_neg (by omega)]
        · have hm0 : Nat.beq m 0 = false:=by cases hb : Nat.beq m 0 with | false=>rfl | true=>exact absurd (Nat.eq_of_beq_eq_true hb) hm
          simp only [hm0,cond_false]
          cases hb2 : Nat.beq (m % 2) 1 with
          | true =>
            have h2:=Nat.eq_of_beq_eq_true hb2
            simp only [cond_true]
            rw [if_neg (by omega)]
          | false =>
            have h2 : m % 2≠1:=fun e=>by rw [e] at hb2; cases hb2
            simp only [cond_false]
            rw [Tr.get_put d r (n / 2 - 1) v (m / 2 - 1) (by omega)]
            by_cases hmn : m = n
            · subst hmn; simp
            · rw [if_neg (by omega),if_neg hmn]
def Tr.set (t : Tr) : Option Nat→AV→Option Tr
  | none,_=>some t
  | some d,v=>bif Nat.blt d 65535 then some (t.put 16 d v) else none
theorem Tr.set_ok {t t' : Tr} {d : Option Nat} {v : AV} (h : t.set d v = some t') : t'.get = Env.put t.get d v:=by
  cases d with
  | none=>simp [Tr.set] at h; subst h; rfl
  | some d =>
    cases hb : Nat.blt d 65535 with
    | false=>simp [Tr.set,hb] at h
    | true =>
      simp only [Tr.set,hb,cond_true,Option.some.injEq] at h
      subst h
      have : d < 65535:=Nat.lt_of_lt_of_le (Nat.lt_succ_self d) (Nat.le_of_ble_eq_true hb)
      funext m
      exact Tr.get_put 16 t d v m (by omega)
def trOf : Nat→Tr→List AV→Option Tr
  | _,t,[]=>some t
  | k,t,a :: r=>match t.set (some k) a with
    | some t'=>trOf (k + 1) t' r
    | none=>none
theorem trOf_ok : ∀ {l : List AV} {k : Nat} {t t' : Tr},trOf k t l = some t'→∀ m,t'.get m = if k≤m∧m < k + l.length then l.getD (m - k) undefA else t.get m
  | [],k,t,t',h,m=>by
    simp [trOf] at h; subst h
    rw [if_neg]
    rintro ⟨h1,h2⟩
    simp at h2
    omega
  | a :: r,k,t,t',h,m=>by
    unfold trOf at h
    split at h
    · rename_i t1 h1
      rw [trOf_ok h m,Tr.set_ok h1]
      simp only [List.length_cons,Env.put]
      by_cases hm : m = k
      · subst hm
        rw [if_neg (by omega),if_pos rfl,if_pos (by omega)]
        simp
      · by_cases h2 : k + 1≤m∧m < k + 1 + r.length
        · rw [if_pos h2,if_pos (by omega),show m - k = (m - (k + 1)) + 1 by omega]
          simp
        · rw [if_neg h2,if_neg hm,if_neg (by omega)]
    · cases h
theorem trOf_env {l : List AV} {t : Tr} (h : trOf 0 .lf l = some t) : t.get = envOf l:=by
  funext m
  rw [trOf_ok h m]
  unfold envOf
  by_cases hm : m < l.length
  · rw [if_pos (by omega)]; rfl
  · rw [if_neg (by omega),List.getD_eq_getElem?_getD,List.getElem?_eq_none (by omega)]; rfl
def keepsB : St→St→Bool
  | [],_=>true
  | _ :: _,[]=>false
  | x :: s,y :: s'=>Nat.beq x.ver y.ver && (Nat.beq x.mode y.mode && keepsB s s')
theorem keepsB_ok : ∀ {st st' : St},keepsB st st' = true→(∀ (b : Nat) (x : Box),st[b]? = some x→∃ y : Box,st'[b]? = some y∧(x.ver = y.ver→x.mode = y.mode→x = y))→st' = st++st'.drop st.length
  | [],st',_,_=>by simp
  | x :: s,[],h,_=>by cases h
  | x :: s,y :: s',h,he=>by
    simp only [keepsB,Bool.and_eq_true] at h
    obtain ⟨z,hz,hxy⟩:=he 0 x (by simp)
    simp at hz; subst hz
    have h1:=hxy (Nat.eq_of_beq_eq_true h.1) (Nat.eq_of_beq_eq_true h.2.1)
    have:=keepsB_ok h.2.2 (fun b z hb=>by simpa using he (b + 1) z (by simpa using hb))
    subst h1
    simp only [List.cons_append,List.length_cons,List.drop_succ_cons]
    rw [←this]
abbrev EvC:=VC→Tr→St→Option (VX × Tr × St)
abbrev EvF:=FuncId→List AV→St→Option (CRes × St)
def evO (P : Program) (call : EvF) : List VOper→Tr→St→Option (VX × Tr × St)
  | [],t,st=>some (.norm,t,st)
  | o :: l,t,st =>
    match wantedA t.get o.guard with
    | false=>match t.set o.dst undefA with
      | some t'=>evO P call l t' st
      | none=>none
    | true=>match vop P o.op t.get st with
      | some (.val v,st1)=>match keptA t.get st st1 o.keep with
        | true=>match t.set o.dst v with
          | some t'=>evO P call l t' st1
          | none=>none
        | false=>none
      | some (.skip,st1)=>match keptA t.get st st1 o.keep with
        | true=>match t.set o.dst undefA with
          | some t'=>evO P call l t' st1
          | none=>none
        | false=>none
      | some (.call f args,_)=>match call f args st with
        | some (.ret v,st1)=>match keptA t.get st st1 o.keep with
          | true=>match t.set o.dst v with
            | some t'=>evO P call l t' st1
            | none=>none
          | false=>none
        | some (.pan v,st1)=>some (.pan v,t,st1)
        | none=>none
      | some (.pan v,_)=>some (.pan v,t,st)
      | none=>none
def trim (r : CRes) (st st' : St) : CRes × St:=match r.flat && keepsB st st' with
  | true=>(r,st)
  | false=>(r,st')
def evF (F : FuncId→Option VFun) (rec : EvC) (f : FuncId) (args : List AV) (st : St) : Option (CRes × St) :=
  match F f with
  | some fn=>match trOf 0 .lf args with
    | some t=>match rec fn.body t st with
      | some (.norm,t',st')=>match resOf t'.get st' fn.res with
        | some vs=>some (trim (.ret (tupOf vs)) st st')
        | none=>none
      | some (.ret,t',st')=>match resOf t'.get st' fn.res with
        | some vs=>some (trim (.ret (tupOf vs)) st st')
        | none=>none
      | some (.pan v,_,st')=>some (.pan v,st')
      | _=>none
    | none=>none
  | none=>none
def evC (P : Program) (F : FuncId→Option VFun) (hk : EvF→EvF) : Nat→EvC
  | 0,_,_,_=>none
  | n + 1,.skip,t,st=>some (.norm,t,st)
  | n + 1,.reg l,t,st=>evO P (hk (evF F (evC P F hk n))) l t st
  | n + 1,.seq a b,t,st=>match evC P F hk n a t st with
    | some (.norm,t1,st1)=>evC P F hk n b t1 st1
    | r=>r
  | n + 1,.cond c a b,t,st=>match c.ev t.get with
    | .sc (.bool true)=>evC P F hk n a t st
    | .sc (.bool false)=>evC P F hk n b t st
    | _=>none
  | n + 1,.block id a,t,st=>match evC P F hk n a t st with
    | some (x,t1,st1)=>some (x.unblock id,t1,st1)
    | none=>none
  | n + 1,.loop a,t,st=>match evC P F hk n a t st with
    | some (.norm,t1,st1)=>evC P F hk n (.loop a) t1 st1
    | r=>r
  | n + 1,.exit id,t,st=>some (.exit id,t,st)
  | n + 1,.ret,t,st=>some (.ret,t,st)
section
variable {P : Program} {F : FuncId→Option VFun} {H : FuncId→List AV→St→CRes→St→Prop} {hk : EvF→EvF}
def CallOk (P : Program) (F : FuncId→Option VFun) (H : FuncId→List AV→St→CRes→St→Prop) (call : EvF) : Prop:=∀ f args st r st',call f args st = some (r,st')→J P F H (.call f args st r st')
def CodeOk (P : Program) (F : FuncId→Option VFun) (H : FuncId→List AV→St→CRes→St→Prop) (rec : EvC) : Prop:=∀ c t st x t' st',rec c t st = some (x,t',st')→J P F H (.code c t.get st x t'.get st')
theorem evO_ok {call : EvF} (hc : CallOk P F H call) : ∀ {l : List VOper} {t : Tr} {st : St} {x : VX} {t' : Tr} {st' : St},evO P call l t st = some (x,t',st')→J P F H (.ops l t.get st x t'.get st')
  | [],t,st,x,t',st',h=>by
    simp only [evO,Option.some.injEq,Prod.mk.injEq] at h
    obtain ⟨rfl,rfl,rfl⟩:=h
    exact .nil
  | o :: l,t,st,x,t',st',h=>by
    unfold evO at h
    split at h
    · rename_i hw
      split at h
      · rename_i t1 ht
        have:=evO_ok hc h
        rw [Tr.set_ok ht] at this
        exact .idle hw this
      · cases h
    · rename_i hw
      split at h
      · rename_i v st1 hv
        split at h
        · rename_i hk1
          split at h
          · rename_i t1 ht
            have:=evO_ok hc h
            rw [Tr.set_ok ht] at this
            exact .val hw hv hk1 this
          · cases h
        · cases h
      · rename_i st1 hv
        split at h
        · rename_i hk1
          split at h
          · rename_i t1 ht
            have:=evO_ok hc h
            rw [Tr.set_ok ht] at this
            exact .done hw hv hk1 this
          · cases h
        · cases h
      · rename_i f args st1 hv
        have e1:=vop_call_st hv
        subst e1
        split at h
        · rename_i v st2 hcall
          split at h
          · rename_i hk1
            split at h
            · rename_i t1 ht
              have:=evO_ok hc h
              rw [Tr.set_ok ht] at this
              exact .callR hw hv (hc _ _ _ _ _ hcall) hk1 this
            · cases h
          · cases h
        · rename_i v st2 hcall
          simp only [Option.some.injEq,Prod.mk.injEq] at h
          obtain ⟨rfl,rfl,rfl⟩:=h
          exact .callP hw hv (hc _ _ _ _ _ hcall)
        · cases h
      · rename_i v st1 hv
        have e1:=vop_pan_st hv
        subst e1
        simp only [Option.some.injEq,Prod.mk.injEq] at h
        obtain ⟨rfl,rfl,rfl⟩:=h
        exact .panic hw hv
      · cases h
theorem trim_ok (hE : ∀ f args st r st',H f args st r st'→Evo st st') {f : FuncId} {args : List AV} {st st' st2 : St} {r r' : CRes} (h : J P F H (.call f args st r st')) (ht : trim r st st' = (r',st2)) : J P F H (.call f args st r' st2):=by
  unfold trim at ht
  split at ht
  · rename_i hb
    simp only [Bool.and_eq_true] at hb
    cases ht
    have he:=J_evo hE h
    have:=keepsB_ok hb.2 (fun b x hx=>let ⟨y,h1,_,_,h4⟩:=he b x hx; ⟨y,h1,h4⟩)
    rw [this] at h
    exact .forget h hb.1
  · cases ht; exact h
theorem evF_ok (hE : ∀ f args st r st',H f args st r st'→Evo st st') {rec : EvC} (hr : CodeOk P F H rec) : CallOk P F H (evF F rec):=by
  intro f args st r st' h
  unfold evF at h
  split at h
  · rename_i fn hF
    split at h
    · rename_i t ht
      have he:=trOf_env ht
      split at h
      · rename_i t1 st1 hb
        split at h
        · rename_i vs hvs
          simp only [Option.some.injEq] at h
          have j:=hr _ _ _ _ _ _ hb
          rw [he] at j
          exact trim_ok hE (.call hF j (.inl rfl) hvs) h
        · cases h
      · rename_i t1 st1 hb
        split at h
        · rename_i vs hvs
          simp only [Option.some.injEq] at h
          have j:=hr _ _ _ _ _ _ hb
          rw [he] at j
          exact trim_ok hE (.call hF j (.inr rfl) hvs) h
        · cases h
      · rename_i v t1 st1 hb
        simp only [Option.some.injEq,Prod.mk.injEq] at h
        obtain ⟨rfl,rfl⟩:=h
        have j:=hr _ _ _ _ _ _ hb
        rw [he] at j
        exact .callX hF j
      · cases h
    · cases h
  · cases h
theorem evC_ok (hE : ∀ f args st r st',H f args st r st'→Evo st st') (hh : ∀ call,CallOk P F H call→CallOk P F H (hk call)) : ∀ n,CodeOk P F H (evC P F hk n)
  | 0=>fun c t st x t' st' h=>by simp [evC] at h
  | n + 1=>fun c t st x t' st' h=>by
    have ih:=evC_ok hE hh n
    cases c with
    | skip=>simp only [evC,Option.some.injEq,Prod.mk.injEq] at h; obtain ⟨rfl,rfl,rfl⟩:=h; exact .skip
    | reg l=>exact .reg (evO_ok (hh _ (evF_ok hE ih)) h)
    | seq a b =>
      simp only [evC] at h
      split at h
      · rename_i t1 st1 ha
        exact .seqN (ih _ _ _ _ _ _ ha) (ih _ _ _ _ _ _ h)
      · rename_i hno
        refine .seqX (ih _ _ _ _ _ _ h) ?_
        rintro rfl
        exact hno _ _ h
    | cond c a b =>
      simp only [evC] at h
      split at h
      · rename_i hc
        exact .cond (t:=true) hc (ih _ _ _ _ _ _ h)
      · rename_i hc
        exact .cond (t:=false) hc (ih _ _ _ _ _ _ h)
      · cases h
    | block id a =>
      simp only [evC] at h
      split at h
      · rename_i x1 t1 st1 ha
        simp only [Option.some.injEq,Prod.mk.injEq] at h
        obtain ⟨rfl,rfl,rfl⟩:=h
        exact .block (ih _ _ _ _ _ _ ha)
      · cases h
    | loop a =>
      simp only [evC] at h
      split at h
      · rename_i t1 st1 ha
        exact .loopN (ih _ _ _ _ _ _ ha) (ih _ _ _ _ _ _ h)
      · rename_i hno
        refine .loopX (ih _ _ _ _ _ _ h) ?_
        rintro rfl
        exact hno _ _ h
    | exit id=>simp only [evC,Option.some.injEq,Prod.mk.injEq] at h; obtain ⟨rfl,rfl,rfl⟩:=h; exact .exit
    | ret=>simp only [evC,Option.some.injEq,Prod.mk.injEq] at h; obtain ⟨rfl,rfl,rfl⟩:=h; exact .ret
end
end Go.VX
end
section
/-! A seat without code.find. -/
end
section
set_option maxRecDepth 100000
namespace Go.VX.Seat
open Go.Proofs
def HFind : FuncId→List AV→St→CRes→St→Prop:=fun _ _ _ _ _=>False
theorem mixed : Go.Proofs.Tryd.prog.follows .mixedOrders = true:=by kernel_rfl
theorem hfind_sound {f : FuncId} {args : List AV} {st st' : St} {r : CRes} (h : HFind f args st r st') : SoundCall Go.Proofs.Tryd.prog [0,3,4,1,2] f args st r st':=h.elim
theorem hfind_evo {f : FuncId} {args : List AV} {st st' : St} {r : CRes} (h : HFind f args st r st') : Evo st st':=h.elim
noncomputable def evFind (n : Nat) (call : EvF) : EvF:=call
theorem evFind_ok {H : FuncId→List AV→St→CRes→St→Prop} (hH : ∀ f args st r st',HFind f args st r st'→H f args st r st') (n : Nat) {call : EvF} (hc : CallOk Go.Proofs.Tryd.prog fnOf H call) : CallOk Go.Proofs.Tryd.prog fnOf H (evFind n call):=hc
def formBox : Box:=⟨formCells,1,0⟩
end Go.VX.Seat
end
section
namespace Go.VX.Seat
def glob_internal_strconv_uint64pow10 : List AV:=[.sc (.int .u64 1),.sc (.int .u64 10),.sc (.int .u64 100),.sc (.int .u64 1000),.sc (.int .u64 10000),.sc (.int .u64 100000),.sc (.int .u64 1000000),.sc (.int .u64 10000000),.sc (.int .u64 100000000),.sc (.int .u64 1000000000),.sc (.int .u64 10000000000),.sc (.int .u64 100000000000),.sc (.int .u64 1000000000000),.sc (.int .u64 10000000000000),.sc (.int .u64 100000000000000),.sc (.int .u64 1000000000000000),.sc (.int .u64 10000000000000000),.sc (.int .u64 100000000000000000),.sc (.int .u64 1000000000000000000),.sc (.int .u64 10000000000000000000)]
def glS : List Box:=[formBox,⟨glob_internal_strconv_uint64pow10,1,0⟩,⟨[],1,0⟩,⟨[.err],1,0⟩,⟨[.err],1,0⟩]
end Go.VX.Seat
end
