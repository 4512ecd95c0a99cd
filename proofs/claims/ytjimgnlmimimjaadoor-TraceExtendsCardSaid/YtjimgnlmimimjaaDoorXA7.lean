/- Part 7 of 12 of the proof of TraceExtends: L5, L6, L0, S1, S2, S3, S4, S5, S6, S7. No condition is added: the last part states the given constant. -/
import Derived.Test.YtjimgnlmimimjaaDoorXA6
section
set_option maxRecDepth 20000
/-! MADE BY PROGRAM (lits.py): functions as they are prepared. -/
namespace Go.VX.Seat
def v_r09_Engine_enter : VFun :=
⟨.seq (.reg [⟨0, (some 4), .mv (.tmp 0), none, []⟩,
    ⟨1, (some 5), .mv (.tmp 1), none, []⟩,
    ⟨2, (some 6), .nilck (.tmp 4), none, []⟩,
    ⟨3, (some 7), .fieldA 9 (.tmp 6), none, []⟩,
    ⟨4, none, .store 1 (.tmp 7) (.tmp 5), none, []⟩])
 (.seq (.reg [⟨0, (some 8), .mv (.tmp 0), none, []⟩,
     ⟨1, (some 9), .nilck (.tmp 8), none, []⟩,
     ⟨2, (some 10), .fieldA 10 (.tmp 9), none, []⟩,
     ⟨3, none, .store 1 (.tmp 10) (.con (.int .i64 0)), none, []⟩])
  (.seq (.reg [⟨0, (some 11), .mv (.tmp 0), none, []⟩,
      ⟨1, (some 12), .nilck (.tmp 11), none, []⟩,
      ⟨2, (some 13), .fieldA 16 (.tmp 12), none, []⟩,
      ⟨3, (some 14), .load none (.tmp 13), none, []⟩,
      ⟨4, (some 15), .mv (.tmp 1), none, []⟩,
      ⟨5, (some 16), .idxA none 3 (.tmp 14) (.tmp 15), none, []⟩,
      ⟨6, (some 17), .fieldA 0 (.tmp 16), none, []⟩,
      ⟨7, (some 18), .load none (.tmp 17), none, []⟩,
      ⟨8, (some 19), .bin .add 3 true (.tmp 18) (.con (.int .i64 1)), none, []⟩,
      ⟨9, (some 20), .idxA none 3 (.tmp 14) (.tmp 15), none, []⟩,
      ⟨10, (some 21), .fieldA 0 (.tmp 20), none, []⟩,
      ⟨11, none, .store 1 (.tmp 21) (.tmp 19), none, []⟩])
   (.seq (.reg [⟨0, (some 22), .mv (.tmp 0), none, []⟩,
       ⟨1, (some 23), .nilck (.tmp 22), none, []⟩,
       ⟨2, (some 24), .fieldA 17 (.tmp 23), none, []⟩,
       ⟨3, (some 25), .load none (.tmp 24), none, []⟩,
       ⟨4, (some 26), .len (.tmp 25), none, []⟩,
       ⟨5, (some 27), .bin .lss 3 true (.tmp 26) (.con (.int .i64 20000)), none, []⟩])
    (.cond (.tmp 27)
     (.reg [⟨0, (some 28), .mv (.tmp 0), none, []⟩,
        ⟨1, (some 29), .mv (.tmp 0), none, []⟩,
        ⟨2, (some 30), .nilck (.tmp 29), none, []⟩,
        ⟨3, (some 31), .fieldA 17 (.tmp 30), none, []⟩,
        ⟨4, (some 32), .load none (.tmp 31), none, []⟩,
        ⟨5, (some 33), .mv (.tmp 1), none, []⟩,
        ⟨6, (some 34), .bslice 1 1 [(.int .i64 0)] [(0, 1, (.tmp 33))], none, []⟩,
        ⟨7, (some 35), .append 1 8 (.tmp 32) (.tmp 34), none, []⟩,
        ⟨8, (some 36), .nilck (.tmp 28), none, []⟩,
        ⟨9, (some 37), .fieldA 17 (.tmp 36), none, []⟩,
        ⟨10, none, .store 1 (.tmp 37) (.tmp 35), none, []⟩])
     (.skip))))),
 []⟩
theorem p_r09_Engine_enter : prepFun Go.Proofs.Tryd.prog [0] Go.Proofs.Tryd.f76 = some v_r09_Engine_enter := by kernel_rfl
def v_r09_Engine_op : VFun :=
⟨.seq (.reg [⟨0, (some 3), .box (.tmp 1), none, []⟩])
 (.seq (.reg [⟨0, (some 11), .mv (.tmp 0), none, []⟩,
     ⟨1, (some 12), .nilck (.tmp 11), none, []⟩,
     ⟨2, (some 13), .fieldA 10 (.tmp 12), none, []⟩,
     ⟨3, (some 14), .load none (.tmp 13), none, []⟩,
     ⟨4, (some 15), .bin .add 3 true (.tmp 14) (.con (.int .i64 1)), none, []⟩,
     ⟨5, (some 16), .nilck (.tmp 11), none, []⟩,
     ⟨6, (some 17), .fieldA 10 (.tmp 16), none, []⟩,
     ⟨7, none, .store 1 (.tmp 17) (.tmp 15), none, []⟩])
  (.seq (.seq (.reg [⟨0, (some 18), .fieldA 6 (.tmp 3), none, []⟩,
       ⟨1, (some 19), .load none (.tmp 18), none, []⟩,
       ⟨2, (some 20), .bin .geq 3 true (.tmp 19) (.con (.int .i64 0)), none, []⟩])
    (.cond (.tmp 20)
     (.seq (.reg [⟨0, (some 21), .mv (.tmp 0), none, []⟩,
         ⟨1, (some 22), .nilck (.tmp 21), none, []⟩,
         ⟨2, (some 23), .fieldA 6 (.tmp 22), none, []⟩,
         ⟨3, (some 24), .load none (.tmp 23), none, []⟩,
         ⟨4, (some 25), .fieldA 6 (.tmp 3), none, []⟩,
         ⟨5, (some 26), .load none (.tmp 25), none, []⟩,
         ⟨6, (some 27), .idxA none 2 (.tmp 24) (.tmp 26), none, []⟩,
         ⟨7, (some 28), .load (some 2) (.tmp 27), none, []⟩,
         ⟨8, (some 4), .alloc [(.int .i64 0), (.int .i64 0)], none, []⟩,
         ⟨9, none, .store 2 (.tmp 4) (.tmp 28), none, []⟩])
      (.seq (.seq (.reg [⟨0, (some 29), .fieldA 1 (.tmp 4), none, []⟩,
           ⟨1, (some 30), .load none (.tmp 29), none, []⟩,
           ⟨2, (some 31), .bin .neq 2 true (.tmp 30) (.con (.int .i64 0)), none, []⟩])
        (.cond (.tmp 31)
         (.seq (.reg [⟨0, (some 32), .mv (.tmp 0), none, []⟩,
             ⟨1, (some 33), .fieldA 1 (.tmp 4), none, []⟩,
             ⟨2, (some 34), .load none (.tmp 33), none, []⟩,
             ⟨3, (some 35), .call 96 [(.tmp 32), (.tmp 34)], none, []⟩])
          (.ret))
         (.skip)))
       (.seq (.reg [⟨0, (some 36), .fieldA 0 (.tmp 4), none, []⟩,
           ⟨1, (some 37), .load none (.tmp 36), none, []⟩,
           ⟨2, (some 38), .bin .eql 2 true (.tmp 37) (.con (.int .i64 0)), none, []⟩])
        (.cond (.tmp 38)
         (.ret)
         (.skip)))))
     (.skip)))
   (.seq (.reg [⟨0, (some 5), .alloc [(.int .i64 0), (.int .i64 0), (.int .i64 0), (.int .i64 0), (.int .i64 0), (.int .i64 0)], none, []⟩])
    (.seq (.reg [⟨0, (some 39), .load (some 7) (.tmp 3), none, []⟩,
        ⟨1, (some 40), .call 97 [(.tmp 39)], none, []⟩,
        ⟨2, (some 6), .mv (.tmp 40), none, []⟩])
     (.seq (.seq (.reg [⟨0, (some 7), .mv (.con (.int .i64 0)), none, []⟩])
       (.block 0
        (.loop
         (.seq (.seq (.reg [⟨0, (some 41), .mv (.tmp 7), none, []⟩,
              ⟨1, (some 42), .mv (.tmp 6), none, []⟩,
              ⟨2, (some 43), .len (.tmp 42), none, []⟩,
              ⟨3, (some 44), .bin .lss 3 false (.tmp 41) (.tmp 43), none, []⟩])
           (.cond (.tmp 44)
            (.skip)
            (.exit 0)))
          (.seq (.block 1
            (.reg [⟨0, (some 47), .mv (.tmp 7), none, []⟩,
               ⟨1, (some 48), .mv (.tmp 0), none, []⟩,
               ⟨2, (some 49), .nilck (.tmp 48), none, []⟩,
               ⟨3, (some 50), .fieldA 6 (.tmp 49), none, []⟩,
               ⟨4, (some 51), .load none (.tmp 50), none, []⟩,
               ⟨5, (some 52), .mv (.tmp 6), none, []⟩,
               ⟨6, (some 53), .mv (.tmp 7), none, []⟩,
               ⟨7, (some 54), .idxA none 1 (.tmp 52) (.tmp 53), none, []⟩,
               ⟨8, (some 55), .load none (.tmp 54), none, []⟩,
               ⟨9, (some 56), .idxA none 2 (.tmp 51) (.tmp 55), none, []⟩,
               ⟨10, (some 57), .load (some 2) (.tmp 56), none, []⟩,
               ⟨11, (some 58), .idxA (some 3) 2 (.tmp 5) (.tmp 47), none, []⟩,
               ⟨12, none, .store 2 (.tmp 58) (.tmp 57), none, []⟩]))
           (.reg [⟨0, (some 45), .mv (.tmp 7), none, []⟩,
              ⟨1, (some 46), .bin .add 3 true (.tmp 45) (.con (.int .i64 1)), none, []⟩,
              ⟨2, (some 7), .mv (.tmp 46), none, []⟩]))))))
      (.seq (.seq (.reg [⟨0, (some 59), .fieldA 0 (.tmp 3), none, []⟩,
           ⟨1, (some 60), .load none (.tmp 59), none, []⟩,
           ⟨2, (some 61), .call 98 [(.tmp 60)], none, []⟩])
        (.cond (.tmp 61)
         (.seq (.reg [⟨0, (some 63), .load (some 7) (.tmp 3), none, []⟩,
             ⟨1, (some 64), .idxA (some 3) 2 (.tmp 5) (.con (.int .i64 0)), none, []⟩,
             ⟨2, (some 65), .load (some 2) (.tmp 64), none, []⟩,
             ⟨3, (some 66), .idxA (some 3) 2 (.tmp 5) (.con (.int .i64 1)), none, []⟩,
             ⟨4, (some 67), .load (some 2) (.tmp 66), none, []⟩,
             ⟨5, (some 68), .idxA (some 3) 2 (.tmp 5) (.con (.int .i64 2)), none, []⟩,
             ⟨6, (some 69), .load (some 2) (.tmp 68), none, []⟩,
             ⟨7, (some 70), .call 99 [(.tmp 63), (.tmp 65), (.tmp 67), (.tmp 69)], none, []⟩,
             ⟨8, (some 62), .mv (.tmp 70), none, []⟩,
             ⟨9, (some 71), .ext (.tmp 62) 0, none, []⟩,
             ⟨10, (some 72), .ext (.tmp 62) 1, none, []⟩,
             ⟨11, (some 8), .alloc [(.int .i64 0), (.int .i64 0)], none, []⟩,
             ⟨12, none, .store 2 (.tmp 8) (.tmp 71), none, []⟩,
             ⟨13, (some 9), .mv (.tmp 72), none, []⟩])
          (.seq (.seq (.reg [⟨0, (some 73), .mv (.tmp 9), none, []⟩,
               ⟨1, (some 74), .bin .neq 2 true (.tmp 73) (.con (.int .i64 0)), none, []⟩])
            (.cond (.tmp 74)
             (.seq (.reg [⟨0, (some 75), .mv (.tmp 0), none, []⟩,
                 ⟨1, (some 76), .mv (.tmp 9), none, []⟩,
                 ⟨2, (some 77), .call 96 [(.tmp 75), (.tmp 76)], none, []⟩])
              (.ret))
             (.skip)))
           (.seq (.reg [⟨0, (some 78), .mv (.tmp 0), none, []⟩,
               ⟨1, (some 79), .nilck (.tmp 78), none, []⟩,
               ⟨2, (some 80), .fieldA 6 (.tmp 79), none, []⟩,
               ⟨3, (some 81), .load none (.tmp 80), none, []⟩,
               ⟨4, (some 82), .fieldA 1 (.tmp 3), none, []⟩,
               ⟨5, (some 83), .load none (.tmp 82), none, []⟩,
               ⟨6, (some 84), .load (some 2) (.tmp 8), none, []⟩,
               ⟨7, (some 85), .idxA none 2 (.tmp 81) (.tmp 83), none, []⟩,
               ⟨8, none, .store 2 (.tmp 85) (.tmp 84), none, []⟩])
            (.ret))))
         (.skip)))
       (.seq (.seq (.reg [⟨0, (some 86), .fieldA 0 (.tmp 3), none, []⟩,
            ⟨1, (some 87), .load none (.tmp 86), none, []⟩])
         (.block 2
          (.seq (.reg [⟨0, (some 89), .bin .eql 3 true (.tmp 87) (.con (.int .i64 18)), none, []⟩,
              ⟨1, (some 88), .mv (.tmp 89), none, []⟩])
           (.cond (.tmp 88)
            (.seq (.reg [⟨0, (some 90), .mv (.tmp 0), none, []⟩,
                ⟨1, (some 91), .nilck (.tmp 90), none, []⟩,
                ⟨2, (some 92), .fieldA 6 (.tmp 91), none, []⟩,
                ⟨3, (some 93), .load none (.tmp 92), none, []⟩,
                ⟨4, (some 94), .fieldA 1 (.tmp 3), none, []⟩,
                ⟨5, (some 95), .load none (.tmp 94), none, []⟩,
                ⟨6, (some 96), .mv (.tmp 0), none, []⟩,
                ⟨7, (some 97), .nilck (.tmp 96), none, []⟩,
                ⟨8, (some 98), .fieldA 8 (.tmp 97), none, []⟩,
                ⟨9, (some 99), .load none (.tmp 98), none, []⟩,
                ⟨10, (some 100), .fieldA 5 (.tmp 3), none, []⟩,
                ⟨11, (some 101), .load none (.tmp 100), none, []⟩,
                ⟨12, (some 102), .idxA none 2 (.tmp 99) (.tmp 101), none, []⟩,
                ⟨13, (some 103), .load (some 2) (.tmp 102), none, []⟩,
                ⟨14, (some 104), .idxA none 2 (.tmp 93) (.tmp 95), none, []⟩,
                ⟨15, none, .store 2 (.tmp 104) (.tmp 103), none, []⟩])
             (.ret))
            (.seq (.reg [⟨0, (some 106), .bin .eql 3 true (.tmp 87) (.con (.int .i64 19)), none, []⟩,
                ⟨1, (some 105), .mv (.tmp 106), none, []⟩])
             (.cond (.tmp 105)
              (.seq (.reg [⟨0, (some 107), .mv (.tmp 0), none, []⟩,
                  ⟨1, (some 108), .nilck (.tmp 107), none, []⟩,
                  ⟨2, (some 109), .fieldA 8 (.tmp 108), none, []⟩,
                  ⟨3, (some 110), .load none (.tmp 109), none, []⟩,
                  ⟨4, (some 111), .fieldA 5 (.tmp 3), none, []⟩,
                  ⟨5, (some 112), .load none (.tmp 111), none, []⟩,
                  ⟨6, (some 113), .idxA (some 3) 2 (.tmp 5) (.con (.int .i64 0)), none, []⟩,
                  ⟨7, (some 114), .load (some 2) (.tmp 113), none, []⟩,
                  ⟨8, (some 115), .idxA none 2 (.tmp 110) (.tmp 112), none, []⟩,
                  ⟨9, none, .store 2 (.tmp 115) (.tmp 114), none, []⟩])
               (.ret))
              (.skip)))))))
        (.seq (.reg [⟨0, (some 116), .idxA (some 3) 2 (.tmp 5) (.con (.int .i64 0)), none, []⟩,
            ⟨1, (some 117), .fieldA 1 (.tmp 116), none, []⟩,
            ⟨2, (some 118), .load none (.tmp 117), none, []⟩,
            ⟨3, (some 10), .mv (.tmp 118), none, []⟩])
         (.seq (.seq (.reg [⟨0, (some 119), .mv (.tmp 10), none, []⟩,
              ⟨1, (some 120), .bin .eql 2 true (.tmp 119) (.con (.int .i64 0)), none, []⟩])
           (.cond (.tmp 120)
            (.reg [⟨0, (some 121), .idxA (some 3) 2 (.tmp 5) (.con (.int .i64 1)), none, []⟩,
               ⟨1, (some 122), .fieldA 1 (.tmp 121), none, []⟩,
               ⟨2, (some 123), .load none (.tmp 122), none, []⟩,
               ⟨3, (some 10), .mv (.tmp 123), none, []⟩])
            (.skip)))
          (.seq (.seq (.reg [⟨0, (some 124), .fieldA 0 (.tmp 3), none, []⟩,
               ⟨1, (some 125), .load none (.tmp 124), none, []⟩,
               ⟨2, (some 126), .call 86 [(.tmp 125)], none, []⟩,
               ⟨3, (some 127), .mv (.tmp 126), none, []⟩,
               ⟨4, (some 128), .mv (.tmp 10), (some (127, true)), []⟩,
               ⟨5, (some 129), .bin .eql 2 true (.tmp 128) (.con (.int .i64 0)), (some (127, true)), []⟩,
               ⟨6, (some 130), .pick (.tmp 127) (.tmp 129) (.con (.bool false)), none, []⟩,
               ⟨7, (some 131), .mv (.tmp 130), none, []⟩,
               ⟨8, (some 132), .idxA (some 3) 2 (.tmp 5) (.con (.int .i64 0)), (some (131, true)), []⟩,
               ⟨9, (some 133), .fieldA 0 (.tmp 132), (some (131, true)), []⟩,
               ⟨10, (some 134), .load none (.tmp 133), (some (131, true)), []⟩,
               ⟨11, (some 135), .bin .lss 2 true (.tmp 134) (.con (.int .i64 0)), (some (131, true)), []⟩,
               ⟨12, (some 136), .mv (.tmp 135), (some (131, true)), []⟩,
               ⟨13, (some 137), .idxA (some 3) 2 (.tmp 5) (.con (.int .i64 0)), (some (136, false)), []⟩,
               ⟨14, (some 138), .fieldA 0 (.tmp 137), (some (136, false)), []⟩,
               ⟨15, (some 139), .load none (.tmp 138), (some (136, false)), []⟩,
               ⟨16, (some 140), .mv (.tmp 0), (some (136, false)), []⟩,
               ⟨17, (some 141), .nilck (.tmp 140), (some (136, false)), []⟩,
               ⟨18, (some 142), .fieldA 7 (.tmp 141), (some (136, false)), []⟩,
               ⟨19, (some 143), .load none (.tmp 142), (some (136, false)), []⟩,
               ⟨20, (some 144), .fieldA 5 (.tmp 3), (some (136, false)), []⟩,
               ⟨21, (some 145), .load none (.tmp 144), (some (136, false)), []⟩,
               ⟨22, (some 146), .idxA none 1 (.tmp 143) (.tmp 145), (some (136, false)), []⟩,
               ⟨23, (some 147), .load none (.tmp 146), (some (136, false)), []⟩,
               ⟨24, (some 148), .len (.tmp 147), (some (136, false)), []⟩,
               ⟨25, (some 149), .bin .geq 2 false (.tmp 139) (.tmp 148), (some (136, false)), []⟩,
               ⟨26, (some 150), .pick (.tmp 136) (.con (.bool true)) (.tmp 149), (some (131, true)), []⟩,
               ⟨27, (some 151), .pick (.tmp 131) (.tmp 150) (.con (.bool false)), none, []⟩])
            (.cond (.tmp 151)
             (.reg [⟨0, (some 10), .mv (.con (.int .i64 (-1))), none, []⟩])
             (.skip)))
           (.seq (.seq (.reg [⟨0, (some 152), .fieldA 0 (.tmp 3), none, []⟩,
                ⟨1, (some 153), .load none (.tmp 152), none, []⟩,
                ⟨2, (some 154), .bin .eql 3 true (.tmp 153) (.con (.int .i64 25)), none, []⟩,
                ⟨3, (some 155), .mv (.tmp 154), none, []⟩,
                ⟨4, (some 156), .mv (.tmp 10), (some (155, true)), []⟩,
                ⟨5, (some 157), .bin .neq 2 true (.tmp 156) (.con (.int .i64 0)), (some (155, true)), []⟩,
                ⟨6, (some 158), .pick (.tmp 155) (.tmp 157) (.con (.bool false)), none, []⟩])
             (.cond (.tmp 158)
              (.seq (.reg [⟨0, (some 159), .mv (.tmp 0), none, []⟩,
                  ⟨1, (some 160), .nilck (.tmp 159), none, []⟩,
                  ⟨2, (some 161), .fieldA 6 (.tmp 160), none, []⟩,
                  ⟨3, (some 162), .load none (.tmp 161), none, []⟩,
                  ⟨4, (some 163), .fieldA 1 (.tmp 3), none, []⟩,
                  ⟨5, (some 164), .load none (.tmp 163), none, []⟩,
                  ⟨6, (some 165), .mv (.tmp 10), none, []⟩,
                  ⟨7, (some 166), .build [(.int .i64 0), (.int .i64 0)] [(1, 1, (.tmp 165))], none, []⟩,
                  ⟨8, (some 167), .idxA none 2 (.tmp 162) (.tmp 164), none, []⟩,
                  ⟨9, none, .store 2 (.tmp 167) (.tmp 166), none, []⟩])
               (.ret))
              (.skip)))
            (.seq (.seq (.reg [⟨0, (some 168), .mv (.tmp 10), none, []⟩,
                 ⟨1, (some 169), .bin .neq 2 true (.tmp 168) (.con (.int .i64 0)), none, []⟩])
              (.cond (.tmp 169)
               (.seq (.reg [⟨0, (some 170), .mv (.tmp 0), none, []⟩,
                   ⟨1, (some 171), .mv (.tmp 10), none, []⟩,
                   ⟨2, (some 172), .call 96 [(.tmp 170), (.tmp 171)], none, []⟩])
                (.ret))
               (.skip)))
             (.seq (.reg [⟨0, (some 173), .fieldA 0 (.tmp 3), none, []⟩,
                 ⟨1, (some 174), .load none (.tmp 173), none, []⟩])
              (.block 3
               (.seq (.seq (.reg [⟨0, (some 176), .bin .eql 3 true (.tmp 174) (.con (.int .i64 16)), none, []⟩,
                    ⟨1, (some 175), .mv (.tmp 176), none, []⟩])
                 (.cond (.tmp 175)
                  (.skip)
                  (.reg [⟨0, (some 177), .bin .eql 3 true (.tmp 174) (.con (.int .i64 25)), none, []⟩,
                     ⟨1, (some 175), .mv (.tmp 177), none, []⟩])))
                (.cond (.tmp 175)
                 (.reg [⟨0, (some 178), .mv (.tmp 0), none, []⟩,
                    ⟨1, (some 179), .nilck (.tmp 178), none, []⟩,
                    ⟨2, (some 180), .fieldA 6 (.tmp 179), none, []⟩,
                    ⟨3, (some 181), .load none (.tmp 180), none, []⟩,
                    ⟨4, (some 182), .fieldA 1 (.tmp 3), none, []⟩,
                    ⟨5, (some 183), .load none (.tmp 182), none, []⟩,
                    ⟨6, (some 184), .mv (.tmp 0), none, []⟩,
                    ⟨7, (some 185), .nilck (.tmp 184), none, []⟩,
                    ⟨8, (some 186), .fieldA 7 (.tmp 185), none, []⟩,
                    ⟨9, (some 187), .load none (.tmp 186), none, []⟩,
                    ⟨10, (some 188), .fieldA 5 (.tmp 3), none, []⟩,
                    ⟨11, (some 189), .load none (.tmp 188), none, []⟩,
                    ⟨12, (some 190), .idxA none 1 (.tmp 187) (.tmp 189), none, []⟩,
                    ⟨13, (some 191), .load none (.tmp 190), none, []⟩,
                    ⟨14, (some 192), .idxA (some 3) 2 (.tmp 5) (.con (.int .i64 0)), none, []⟩,
                    ⟨15, (some 193), .fieldA 0 (.tmp 192), none, []⟩,
                    ⟨16, (some 194), .load none (.tmp 193), none, []⟩,
                    ⟨17, (some 195), .idxA none 1 (.tmp 191) (.tmp 194), none, []⟩,
                    ⟨18, (some 196), .load none (.tmp 195), none, []⟩,
                    ⟨19, (some 197), .build [(.int .i64 0), (.int .i64 0)] [(0, 1, (.tmp 196))], none, []⟩,
                    ⟨20, (some 198), .idxA none 2 (.tmp 181) (.tmp 183), none, []⟩,
                    ⟨21, none, .store 2 (.tmp 198) (.tmp 197), none, []⟩])
                 (.seq (.reg [⟨0, (some 200), .bin .eql 3 true (.tmp 174) (.con (.int .i64 17)), none, []⟩,
                     ⟨1, (some 199), .mv (.tmp 200), none, []⟩])
                  (.cond (.tmp 199)
                   (.reg [⟨0, (some 201), .mv (.tmp 0), none, []⟩,
                      ⟨1, (some 202), .nilck (.tmp 201), none, []⟩,
                      ⟨2, (some 203), .fieldA 7 (.tmp 202), none, []⟩,
                      ⟨3, (some 204), .load none (.tmp 203), none, []⟩,
                      ⟨4, (some 205), .fieldA 5 (.tmp 3), none, []⟩,
                      ⟨5, (some 206), .load none (.tmp 205), none, []⟩,
                      ⟨6, (some 207), .idxA none 1 (.tmp 204) (.tmp 206), none, []⟩,
                      ⟨7, (some 208), .load none (.tmp 207), none, []⟩,
                      ⟨8, (some 209), .idxA (some 3) 2 (.tmp 5) (.con (.int .i64 0)), none, []⟩,
                      ⟨9, (some 210), .fieldA 0 (.tmp 209), none, []⟩,
                      ⟨10, (some 211), .load none (.tmp 210), none, []⟩,
                      ⟨11, (some 212), .idxA (some 3) 2 (.tmp 5) (.con (.int .i64 1)), none, []⟩,
                      ⟨12, (some 213), .fieldA 0 (.tmp 212), none, []⟩,
                      ⟨13, (some 214), .load none (.tmp 213), none, []⟩,
                      ⟨14, (some 215), .idxA none 1 (.tmp 208) (.tmp 211), none, []⟩,
                      ⟨15, none, .store 1 (.tmp 215) (.tmp 214), none, []⟩])
                   (.seq (.reg [⟨0, (some 217), .bin .eql 3 true (.tmp 174) (.con (.int .i64 20)), none, []⟩,
                       ⟨1, (some 216), .mv (.tmp 217), none, []⟩])
                    (.cond (.tmp 216)
                     (.reg [⟨0, (some 218), .mv (.tmp 0), none, []⟩,
                        ⟨1, (some 219), .mv (.tmp 0), none, []⟩,
                        ⟨2, (some 220), .nilck (.tmp 219), none, []⟩,
                        ⟨3, (some 221), .fieldA 12 (.tmp 220), none, []⟩,
                        ⟨4, (some 222), .fieldA 0 (.tmp 221), none, []⟩,
                        ⟨5, (some 223), .load none (.tmp 222), none, []⟩,
                        ⟨6, (some 224), .idxA (some 3) 2 (.tmp 5) (.con (.int .i64 0)), none, []⟩,
                        ⟨7, (some 225), .fieldA 0 (.tmp 224), none, []⟩,
                        ⟨8, (some 226), .load none (.tmp 225), none, []⟩,
                        ⟨9, (some 227), .bslice 1 1 [(.int .i64 0)] [(0, 1, (.tmp 226))], none, []⟩,
                        ⟨10, (some 228), .append 1 8 (.tmp 223) (.tmp 227), none, []⟩,
                        ⟨11, (some 229), .nilck (.tmp 218), none, []⟩,
                        ⟨12, (some 230), .fieldA 12 (.tmp 229), none, []⟩,
                        ⟨13, (some 231), .fieldA 0 (.tmp 230), none, []⟩,
                        ⟨14, none, .store 1 (.tmp 231) (.tmp 228), none, []⟩])
                     (.seq (.reg [⟨0, (some 233), .bin .eql 3 true (.tmp 174) (.con (.int .i64 21)), none, []⟩,
                         ⟨1, (some 232), .mv (.tmp 233), none, []⟩])
                      (.cond (.tmp 232)
                       (.seq (.reg [⟨0, (some 234), .idxA (some 3) 2 (.tmp 5) (.con (.int .i64 0)), none, []⟩,
                           ⟨1, (some 235), .fieldA 0 (.tmp 234), none, []⟩,
                           ⟨2, (some 236), .load none (.tmp 235), none, []⟩,
                           ⟨3, (some 237), .bin .neq 2 true (.tmp 236) (.con (.int .i64 0)), none, []⟩])
                        (.cond (.tmp 237)
                         (.reg [⟨0, (some 238), .mv (.tmp 0), none, []⟩,
                            ⟨1, (some 239), .fieldA 5 (.tmp 3), none, []⟩,
                            ⟨2, (some 240), .load none (.tmp 239), none, []⟩,
                            ⟨3, (some 241), .call 76 [(.tmp 238), (.tmp 240)], none, []⟩])
                         (.skip)))
                       (.skip))))))))))))))))))))))),
 []⟩
theorem p_r09_Engine_op : prepFun Go.Proofs.Tryd.prog [0] Go.Proofs.Tryd.f77 = some v_r09_Engine_op := by kernel_rfl
def v_r09_Engine_last : VFun :=
⟨.seq (.reg [⟨0, (some 3), .box (.tmp 1), none, []⟩])
 (.seq (.reg [⟨0, (some 4), .alloc [(.int .i64 0), (.int .i64 0)], none, []⟩])
  (.seq (.seq (.reg [⟨0, (some 5), .fieldA 0 (.tmp 3), none, []⟩,
       ⟨1, (some 6), .load none (.tmp 5), none, []⟩,
       ⟨2, (some 7), .call 89 [(.tmp 6)], none, []⟩])
    (.cond (.tmp 7)
     (.reg [⟨0, (some 8), .mv (.tmp 0), none, []⟩,
        ⟨1, (some 9), .nilck (.tmp 8), none, []⟩,
        ⟨2, (some 10), .fieldA 6 (.tmp 9), none, []⟩,
        ⟨3, (some 11), .load none (.tmp 10), none, []⟩,
        ⟨4, (some 12), .fieldA 1 (.tmp 3), none, []⟩,
        ⟨5, (some 13), .load none (.tmp 12), none, []⟩,
        ⟨6, (some 14), .idxA none 2 (.tmp 11) (.tmp 13), none, []⟩,
        ⟨7, (some 15), .load (some 2) (.tmp 14), none, []⟩,
        ⟨8, none, .store 2 (.tmp 4) (.tmp 15), none, []⟩])
     (.skip)))
   (.seq (.seq (.reg [⟨0, (some 16), .fieldA 1 (.tmp 4), none, []⟩,
        ⟨1, (some 17), .load none (.tmp 16), none, []⟩,
        ⟨2, (some 18), .bin .neq 2 true (.tmp 17) (.con (.int .i64 0)), none, []⟩])
     (.cond (.tmp 18)
      (.seq (.reg [⟨0, (some 19), .mv (.tmp 0), none, []⟩,
          ⟨1, (some 20), .fieldA 1 (.tmp 4), none, []⟩,
          ⟨2, (some 21), .load none (.tmp 20), none, []⟩,
          ⟨3, (some 22), .call 96 [(.tmp 19), (.tmp 21)], none, []⟩])
       (.ret))
      (.skip)))
    (.seq (.reg [⟨0, (some 23), .fieldA 0 (.tmp 3), none, []⟩,
        ⟨1, (some 24), .load none (.tmp 23), none, []⟩])
     (.block 0
      (.seq (.reg [⟨0, (some 26), .bin .eql 3 true (.tmp 24) (.con (.int .i64 3)), none, []⟩,
          ⟨1, (some 25), .mv (.tmp 26), none, []⟩])
       (.cond (.tmp 25)
        (.reg [⟨0, (some 27), .mv (.tmp 0), none, []⟩,
           ⟨1, (some 28), .fieldA 0 (.tmp 4), none, []⟩,
           ⟨2, (some 29), .load none (.tmp 28), none, []⟩,
           ⟨3, (some 30), .call 100 [(.tmp 27), (.con (.int .i64 1)), (.tmp 29)], none, []⟩])
        (.seq (.reg [⟨0, (some 32), .bin .eql 3 true (.tmp 24) (.con (.int .i64 4)), none, []⟩,
            ⟨1, (some 31), .mv (.tmp 32), none, []⟩])
         (.cond (.tmp 31)
          (.reg [⟨0, (some 33), .mv (.tmp 0), none, []⟩,
             ⟨1, (some 34), .fieldA 0 (.tmp 4), none, []⟩,
             ⟨2, (some 35), .load none (.tmp 34), none, []⟩,
             ⟨3, (some 36), .call 96 [(.tmp 33), (.tmp 35)], none, []⟩])
          (.seq (.reg [⟨0, (some 38), .bin .eql 3 true (.tmp 24) (.con (.int .i64 1)), none, []⟩,
              ⟨1, (some 37), .mv (.tmp 38), none, []⟩])
           (.cond (.tmp 37)
            (.seq (.reg [⟨0, (some 39), .mv (.tmp 0), none, []⟩,
                ⟨1, (some 40), .nilck (.tmp 39), none, []⟩,
                ⟨2, (some 41), .fieldA 16 (.tmp 40), none, []⟩,
                ⟨3, (some 42), .load none (.tmp 41), none, []⟩,
                ⟨4, (some 43), .mv (.tmp 0), none, []⟩,
                ⟨5, (some 44), .nilck (.tmp 43), none, []⟩,
                ⟨6, (some 45), .fieldA 9 (.tmp 44), none, []⟩,
                ⟨7, (some 46), .load none (.tmp 45), none, []⟩,
                ⟨8, (some 47), .idxA none 3 (.tmp 42) (.tmp 46), none, []⟩,
                ⟨9, (some 48), .fieldA 1 (.tmp 47), none, []⟩,
                ⟨10, (some 49), .load none (.tmp 48), none, []⟩,
                ⟨11, (some 50), .bin .add 3 true (.tmp 49) (.con (.int .i64 1)), none, []⟩,
                ⟨12, (some 51), .idxA none 3 (.tmp 42) (.tmp 46), none, []⟩,
                ⟨13, (some 52), .fieldA 1 (.tmp 51), none, []⟩,
                ⟨14, none, .store 1 (.tmp 52) (.tmp 50), none, []⟩])
             (.reg [⟨0, (some 53), .mv (.tmp 0), none, []⟩,
                ⟨1, (some 54), .fieldA 2 (.tmp 3), none, []⟩,
                ⟨2, (some 55), .load none (.tmp 54), none, []⟩,
                ⟨3, (some 56), .call 76 [(.tmp 53), (.tmp 55)], none, []⟩]))
            (.seq (.reg [⟨0, (some 58), .bin .eql 3 true (.tmp 24) (.con (.int .i64 2)), none, []⟩,
                ⟨1, (some 57), .mv (.tmp 58), none, []⟩])
             (.cond (.tmp 57)
              (.seq (.reg [⟨0, (some 59), .fieldA 0 (.tmp 4), none, []⟩,
                  ⟨1, (some 60), .load none (.tmp 59), none, []⟩,
                  ⟨2, (some 61), .bin .neq 2 true (.tmp 60) (.con (.int .i64 0)), none, []⟩])
               (.cond (.tmp 61)
                (.seq (.reg [⟨0, (some 62), .mv (.tmp 0), none, []⟩,
                    ⟨1, (some 63), .nilck (.tmp 62), none, []⟩,
                    ⟨2, (some 64), .fieldA 16 (.tmp 63), none, []⟩,
                    ⟨3, (some 65), .load none (.tmp 64), none, []⟩,
                    ⟨4, (some 66), .mv (.tmp 0), none, []⟩,
                    ⟨5, (some 67), .nilck (.tmp 66), none, []⟩,
                    ⟨6, (some 68), .fieldA 9 (.tmp 67), none, []⟩,
                    ⟨7, (some 69), .load none (.tmp 68), none, []⟩,
                    ⟨8, (some 70), .idxA none 3 (.tmp 65) (.tmp 69), none, []⟩,
                    ⟨9, (some 71), .fieldA 1 (.tmp 70), none, []⟩,
                    ⟨10, (some 72), .load none (.tmp 71), none, []⟩,
                    ⟨11, (some 73), .bin .add 3 true (.tmp 72) (.con (.int .i64 1)), none, []⟩,
                    ⟨12, (some 74), .idxA none 3 (.tmp 65) (.tmp 69), none, []⟩,
                    ⟨13, (some 75), .fieldA 1 (.tmp 74), none, []⟩,
                    ⟨14, none, .store 1 (.tmp 75) (.tmp 73), none, []⟩])
                 (.reg [⟨0, (some 76), .mv (.tmp 0), none, []⟩,
                    ⟨1, (some 77), .fieldA 2 (.tmp 3), none, []⟩,
                    ⟨2, (some 78), .load none (.tmp 77), none, []⟩,
                    ⟨3, (some 79), .call 76 [(.tmp 76), (.tmp 78)], none, []⟩]))
                (.seq (.reg [⟨0, (some 80), .mv (.tmp 0), none, []⟩,
                    ⟨1, (some 81), .nilck (.tmp 80), none, []⟩,
                    ⟨2, (some 82), .fieldA 16 (.tmp 81), none, []⟩,
                    ⟨3, (some 83), .load none (.tmp 82), none, []⟩,
                    ⟨4, (some 84), .mv (.tmp 0), none, []⟩,
                    ⟨5, (some 85), .nilck (.tmp 84), none, []⟩,
                    ⟨6, (some 86), .fieldA 9 (.tmp 85), none, []⟩,
                    ⟨7, (some 87), .load none (.tmp 86), none, []⟩,
                    ⟨8, (some 88), .idxA none 3 (.tmp 83) (.tmp 87), none, []⟩,
                    ⟨9, (some 89), .fieldA 2 (.tmp 88), none, []⟩,
                    ⟨10, (some 90), .load none (.tmp 89), none, []⟩,
                    ⟨11, (some 91), .bin .add 3 true (.tmp 90) (.con (.int .i64 1)), none, []⟩,
                    ⟨12, (some 92), .idxA none 3 (.tmp 83) (.tmp 87), none, []⟩,
                    ⟨13, (some 93), .fieldA 2 (.tmp 92), none, []⟩,
                    ⟨14, none, .store 1 (.tmp 93) (.tmp 91), none, []⟩])
                 (.reg [⟨0, (some 94), .mv (.tmp 0), none, []⟩,
                    ⟨1, (some 95), .fieldA 3 (.tmp 3), none, []⟩,
                    ⟨2, (some 96), .load none (.tmp 95), none, []⟩,
                    ⟨3, (some 97), .call 76 [(.tmp 94), (.tmp 96)], none, []⟩]))))
              (.skip)))))))))))))),
 []⟩
theorem p_r09_Engine_last : prepFun Go.Proofs.Tryd.prog [0] Go.Proofs.Tryd.f78 = some v_r09_Engine_last := by kernel_rfl
def v_code_checker_unit : VFun :=
⟨.seq (.reg [⟨0, (some 8), .mv (.tmp 0), none, []⟩,
    ⟨1, (some 9), .nilck (.tmp 8), none, []⟩,
    ⟨2, (some 10), .fieldA 0 (.tmp 9), none, []⟩,
    ⟨3, (some 11), .load (some 6) (.tmp 10), none, []⟩,
    ⟨4, (some 2), .alloc [(.slice none 0 0), (.int .i64 0), (.int .i64 0), (.int .i64 0), (.int .i64 0), (.slice none 0 0)], none, []⟩,
    ⟨5, none, .store 6 (.tmp 2) (.tmp 11), none, []⟩])
 (.seq (.reg [⟨0, (some 12), .mv (.tmp 0), none, []⟩,
     ⟨1, (some 13), .fieldA 0 (.tmp 2), none, []⟩,
     ⟨2, (some 14), .load none (.tmp 13), none, []⟩,
     ⟨3, (some 15), .len (.tmp 14), none, []⟩,
     ⟨4, (some 16), .bin .leq 3 true (.tmp 15) (.con (.int .i64 16)), none, []⟩,
     ⟨5, (some 17), .mv (.tmp 16), none, []⟩,
     ⟨6, (some 18), .fieldA 5 (.tmp 2), (some (17, true)), []⟩,
     ⟨7, (some 19), .load none (.tmp 18), (some (17, true)), []⟩,
     ⟨8, (some 20), .len (.tmp 19), (some (17, true)), []⟩,
     ⟨9, (some 21), .bin .geq 3 true (.tmp 20) (.con (.int .i64 1)), (some (17, true)), []⟩,
     ⟨10, (some 22), .pick (.tmp 17) (.tmp 21) (.con (.bool false)), none, []⟩,
     ⟨11, (some 23), .mv (.tmp 22), none, []⟩,
     ⟨12, (some 24), .fieldA 5 (.tmp 2), (some (23, true)), []⟩,
     ⟨13, (some 25), .load none (.tmp 24), (some (23, true)), []⟩,
     ⟨14, (some 26), .len (.tmp 25), (some (23, true)), []⟩,
     ⟨15, (some 27), .bin .leq 3 true (.tmp 26) (.con (.int .i64 2000)), (some (23, true)), []⟩,
     ⟨16, (some 28), .pick (.tmp 23) (.tmp 27) (.con (.bool false)), none, []⟩,
     ⟨17, (some 29), .mv (.tmp 28), none, []⟩,
     ⟨18, (some 30), .fieldA 2 (.tmp 2), (some (29, true)), []⟩,
     ⟨19, (some 31), .load none (.tmp 30), (some (29, true)), []⟩,
     ⟨20, (some 32), .bin .leq 3 true (.tmp 31) (.con (.int .i64 4096)), (some (29, true)), []⟩,
     ⟨21, (some 33), .pick (.tmp 29) (.tmp 32) (.con (.bool false)), none, []⟩,
     ⟨22, (some 34), .mv (.tmp 33), none, []⟩,
     ⟨23, (some 35), .fieldA 4 (.tmp 2), (some (34, true)), []⟩,
     ⟨24, (some 36), .load none (.tmp 35), (some (34, true)), []⟩,
     ⟨25, (some 37), .bin .leq 3 true (.tmp 36) (.con (.int .i64 4096)), (some (34, true)), []⟩,
     ⟨26, (some 38), .pick (.tmp 34) (.tmp 37) (.con (.bool false)), none, []⟩,
     ⟨27, (some 39), .call 101 [(.tmp 12), (.tmp 38), (.con (.int .i64 3))], none, []⟩])
  (.seq (.reg [⟨0, (some 40), .mv (.tmp 0), none, []⟩,
      ⟨1, (some 41), .fieldA 0 (.tmp 2), none, []⟩,
      ⟨2, (some 42), .load none (.tmp 41), none, []⟩,
      ⟨3, (some 43), .call 102 [(.tmp 42), (.fn 103)], none, []⟩,
      ⟨4, (some 44), .un .not (.tmp 43), none, []⟩,
      ⟨5, (some 45), .call 101 [(.tmp 40), (.tmp 44), (.con (.int .i64 2))], none, []⟩])
   (.seq (.reg [⟨0, (some 46), .mv (.tmp 0), none, []⟩,
       ⟨1, (some 47), .fieldA 2 (.tmp 2), none, []⟩,
       ⟨2, (some 48), .load none (.tmp 47), none, []⟩,
       ⟨3, (some 49), .bin .geq 3 true (.tmp 48) (.con (.int .i64 1)), none, []⟩,
       ⟨4, (some 50), .mv (.tmp 49), none, []⟩,
       ⟨5, (some 51), .fieldA 4 (.tmp 2), (some (50, true)), []⟩,
       ⟨6, (some 52), .load none (.tmp 51), (some (50, true)), []⟩,
       ⟨7, (some 53), .bin .geq 3 true (.tmp 52) (.con (.int .i64 0)), (some (50, true)), []⟩,
       ⟨8, (some 54), .pick (.tmp 50) (.tmp 53) (.con (.bool false)), none, []⟩,
       ⟨9, (some 55), .mv (.tmp 54), none, []⟩,
       ⟨10, (some 56), .fieldA 1 (.tmp 2), (some (55, true)), []⟩,
       ⟨11, (some 57), .load none (.tmp 56), (some (55, true)), []⟩,
       ⟨12, (some 58), .bin .geq 3 true (.tmp 57) (.con (.int .i64 0)), (some (55, true)), []⟩,
       ⟨13, (some 59), .pick (.tmp 55) (.tmp 58) (.con (.bool false)), none, []⟩,
       ⟨14, (some 60), .mv (.tmp 59), none, []⟩,
       ⟨15, (some 61), .fieldA 1 (.tmp 2), (some (60, true)), []⟩,
       ⟨16, (some 62), .load none (.tmp 61), (some (60, true)), []⟩,
       ⟨17, (some 63), .bin .leq 3 true (.tmp 62) (.con (.int .i64 8)), (some (60, true)), []⟩,
       ⟨18, (some 64), .pick (.tmp 60) (.tmp 63) (.con (.bool false)), none, []⟩,
       ⟨19, (some 65), .mv (.tmp 64), none, []⟩,
       ⟨20, (some 66), .fieldA 1 (.tmp 2), (some (65, true)), []⟩,
       ⟨21, (some 67), .load none (.tmp 66), (some (65, true)), []⟩,
       ⟨22, (some 68), .fieldA 2 (.tmp 2), (some (65, true)), []⟩,
       ⟨23, (some 69), .load none (.tmp 68), (some (65, true)), []⟩,
       ⟨24, (some 70), .bin .leq 3 false (.tmp 67) (.tmp 69), (some (65, true)), []⟩,
       ⟨25, (some 71), .pick (.tmp 65) (.tmp 70) (.con (.bool false)), none, []⟩,
       ⟨26, (some 72), .mv (.tmp 71), none, []⟩,
       ⟨27, (some 73), .fieldA 3 (.tmp 2), (some (72, true)), []⟩,
       ⟨28, (some 74), .load none (.tmp 73), (some (72, true)), []⟩,
       ⟨29, (some 75), .fieldA 2 (.tmp 2), (some (72, true)), []⟩,
       ⟨30, (some 76), .load none (.tmp 75), (some (72, true)), []⟩,
       ⟨31, (some 77), .call 104 [(.tmp 74), (.tmp 76)], (some (72, true)), []⟩,
       ⟨32, (some 78), .pick (.tmp 72) (.tmp 77) (.con (.bool false)), none, []⟩,
       ⟨33, (some 79), .call 101 [(.tmp 46), (.tmp 78), (.con (.int .i64 2))], none, []⟩])
    (.seq (.reg [⟨0, (some 3), .mv (.con (.int .i64 0)), none, []⟩])
     (.seq (.seq (.reg [⟨0, (some 80), .fieldA 5 (.tmp 2), none, []⟩,
          ⟨1, (some 81), .load none (.tmp 80), none, []⟩,
          ⟨2, (some 82), .len (.tmp 81), none, []⟩,
          ⟨3, (some 83), .mv (.con (.int .i64 0)), none, []⟩])
       (.block 0
        (.loop
         (.seq (.reg [⟨0, (some 84), .bin .lss 3 false (.tmp 83) (.tmp 82), none, []⟩])
          (.seq (.cond (.tmp 84)
            (.skip)
            (.exit 0))
           (.seq (.block 1
             (.seq (.reg [⟨0, (some 85), .mv (.tmp 83), none, []⟩,
                 ⟨1, (some 86), .idxA none 6 (.tmp 81) (.tmp 83), none, []⟩,
                 ⟨2, (some 87), .load (some 6) (.tmp 86), none, []⟩,
                 ⟨3, (some 5), .alloc [(.slice none 0 0), (.int .i64 0), (.int .i64 0), (.int .i64 0), (.int .i64 0), (.int .i64 0)], none, []⟩,
                 ⟨4, (some 4), .mv (.tmp 85), none, []⟩,
                 ⟨5, none, .store 6 (.tmp 5) (.tmp 87), none, []⟩])
              (.seq (.reg [⟨0, (some 88), .mv (.tmp 0), none, []⟩,
                  ⟨1, (some 89), .mv (.tmp 0), none, []⟩,
                  ⟨2, (some 90), .mv (.tmp 4), none, []⟩,
                  ⟨3, (some 91), .fieldA 0 (.tmp 5), none, []⟩,
                  ⟨4, (some 92), .load none (.tmp 91), none, []⟩,
                  ⟨5, (some 93), .len (.tmp 92), none, []⟩,
                  ⟨6, (some 94), .nilck (.tmp 88), none, []⟩,
                  ⟨7, (some 95), .fieldA 6 (.tmp 94), none, []⟩,
                  ⟨8, none, .store 1 (.tmp 95) (.tmp 90), none, [(.tmp 91)]⟩,
                  ⟨9, (some 96), .nilck (.tmp 89), none, []⟩,
                  ⟨10, (some 97), .fieldA 7 (.tmp 96), none, []⟩,
                  ⟨11, none, .store 1 (.tmp 97) (.tmp 93), none, []⟩])
               (.seq (.reg [⟨0, (some 98), .mv (.tmp 0), none, []⟩,
                   ⟨1, (some 99), .fieldA 5 (.tmp 5), none, []⟩,
                   ⟨2, (some 100), .load none (.tmp 99), none, []⟩,
                   ⟨3, (some 101), .bin .eql 3 true (.tmp 100) (.con (.int .i64 (-1))), none, []⟩,
                   ⟨4, (some 102), .mv (.tmp 101), none, []⟩,
                   ⟨5, (some 103), .fieldA 5 (.tmp 5), (some (102, false)), []⟩,
                   ⟨6, (some 104), .load none (.tmp 103), (some (102, false)), []⟩,
                   ⟨7, (some 105), .fieldA 5 (.tmp 2), (some (102, false)), []⟩,
                   ⟨8, (some 106), .load none (.tmp 105), (some (102, false)), []⟩,
                   ⟨9, (some 107), .len (.tmp 106), (some (102, false)), []⟩,
                   ⟨10, (some 108), .call 104 [(.tmp 104), (.tmp 107)], (some (102, false)), []⟩,
                   ⟨11, (some 109), .pick (.tmp 102) (.con (.bool true)) (.tmp 108), none, []⟩,
                   ⟨12, (some 110), .call 101 [(.tmp 98), (.tmp 109), (.con (.int .i64 2))], none, []⟩])
                (.seq (.reg [⟨0, (some 111), .mv (.tmp 0), none, []⟩,
                    ⟨1, (some 112), .fieldA 0 (.tmp 5), none, []⟩,
                    ⟨2, (some 113), .load none (.tmp 112), none, []⟩,
                    ⟨3, (some 114), .len (.tmp 113), none, []⟩,
                    ⟨4, (some 115), .bin .leq 3 true (.tmp 114) (.con (.int .i64 400)), none, []⟩,
                    ⟨5, (some 116), .call 101 [(.tmp 111), (.tmp 115), (.con (.int .i64 3))], none, []⟩])
                 (.seq (.seq (.reg [⟨0, (some 117), .fieldA 0 (.tmp 5), none, []⟩,
                      ⟨1, (some 118), .load none (.tmp 117), none, []⟩,
                      ⟨2, (some 119), .len (.tmp 118), none, []⟩,
                      ⟨3, (some 120), .mv (.con (.int .i64 0)), none, []⟩])
                   (.block 2
                    (.loop
                     (.seq (.reg [⟨0, (some 121), .bin .lss 3 false (.tmp 120) (.tmp 119), none, []⟩])
                      (.seq (.cond (.tmp 121)
                        (.skip)
                        (.exit 2))
                       (.seq (.block 3
                         (.seq (.reg [⟨0, (some 122), .mv (.tmp 120), none, []⟩,
                             ⟨1, (some 123), .idxA none 7 (.tmp 118) (.tmp 120), none, []⟩,
                             ⟨2, (some 124), .load (some 7) (.tmp 123), none, []⟩,
                             ⟨3, (some 7), .alloc [(.int .i64 0), (.int .i64 0), (.int .i64 0), (.int .i64 0), (.int .i64 0), (.int .i64 0), (.int .i64 0)], none, []⟩,
                             ⟨4, (some 6), .mv (.tmp 122), none, []⟩,
                             ⟨5, none, .store 7 (.tmp 7) (.tmp 124), none, []⟩])
                          (.seq (.reg [⟨0, (some 125), .mv (.tmp 0), none, []⟩,
                              ⟨1, (some 126), .mv (.tmp 6), none, []⟩,
                              ⟨2, (some 127), .nilck (.tmp 125), none, []⟩,
                              ⟨3, (some 128), .fieldA 7 (.tmp 127), none, []⟩,
                              ⟨4, none, .store 1 (.tmp 128) (.tmp 126), none, []⟩])
                           (.reg [⟨0, (some 129), .mv (.tmp 0), none, []⟩,
                              ⟨1, (some 130), .load (some 7) (.tmp 7), none, []⟩,
                              ⟨2, (some 131), .call 105 [(.tmp 129), (.tmp 130)], none, []⟩]))))
                        (.reg [⟨0, (some 132), .bin .add 3 true (.tmp 120) (.con (.int .i64 1)), none, []⟩,
                           ⟨1, (some 120), .mv (.tmp 132), none, []⟩])))))))
                  (.seq (.reg [⟨0, (some 133), .mv (.tmp 0), none, []⟩,
                      ⟨1, (some 134), .fieldA 0 (.tmp 5), none, []⟩,
                      ⟨2, (some 135), .load none (.tmp 134), none, []⟩,
                      ⟨3, (some 136), .len (.tmp 135), none, []⟩,
                      ⟨4, (some 137), .nilck (.tmp 133), none, []⟩,
                      ⟨5, (some 138), .fieldA 7 (.tmp 137), none, []⟩,
                      ⟨6, none, .store 1 (.tmp 138) (.tmp 136), none, []⟩])
                   (.seq (.reg [⟨0, (some 139), .mv (.tmp 0), none, []⟩,
                       ⟨1, (some 140), .fieldA 1 (.tmp 5), none, []⟩,
                       ⟨2, (some 141), .load (some 4) (.tmp 140), none, []⟩,
                       ⟨3, (some 142), .call 106 [(.tmp 139), (.tmp 141)], none, []⟩])
                    (.reg [⟨0, (some 143), .mv (.tmp 3), none, []⟩,
                       ⟨1, (some 144), .fieldA 0 (.tmp 5), none, []⟩,
                       ⟨2, (some 145), .load none (.tmp 144), none, []⟩,
                       ⟨3, (some 146), .len (.tmp 145), none, []⟩,
                       ⟨4, (some 147), .bin .add 3 false (.tmp 143) (.tmp 146), none, []⟩,
                       ⟨5, (some 3), .mv (.tmp 147), none, []⟩])))))))))
            (.reg [⟨0, (some 148), .bin .add 3 true (.tmp 83) (.con (.int .i64 1)), none, []⟩,
               ⟨1, (some 83), .mv (.tmp 148), none, []⟩])))))))
      (.seq (.reg [⟨0, (some 149), .mv (.tmp 0), none, []⟩,
          ⟨1, (some 150), .mv (.tmp 0), none, []⟩,
          ⟨2, (some 151), .nilck (.tmp 149), none, []⟩,
          ⟨3, (some 152), .fieldA 6 (.tmp 151), none, []⟩,
          ⟨4, none, .store 1 (.tmp 152) (.con (.int .i64 0)), none, []⟩,
          ⟨5, (some 153), .nilck (.tmp 150), none, []⟩,
          ⟨6, (some 154), .fieldA 7 (.tmp 153), none, []⟩,
          ⟨7, none, .store 1 (.tmp 154) (.con (.int .i64 0)), none, []⟩])
       (.reg [⟨0, (some 155), .mv (.tmp 0), none, []⟩,
          ⟨1, (some 156), .mv (.tmp 3), none, []⟩,
          ⟨2, (some 157), .bin .leq 3 true (.tmp 156) (.con (.int .i64 20000)), none, []⟩,
          ⟨3, (some 158), .call 101 [(.tmp 155), (.tmp 157), (.con (.int .i64 3))], none, []⟩]))))))),
 []⟩
theorem p_code_checker_unit : prepFun Go.Proofs.Tryd.prog [0] Go.Proofs.Tryd.f80 = some v_code_checker_unit := by kernel_rfl
def v_r07_One : VFun :=
⟨.seq (.reg [⟨0, (some 2), .mv (.con (.bool false)), none, []⟩])
 (.seq (.reg [⟨0, (some 3), .mv (.tmp 0), none, []⟩,
     ⟨1, (some 4), .bin .geq 3 true (.tmp 3) (.con (.int .i64 1)), none, []⟩,
     ⟨2, (some 5), .mv (.tmp 4), none, []⟩,
     ⟨3, (some 6), .mv (.tmp 0), (some (5, true)), []⟩,
     ⟨4, (some 7), .bin .leq 3 true (.tmp 6) (.con (.int .i64 25)), (some (5, true)), []⟩,
     ⟨5, (some 8), .pick (.tmp 5) (.tmp 7) (.con (.bool false)), none, []⟩,
     ⟨6, (some 2), .mv (.tmp 8), none, []⟩])
  (.ret)),
 [.tmp 2]⟩
theorem p_r07_One : prepFun Go.Proofs.Tryd.prog [0] Go.Proofs.Tryd.f81 = some v_r07_One := by kernel_rfl
def v_r07_HasDst : VFun :=
⟨.seq (.reg [⟨0, (some 2), .mv (.con (.bool false)), none, []⟩])
 (.seq (.reg [⟨0, (some 3), .mv (.tmp 0), none, []⟩,
     ⟨1, (some 4), .bin .neq 3 true (.tmp 3) (.con (.int .i64 17)), none, []⟩,
     ⟨2, (some 5), .mv (.tmp 4), none, []⟩,
     ⟨3, (some 6), .mv (.tmp 0), (some (5, true)), []⟩,
     ⟨4, (some 7), .bin .neq 3 true (.tmp 6) (.con (.int .i64 19)), (some (5, true)), []⟩,
     ⟨5, (some 8), .pick (.tmp 5) (.tmp 7) (.con (.bool false)), none, []⟩,
     ⟨6, (some 9), .mv (.tmp 8), none, []⟩,
     ⟨7, (some 10), .mv (.tmp 0), (some (9, true)), []⟩,
     ⟨8, (some 11), .bin .neq 3 true (.tmp 10) (.con (.int .i64 20)), (some (9, true)), []⟩,
     ⟨9, (some 12), .pick (.tmp 9) (.tmp 11) (.con (.bool false)), none, []⟩,
     ⟨10, (some 13), .mv (.tmp 12), none, []⟩,
     ⟨11, (some 14), .mv (.tmp 0), (some (13, true)), []⟩,
     ⟨12, (some 15), .bin .neq 3 true (.tmp 14) (.con (.int .i64 21)), (some (13, true)), []⟩,
     ⟨13, (some 16), .pick (.tmp 13) (.tmp 15) (.con (.bool false)), none, []⟩,
     ⟨14, (some 17), .mv (.tmp 16), none, []⟩,
     ⟨15, (some 18), .mv (.tmp 0), (some (17, true)), []⟩,
     ⟨16, (some 19), .bin .neq 3 true (.tmp 18) (.con (.int .i64 22)), (some (17, true)), []⟩,
     ⟨17, (some 20), .pick (.tmp 17) (.tmp 19) (.con (.bool false)), none, []⟩,
     ⟨18, (some 2), .mv (.tmp 20), none, []⟩])
  (.ret)),
 [.tmp 2]⟩
theorem p_r07_HasDst : prepFun Go.Proofs.Tryd.prog [0] Go.Proofs.Tryd.f82 = some v_r07_HasDst := by kernel_rfl
def v_r07_HasA : VFun :=
⟨.seq (.reg [⟨0, (some 2), .mv (.con (.bool false)), none, []⟩])
 (.seq (.reg [⟨0, (some 3), .mv (.tmp 0), none, []⟩,
     ⟨1, (some 4), .bin .neq 3 true (.tmp 3) (.con (.int .i64 1)), none, []⟩,
     ⟨2, (some 5), .mv (.tmp 4), none, []⟩,
     ⟨3, (some 6), .mv (.tmp 0), (some (5, true)), []⟩,
     ⟨4, (some 7), .bin .neq 3 true (.tmp 6) (.con (.int .i64 18)), (some (5, true)), []⟩,
     ⟨5, (some 8), .pick (.tmp 5) (.tmp 7) (.con (.bool false)), none, []⟩,
     ⟨6, (some 2), .mv (.tmp 8), none, []⟩])
  (.ret)),
 [.tmp 2]⟩
theorem p_r07_HasA : prepFun Go.Proofs.Tryd.prog [0] Go.Proofs.Tryd.f83 = some v_r07_HasA := by kernel_rfl
def v_r07_HasB : VFun :=
⟨.seq (.reg [⟨0, (some 2), .mv (.con (.bool false)), none, []⟩])
 (.seq (.reg [⟨0, (some 3), .mv (.tmp 0), none, []⟩,
     ⟨1, (some 4), .bin .geq 3 true (.tmp 3) (.con (.int .i64 3)), none, []⟩,
     ⟨2, (some 5), .mv (.tmp 4), none, []⟩,
     ⟨3, (some 6), .mv (.tmp 0), (some (5, true)), []⟩,
     ⟨4, (some 7), .bin .leq 3 true (.tmp 6) (.con (.int .i64 15)), (some (5, true)), []⟩,
     ⟨5, (some 8), .pick (.tmp 5) (.tmp 7) (.con (.bool false)), none, []⟩,
     ⟨6, (some 9), .mv (.tmp 8), none, []⟩,
     ⟨7, (some 10), .mv (.tmp 0), (some (9, false)), []⟩,
     ⟨8, (some 11), .bin .eql 3 true (.tmp 10) (.con (.int .i64 17)), (some (9, false)), []⟩,
     ⟨9, (some 12), .pick (.tmp 9) (.con (.bool true)) (.tmp 11), none, []⟩,
     ⟨10, (some 13), .mv (.tmp 12), none, []⟩,
     ⟨11, (some 14), .mv (.tmp 0), (some (13, false)), []⟩,
     ⟨12, (some 15), .bin .eql 3 true (.tmp 14) (.con (.int .i64 23)), (some (13, false)), []⟩,
     ⟨13, (some 16), .pick (.tmp 13) (.con (.bool true)) (.tmp 15), none, []⟩,
     ⟨14, (some 17), .mv (.tmp 16), none, []⟩,
     ⟨15, (some 18), .mv (.tmp 0), (some (17, false)), []⟩,
     ⟨16, (some 19), .bin .eql 3 true (.tmp 18) (.con (.int .i64 24)), (some (17, false)), []⟩,
     ⟨17, (some 20), .pick (.tmp 17) (.con (.bool true)) (.tmp 19), none, []⟩,
     ⟨18, (some 2), .mv (.tmp 20), none, []⟩])
  (.ret)),
 [.tmp 2]⟩
theorem p_r07_HasB : prepFun Go.Proofs.Tryd.prog [0] Go.Proofs.Tryd.f84 = some v_r07_HasB := by kernel_rfl
def v_r07_HasC : VFun :=
⟨.seq (.reg [⟨0, (some 2), .mv (.con (.bool false)), none, []⟩])
 (.seq (.reg [⟨0, (some 3), .mv (.tmp 0), none, []⟩,
     ⟨1, (some 4), .bin .eql 3 true (.tmp 3) (.con (.int .i64 12)), none, []⟩,
     ⟨2, (some 2), .mv (.tmp 4), none, []⟩])
  (.ret)),
 [.tmp 2]⟩
theorem p_r07_HasC : prepFun Go.Proofs.Tryd.prog [0] Go.Proofs.Tryd.f85 = some v_r07_HasC := by kernel_rfl
def v_r07_Array : VFun :=
⟨.seq (.reg [⟨0, (some 2), .mv (.con (.bool false)), none, []⟩])
 (.seq (.reg [⟨0, (some 3), .mv (.tmp 0), none, []⟩,
     ⟨1, (some 4), .bin .eql 3 true (.tmp 3) (.con (.int .i64 16)), none, []⟩,
     ⟨2, (some 5), .mv (.tmp 4), none, []⟩,
     ⟨3, (some 6), .mv (.tmp 0), (some (5, false)), []⟩,
     ⟨4, (some 7), .bin .eql 3 true (.tmp 6) (.con (.int .i64 17)), (some (5, false)), []⟩,
     ⟨5, (some 8), .pick (.tmp 5) (.con (.bool true)) (.tmp 7), none, []⟩,
     ⟨6, (some 9), .mv (.tmp 8), none, []⟩,
     ⟨7, (some 10), .mv (.tmp 0), (some (9, false)), []⟩,
     ⟨8, (some 11), .bin .eql 3 true (.tmp 10) (.con (.int .i64 25)), (some (9, false)), []⟩,
     ⟨9, (some 12), .pick (.tmp 9) (.con (.bool true)) (.tmp 11), none, []⟩,
     ⟨10, (some 2), .mv (.tmp 12), none, []⟩])
  (.ret)),
 [.tmp 2]⟩
theorem p_r07_Array : prepFun Go.Proofs.Tryd.prog [0] Go.Proofs.Tryd.f86 = some v_r07_Array := by kernel_rfl
def v_r07_Cell : VFun :=
⟨.seq (.reg [⟨0, (some 2), .mv (.con (.bool false)), none, []⟩])
 (.seq (.reg [⟨0, (some 3), .mv (.tmp 0), none, []⟩,
     ⟨1, (some 4), .bin .eql 3 true (.tmp 3) (.con (.int .i64 18)), none, []⟩,
     ⟨2, (some 5), .mv (.tmp 4), none, []⟩,
     ⟨3, (some 6), .mv (.tmp 0), (some (5, false)), []⟩,
     ⟨4, (some 7), .bin .eql 3 true (.tmp 6) (.con (.int .i64 19)), (some (5, false)), []⟩,
     ⟨5, (some 8), .pick (.tmp 5) (.con (.bool true)) (.tmp 7), none, []⟩,
     ⟨6, (some 2), .mv (.tmp 8), none, []⟩])
  (.ret)),
 [.tmp 2]⟩
theorem p_r07_Cell : prepFun Go.Proofs.Tryd.prog [0] Go.Proofs.Tryd.f87 = some v_r07_Cell := by kernel_rfl
def v_r07_HasN : VFun :=
⟨.seq (.reg [⟨0, (some 2), .mv (.con (.bool false)), none, []⟩])
 (.seq (.reg [⟨0, (some 3), .mv (.tmp 0), none, []⟩,
     ⟨1, (some 4), .bin .eql 3 true (.tmp 3) (.con (.int .i64 1)), none, []⟩,
     ⟨2, (some 5), .mv (.tmp 4), none, []⟩,
     ⟨3, (some 6), .mv (.tmp 0), (some (5, false)), []⟩,
     ⟨4, (some 7), .call 86 [(.tmp 6)], (some (5, false)), []⟩,
     ⟨5, (some 8), .pick (.tmp 5) (.con (.bool true)) (.tmp 7), none, []⟩,
     ⟨6, (some 9), .mv (.tmp 8), none, []⟩,
     ⟨7, (some 10), .mv (.tmp 0), (some (9, false)), []⟩,
     ⟨8, (some 11), .call 87 [(.tmp 10)], (some (9, false)), []⟩,
     ⟨9, (some 12), .pick (.tmp 9) (.con (.bool true)) (.tmp 11), none, []⟩,
     ⟨10, (some 13), .mv (.tmp 12), none, []⟩,
     ⟨11, (some 14), .mv (.tmp 0), (some (13, false)), []⟩,
     ⟨12, (some 15), .bin .eql 3 true (.tmp 14) (.con (.int .i64 21)), (some (13, false)), []⟩,
     ⟨13, (some 16), .pick (.tmp 13) (.con (.bool true)) (.tmp 15), none, []⟩,
     ⟨14, (some 2), .mv (.tmp 16), none, []⟩])
  (.ret)),
 [.tmp 2]⟩
theorem p_r07_HasN : prepFun Go.Proofs.Tryd.prog [0] Go.Proofs.Tryd.f88 = some v_r07_HasN := by kernel_rfl
def v_r07_EndA : VFun :=
⟨.seq (.reg [⟨0, (some 2), .mv (.con (.bool false)), none, []⟩])
 (.seq (.reg [⟨0, (some 3), .mv (.tmp 0), none, []⟩,
     ⟨1, (some 4), .bin .neq 3 true (.tmp 3) (.con (.int .i64 1)), none, []⟩,
     ⟨2, (some 2), .mv (.tmp 4), none, []⟩])
  (.ret)),
 [.tmp 2]⟩
theorem p_r07_EndA : prepFun Go.Proofs.Tryd.prog [0] Go.Proofs.Tryd.f89 = some v_r07_EndA := by kernel_rfl
def v_r07_EndTo : VFun :=
⟨.seq (.reg [⟨0, (some 2), .mv (.con (.bool false)), none, []⟩])
 (.seq (.reg [⟨0, (some 3), .mv (.tmp 0), none, []⟩,
     ⟨1, (some 4), .bin .eql 3 true (.tmp 3) (.con (.int .i64 1)), none, []⟩,
     ⟨2, (some 5), .mv (.tmp 4), none, []⟩,
     ⟨3, (some 6), .mv (.tmp 0), (some (5, false)), []⟩,
     ⟨4, (some 7), .bin .eql 3 true (.tmp 6) (.con (.int .i64 2)), (some (5, false)), []⟩,
     ⟨5, (some 8), .pick (.tmp 5) (.con (.bool true)) (.tmp 7), none, []⟩,
     ⟨6, (some 2), .mv (.tmp 8), none, []⟩])
  (.ret)),
 [.tmp 2]⟩
theorem p_r07_EndTo : prepFun Go.Proofs.Tryd.prog [0] Go.Proofs.Tryd.f90 = some v_r07_EndTo := by kernel_rfl
def v_r07_there : VFun :=
⟨.seq (.reg [⟨0, (some 2), .box (.tmp 0), none, []⟩,
    ⟨1, (some 4), .mv (.con (.bool false)), none, []⟩])
 (.seq (.reg [⟨0, (some 5), .mv (.tmp 1), none, []⟩,
     ⟨1, (some 6), .bin .geq 3 true (.tmp 5) (.con (.int .i64 0)), none, []⟩,
     ⟨2, (some 7), .mv (.tmp 6), none, []⟩,
     ⟨3, (some 8), .mv (.tmp 1), (some (7, true)), []⟩,
     ⟨4, (some 9), .fieldA 5 (.tmp 2), (some (7, true)), []⟩,
     ⟨5, (some 10), .load none (.tmp 9), (some (7, true)), []⟩,
     ⟨6, (some 11), .len (.tmp 10), (some (7, true)), []⟩,
     ⟨7, (some 12), .bin .lss 3 false (.tmp 8) (.tmp 11), (some (7, true)), []⟩,
     ⟨8, (some 13), .pick (.tmp 7) (.tmp 12) (.con (.bool false)), none, []⟩,
     ⟨9, (some 4), .mv (.tmp 13), none, []⟩])
  (.ret)),
 [.tmp 4]⟩
theorem p_r07_there : prepFun Go.Proofs.Tryd.prog [0] Go.Proofs.Tryd.f91 = some v_r07_there := by kernel_rfl
def v_r07_EndElse : VFun :=
⟨.seq (.reg [⟨0, (some 2), .mv (.con (.bool false)), none, []⟩])
 (.seq (.reg [⟨0, (some 3), .mv (.tmp 0), none, []⟩,
     ⟨1, (some 4), .bin .eql 3 true (.tmp 3) (.con (.int .i64 2)), none, []⟩,
     ⟨2, (some 2), .mv (.tmp 4), none, []⟩])
  (.ret)),
 [.tmp 2]⟩
theorem p_r07_EndElse : prepFun Go.Proofs.Tryd.prog [0] Go.Proofs.Tryd.f92 = some v_r07_EndElse := by kernel_rfl
def v_slices_Index_int : VFun :=
⟨.seq (.reg [⟨0, (some 4), .mv (.con (.int .i64 0)), none, []⟩])
 (.seq (.seq (.reg [⟨0, (some 6), .mv (.tmp 0), none, []⟩,
      ⟨1, (some 7), .len (.tmp 6), none, []⟩,
      ⟨2, (some 8), .mv (.con (.int .i64 0)), none, []⟩])
   (.block 0
    (.loop
     (.seq (.reg [⟨0, (some 9), .bin .lss 3 false (.tmp 8) (.tmp 7), none, []⟩])
      (.seq (.cond (.tmp 9)
        (.skip)
        (.exit 0))
       (.seq (.block 1
         (.seq (.reg [⟨0, (some 10), .mv (.tmp 8), none, []⟩,
             ⟨1, (some 5), .mv (.tmp 10), none, []⟩])
          (.seq (.reg [⟨0, (some 11), .mv (.tmp 1), none, []⟩,
              ⟨1, (some 12), .mv (.tmp 0), none, []⟩,
              ⟨2, (some 13), .mv (.tmp 5), none, []⟩,
              ⟨3, (some 14), .idxA none 1 (.tmp 12) (.tmp 13), none, []⟩,
              ⟨4, (some 15), .load none (.tmp 14), none, []⟩,
              ⟨5, (some 16), .bin .eql 3 false (.tmp 11) (.tmp 15), none, []⟩])
           (.cond (.tmp 16)
            (.seq (.reg [⟨0, (some 17), .mv (.tmp 5), none, []⟩,
                ⟨1, (some 4), .mv (.tmp 17), none, []⟩])
             (.ret))
            (.skip)))))
        (.reg [⟨0, (some 18), .bin .add 3 true (.tmp 8) (.con (.int .i64 1)), none, []⟩,
           ⟨1, (some 8), .mv (.tmp 18), none, []⟩])))))))
  (.seq (.reg [⟨0, (some 4), .mv (.con (.int .i64 (-1))), none, []⟩])
   (.ret))),
 [.tmp 4]⟩
theorem p_slices_Index_int : prepFun Go.Proofs.Tryd.prog [0] Go.Proofs.Tryd.f93 = some v_slices_Index_int := by kernel_rfl
def v_slices_insertionSortCmpFunc_int : VFun :=
⟨.seq (.reg [⟨0, (some 10), .mv (.tmp 1), none, []⟩,
    ⟨1, (some 11), .bin .add 3 true (.tmp 10) (.con (.int .i64 1)), none, []⟩,
    ⟨2, (some 8), .mv (.tmp 11), none, []⟩])
 (.block 0
  (.loop
   (.seq (.seq (.reg [⟨0, (some 12), .mv (.tmp 8), none, []⟩,
        ⟨1, (some 13), .mv (.tmp 2), none, []⟩,
        ⟨2, (some 14), .bin .lss 3 false (.tmp 12) (.tmp 13), none, []⟩])
     (.cond (.tmp 14)
      (.skip)
      (.exit 0)))
    (.seq (.block 1
      (.seq (.reg [⟨0, (some 17), .mv (.tmp 8), none, []⟩,
          ⟨1, (some 9), .mv (.tmp 17), none, []⟩])
       (.block 2
        (.loop
         (.seq (.seq (.reg [⟨0, (some 18), .mv (.tmp 9), none, []⟩,
              ⟨1, (some 19), .mv (.tmp 1), none, []⟩,
              ⟨2, (some 20), .bin .gtr 3 false (.tmp 18) (.tmp 19), none, []⟩,
              ⟨3, (some 21), .mv (.tmp 20), none, []⟩,
              ⟨4, (some 22), .mv (.tmp 3), (some (21, true)), []⟩,
              ⟨5, (some 23), .mv (.tmp 0), (some (21, true)), []⟩,
              ⟨6, (some 24), .mv (.tmp 9), (some (21, true)), []⟩,
              ⟨7, (some 25), .idxA none 1 (.tmp 23) (.tmp 24), (some (21, true)), []⟩,
              ⟨8, (some 26), .load none (.tmp 25), (some (21, true)), []⟩,
              ⟨9, (some 27), .mv (.tmp 0), (some (21, true)), []⟩,
              ⟨10, (some 28), .mv (.tmp 9), (some (21, true)), []⟩,
              ⟨11, (some 29), .bin .sub 3 true (.tmp 28) (.con (.int .i64 1)), (some (21, true)), []⟩,
              ⟨12, (some 30), .idxA none 1 (.tmp 27) (.tmp 29), (some (21, true)), []⟩,
              ⟨13, (some 31), .load none (.tmp 30), (some (21, true)), []⟩,
              ⟨14, (some 32), .callv (.tmp 22) [(.tmp 26), (.tmp 31)], (some (21, true)), []⟩,
              ⟨15, (some 33), .bin .lss 3 true (.tmp 32) (.con (.int .i64 0)), (some (21, true)), []⟩,
              ⟨16, (some 34), .pick (.tmp 21) (.tmp 33) (.con (.bool false)), none, []⟩])
           (.cond (.tmp 34)
            (.skip)
            (.exit 2)))
          (.seq (.block 3
            (.reg [⟨0, (some 37), .mv (.tmp 0), none, []⟩,
               ⟨1, (some 38), .mv (.tmp 9), none, []⟩,
               ⟨2, (some 39), .mv (.tmp 0), none, []⟩,
               ⟨3, (some 40), .mv (.tmp 9), none, []⟩,
               ⟨4, (some 41), .bin .sub 3 true (.tmp 40) (.con (.int .i64 1)), none, []⟩,
               ⟨5, (some 42), .mv (.tmp 0), none, []⟩,
               ⟨6, (some 43), .mv (.tmp 9), none, []⟩,
               ⟨7, (some 44), .bin .sub 3 true (.tmp 43) (.con (.int .i64 1)), none, []⟩,
               ⟨8, (some 45), .idxA none 1 (.tmp 42) (.tmp 44), none, []⟩,
               ⟨9, (some 46), .load none (.tmp 45), none, []⟩,
               ⟨10, (some 47), .mv (.tmp 0), none, []⟩,
               ⟨11, (some 48), .mv (.tmp 9), none, []⟩,
               ⟨12, (some 49), .idxA none 1 (.tmp 47) (.tmp 48), none, []⟩,
               ⟨13, (some 50), .load none (.tmp 49), none, []⟩,
               ⟨14, (some 51), .idxA none 1 (.tmp 37) (.tmp 38), none, []⟩,
               ⟨15, none, .store 1 (.tmp 51) (.tmp 46), none, []⟩,
               ⟨16, (some 52), .idxA none 1 (.tmp 39) (.tmp 41), none, []⟩,
               ⟨17, none, .store 1 (.tmp 52) (.tmp 50), none, []⟩]))
           (.reg [⟨0, (some 35), .mv (.tmp 9), none, []⟩,
              ⟨1, (some 36), .bin .sub 3 true (.tmp 35) (.con (.int .i64 1)), none, []⟩,
              ⟨2, (some 9), .mv (.tmp 36), none, []⟩])))))))
     (.reg [⟨0, (some 15), .mv (.tmp 8), none, []⟩,
        ⟨1, (some 16), .bin .add 3 true (.tmp 15) (.con (.int .i64 1)), none, []⟩,
        ⟨2, (some 8), .mv (.tmp 16), none, []⟩]))))),
 []⟩
theorem p_slices_insertionSortCmpFunc_int : prepFun Go.Proofs.Tryd.prog [0] Go.Proofs.Tryd.f94 = some v_slices_insertionSortCmpFunc_int := by kernel_rfl
def v_slices_symMergeCmpFunc_int : VFun :=
⟨.seq (.seq (.reg [⟨0, (some 25), .mv (.tmp 2), none, []⟩,
     ⟨1, (some 26), .mv (.tmp 1), none, []⟩,
     ⟨2, (some 27), .bin .sub 3 false (.tmp 25) (.tmp 26), none, []⟩,
     ⟨3, (some 28), .bin .eql 3 true (.tmp 27) (.con (.int .i64 1)), none, []⟩])
  (.cond (.tmp 28)
   (.seq (.reg [⟨0, (some 29), .mv (.tmp 2), none, []⟩,
       ⟨1, (some 10), .mv (.tmp 29), none, []⟩])
    (.seq (.reg [⟨0, (some 30), .mv (.tmp 3), none, []⟩,
        ⟨1, (some 11), .mv (.tmp 30), none, []⟩])
     (.seq (.block 0
       (.loop
        (.seq (.seq (.reg [⟨0, (some 31), .mv (.tmp 10), none, []⟩,
             ⟨1, (some 32), .mv (.tmp 11), none, []⟩,
             ⟨2, (some 33), .bin .lss 3 false (.tmp 31) (.tmp 32), none, []⟩])
          (.cond (.tmp 33)
           (.skip)
           (.exit 0)))
         (.block 1
          (.seq (.reg [⟨0, (some 34), .mv (.tmp 10), none, []⟩,
              ⟨1, (some 35), .mv (.tmp 11), none, []⟩,
              ⟨2, (some 36), .bin .add 3 false (.tmp 34) (.tmp 35), none, []⟩,
              ⟨3, (some 37), .conv 3 142 (.tmp 36), none, []⟩,
              ⟨4, (some 38), .bin .shr 142 true (.tmp 37) (.con (.int .u64 1)), none, []⟩,
              ⟨5, (some 39), .conv 142 3 (.tmp 38), none, []⟩,
              ⟨6, (some 12), .mv (.tmp 39), none, []⟩])
           (.seq (.reg [⟨0, (some 40), .mv (.tmp 4), none, []⟩,
               ⟨1, (some 41), .mv (.tmp 0), none, []⟩,
               ⟨2, (some 42), .mv (.tmp 12), none, []⟩,
               ⟨3, (some 43), .idxA none 1 (.tmp 41) (.tmp 42), none, []⟩,
               ⟨4, (some 44), .load none (.tmp 43), none, []⟩,
               ⟨5, (some 45), .mv (.tmp 0), none, []⟩,
               ⟨6, (some 46), .mv (.tmp 1), none, []⟩,
               ⟨7, (some 47), .idxA none 1 (.tmp 45) (.tmp 46), none, []⟩,
               ⟨8, (some 48), .load none (.tmp 47), none, []⟩,
               ⟨9, (some 49), .callv (.tmp 40) [(.tmp 44), (.tmp 48)], none, []⟩,
               ⟨10, (some 50), .bin .lss 3 true (.tmp 49) (.con (.int .i64 0)), none, []⟩])
            (.cond (.tmp 50)
             (.reg [⟨0, (some 51), .mv (.tmp 12), none, []⟩,
                ⟨1, (some 52), .bin .add 3 true (.tmp 51) (.con (.int .i64 1)), none, []⟩,
                ⟨2, (some 10), .mv (.tmp 52), none, []⟩])
             (.reg [⟨0, (some 53), .mv (.tmp 12), none, []⟩,
                ⟨1, (some 11), .mv (.tmp 53), none, []⟩]))))))))
      (.seq (.seq (.reg [⟨0, (some 54), .mv (.tmp 1), none, []⟩,
           ⟨1, (some 13), .mv (.tmp 54), none, []⟩])
        (.block 2
         (.loop
          (.seq (.seq (.reg [⟨0, (some 55), .mv (.tmp 13), none, []⟩,
               ⟨1, (some 56), .mv (.tmp 10), none, []⟩,
               ⟨2, (some 57), .bin .sub 3 true (.tmp 56) (.con (.int .i64 1)), none, []⟩,
               ⟨3, (some 58), .bin .lss 3 false (.tmp 55) (.tmp 57), none, []⟩])
            (.cond (.tmp 58)
             (.skip)
             (.exit 2)))
           (.seq (.block 3
             (.reg [⟨0, (some 61), .mv (.tmp 0), none, []⟩,
                ⟨1, (some 62), .mv (.tmp 13), none, []⟩,
                ⟨2, (some 63), .mv (.tmp 0), none, []⟩,
                ⟨3, (some 64), .mv (.tmp 13), none, []⟩,
                ⟨4, (some 65), .bin .add 3 true (.tmp 64) (.con (.int .i64 1)), none, []⟩,
                ⟨5, (some 66), .mv (.tmp 0), none, []⟩,
                ⟨6, (some 67), .mv (.tmp 13), none, []⟩,
                ⟨7, (some 68), .bin .add 3 true (.tmp 67) (.con (.int .i64 1)), none, []⟩,
                ⟨8, (some 69), .idxA none 1 (.tmp 66) (.tmp 68), none, []⟩,
                ⟨9, (some 70), .load none (.tmp 69), none, []⟩,
                ⟨10, (some 71), .mv (.tmp 0), none, []⟩,
                ⟨11, (some 72), .mv (.tmp 13), none, []⟩,
                ⟨12, (some 73), .idxA none 1 (.tmp 71) (.tmp 72), none, []⟩,
                ⟨13, (some 74), .load none (.tmp 73), none, []⟩,
                ⟨14, (some 75), .idxA none 1 (.tmp 61) (.tmp 62), none, []⟩,
                ⟨15, none, .store 1 (.tmp 75) (.tmp 70), none, []⟩,
                ⟨16, (some 76), .idxA none 1 (.tmp 63) (.tmp 65), none, []⟩,
                ⟨17, none, .store 1 (.tmp 76) (.tmp 74), none, []⟩]))
            (.reg [⟨0, (some 59), .mv (.tmp 13), none, []⟩,
               ⟨1, (some 60), .bin .add 3 true (.tmp 59) (.con (.int .i64 1)), none, []⟩,
               ⟨2, (some 13), .mv (.tmp 60), none, []⟩]))))))
       (.ret)))))
   (.skip)))
 (.seq (.seq (.reg [⟨0, (some 77), .mv (.tmp 3), none, []⟩,
      ⟨1, (some 78), .mv (.tmp 2), none, []⟩,
      ⟨2, (some 79), .bin .sub 3 false (.tmp 77) (.tmp 78), none, []⟩,
      ⟨3, (some 80), .bin .eql 3 true (.tmp 79) (.con (.int .i64 1)), none, []⟩])
   (.cond (.tmp 80)
    (.seq (.reg [⟨0, (some 81), .mv (.tmp 1), none, []⟩,
        ⟨1, (some 14), .mv (.tmp 81), none, []⟩])
     (.seq (.reg [⟨0, (some 82), .mv (.tmp 2), none, []⟩,
         ⟨1, (some 15), .mv (.tmp 82), none, []⟩])
      (.seq (.block 4
        (.loop
         (.seq (.seq (.reg [⟨0, (some 83), .mv (.tmp 14), none, []⟩,
              ⟨1, (some 84), .mv (.tmp 15), none, []⟩,
              ⟨2, (some 85), .bin .lss 3 false (.tmp 83) (.tmp 84), none, []⟩])
           (.cond (.tmp 85)
            (.skip)
            (.exit 4)))
          (.block 5
           (.seq (.reg [⟨0, (some 86), .mv (.tmp 14), none, []⟩,
               ⟨1, (some 87), .mv (.tmp 15), none, []⟩,
               ⟨2, (some 88), .bin .add 3 false (.tmp 86) (.tmp 87), none, []⟩,
               ⟨3, (some 89), .conv 3 142 (.tmp 88), none, []⟩,
               ⟨4, (some 90), .bin .shr 142 true (.tmp 89) (.con (.int .u64 1)), none, []⟩,
               ⟨5, (some 91), .conv 142 3 (.tmp 90), none, []⟩,
               ⟨6, (some 16), .mv (.tmp 91), none, []⟩])
            (.seq (.reg [⟨0, (some 92), .mv (.tmp 4), none, []⟩,
                ⟨1, (some 93), .mv (.tmp 0), none, []⟩,
                ⟨2, (some 94), .mv (.tmp 2), none, []⟩,
                ⟨3, (some 95), .idxA none 1 (.tmp 93) (.tmp 94), none, []⟩,
                ⟨4, (some 96), .load none (.tmp 95), none, []⟩,
                ⟨5, (some 97), .mv (.tmp 0), none, []⟩,
                ⟨6, (some 98), .mv (.tmp 16), none, []⟩,
                ⟨7, (some 99), .idxA none 1 (.tmp 97) (.tmp 98), none, []⟩,
                ⟨8, (some 100), .load none (.tmp 99), none, []⟩,
                ⟨9, (some 101), .callv (.tmp 92) [(.tmp 96), (.tmp 100)], none, []⟩,
                ⟨10, (some 102), .bin .lss 3 true (.tmp 101) (.con (.int .i64 0)), none, []⟩,
                ⟨11, (some 103), .un .not (.tmp 102), none, []⟩])
             (.cond (.tmp 103)
              (.reg [⟨0, (some 104), .mv (.tmp 16), none, []⟩,
                 ⟨1, (some 105), .bin .add 3 true (.tmp 104) (.con (.int .i64 1)), none, []⟩,
                 ⟨2, (some 14), .mv (.tmp 105), none, []⟩])
              (.reg [⟨0, (some 106), .mv (.tmp 16), none, []⟩,
                 ⟨1, (some 15), .mv (.tmp 106), none, []⟩]))))))))
       (.seq (.seq (.reg [⟨0, (some 107), .mv (.tmp 2), none, []⟩,
            ⟨1, (some 17), .mv (.tmp 107), none, []⟩])
         (.block 6
          (.loop
           (.seq (.seq (.reg [⟨0, (some 108), .mv (.tmp 17), none, []⟩,
                ⟨1, (some 109), .mv (.tmp 14), none, []⟩,
                ⟨2, (some 110), .bin .gtr 3 false (.tmp 108) (.tmp 109), none, []⟩])
             (.cond (.tmp 110)
              (.skip)
              (.exit 6)))
            (.seq (.block 7
              (.reg [⟨0, (some 113), .mv (.tmp 0), none, []⟩,
                 ⟨1, (some 114), .mv (.tmp 17), none, []⟩,
                 ⟨2, (some 115), .mv (.tmp 0), none, []⟩,
                 ⟨3, (some 116), .mv (.tmp 17), none, []⟩,
                 ⟨4, (some 117), .bin .sub 3 true (.tmp 116) (.con (.int .i64 1)), none, []⟩,
                 ⟨5, (some 118), .mv (.tmp 0), none, []⟩,
                 ⟨6, (some 119), .mv (.tmp 17), none, []⟩,
                 ⟨7, (some 120), .bin .sub 3 true (.tmp 119) (.con (.int .i64 1)), none, []⟩,
                 ⟨8, (some 121), .idxA none 1 (.tmp 118) (.tmp 120), none, []⟩,
                 ⟨9, (some 122), .load none (.tmp 121), none, []⟩,
                 ⟨10, (some 123), .mv (.tmp 0), none, []⟩,
                 ⟨11, (some 124), .mv (.tmp 17), none, []⟩,
                 ⟨12, (some 125), .idxA none 1 (.tmp 123) (.tmp 124), none, []⟩,
                 ⟨13, (some 126), .load none (.tmp 125), none, []⟩,
                 ⟨14, (some 127), .idxA none 1 (.tmp 113) (.tmp 114), none, []⟩,
                 ⟨15, none, .store 1 (.tmp 127) (.tmp 122), none, []⟩,
                 ⟨16, (some 128), .idxA none 1 (.tmp 115) (.tmp 117), none, []⟩,
                 ⟨17, none, .store 1 (.tmp 128) (.tmp 126), none, []⟩]))
             (.reg [⟨0, (some 111), .mv (.tmp 17), none, []⟩,
                ⟨1, (some 112), .bin .sub 3 true (.tmp 111) (.con (.int .i64 1)), none, []⟩,
                ⟨2, (some 17), .mv (.tmp 112), none, []⟩]))))))
        (.ret)))))
    (.skip)))
  (.seq (.reg [⟨0, (some 129), .mv (.tmp 1), none, []⟩,
      ⟨1, (some 130), .mv (.tmp 3), none, []⟩,
      ⟨2, (some 131), .bin .add 3 false (.tmp 129) (.tmp 130), none, []⟩,
      ⟨3, (some 132), .conv 3 142 (.tmp 131), none, []⟩,
      ⟨4, (some 133), .bin .shr 142 true (.tmp 132) (.con (.int .u64 1)), none, []⟩,
      ⟨5, (some 134), .conv 142 3 (.tmp 133), none, []⟩,
      ⟨6, (some 18), .mv (.tmp 134), none, []⟩])
   (.seq (.reg [⟨0, (some 135), .mv (.tmp 18), none, []⟩,
       ⟨1, (some 136), .mv (.tmp 2), none, []⟩,
       ⟨2, (some 137), .bin .add 3 false (.tmp 135) (.tmp 136), none, []⟩,
       ⟨3, (some 19), .mv (.tmp 137), none, []⟩])
    (.seq (.reg [⟨0, (some 20), .mv (.con (.int .i64 0)), none, []⟩,
        ⟨1, (some 21), .mv (.con (.int .i64 0)), none, []⟩])
     (.seq (.seq (.reg [⟨0, (some 138), .mv (.tmp 2), none, []⟩,
          ⟨1, (some 139), .mv (.tmp 18), none, []⟩,
          ⟨2, (some 140), .bin .gtr 3 false (.tmp 138) (.tmp 139), none, []⟩])
       (.cond (.tmp 140)
        (.seq (.reg [⟨0, (some 141), .mv (.tmp 19), none, []⟩,
            ⟨1, (some 142), .mv (.tmp 3), none, []⟩,
            ⟨2, (some 143), .bin .sub 3 false (.tmp 141) (.tmp 142), none, []⟩,
            ⟨3, (some 20), .mv (.tmp 143), none, []⟩])
         (.reg [⟨0, (some 144), .mv (.tmp 18), none, []⟩,
            ⟨1, (some 21), .mv (.tmp 144), none, []⟩]))
        (.seq (.reg [⟨0, (some 145), .mv (.tmp 1), none, []⟩,
            ⟨1, (some 20), .mv (.tmp 145), none, []⟩])
         (.reg [⟨0, (some 146), .mv (.tmp 2), none, []⟩,
            ⟨1, (some 21), .mv (.tmp 146), none, []⟩]))))
      (.seq (.reg [⟨0, (some 147), .mv (.tmp 19), none, []⟩,
          ⟨1, (some 148), .bin .sub 3 true (.tmp 147) (.con (.int .i64 1)), none, []⟩,
          ⟨2, (some 22), .mv (.tmp 148), none, []⟩])
       (.seq (.block 8
         (.loop
          (.seq (.seq (.reg [⟨0, (some 149), .mv (.tmp 20), none, []⟩,
               ⟨1, (some 150), .mv (.tmp 21), none, []⟩,
               ⟨2, (some 151), .bin .lss 3 false (.tmp 149) (.tmp 150), none, []⟩])
            (.cond (.tmp 151)
             (.skip)
             (.exit 8)))
           (.block 9
            (.seq (.reg [⟨0, (some 152), .mv (.tmp 20), none, []⟩,
                ⟨1, (some 153), .mv (.tmp 21), none, []⟩,
                ⟨2, (some 154), .bin .add 3 false (.tmp 152) (.tmp 153), none, []⟩,
                ⟨3, (some 155), .conv 3 142 (.tmp 154), none, []⟩,
                ⟨4, (some 156), .bin .shr 142 true (.tmp 155) (.con (.int .u64 1)), none, []⟩,
                ⟨5, (some 157), .conv 142 3 (.tmp 156), none, []⟩,
                ⟨6, (some 23), .mv (.tmp 157), none, []⟩])
             (.seq (.reg [⟨0, (some 158), .mv (.tmp 4), none, []⟩,
                 ⟨1, (some 159), .mv (.tmp 0), none, []⟩,
                 ⟨2, (some 160), .mv (.tmp 22), none, []⟩,
                 ⟨3, (some 161), .mv (.tmp 23), none, []⟩,
                 ⟨4, (some 162), .bin .sub 3 false (.tmp 160) (.tmp 161), none, []⟩,
                 ⟨5, (some 163), .idxA none 1 (.tmp 159) (.tmp 162), none, []⟩,
                 ⟨6, (some 164), .load none (.tmp 163), none, []⟩,
                 ⟨7, (some 165), .mv (.tmp 0), none, []⟩,
                 ⟨8, (some 166), .mv (.tmp 23), none, []⟩,
                 ⟨9, (some 167), .idxA none 1 (.tmp 165) (.tmp 166), none, []⟩,
                 ⟨10, (some 168), .load none (.tmp 167), none, []⟩,
                 ⟨11, (some 169), .callv (.tmp 158) [(.tmp 164), (.tmp 168)], none, []⟩,
                 ⟨12, (some 170), .bin .lss 3 true (.tmp 169) (.con (.int .i64 0)), none, []⟩,
                 ⟨13, (some 171), .un .not (.tmp 170), none, []⟩])
              (.cond (.tmp 171)
               (.reg [⟨0, (some 172), .mv (.tmp 23), none, []⟩,
                  ⟨1, (some 173), .bin .add 3 true (.tmp 172) (.con (.int .i64 1)), none, []⟩,
                  ⟨2, (some 20), .mv (.tmp 173), none, []⟩])
               (.reg [⟨0, (some 174), .mv (.tmp 23), none, []⟩,
                  ⟨1, (some 21), .mv (.tmp 174), none, []⟩]))))))))
        (.seq (.reg [⟨0, (some 175), .mv (.tmp 19), none, []⟩,
            ⟨1, (some 176), .mv (.tmp 20), none, []⟩,
            ⟨2, (some 177), .bin .sub 3 false (.tmp 175) (.tmp 176), none, []⟩,
            ⟨3, (some 24), .mv (.tmp 177), none, []⟩])
         (.seq (.seq (.reg [⟨0, (some 178), .mv (.tmp 20), none, []⟩,
              ⟨1, (some 179), .mv (.tmp 2), none, []⟩,
              ⟨2, (some 180), .bin .lss 3 false (.tmp 178) (.tmp 179), none, []⟩,
              ⟨3, (some 181), .mv (.tmp 180), none, []⟩,
              ⟨4, (some 182), .mv (.tmp 2), (some (181, true)), []⟩,
              ⟨5, (some 183), .mv (.tmp 24), (some (181, true)), []⟩,
              ⟨6, (some 184), .bin .lss 3 false (.tmp 182) (.tmp 183), (some (181, true)), []⟩,
              ⟨7, (some 185), .pick (.tmp 181) (.tmp 184) (.con (.bool false)), none, []⟩])
           (.cond (.tmp 185)
            (.reg [⟨0, (some 186), .mv (.tmp 0), none, []⟩,
               ⟨1, (some 187), .mv (.tmp 20), none, []⟩,
               ⟨2, (some 188), .mv (.tmp 2), none, []⟩,
               ⟨3, (some 189), .mv (.tmp 24), none, []⟩,
               ⟨4, (some 190), .mv (.tmp 4), none, []⟩,
               ⟨5, (some 191), .call 107 [(.tmp 186), (.tmp 187), (.tmp 188), (.tmp 189), (.tmp 190)], none, []⟩])
            (.skip)))
          (.seq (.seq (.reg [⟨0, (some 192), .mv (.tmp 1), none, []⟩,
               ⟨1, (some 193), .mv (.tmp 20), none, []⟩,
               ⟨2, (some 194), .bin .lss 3 false (.tmp 192) (.tmp 193), none, []⟩,
               ⟨3, (some 195), .mv (.tmp 194), none, []⟩,
               ⟨4, (some 196), .mv (.tmp 20), (some (195, true)), []⟩,
               ⟨5, (some 197), .mv (.tmp 18), (some (195, true)), []⟩,
               ⟨6, (some 198), .bin .lss 3 false (.tmp 196) (.tmp 197), (some (195, true)), []⟩,
               ⟨7, (some 199), .pick (.tmp 195) (.tmp 198) (.con (.bool false)), none, []⟩])
            (.cond (.tmp 199)
             (.reg [⟨0, (some 200), .mv (.tmp 0), none, []⟩,
                ⟨1, (some 201), .mv (.tmp 1), none, []⟩,
                ⟨2, (some 202), .mv (.tmp 20), none, []⟩,
                ⟨3, (some 203), .mv (.tmp 18), none, []⟩,
                ⟨4, (some 204), .mv (.tmp 4), none, []⟩,
                ⟨5, (some 205), .call 95 [(.tmp 200), (.tmp 201), (.tmp 202), (.tmp 203), (.tmp 204)], none, []⟩])
             (.skip)))
           (.seq (.reg [⟨0, (some 206), .mv (.tmp 18), none, []⟩,
               ⟨1, (some 207), .mv (.tmp 24), none, []⟩,
               ⟨2, (some 208), .bin .lss 3 false (.tmp 206) (.tmp 207), none, []⟩,
               ⟨3, (some 209), .mv (.tmp 208), none, []⟩,
               ⟨4, (some 210), .mv (.tmp 24), (some (209, true)), []⟩,
               ⟨5, (some 211), .mv (.tmp 3), (some (209, true)), []⟩,
               ⟨6, (some 212), .bin .lss 3 false (.tmp 210) (.tmp 211), (some (209, true)), []⟩,
               ⟨7, (some 213), .pick (.tmp 209) (.tmp 212) (.con (.bool false)), none, []⟩])
            (.cond (.tmp 213)
             (.reg [⟨0, (some 214), .mv (.tmp 0), none, []⟩,
                ⟨1, (some 215), .mv (.tmp 18), none, []⟩,
                ⟨2, (some 216), .mv (.tmp 24), none, []⟩,
                ⟨3, (some 217), .mv (.tmp 3), none, []⟩,
                ⟨4, (some 218), .mv (.tmp 4), none, []⟩,
                ⟨5, (some 219), .call 95 [(.tmp 214), (.tmp 215), (.tmp 216), (.tmp 217), (.tmp 218)], none, []⟩])
             (.skip))))))))))))),
 []⟩
theorem p_slices_symMergeCmpFunc_int : prepFun Go.Proofs.Tryd.prog [0] Go.Proofs.Tryd.f95 = some v_slices_symMergeCmpFunc_int := by kernel_rfl
end Go.VX.Seat
end
section
set_option maxRecDepth 20000
/-! MADE BY PROGRAM (lits.py): functions as they are prepared. -/
namespace Go.VX.Seat
def v_r09_Engine_trap : VFun :=
⟨.seq (.reg [⟨0, (some 5), .mv (.tmp 0), none, []⟩,
    ⟨1, (some 6), .nilck (.tmp 5), none, []⟩,
    ⟨2, (some 7), .fieldA 0 (.tmp 6), none, []⟩,
    ⟨3, (some 8), .fieldA 5 (.tmp 7), none, []⟩,
    ⟨4, (some 9), .load none (.tmp 8), none, []⟩,
    ⟨5, (some 10), .mv (.tmp 0), none, []⟩,
    ⟨6, (some 11), .nilck (.tmp 10), none, []⟩,
    ⟨7, (some 12), .fieldA 9 (.tmp 11), none, []⟩,
    ⟨8, (some 13), .load none (.tmp 12), none, []⟩,
    ⟨9, (some 14), .idxA none 6 (.tmp 9) (.tmp 13), none, []⟩,
    ⟨10, (some 15), .fieldA 5 (.tmp 14), none, []⟩,
    ⟨11, (some 16), .load none (.tmp 15), none, []⟩,
    ⟨12, (some 4), .mv (.tmp 16), none, []⟩])
 (.seq (.seq (.reg [⟨0, (some 17), .mv (.tmp 4), none, []⟩,
      ⟨1, (some 18), .bin .lss 3 true (.tmp 17) (.con (.int .i64 0)), none, []⟩])
   (.cond (.tmp 18)
    (.seq (.reg [⟨0, (some 19), .mv (.tmp 0), none, []⟩,
        ⟨1, (some 20), .mv (.tmp 1), none, []⟩,
        ⟨2, (some 21), .call 100 [(.tmp 19), (.con (.int .i64 2)), (.tmp 20)], none, []⟩])
     (.ret))
    (.skip)))
  (.seq (.reg [⟨0, (some 22), .mv (.tmp 0), none, []⟩,
      ⟨1, (some 23), .nilck (.tmp 22), none, []⟩,
      ⟨2, (some 24), .fieldA 6 (.tmp 23), none, []⟩,
      ⟨3, (some 25), .load none (.tmp 24), none, []⟩,
      ⟨4, (some 26), .mv (.tmp 0), none, []⟩,
      ⟨5, (some 27), .nilck (.tmp 26), none, []⟩,
      ⟨6, (some 28), .fieldA 0 (.tmp 27), none, []⟩,
      ⟨7, (some 29), .fieldA 3 (.tmp 28), none, []⟩,
      ⟨8, (some 30), .load none (.tmp 29), none, []⟩,
      ⟨9, (some 31), .mv (.tmp 1), none, []⟩,
      ⟨10, (some 32), .build [(.int .i64 0), (.int .i64 0)] [(0, 1, (.tmp 31))], none, []⟩,
      ⟨11, (some 33), .idxA none 2 (.tmp 25) (.tmp 30), none, []⟩,
      ⟨12, none, .store 2 (.tmp 33) (.tmp 32), none, []⟩])
   (.reg [⟨0, (some 34), .mv (.tmp 0), none, []⟩,
      ⟨1, (some 35), .mv (.tmp 4), none, []⟩,
      ⟨2, (some 36), .call 76 [(.tmp 34), (.tmp 35)], none, []⟩]))),
 []⟩
theorem p_r09_Engine_trap : prepFun Go.Proofs.Tryd.prog [0] Go.Proofs.Tryd.f96 = some v_r09_Engine_trap := by kernel_rfl
def v_r07_Operands : VFun :=
⟨.seq (.reg [⟨0, (some 1), .box (.tmp 0), none, []⟩,
    ⟨1, (some 2), .mv (.con (.slice none 0 0)), none, []⟩])
 (.seq (.reg [⟨0, (some 3), .mv (.con (.slice none 0 0)), none, []⟩])
  (.seq (.seq (.reg [⟨0, (some 4), .fieldA 0 (.tmp 1), none, []⟩,
       ⟨1, (some 5), .load none (.tmp 4), none, []⟩,
       ⟨2, (some 6), .call 83 [(.tmp 5)], none, []⟩])
    (.cond (.tmp 6)
     (.reg [⟨0, (some 7), .mv (.tmp 3), none, []⟩,
        ⟨1, (some 8), .fieldA 2 (.tmp 1), none, []⟩,
        ⟨2, (some 9), .load none (.tmp 8), none, []⟩,
        ⟨3, (some 10), .bslice 1 1 [(.int .i64 0)] [(0, 1, (.tmp 9))], none, []⟩,
        ⟨4, (some 11), .append 1 8 (.tmp 7) (.tmp 10), none, []⟩,
        ⟨5, (some 3), .mv (.tmp 11), none, []⟩])
     (.skip)))
   (.seq (.seq (.reg [⟨0, (some 12), .fieldA 0 (.tmp 1), none, []⟩,
        ⟨1, (some 13), .load none (.tmp 12), none, []⟩,
        ⟨2, (some 14), .call 84 [(.tmp 13)], none, []⟩])
     (.cond (.tmp 14)
      (.reg [⟨0, (some 15), .mv (.tmp 3), none, []⟩,
         ⟨1, (some 16), .fieldA 3 (.tmp 1), none, []⟩,
         ⟨2, (some 17), .load none (.tmp 16), none, []⟩,
         ⟨3, (some 18), .bslice 1 1 [(.int .i64 0)] [(0, 1, (.tmp 17))], none, []⟩,
         ⟨4, (some 19), .append 1 8 (.tmp 15) (.tmp 18), none, []⟩,
         ⟨5, (some 3), .mv (.tmp 19), none, []⟩])
      (.skip)))
    (.seq (.seq (.reg [⟨0, (some 20), .fieldA 0 (.tmp 1), none, []⟩,
         ⟨1, (some 21), .load none (.tmp 20), none, []⟩,
         ⟨2, (some 22), .call 85 [(.tmp 21)], none, []⟩])
      (.cond (.tmp 22)
       (.reg [⟨0, (some 23), .mv (.tmp 3), none, []⟩,
          ⟨1, (some 24), .fieldA 4 (.tmp 1), none, []⟩,
          ⟨2, (some 25), .load none (.tmp 24), none, []⟩,
          ⟨3, (some 26), .bslice 1 1 [(.int .i64 0)] [(0, 1, (.tmp 25))], none, []⟩,
          ⟨4, (some 27), .append 1 8 (.tmp 23) (.tmp 26), none, []⟩,
          ⟨5, (some 3), .mv (.tmp 27), none, []⟩])
       (.skip)))
     (.seq (.reg [⟨0, (some 28), .mv (.tmp 3), none, []⟩,
         ⟨1, (some 2), .mv (.tmp 28), none, []⟩])
      (.ret)))))),
 [.tmp 2]⟩
theorem p_r07_Operands : prepFun Go.Proofs.Tryd.prog [0] Go.Proofs.Tryd.f97 = some v_r07_Operands := by kernel_rfl
def v_r01_Has : VFun :=
⟨.seq (.reg [⟨0, (some 2), .mv (.con (.bool false)), none, []⟩])
 (.seq (.reg [⟨0, (some 3), .mv (.tmp 0), none, []⟩,
     ⟨1, (some 4), .bin .geq 3 true (.tmp 3) (.con (.int .i64 1)), none, []⟩,
     ⟨2, (some 5), .mv (.tmp 4), none, []⟩,
     ⟨3, (some 6), .mv (.tmp 0), (some (5, true)), []⟩,
     ⟨4, (some 7), .bin .leq 3 true (.tmp 6) (.con (.int .i64 15)), (some (5, true)), []⟩,
     ⟨5, (some 8), .pick (.tmp 5) (.tmp 7) (.con (.bool false)), none, []⟩,
     ⟨6, (some 9), .mv (.tmp 8), none, []⟩,
     ⟨7, (some 10), .mv (.tmp 0), (some (9, false)), []⟩,
     ⟨8, (some 11), .bin .eql 3 true (.tmp 10) (.con (.int .i64 23)), (some (9, false)), []⟩,
     ⟨9, (some 12), .pick (.tmp 9) (.con (.bool true)) (.tmp 11), none, []⟩,
     ⟨10, (some 13), .mv (.tmp 12), none, []⟩,
     ⟨11, (some 14), .mv (.tmp 0), (some (13, false)), []⟩,
     ⟨12, (some 15), .bin .eql 3 true (.tmp 14) (.con (.int .i64 24)), (some (13, false)), []⟩,
     ⟨13, (some 16), .pick (.tmp 13) (.con (.bool true)) (.tmp 15), none, []⟩,
     ⟨14, (some 2), .mv (.tmp 16), none, []⟩])
  (.ret)),
 [.tmp 2]⟩
theorem p_r01_Has : prepFun Go.Proofs.Tryd.prog [0] Go.Proofs.Tryd.f98 = some v_r01_Has := by kernel_rfl
def v_r01_Do : VFun :=
⟨.seq (.reg [⟨0, (some 4), .box (.tmp 0), none, []⟩,
    ⟨1, (some 5), .box (.tmp 1), none, []⟩,
    ⟨2, (some 6), .box (.tmp 2), none, []⟩,
    ⟨3, (some 7), .box (.tmp 3), none, []⟩,
    ⟨4, (some 8), .alloc [(.int .i64 0), (.int .i64 0)], none, []⟩,
    ⟨5, (some 9), .mv (.con (.int .i64 0)), none, []⟩])
 (.seq (.seq (.reg [⟨0, (some 17), .fieldA 0 (.tmp 4), none, []⟩,
      ⟨1, (some 18), .load none (.tmp 17), none, []⟩])
   (.block 0
    (.seq (.reg [⟨0, (some 20), .bin .eql 3 true (.tmp 18) (.con (.int .i64 1)), none, []⟩,
        ⟨1, (some 19), .mv (.tmp 20), none, []⟩])
     (.cond (.tmp 19)
      (.seq (.reg [⟨0, (some 21), .fieldA 5 (.tmp 4), none, []⟩,
          ⟨1, (some 22), .load none (.tmp 21), none, []⟩,
          ⟨2, (some 23), .build [(.int .i64 0), (.int .i64 0)] [(0, 1, (.tmp 22))], none, []⟩,
          ⟨3, none, .store 2 (.tmp 8) (.tmp 23), none, []⟩,
          ⟨4, (some 9), .mv (.con (.int .i64 0)), none, []⟩])
       (.ret))
      (.seq (.reg [⟨0, (some 25), .bin .eql 3 true (.tmp 18) (.con (.int .i64 2)), none, []⟩,
          ⟨1, (some 24), .mv (.tmp 25), none, []⟩])
       (.cond (.tmp 24)
        (.seq (.reg [⟨0, (some 26), .load (some 2) (.tmp 5), none, []⟩,
            ⟨1, none, .store 2 (.tmp 8) (.tmp 26), none, []⟩,
            ⟨2, (some 9), .mv (.con (.int .i64 0)), none, []⟩])
         (.ret))
        (.seq (.reg [⟨0, (some 28), .bin .eql 3 true (.tmp 18) (.con (.int .i64 12)), none, []⟩,
            ⟨1, (some 27), .mv (.tmp 28), none, []⟩])
         (.cond (.tmp 27)
          (.seq (.block 1
            (.seq (.reg [⟨0, (some 30), .fieldA 1 (.tmp 5), none, []⟩,
                ⟨1, (some 31), .load none (.tmp 30), none, []⟩,
                ⟨2, (some 32), .bin .neq 2 true (.tmp 31) (.con (.int .i64 0)), none, []⟩,
                ⟨3, (some 29), .mv (.tmp 32), none, []⟩])
             (.cond (.tmp 29)
              (.seq (.reg [⟨0, (some 33), .fieldA 1 (.tmp 5), none, []⟩,
                  ⟨1, (some 34), .load none (.tmp 33), none, []⟩,
                  ⟨2, (some 35), .build [(.int .i64 0), (.int .i64 0)] [(1, 1, (.tmp 34))], none, []⟩,
                  ⟨3, none, .store 2 (.tmp 8) (.tmp 35), none, []⟩,
                  ⟨4, (some 9), .mv (.con (.int .i64 0)), none, []⟩])
               (.ret))
              (.seq (.reg [⟨0, (some 37), .fieldA 0 (.tmp 5), none, []⟩,
                  ⟨1, (some 38), .load none (.tmp 37), none, []⟩,
                  ⟨2, (some 39), .bin .neq 2 true (.tmp 38) (.con (.int .i64 0)), none, []⟩,
                  ⟨3, (some 36), .mv (.tmp 39), none, []⟩])
               (.cond (.tmp 36)
                (.seq (.reg [⟨0, (some 40), .load (some 2) (.tmp 6), none, []⟩,
                    ⟨1, none, .store 2 (.tmp 8) (.tmp 40), none, []⟩,
                    ⟨2, (some 9), .mv (.con (.int .i64 0)), none, []⟩])
                 (.ret))
                (.skip))))))
           (.seq (.reg [⟨0, (some 41), .load (some 2) (.tmp 7), none, []⟩,
               ⟨1, none, .store 2 (.tmp 8) (.tmp 41), none, []⟩,
               ⟨2, (some 9), .mv (.con (.int .i64 0)), none, []⟩])
            (.ret)))
          (.skip)))))))))
  (.seq (.reg [⟨0, (some 42), .fieldA 1 (.tmp 5), none, []⟩,
      ⟨1, (some 43), .load none (.tmp 42), none, []⟩,
      ⟨2, (some 10), .mv (.tmp 43), none, []⟩])
   (.seq (.seq (.reg [⟨0, (some 44), .mv (.tmp 10), none, []⟩,
        ⟨1, (some 45), .bin .eql 2 true (.tmp 44) (.con (.int .i64 0)), none, []⟩])
     (.cond (.tmp 45)
      (.reg [⟨0, (some 46), .fieldA 1 (.tmp 6), none, []⟩,
         ⟨1, (some 47), .load none (.tmp 46), none, []⟩,
         ⟨2, (some 10), .mv (.tmp 47), none, []⟩])
      (.skip)))
    (.seq (.reg [⟨0, (some 48), .fieldA 0 (.tmp 4), none, []⟩,
        ⟨1, (some 49), .load none (.tmp 48), none, []⟩,
        ⟨2, (some 11), .mv (.tmp 49), none, []⟩])
     (.seq (.reg [⟨0, (some 50), .mv (.tmp 11), none, []⟩,
         ⟨1, (some 51), .bin .eql 3 true (.tmp 50) (.con (.int .i64 23)), none, []⟩,
         ⟨2, (some 52), .mv (.tmp 51), none, []⟩,
         ⟨3, (some 53), .mv (.tmp 11), (some (52, false)), []⟩,
         ⟨4, (some 54), .bin .eql 3 true (.tmp 53) (.con (.int .i64 24)), (some (52, false)), []⟩,
         ⟨5, (some 55), .pick (.tmp 52) (.con (.bool true)) (.tmp 54), none, []⟩,
         ⟨6, (some 12), .mv (.tmp 55), none, []⟩])
      (.seq (.seq (.reg [⟨0, (some 56), .mv (.tmp 12), none, []⟩])
        (.cond (.tmp 56)
         (.reg [⟨0, (some 57), .mv (.tmp 11), none, []⟩,
            ⟨1, (some 58), .bin .sub 3 true (.tmp 57) (.con (.int .i64 9)), none, []⟩,
            ⟨2, (some 11), .mv (.tmp 58), none, []⟩])
         (.skip)))
       (.seq (.reg [⟨0, (some 59), .mv (.tmp 11), none, []⟩,
           ⟨1, (some 60), .bin .eql 3 true (.tmp 59) (.con (.int .i64 14)), none, []⟩,
           ⟨2, (some 61), .mv (.tmp 60), none, []⟩,
           ⟨3, (some 62), .mv (.tmp 11), (some (61, false)), []⟩,
           ⟨4, (some 63), .bin .eql 3 true (.tmp 62) (.con (.int .i64 15)), (some (61, false)), []⟩,
           ⟨5, (some 64), .pick (.tmp 61) (.con (.bool true)) (.tmp 63), none, []⟩,
           ⟨6, (some 13), .mv (.tmp 64), none, []⟩])
        (.seq (.seq (.reg [⟨0, (some 65), .mv (.tmp 10), none, []⟩,
             ⟨1, (some 66), .bin .eql 2 true (.tmp 65) (.con (.int .i64 0)), none, []⟩])
          (.cond (.tmp 66)
           (.seq (.reg [⟨0, (some 68), .mv (.tmp 11), none, []⟩,
               ⟨1, (some 69), .fieldA 0 (.tmp 5), none, []⟩,
               ⟨2, (some 70), .load none (.tmp 69), none, []⟩,
               ⟨3, (some 71), .fieldA 0 (.tmp 6), none, []⟩,
               ⟨4, (some 72), .load none (.tmp 71), none, []⟩,
               ⟨5, (some 73), .call 108 [(.tmp 68), (.tmp 70), (.tmp 72)], none, []⟩,
               ⟨6, (some 67), .mv (.tmp 73), none, []⟩,
               ⟨7, (some 74), .ext (.tmp 67) 0, none, []⟩,
               ⟨8, (some 75), .ext (.tmp 67) 1, none, []⟩,
               ⟨9, (some 76), .ext (.tmp 67) 2, none, []⟩,
               ⟨10, (some 14), .mv (.tmp 74), none, []⟩,
               ⟨11, (some 15), .mv (.tmp 75), none, []⟩,
               ⟨12, (some 16), .mv (.tmp 76), none, []⟩])
            (.seq (.seq (.reg [⟨0, (some 77), .mv (.tmp 15), none, []⟩,
                 ⟨1, (some 78), .bin .eql 2 true (.tmp 77) (.con (.int .i64 0)), none, []⟩])
              (.cond (.tmp 78)
               (.seq (.reg [⟨0, (some 79), .mv (.tmp 14), none, []⟩,
                   ⟨1, (some 80), .build [(.int .i64 0), (.int .i64 0)] [(0, 1, (.tmp 79))], none, []⟩,
                   ⟨2, none, .store 2 (.tmp 8) (.tmp 80), none, []⟩,
                   ⟨3, (some 9), .mv (.con (.int .i64 0)), none, []⟩])
                (.ret))
               (.skip)))
             (.reg [⟨0, (some 81), .mv (.tmp 15), none, []⟩,
                ⟨1, (some 10), .mv (.tmp 81), none, []⟩])))
           (.skip)))
         (.seq (.seq (.reg [⟨0, (some 82), .mv (.tmp 13), none, []⟩,
              ⟨1, (some 83), .mv (.tmp 82), none, []⟩,
              ⟨2, (some 84), .mv (.tmp 12), (some (83, true)), []⟩,
              ⟨3, (some 85), .un .not (.tmp 84), (some (83, true)), []⟩,
              ⟨4, (some 86), .pick (.tmp 83) (.tmp 85) (.con (.bool false)), none, []⟩])
           (.cond (.tmp 86)
            (.seq (.reg [⟨0, (some 87), .build [(.int .i64 0), (.int .i64 0)] [], none, []⟩,
                ⟨1, (some 88), .mv (.tmp 10), none, []⟩,
                ⟨2, none, .store 2 (.tmp 8) (.tmp 87), none, []⟩,
                ⟨3, (some 9), .mv (.tmp 88), none, []⟩])
             (.ret))
            (.skip)))
          (.seq (.reg [⟨0, (some 89), .mv (.tmp 10), none, []⟩,
              ⟨1, (some 90), .build [(.int .i64 0), (.int .i64 0)] [(1, 1, (.tmp 89))], none, []⟩,
              ⟨2, none, .store 2 (.tmp 8) (.tmp 90), none, []⟩,
              ⟨3, (some 9), .mv (.con (.int .i64 0)), none, []⟩])
           (.ret))))))))))),
 [.cell 8 (some 2), .tmp 9]⟩
theorem p_r01_Do : prepFun Go.Proofs.Tryd.prog [0] Go.Proofs.Tryd.f99 = some v_r01_Do := by kernel_rfl
def v_r09_Engine_end : VFun :=
⟨.seq (.reg [⟨0, (some 6), .mv (.tmp 0), none, []⟩,
    ⟨1, (some 7), .mv (.tmp 1), none, []⟩,
    ⟨2, (some 8), .nilck (.tmp 6), none, []⟩,
    ⟨3, (some 9), .fieldA 12 (.tmp 8), none, []⟩,
    ⟨4, (some 10), .fieldA 1 (.tmp 9), none, []⟩,
    ⟨5, none, .store 1 (.tmp 10) (.tmp 7), none, []⟩])
 (.seq (.reg [⟨0, (some 11), .mv (.tmp 0), none, []⟩,
     ⟨1, (some 12), .mv (.tmp 2), none, []⟩,
     ⟨2, (some 13), .nilck (.tmp 11), none, []⟩,
     ⟨3, (some 14), .fieldA 12 (.tmp 13), none, []⟩,
     ⟨4, (some 15), .fieldA 2 (.tmp 14), none, []⟩,
     ⟨5, none, .store 1 (.tmp 15) (.tmp 12), none, []⟩])
  (.reg [⟨0, (some 16), .mv (.tmp 0), none, []⟩,
     ⟨1, (some 17), .nilck (.tmp 16), none, []⟩,
     ⟨2, (some 18), .fieldA 15 (.tmp 17), none, []⟩,
     ⟨3, none, .store 1 (.tmp 18) (.con (.bool true)), none, []⟩])),
 []⟩
theorem p_r09_Engine_end : prepFun Go.Proofs.Tryd.prog [0] Go.Proofs.Tryd.f100 = some v_r09_Engine_end := by kernel_rfl
def v_code_checker_must : VFun :=
⟨.seq (.reg [⟨0, (some 6), .mv (.tmp 1), none, []⟩,
    ⟨1, (some 7), .un .not (.tmp 6), none, []⟩])
 (.cond (.tmp 7)
  (.reg [⟨0, (some 8), .mv (.tmp 0), none, []⟩,
     ⟨1, (some 9), .nilck (.tmp 8), none, []⟩,
     ⟨2, (some 10), .fieldA 6 (.tmp 9), none, []⟩,
     ⟨3, (some 11), .load none (.tmp 10), none, []⟩,
     ⟨4, (some 12), .mv (.tmp 0), none, []⟩,
     ⟨5, (some 13), .nilck (.tmp 12), none, []⟩,
     ⟨6, (some 14), .fieldA 7 (.tmp 13), none, []⟩,
     ⟨7, (some 15), .load none (.tmp 14), none, []⟩,
     ⟨8, (some 16), .mv (.tmp 2), none, []⟩,
     ⟨9, (some 17), .build [(.int .i64 0), (.int .i64 0), (.int .i64 0)] [(0, 1, (.tmp 11)), (1, 1, (.tmp 15)), (2, 1, (.tmp 16))], none, []⟩,
     ⟨10, (some 18), .mkif 113 (.tmp 17), none, []⟩,
     ⟨11, none, .panic (.tmp 18), none, []⟩])
  (.skip)),
 []⟩
theorem p_code_checker_must : prepFun Go.Proofs.Tryd.prog [0] Go.Proofs.Tryd.f101 = some v_code_checker_must := by kernel_rfl
def v_slices_ContainsFunc_int : VFun :=
⟨.seq (.reg [⟨0, (some 4), .mv (.con (.bool false)), none, []⟩])
 (.seq (.reg [⟨0, (some 5), .mv (.tmp 0), none, []⟩,
     ⟨1, (some 6), .mv (.tmp 1), none, []⟩,
     ⟨2, (some 7), .call 109 [(.tmp 5), (.tmp 6)], none, []⟩,
     ⟨3, (some 8), .bin .geq 3 true (.tmp 7) (.con (.int .i64 0)), none, []⟩,
     ⟨4, (some 4), .mv (.tmp 8), none, []⟩])
  (.ret)),
 [.tmp 4]⟩
theorem p_slices_ContainsFunc_int : prepFun Go.Proofs.Tryd.prog [0] Go.Proofs.Tryd.f102 = some v_slices_ContainsFunc_int := by kernel_rfl
def v_code_checker_unit_c1 : VFun :=
⟨.seq (.reg [⟨0, (some 2), .mv (.con (.bool false)), none, []⟩])
 (.seq (.reg [⟨0, (some 3), .mv (.tmp 0), none, []⟩,
     ⟨1, (some 4), .bin .lss 3 true (.tmp 3) (.con (.int .i64 1)), none, []⟩,
     ⟨2, (some 5), .mv (.tmp 4), none, []⟩,
     ⟨3, (some 6), .mv (.tmp 0), (some (5, false)), []⟩,
     ⟨4, (some 7), .bin .gtr 3 true (.tmp 6) (.con (.int .i64 65536)), (some (5, false)), []⟩,
     ⟨5, (some 8), .pick (.tmp 5) (.con (.bool true)) (.tmp 7), none, []⟩,
     ⟨6, (some 2), .mv (.tmp 8), none, []⟩])
  (.ret)),
 [.tmp 2]⟩
theorem p_code_checker_unit_c1 : prepFun Go.Proofs.Tryd.prog [0] Go.Proofs.Tryd.f103 = some v_code_checker_unit_c1 := by kernel_rfl
def v_code_within : VFun :=
⟨.seq (.reg [⟨0, (some 4), .mv (.con (.bool false)), none, []⟩])
 (.seq (.reg [⟨0, (some 5), .mv (.tmp 0), none, []⟩,
     ⟨1, (some 6), .bin .geq 3 true (.tmp 5) (.con (.int .i64 0)), none, []⟩,
     ⟨2, (some 7), .mv (.tmp 6), none, []⟩,
     ⟨3, (some 8), .mv (.tmp 0), (some (7, true)), []⟩,
     ⟨4, (some 9), .mv (.tmp 1), (some (7, true)), []⟩,
     ⟨5, (some 10), .bin .lss 3 false (.tmp 8) (.tmp 9), (some (7, true)), []⟩,
     ⟨6, (some 11), .pick (.tmp 7) (.tmp 10) (.con (.bool false)), none, []⟩,
     ⟨7, (some 4), .mv (.tmp 11), none, []⟩])
  (.ret)),
 [.tmp 4]⟩
theorem p_code_within : prepFun Go.Proofs.Tryd.prog [0] Go.Proofs.Tryd.f104 = some v_code_within := by kernel_rfl
def v_code_checker_op : VFun :=
⟨.seq (.reg [⟨0, (some 3), .box (.tmp 1), none, []⟩])
 (.seq (.reg [⟨0, (some 9), .fieldA 0 (.tmp 3), none, []⟩,
     ⟨1, (some 10), .load none (.tmp 9), none, []⟩,
     ⟨2, (some 11), .call 110 [(.tmp 10)], none, []⟩,
     ⟨3, (some 8), .mv (.tmp 11), none, []⟩,
     ⟨4, (some 12), .ext (.tmp 8) 0, none, []⟩,
     ⟨5, (some 13), .ext (.tmp 8) 1, none, []⟩,
     ⟨6, (some 4), .alloc [(.int .i64 0), (.int .i64 0), (.string ⟨#[]⟩)], none, []⟩,
     ⟨7, none, .store 3 (.tmp 4) (.tmp 12), none, []⟩,
     ⟨8, (some 5), .mv (.tmp 13), none, []⟩])
  (.seq (.reg [⟨0, (some 14), .mv (.tmp 0), none, []⟩,
      ⟨1, (some 15), .mv (.tmp 5), none, []⟩,
      ⟨2, (some 16), .call 101 [(.tmp 14), (.tmp 15), (.con (.int .i64 4))], none, []⟩])
   (.seq (.reg [⟨0, (some 17), .mv (.tmp 0), none, []⟩,
       ⟨1, (some 18), .fieldA 1 (.tmp 3), none, []⟩,
       ⟨2, (some 19), .load none (.tmp 18), none, []⟩,
       ⟨3, (some 20), .fieldA 0 (.tmp 4), none, []⟩,
       ⟨4, (some 21), .load none (.tmp 20), none, []⟩,
       ⟨5, (some 22), .bin .and 3 true (.tmp 21) (.con (.int .i64 1)), none, []⟩,
       ⟨6, (some 23), .bin .neq 3 true (.tmp 22) (.con (.int .i64 0)), none, []⟩,
       ⟨7, (some 24), .call 111 [(.tmp 17), (.tmp 19), (.tmp 23)], none, []⟩])
    (.seq (.reg [⟨0, (some 25), .mv (.tmp 0), none, []⟩,
        ⟨1, (some 26), .fieldA 2 (.tmp 3), none, []⟩,
        ⟨2, (some 27), .load none (.tmp 26), none, []⟩,
        ⟨3, (some 28), .fieldA 0 (.tmp 4), none, []⟩,
        ⟨4, (some 29), .load none (.tmp 28), none, []⟩,
        ⟨5, (some 30), .bin .and 3 true (.tmp 29) (.con (.int .i64 2)), none, []⟩,
        ⟨6, (some 31), .bin .neq 3 true (.tmp 30) (.con (.int .i64 0)), none, []⟩,
        ⟨7, (some 32), .call 111 [(.tmp 25), (.tmp 27), (.tmp 31)], none, []⟩])
     (.seq (.reg [⟨0, (some 33), .mv (.tmp 0), none, []⟩,
         ⟨1, (some 34), .fieldA 3 (.tmp 3), none, []⟩,
         ⟨2, (some 35), .load none (.tmp 34), none, []⟩,
         ⟨3, (some 36), .fieldA 0 (.tmp 4), none, []⟩,
         ⟨4, (some 37), .load none (.tmp 36), none, []⟩,
         ⟨5, (some 38), .bin .and 3 true (.tmp 37) (.con (.int .i64 4)), none, []⟩,
         ⟨6, (some 39), .bin .neq 3 true (.tmp 38) (.con (.int .i64 0)), none, []⟩,
         ⟨7, (some 40), .call 111 [(.tmp 33), (.tmp 35), (.tmp 39)], none, []⟩])
      (.seq (.reg [⟨0, (some 41), .mv (.tmp 0), none, []⟩,
          ⟨1, (some 42), .fieldA 4 (.tmp 3), none, []⟩,
          ⟨2, (some 43), .load none (.tmp 42), none, []⟩,
          ⟨3, (some 44), .fieldA 0 (.tmp 4), none, []⟩,
          ⟨4, (some 45), .load none (.tmp 44), none, []⟩,
          ⟨5, (some 46), .bin .and 3 true (.tmp 45) (.con (.int .i64 8)), none, []⟩,
          ⟨6, (some 47), .bin .neq 3 true (.tmp 46) (.con (.int .i64 0)), none, []⟩,
          ⟨7, (some 48), .call 111 [(.tmp 41), (.tmp 43), (.tmp 47)], none, []⟩])
       (.seq (.reg [⟨0, (some 49), .mv (.tmp 0), none, []⟩,
           ⟨1, (some 50), .fieldA 6 (.tmp 3), none, []⟩,
           ⟨2, (some 51), .load none (.tmp 50), none, []⟩,
           ⟨3, (some 52), .fieldA 6 (.tmp 3), none, []⟩,
           ⟨4, (some 53), .load none (.tmp 52), none, []⟩,
           ⟨5, (some 54), .bin .neq 3 true (.tmp 53) (.con (.int .i64 (-1))), none, []⟩,
           ⟨6, (some 55), .call 111 [(.tmp 49), (.tmp 51), (.tmp 54)], none, []⟩])
        (.seq (.reg [⟨0, (some 6), .mv (.con (.int .i64 0)), none, []⟩])
         (.seq (.block 0
           (.seq (.reg [⟨0, (some 57), .fieldA 0 (.tmp 4), none, []⟩,
               ⟨1, (some 58), .load none (.tmp 57), none, []⟩,
               ⟨2, (some 59), .bin .and 3 true (.tmp 58) (.con (.int .i64 32)), none, []⟩,
               ⟨3, (some 60), .bin .neq 3 true (.tmp 59) (.con (.int .i64 0)), none, []⟩,
               ⟨4, (some 56), .mv (.tmp 60), none, []⟩])
            (.cond (.tmp 56)
             (.reg [⟨0, (some 61), .mv (.tmp 0), none, []⟩,
                ⟨1, (some 62), .nilck (.tmp 61), none, []⟩,
                ⟨2, (some 63), .fieldA 0 (.tmp 62), none, []⟩,
                ⟨3, (some 64), .fieldA 0 (.tmp 63), none, []⟩,
                ⟨4, (some 65), .load none (.tmp 64), none, []⟩,
                ⟨5, (some 66), .len (.tmp 65), none, []⟩,
                ⟨6, (some 6), .mv (.tmp 66), none, []⟩])
             (.seq (.reg [⟨0, (some 68), .fieldA 0 (.tmp 4), none, []⟩,
                 ⟨1, (some 69), .load none (.tmp 68), none, []⟩,
                 ⟨2, (some 70), .bin .and 3 true (.tmp 69) (.con (.int .i64 64)), none, []⟩,
                 ⟨3, (some 71), .bin .neq 3 true (.tmp 70) (.con (.int .i64 0)), none, []⟩,
                 ⟨4, (some 67), .mv (.tmp 71), none, []⟩])
              (.cond (.tmp 67)
               (.reg [⟨0, (some 72), .mv (.tmp 0), none, []⟩,
                  ⟨1, (some 73), .nilck (.tmp 72), none, []⟩,
                  ⟨2, (some 74), .fieldA 0 (.tmp 73), none, []⟩,
                  ⟨3, (some 75), .fieldA 4 (.tmp 74), none, []⟩,
                  ⟨4, (some 76), .load none (.tmp 75), none, []⟩,
                  ⟨5, (some 6), .mv (.tmp 76), none, []⟩])
               (.seq (.reg [⟨0, (some 78), .fieldA 0 (.tmp 4), none, []⟩,
                   ⟨1, (some 79), .load none (.tmp 78), none, []⟩,
                   ⟨2, (some 80), .bin .and 3 true (.tmp 79) (.con (.int .i64 128)), none, []⟩,
                   ⟨3, (some 81), .bin .neq 3 true (.tmp 80) (.con (.int .i64 0)), none, []⟩,
                   ⟨4, (some 77), .mv (.tmp 81), none, []⟩])
                (.cond (.tmp 77)
                 (.reg [⟨0, (some 82), .mv (.tmp 0), none, []⟩,
                    ⟨1, (some 83), .nilck (.tmp 82), none, []⟩,
                    ⟨2, (some 84), .fieldA 0 (.tmp 83), none, []⟩,
                    ⟨3, (some 85), .fieldA 5 (.tmp 84), none, []⟩,
                    ⟨4, (some 86), .load none (.tmp 85), none, []⟩,
                    ⟨5, (some 87), .len (.tmp 86), none, []⟩,
                    ⟨6, (some 6), .mv (.tmp 87), none, []⟩])
                 (.reg [⟨0, (some 6), .mv (.con (.int .i64 (-1))), none, []⟩]))))))))
          (.seq (.reg [⟨0, (some 88), .mv (.tmp 0), none, []⟩,
              ⟨1, (some 89), .mv (.tmp 6), none, []⟩,
              ⟨2, (some 90), .bin .lss 2 true (.tmp 89) (.con (.int .i64 0)), none, []⟩,
              ⟨3, (some 91), .mv (.tmp 90), none, []⟩,
              ⟨4, (some 92), .fieldA 5 (.tmp 3), (some (91, false)), []⟩,
              ⟨5, (some 93), .load none (.tmp 92), (some (91, false)), []⟩,
              ⟨6, (some 94), .bin .geq 2 true (.tmp 93) (.con (.int .i64 0)), (some (91, false)), []⟩,
              ⟨7, (some 95), .mv (.tmp 94), (some (91, false)), []⟩,
              ⟨8, (some 96), .fieldA 5 (.tmp 3), (some (95, true)), []⟩,
              ⟨9, (some 97), .load none (.tmp 96), (some (95, true)), []⟩,
              ⟨10, (some 98), .mv (.tmp 6), (some (95, true)), []⟩,
              ⟨11, (some 99), .bin .lss 2 false (.tmp 97) (.tmp 98), (some (95, true)), []⟩,
              ⟨12, (some 100), .pick (.tmp 95) (.tmp 99) (.con (.bool false)), (some (91, false)), []⟩,
              ⟨13, (some 101), .pick (.tmp 91) (.con (.bool true)) (.tmp 100), none, []⟩,
              ⟨14, (some 102), .call 101 [(.tmp 88), (.tmp 101), (.con (.int .i64 5))], none, []⟩])
           (.seq (.reg [⟨0, (some 103), .fieldA 0 (.tmp 4), none, []⟩,
               ⟨1, (some 104), .load none (.tmp 103), none, []⟩,
               ⟨2, (some 105), .bin .and 3 true (.tmp 104) (.con (.int .i64 1)), none, []⟩,
               ⟨3, (some 106), .bin .eql 3 true (.tmp 105) (.con (.int .i64 0)), none, []⟩,
               ⟨4, (some 107), .mv (.tmp 106), none, []⟩,
               ⟨5, (some 108), .fieldA 1 (.tmp 3), (some (107, true)), []⟩,
               ⟨6, (some 109), .load none (.tmp 108), (some (107, true)), []⟩,
               ⟨7, (some 110), .bin .neq 3 true (.tmp 109) (.con (.int .i64 0)), (some (107, true)), []⟩,
               ⟨8, (some 111), .pick (.tmp 107) (.tmp 110) (.con (.bool false)), none, []⟩,
               ⟨9, (some 112), .mv (.tmp 111), none, []⟩,
               ⟨10, (some 113), .fieldA 0 (.tmp 4), (some (112, false)), []⟩,
               ⟨11, (some 114), .load none (.tmp 113), (some (112, false)), []⟩,
               ⟨12, (some 115), .bin .and 3 true (.tmp 114) (.con (.int .i64 2)), (some (112, false)), []⟩,
               ⟨13, (some 116), .bin .eql 3 true (.tmp 115) (.con (.int .i64 0)), (some (112, false)), []⟩,
               ⟨14, (some 117), .mv (.tmp 116), (some (112, false)), []⟩,
               ⟨15, (some 118), .fieldA 2 (.tmp 3), (some (117, true)), []⟩,
               ⟨16, (some 119), .load none (.tmp 118), (some (117, true)), []⟩,
               ⟨17, (some 120), .bin .neq 3 true (.tmp 119) (.con (.int .i64 0)), (some (117, true)), []⟩,
               ⟨18, (some 121), .pick (.tmp 117) (.tmp 120) (.con (.bool false)), (some (112, false)), []⟩,
               ⟨19, (some 122), .pick (.tmp 112) (.con (.bool true)) (.tmp 121), none, []⟩,
               ⟨20, (some 123), .mv (.tmp 122), none, []⟩,
               ⟨21, (some 124), .fieldA 0 (.tmp 4), (some (123, false)), []⟩,
               ⟨22, (some 125), .load none (.tmp 124), (some (123, false)), []⟩,
               ⟨23, (some 126), .bin .and 3 true (.tmp 125) (.con (.int .i64 4)), (some (123, false)), []⟩,
               ⟨24, (some 127), .bin .eql 3 true (.tmp 126) (.con (.int .i64 0)), (some (123, false)), []⟩,
               ⟨25, (some 128), .mv (.tmp 127), (some (123, false)), []⟩,
               ⟨26, (some 129), .fieldA 3 (.tmp 3), (some (128, true)), []⟩,
               ⟨27, (some 130), .load none (.tmp 129), (some (128, true)), []⟩,
               ⟨28, (some 131), .bin .neq 3 true (.tmp 130) (.con (.int .i64 0)), (some (128, true)), []⟩,
               ⟨29, (some 132), .pick (.tmp 128) (.tmp 131) (.con (.bool false)), (some (123, false)), []⟩,
               ⟨30, (some 133), .pick (.tmp 123) (.con (.bool true)) (.tmp 132), none, []⟩,
               ⟨31, (some 134), .mv (.tmp 133), none, []⟩,
               ⟨32, (some 135), .fieldA 0 (.tmp 4), (some (134, false)), []⟩,
               ⟨33, (some 136), .load none (.tmp 135), (some (134, false)), []⟩,
               ⟨34, (some 137), .bin .and 3 true (.tmp 136) (.con (.int .i64 8)), (some (134, false)), []⟩,
               ⟨35, (some 138), .bin .eql 3 true (.tmp 137) (.con (.int .i64 0)), (some (134, false)), []⟩,
               ⟨36, (some 139), .mv (.tmp 138), (some (134, false)), []⟩,
               ⟨37, (some 140), .fieldA 4 (.tmp 3), (some (139, true)), []⟩,
               ⟨38, (some 141), .load none (.tmp 140), (some (139, true)), []⟩,
               ⟨39, (some 142), .bin .neq 3 true (.tmp 141) (.con (.int .i64 0)), (some (139, true)), []⟩,
               ⟨40, (some 143), .pick (.tmp 139) (.tmp 142) (.con (.bool false)), (some (134, false)), []⟩,
               ⟨41, (some 144), .pick (.tmp 134) (.con (.bool true)) (.tmp 143), none, []⟩,
               ⟨42, (some 145), .mv (.tmp 144), none, []⟩,
               ⟨43, (some 146), .mv (.tmp 6), (some (145, false)), []⟩,
               ⟨44, (some 147), .bin .lss 2 true (.tmp 146) (.con (.int .i64 0)), (some (145, false)), []⟩,
               ⟨45, (some 148), .mv (.tmp 147), (some (145, false)), []⟩,
               ⟨46, (some 149), .fieldA 0 (.tmp 4), (some (148, true)), []⟩,
               ⟨47, (some 150), .load none (.tmp 149), (some (148, true)), []⟩,
               ⟨48, (some 151), .bin .and 3 true (.tmp 150) (.con (.int .i64 16)), (some (148, true)), []⟩,
               ⟨49, (some 152), .bin .eql 3 true (.tmp 151) (.con (.int .i64 0)), (some (148, true)), []⟩,
               ⟨50, (some 153), .pick (.tmp 148) (.tmp 152) (.con (.bool false)), (some (145, false)), []⟩,
               ⟨51, (some 154), .mv (.tmp 153), (some (145, false)), []⟩,
               ⟨52, (some 155), .fieldA 5 (.tmp 3), (some (154, true)), []⟩,
               ⟨53, (some 156), .load none (.tmp 155), (some (154, true)), []⟩,
               ⟨54, (some 157), .bin .neq 2 true (.tmp 156) (.con (.int .i64 0)), (some (154, true)), []⟩,
               ⟨55, (some 158), .pick (.tmp 154) (.tmp 157) (.con (.bool false)), (some (145, false)), []⟩,
               ⟨56, (some 159), .pick (.tmp 145) (.con (.bool true)) (.tmp 158), none, []⟩,
               ⟨57, (some 7), .mv (.tmp 159), none, []⟩])
            (.reg [⟨0, (some 160), .mv (.tmp 0), none, []⟩,
               ⟨1, (some 161), .mv (.tmp 7), none, []⟩,
               ⟨2, (some 162), .un .not (.tmp 161), none, []⟩,
               ⟨3, (some 163), .call 101 [(.tmp 160), (.tmp 162), (.con (.int .i64 4))], none, []⟩])))))))))))),
 []⟩
theorem p_code_checker_op : prepFun Go.Proofs.Tryd.prog [0] Go.Proofs.Tryd.f105 = some v_code_checker_op := by kernel_rfl
def v_code_checker_end : VFun :=
⟨.seq (.reg [⟨0, (some 3), .box (.tmp 1), none, []⟩])
 (.seq (.reg [⟨0, (some 6), .mv (.tmp 0), none, []⟩,
     ⟨1, (some 7), .fieldA 0 (.tmp 3), none, []⟩,
     ⟨2, (some 8), .load none (.tmp 7), none, []⟩,
     ⟨3, (some 9), .bin .geq 3 true (.tmp 8) (.con (.int .i64 1)), none, []⟩,
     ⟨4, (some 10), .mv (.tmp 9), none, []⟩,
     ⟨5, (some 11), .fieldA 0 (.tmp 3), (some (10, true)), []⟩,
     ⟨6, (some 12), .load none (.tmp 11), (some (10, true)), []⟩,
     ⟨7, (some 13), .bin .leq 3 true (.tmp 12) (.con (.int .i64 4)), (some (10, true)), []⟩,
     ⟨8, (some 14), .pick (.tmp 10) (.tmp 13) (.con (.bool false)), none, []⟩,
     ⟨9, (some 15), .call 101 [(.tmp 6), (.tmp 14), (.con (.int .i64 4))], none, []⟩])
  (.seq (.reg [⟨0, (some 16), .fieldA 0 (.tmp 3), none, []⟩,
      ⟨1, (some 17), .load none (.tmp 16), none, []⟩,
      ⟨2, (some 18), .bin .eql 3 true (.tmp 17) (.con (.int .i64 1)), none, []⟩,
      ⟨3, (some 19), .mv (.tmp 18), none, []⟩,
      ⟨4, (some 20), .fieldA 0 (.tmp 3), (some (19, false)), []⟩,
      ⟨5, (some 21), .load none (.tmp 20), (some (19, false)), []⟩,
      ⟨6, (some 22), .bin .eql 3 true (.tmp 21) (.con (.int .i64 2)), (some (19, false)), []⟩,
      ⟨7, (some 23), .pick (.tmp 19) (.con (.bool true)) (.tmp 22), none, []⟩,
      ⟨8, (some 24), .fieldA 0 (.tmp 3), none, []⟩,
      ⟨9, (some 25), .load none (.tmp 24), none, []⟩,
      ⟨10, (some 26), .bin .eql 3 true (.tmp 25) (.con (.int .i64 2)), none, []⟩,
      ⟨11, (some 4), .mv (.tmp 23), none, [(.tmp 24)]⟩,
      ⟨12, (some 5), .mv (.tmp 26), none, []⟩])
   (.seq (.reg [⟨0, (some 27), .mv (.tmp 0), none, []⟩,
       ⟨1, (some 28), .fieldA 1 (.tmp 3), none, []⟩,
       ⟨2, (some 29), .load none (.tmp 28), none, []⟩,
       ⟨3, (some 30), .fieldA 0 (.tmp 3), none, []⟩,
       ⟨4, (some 31), .load none (.tmp 30), none, []⟩,
       ⟨5, (some 32), .bin .neq 3 true (.tmp 31) (.con (.int .i64 1)), none, []⟩,
       ⟨6, (some 33), .call 111 [(.tmp 27), (.tmp 29), (.tmp 32)], none, []⟩])
    (.seq (.reg [⟨0, (some 34), .mv (.tmp 0), none, []⟩,
        ⟨1, (some 35), .mv (.tmp 4), none, []⟩,
        ⟨2, (some 36), .un .not (.tmp 35), none, []⟩,
        ⟨3, (some 37), .mv (.tmp 36), none, []⟩,
        ⟨4, (some 38), .fieldA 2 (.tmp 3), (some (37, false)), []⟩,
        ⟨5, (some 39), .load none (.tmp 38), (some (37, false)), []⟩,
        ⟨6, (some 40), .mv (.tmp 0), (some (37, false)), []⟩,
        ⟨7, (some 41), .nilck (.tmp 40), (some (37, false)), []⟩,
        ⟨8, (some 42), .fieldA 0 (.tmp 41), (some (37, false)), []⟩,
        ⟨9, (some 43), .fieldA 5 (.tmp 42), (some (37, false)), []⟩,
        ⟨10, (some 44), .load none (.tmp 43), (some (37, false)), []⟩,
        ⟨11, (some 45), .len (.tmp 44), (some (37, false)), []⟩,
        ⟨12, (some 46), .call 104 [(.tmp 39), (.tmp 45)], (some (37, false)), []⟩,
        ⟨13, (some 47), .pick (.tmp 37) (.con (.bool true)) (.tmp 46), none, []⟩,
        ⟨14, (some 48), .call 101 [(.tmp 34), (.tmp 47), (.con (.int .i64 5))], none, []⟩])
     (.seq (.reg [⟨0, (some 49), .mv (.tmp 0), none, []⟩,
         ⟨1, (some 50), .mv (.tmp 5), none, []⟩,
         ⟨2, (some 51), .un .not (.tmp 50), none, []⟩,
         ⟨3, (some 52), .mv (.tmp 51), none, []⟩,
         ⟨4, (some 53), .fieldA 3 (.tmp 3), (some (52, false)), []⟩,
         ⟨5, (some 54), .load none (.tmp 53), (some (52, false)), []⟩,
         ⟨6, (some 55), .mv (.tmp 0), (some (52, false)), []⟩,
         ⟨7, (some 56), .nilck (.tmp 55), (some (52, false)), []⟩,
         ⟨8, (some 57), .fieldA 0 (.tmp 56), (some (52, false)), []⟩,
         ⟨9, (some 58), .fieldA 5 (.tmp 57), (some (52, false)), []⟩,
         ⟨10, (some 59), .load none (.tmp 58), (some (52, false)), []⟩,
         ⟨11, (some 60), .len (.tmp 59), (some (52, false)), []⟩,
         ⟨12, (some 61), .call 104 [(.tmp 54), (.tmp 60)], (some (52, false)), []⟩,
         ⟨13, (some 62), .pick (.tmp 52) (.con (.bool true)) (.tmp 61), none, []⟩,
         ⟨14, (some 63), .call 101 [(.tmp 49), (.tmp 62), (.con (.int .i64 5))], none, []⟩])
      (.reg [⟨0, (some 64), .mv (.tmp 0), none, []⟩,
         ⟨1, (some 65), .fieldA 0 (.tmp 3), none, []⟩,
         ⟨2, (some 66), .load none (.tmp 65), none, []⟩,
         ⟨3, (some 67), .bin .neq 3 true (.tmp 66) (.con (.int .i64 1)), none, []⟩,
         ⟨4, (some 68), .mv (.tmp 67), none, []⟩,
         ⟨5, (some 69), .fieldA 1 (.tmp 3), (some (68, false)), []⟩,
         ⟨6, (some 70), .load none (.tmp 69), (some (68, false)), []⟩,
         ⟨7, (some 71), .bin .eql 3 true (.tmp 70) (.con (.int .i64 0)), (some (68, false)), []⟩,
         ⟨8, (some 72), .pick (.tmp 68) (.con (.bool true)) (.tmp 71), none, []⟩,
         ⟨9, (some 73), .mv (.tmp 72), none, []⟩,
         ⟨10, (some 74), .mv (.tmp 4), (some (73, true)), []⟩,
         ⟨11, (some 75), .mv (.tmp 74), (some (73, true)), []⟩,
         ⟨12, (some 76), .fieldA 2 (.tmp 3), (some (75, false)), []⟩,
         ⟨13, (some 77), .load none (.tmp 76), (some (75, false)), []⟩,
         ⟨14, (some 78), .bin .eql 3 true (.tmp 77) (.con (.int .i64 0)), (some (75, false)), []⟩,
         ⟨15, (some 79), .pick (.tmp 75) (.con (.bool true)) (.tmp 78), (some (73, true)), []⟩,
         ⟨16, (some 80), .pick (.tmp 73) (.tmp 79) (.con (.bool false)), none, []⟩,
         ⟨17, (some 81), .mv (.tmp 80), none, []⟩,
         ⟨18, (some 82), .mv (.tmp 5), (some (81, true)), []⟩,
         ⟨19, (some 83), .mv (.tmp 82), (some (81, true)), []⟩,
         ⟨20, (some 84), .fieldA 3 (.tmp 3), (some (83, false)), []⟩,
         ⟨21, (some 85), .load none (.tmp 84), (some (83, false)), []⟩,
         ⟨22, (some 86), .bin .eql 3 true (.tmp 85) (.con (.int .i64 0)), (some (83, false)), []⟩,
         ⟨23, (some 87), .pick (.tmp 83) (.con (.bool true)) (.tmp 86), (some (81, true)), []⟩,
         ⟨24, (some 88), .pick (.tmp 81) (.tmp 87) (.con (.bool false)), none, []⟩,
         ⟨25, (some 89), .call 101 [(.tmp 64), (.tmp 88), (.con (.int .i64 4))], none, []⟩])))))),
 []⟩
theorem p_code_checker_end : prepFun Go.Proofs.Tryd.prog [0] Go.Proofs.Tryd.f106 = some v_code_checker_end := by kernel_rfl
def v_slices_rotateCmpFunc_int : VFun :=
⟨.seq (.reg [⟨0, (some 12), .mv (.tmp 2), none, []⟩,
    ⟨1, (some 13), .mv (.tmp 1), none, []⟩,
    ⟨2, (some 14), .bin .sub 3 false (.tmp 12) (.tmp 13), none, []⟩,
    ⟨3, (some 10), .mv (.tmp 14), none, []⟩])
 (.seq (.reg [⟨0, (some 15), .mv (.tmp 3), none, []⟩,
     ⟨1, (some 16), .mv (.tmp 2), none, []⟩,
     ⟨2, (some 17), .bin .sub 3 false (.tmp 15) (.tmp 16), none, []⟩,
     ⟨3, (some 11), .mv (.tmp 17), none, []⟩])
  (.seq (.block 0
    (.loop
     (.seq (.seq (.reg [⟨0, (some 18), .mv (.tmp 10), none, []⟩,
          ⟨1, (some 19), .mv (.tmp 11), none, []⟩,
          ⟨2, (some 20), .bin .neq 3 false (.tmp 18) (.tmp 19), none, []⟩])
       (.cond (.tmp 20)
        (.skip)
        (.exit 0)))
      (.block 1
       (.seq (.reg [⟨0, (some 21), .mv (.tmp 10), none, []⟩,
           ⟨1, (some 22), .mv (.tmp 11), none, []⟩,
           ⟨2, (some 23), .bin .gtr 3 false (.tmp 21) (.tmp 22), none, []⟩])
        (.cond (.tmp 23)
         (.seq (.reg [⟨0, (some 24), .mv (.tmp 0), none, []⟩,
             ⟨1, (some 25), .mv (.tmp 2), none, []⟩,
             ⟨2, (some 26), .mv (.tmp 10), none, []⟩,
             ⟨3, (some 27), .bin .sub 3 false (.tmp 25) (.tmp 26), none, []⟩,
             ⟨4, (some 28), .mv (.tmp 2), none, []⟩,
             ⟨5, (some 29), .mv (.tmp 11), none, []⟩,
             ⟨6, (some 30), .mv (.tmp 4), none, []⟩,
             ⟨7, (some 31), .call 112 [(.tmp 24), (.tmp 27), (.tmp 28), (.tmp 29), (.tmp 30)], none, []⟩])
          (.reg [⟨0, (some 32), .mv (.tmp 10), none, []⟩,
             ⟨1, (some 33), .mv (.tmp 11), none, []⟩,
             ⟨2, (some 34), .bin .sub 3 false (.tmp 32) (.tmp 33), none, []⟩,
             ⟨3, (some 10), .mv (.tmp 34), none, []⟩]))
         (.seq (.reg [⟨0, (some 35), .mv (.tmp 0), none, []⟩,
             ⟨1, (some 36), .mv (.tmp 2), none, []⟩,
             ⟨2, (some 37), .mv (.tmp 10), none, []⟩,
             ⟨3, (some 38), .bin .sub 3 false (.tmp 36) (.tmp 37), none, []⟩,
             ⟨4, (some 39), .mv (.tmp 2), none, []⟩,
             ⟨5, (some 40), .mv (.tmp 11), none, []⟩,
             ⟨6, (some 41), .bin .add 3 false (.tmp 39) (.tmp 40), none, []⟩,
             ⟨7, (some 42), .mv (.tmp 10), none, []⟩,
             ⟨8, (some 43), .bin .sub 3 false (.tmp 41) (.tmp 42), none, []⟩,
             ⟨9, (some 44), .mv (.tmp 10), none, []⟩,
             ⟨10, (some 45), .mv (.tmp 4), none, []⟩,
             ⟨11, (some 46), .call 112 [(.tmp 35), (.tmp 38), (.tmp 43), (.tmp 44), (.tmp 45)], none, []⟩])
          (.reg [⟨0, (some 47), .mv (.tmp 11), none, []⟩,
             ⟨1, (some 48), .mv (.tmp 10), none, []⟩,
             ⟨2, (some 49), .bin .sub 3 false (.tmp 47) (.tmp 48), none, []⟩,
             ⟨3, (some 11), .mv (.tmp 49), none, []⟩]))))))))
   (.reg [⟨0, (some 50), .mv (.tmp 0), none, []⟩,
      ⟨1, (some 51), .mv (.tmp 2), none, []⟩,
      ⟨2, (some 52), .mv (.tmp 10), none, []⟩,
      ⟨3, (some 53), .bin .sub 3 false (.tmp 51) (.tmp 52), none, []⟩,
      ⟨4, (some 54), .mv (.tmp 2), none, []⟩,
      ⟨5, (some 55), .mv (.tmp 10), none, []⟩,
      ⟨6, (some 56), .mv (.tmp 4), none, []⟩,
      ⟨7, (some 57), .call 112 [(.tmp 50), (.tmp 53), (.tmp 54), (.tmp 55), (.tmp 56)], none, []⟩]))),
 []⟩
theorem p_slices_rotateCmpFunc_int : prepFun Go.Proofs.Tryd.prog [0] Go.Proofs.Tryd.f107 = some v_slices_rotateCmpFunc_int := by kernel_rfl
def v_r01_Math : VFun :=
⟨.seq (.reg [⟨0, (some 6), .mv (.con (.int .i64 0)), none, []⟩,
    ⟨1, (some 7), .mv (.con (.int .i64 0)), none, []⟩,
    ⟨2, (some 8), .mv (.con (.bool false)), none, []⟩])
 (.seq (.seq (.reg [⟨0, (some 9), .mv (.tmp 0), none, []⟩])
   (.block 0
    (.seq (.reg [⟨0, (some 11), .bin .eql 3 true (.tmp 9) (.con (.int .i64 3)), none, []⟩,
        ⟨1, (some 10), .mv (.tmp 11), none, []⟩])
     (.cond (.tmp 10)
      (.seq (.reg [⟨0, (some 12), .mv (.tmp 1), none, []⟩,
          ⟨1, (some 13), .mv (.tmp 2), none, []⟩,
          ⟨2, (some 14), .bin .add 2 false (.tmp 12) (.tmp 13), none, []⟩,
          ⟨3, (some 6), .mv (.tmp 14), none, []⟩,
          ⟨4, (some 7), .mv (.con (.int .i64 0)), none, []⟩,
          ⟨5, (some 8), .mv (.con (.bool true)), none, []⟩])
       (.ret))
      (.seq (.reg [⟨0, (some 16), .bin .eql 3 true (.tmp 9) (.con (.int .i64 4)), none, []⟩,
          ⟨1, (some 15), .mv (.tmp 16), none, []⟩])
       (.cond (.tmp 15)
        (.seq (.reg [⟨0, (some 17), .mv (.tmp 1), none, []⟩,
            ⟨1, (some 18), .mv (.tmp 2), none, []⟩,
            ⟨2, (some 19), .bin .sub 2 false (.tmp 17) (.tmp 18), none, []⟩,
            ⟨3, (some 6), .mv (.tmp 19), none, []⟩,
            ⟨4, (some 7), .mv (.con (.int .i64 0)), none, []⟩,
            ⟨5, (some 8), .mv (.con (.bool true)), none, []⟩])
         (.ret))
        (.seq (.reg [⟨0, (some 21), .bin .eql 3 true (.tmp 9) (.con (.int .i64 5)), none, []⟩,
            ⟨1, (some 20), .mv (.tmp 21), none, []⟩])
         (.cond (.tmp 20)
          (.seq (.reg [⟨0, (some 22), .mv (.tmp 1), none, []⟩,
              ⟨1, (some 23), .mv (.tmp 2), none, []⟩,
              ⟨2, (some 24), .bin .and 2 false (.tmp 22) (.tmp 23), none, []⟩,
              ⟨3, (some 6), .mv (.tmp 24), none, []⟩,
              ⟨4, (some 7), .mv (.con (.int .i64 0)), none, []⟩,
              ⟨5, (some 8), .mv (.con (.bool true)), none, []⟩])
           (.ret))
          (.seq (.reg [⟨0, (some 26), .bin .eql 3 true (.tmp 9) (.con (.int .i64 6)), none, []⟩,
              ⟨1, (some 25), .mv (.tmp 26), none, []⟩])
           (.cond (.tmp 25)
            (.seq (.reg [⟨0, (some 27), .mv (.tmp 1), none, []⟩,
                ⟨1, (some 28), .mv (.tmp 2), none, []⟩,
                ⟨2, (some 29), .bin .or 2 false (.tmp 27) (.tmp 28), none, []⟩,
                ⟨3, (some 6), .mv (.tmp 29), none, []⟩,
                ⟨4, (some 7), .mv (.con (.int .i64 0)), none, []⟩,
                ⟨5, (some 8), .mv (.con (.bool true)), none, []⟩])
             (.ret))
            (.seq (.reg [⟨0, (some 31), .bin .eql 3 true (.tmp 9) (.con (.int .i64 7)), none, []⟩,
                ⟨1, (some 30), .mv (.tmp 31), none, []⟩])
             (.cond (.tmp 30)
              (.seq (.reg [⟨0, (some 32), .mv (.tmp 1), none, []⟩,
                  ⟨1, (some 33), .mv (.tmp 2), none, []⟩,
                  ⟨2, (some 34), .bin .xor 2 false (.tmp 32) (.tmp 33), none, []⟩,
                  ⟨3, (some 6), .mv (.tmp 34), none, []⟩,
                  ⟨4, (some 7), .mv (.con (.int .i64 0)), none, []⟩,
                  ⟨5, (some 8), .mv (.con (.bool true)), none, []⟩])
               (.ret))
              (.seq (.reg [⟨0, (some 36), .bin .eql 3 true (.tmp 9) (.con (.int .i64 8)), none, []⟩,
                  ⟨1, (some 35), .mv (.tmp 36), none, []⟩])
               (.cond (.tmp 35)
                (.seq (.reg [⟨0, (some 37), .mv (.tmp 1), none, []⟩,
                    ⟨1, (some 38), .mv (.tmp 2), none, []⟩,
                    ⟨2, (some 39), .bin .and 2 true (.tmp 38) (.con (.int .i64 63)), none, []⟩,
                    ⟨3, (some 40), .conv 2 151 (.tmp 39), none, []⟩,
                    ⟨4, (some 41), .bin .shl 2 false (.tmp 37) (.tmp 40), none, []⟩,
                    ⟨5, (some 6), .mv (.tmp 41), none, []⟩,
                    ⟨6, (some 7), .mv (.con (.int .i64 0)), none, []⟩,
                    ⟨7, (some 8), .mv (.con (.bool true)), none, []⟩])
                 (.ret))
                (.seq (.reg [⟨0, (some 43), .bin .eql 3 true (.tmp 9) (.con (.int .i64 9)), none, []⟩,
                    ⟨1, (some 42), .mv (.tmp 43), none, []⟩])
                 (.cond (.tmp 42)
                  (.seq (.reg [⟨0, (some 44), .mv (.tmp 1), none, []⟩,
                      ⟨1, (some 45), .mv (.tmp 2), none, []⟩,
                      ⟨2, (some 46), .bin .and 2 true (.tmp 45) (.con (.int .i64 63)), none, []⟩,
                      ⟨3, (some 47), .conv 2 151 (.tmp 46), none, []⟩,
                      ⟨4, (some 48), .bin .shr 2 false (.tmp 44) (.tmp 47), none, []⟩,
                      ⟨5, (some 6), .mv (.tmp 48), none, []⟩,
                      ⟨6, (some 7), .mv (.con (.int .i64 0)), none, []⟩,
                      ⟨7, (some 8), .mv (.con (.bool true)), none, []⟩])
                   (.ret))
                  (.seq (.reg [⟨0, (some 50), .bin .eql 3 true (.tmp 9) (.con (.int .i64 10)), none, []⟩,
                      ⟨1, (some 49), .mv (.tmp 50), none, []⟩])
                   (.cond (.tmp 49)
                    (.seq (.reg [⟨0, (some 51), .mv (.tmp 1), none, []⟩,
                        ⟨1, (some 52), .mv (.tmp 2), none, []⟩,
                        ⟨2, (some 53), .bin .lss 2 false (.tmp 51) (.tmp 52), none, []⟩,
                        ⟨3, (some 54), .call 113 [(.tmp 53)], none, []⟩,
                        ⟨4, (some 6), .mv (.tmp 54), none, []⟩,
                        ⟨5, (some 7), .mv (.con (.int .i64 0)), none, []⟩,
                        ⟨6, (some 8), .mv (.con (.bool true)), none, []⟩])
                     (.ret))
                    (.seq (.reg [⟨0, (some 56), .bin .eql 3 true (.tmp 9) (.con (.int .i64 11)), none, []⟩,
                        ⟨1, (some 55), .mv (.tmp 56), none, []⟩])
                     (.cond (.tmp 55)
                      (.seq (.reg [⟨0, (some 57), .mv (.tmp 1), none, []⟩,
                          ⟨1, (some 58), .mv (.tmp 2), none, []⟩,
                          ⟨2, (some 59), .bin .eql 2 false (.tmp 57) (.tmp 58), none, []⟩,
                          ⟨3, (some 60), .call 113 [(.tmp 59)], none, []⟩,
                          ⟨4, (some 6), .mv (.tmp 60), none, []⟩,
                          ⟨5, (some 7), .mv (.con (.int .i64 0)), none, []⟩,
                          ⟨6, (some 8), .mv (.con (.bool true)), none, []⟩])
                       (.ret))
                      (.seq (.reg [⟨0, (some 62), .bin .eql 3 true (.tmp 9) (.con (.int .i64 13)), none, []⟩,
                          ⟨1, (some 61), .mv (.tmp 62), none, []⟩])
                       (.cond (.tmp 61)
                        (.seq (.reg [⟨0, (some 63), .mv (.tmp 1), none, []⟩,
                            ⟨1, (some 64), .mv (.tmp 2), none, []⟩,
                            ⟨2, (some 65), .bin .mul 2 false (.tmp 63) (.tmp 64), none, []⟩,
                            ⟨3, (some 6), .mv (.tmp 65), none, []⟩,
                            ⟨4, (some 7), .mv (.con (.int .i64 0)), none, []⟩,
                            ⟨5, (some 8), .mv (.con (.bool true)), none, []⟩])
                         (.ret))
                        (.seq (.reg [⟨0, (some 67), .bin .eql 3 true (.tmp 9) (.con (.int .i64 14)), none, []⟩,
                            ⟨1, (some 66), .mv (.tmp 67), none, []⟩])
                         (.cond (.tmp 66)
                          (.seq (.seq (.reg [⟨0, (some 68), .mv (.tmp 2), none, []⟩,
                               ⟨1, (some 69), .bin .eql 2 true (.tmp 68) (.con (.int .i64 0)), none, []⟩])
                            (.cond (.tmp 69)
                             (.seq (.reg [⟨0, (some 6), .mv (.con (.int .i64 0)), none, []⟩,
                                 ⟨1, (some 7), .mv (.con (.int .i64 (-2))), none, []⟩,
                                 ⟨2, (some 8), .mv (.con (.bool true)), none, []⟩])
                              (.ret))
                             (.skip)))
                           (.seq (.reg [⟨0, (some 70), .mv (.tmp 1), none, []⟩,
                               ⟨1, (some 71), .mv (.tmp 2), none, []⟩,
                               ⟨2, (some 72), .bin .quo 2 false (.tmp 70) (.tmp 71), none, []⟩,
                               ⟨3, (some 6), .mv (.tmp 72), none, []⟩,
                               ⟨4, (some 7), .mv (.con (.int .i64 0)), none, []⟩,
                               ⟨5, (some 8), .mv (.con (.bool true)), none, []⟩])
                            (.ret)))
                          (.seq (.reg [⟨0, (some 74), .bin .eql 3 true (.tmp 9) (.con (.int .i64 15)), none, []⟩,
                              ⟨1, (some 73), .mv (.tmp 74), none, []⟩])
                           (.cond (.tmp 73)
                            (.seq (.seq (.reg [⟨0, (some 75), .mv (.tmp 2), none, []⟩,
                                 ⟨1, (some 76), .bin .eql 2 true (.tmp 75) (.con (.int .i64 0)), none, []⟩])
                              (.cond (.tmp 76)
                               (.seq (.reg [⟨0, (some 6), .mv (.con (.int .i64 0)), none, []⟩,
                                   ⟨1, (some 7), .mv (.con (.int .i64 (-2))), none, []⟩,
                                   ⟨2, (some 8), .mv (.con (.bool true)), none, []⟩])
                                (.ret))
                               (.skip)))
                             (.seq (.reg [⟨0, (some 77), .mv (.tmp 1), none, []⟩,
                                 ⟨1, (some 78), .mv (.tmp 2), none, []⟩,
                                 ⟨2, (some 79), .bin .rem 2 false (.tmp 77) (.tmp 78), none, []⟩,
                                 ⟨3, (some 6), .mv (.tmp 79), none, []⟩,
                                 ⟨4, (some 7), .mv (.con (.int .i64 0)), none, []⟩,
                                 ⟨5, (some 8), .mv (.con (.bool true)), none, []⟩])
                              (.ret)))
                            (.skip)))))))))))))))))))))))))))
  (.seq (.reg [⟨0, (some 6), .mv (.con (.int .i64 0)), none, []⟩,
      ⟨1, (some 7), .mv (.con (.int .i64 0)), none, []⟩,
      ⟨2, (some 8), .mv (.con (.bool false)), none, []⟩])
   (.ret))),
 [.tmp 6, .tmp 7, .tmp 8]⟩
theorem p_r01_Math : prepFun Go.Proofs.Tryd.prog [0] Go.Proofs.Tryd.f108 = some v_r01_Math := by kernel_rfl
def v_slices_IndexFunc_int : VFun :=
⟨.seq (.reg [⟨0, (some 4), .mv (.con (.int .i64 0)), none, []⟩])
 (.seq (.seq (.reg [⟨0, (some 6), .mv (.tmp 0), none, []⟩,
      ⟨1, (some 7), .len (.tmp 6), none, []⟩,
      ⟨2, (some 8), .mv (.con (.int .i64 0)), none, []⟩])
   (.block 0
    (.loop
     (.seq (.reg [⟨0, (some 9), .bin .lss 3 false (.tmp 8) (.tmp 7), none, []⟩])
      (.seq (.cond (.tmp 9)
        (.skip)
        (.exit 0))
       (.seq (.block 1
         (.seq (.reg [⟨0, (some 10), .mv (.tmp 8), none, []⟩,
             ⟨1, (some 5), .mv (.tmp 10), none, []⟩])
          (.seq (.reg [⟨0, (some 11), .mv (.tmp 1), none, []⟩,
              ⟨1, (some 12), .mv (.tmp 0), none, []⟩,
              ⟨2, (some 13), .mv (.tmp 5), none, []⟩,
              ⟨3, (some 14), .idxA none 1 (.tmp 12) (.tmp 13), none, []⟩,
              ⟨4, (some 15), .load none (.tmp 14), none, []⟩,
              ⟨5, (some 16), .callv (.tmp 11) [(.tmp 15)], none, []⟩])
           (.cond (.tmp 16)
            (.seq (.reg [⟨0, (some 17), .mv (.tmp 5), none, []⟩,
                ⟨1, (some 4), .mv (.tmp 17), none, []⟩])
             (.ret))
            (.skip)))))
        (.reg [⟨0, (some 18), .bin .add 3 true (.tmp 8) (.con (.int .i64 1)), none, []⟩,
           ⟨1, (some 8), .mv (.tmp 18), none, []⟩])))))))
  (.seq (.reg [⟨0, (some 4), .mv (.con (.int .i64 (-1))), none, []⟩])
   (.ret))),
 [.tmp 4]⟩
theorem p_slices_IndexFunc_int : prepFun Go.Proofs.Tryd.prog [0] Go.Proofs.Tryd.f109 = some v_slices_IndexFunc_int := by kernel_rfl
def v_code_of : VFun :=
⟨.seq (.reg [⟨0, (some 2), .alloc [(.int .i64 0), (.int .i64 0), (.string ⟨#[]⟩)], none, []⟩,
    ⟨1, (some 3), .mv (.con (.bool false)), none, []⟩])
 (.seq (.seq (.reg [⟨0, (some 4), .mv (.tmp 0), none, []⟩,
      ⟨1, (some 5), .bin .lss 3 true (.tmp 4) (.con (.int .i64 1)), none, []⟩,
      ⟨2, (some 6), .mv (.tmp 5), none, []⟩,
      ⟨3, (some 7), .mv (.tmp 0), (some (6, false)), []⟩,
      ⟨4, (some 8), .bin .gtr 3 true (.tmp 7) (.con (.int .i64 25)), (some (6, false)), []⟩,
      ⟨5, (some 9), .pick (.tmp 6) (.con (.bool true)) (.tmp 8), none, []⟩])
   (.cond (.tmp 9)
    (.seq (.reg [⟨0, (some 10), .build [(.int .i64 0), (.int .i64 0), (.string ⟨#[]⟩)] [], none, []⟩,
        ⟨1, none, .store 3 (.tmp 2) (.tmp 10), none, []⟩,
        ⟨2, (some 3), .mv (.con (.bool false)), none, []⟩])
     (.ret))
    (.skip)))
  (.seq (.reg [⟨0, (some 11), .mv (.tmp 0), none, []⟩,
      ⟨1, (some 12), .bin .sub 3 true (.tmp 11) (.con (.int .i64 1)), none, []⟩,
      ⟨2, (some 13), .idxA (some 25) 3 (.glo 0) (.tmp 12), none, []⟩,
      ⟨3, (some 14), .load (some 3) (.tmp 13), none, []⟩,
      ⟨4, none, .store 3 (.tmp 2) (.tmp 14), none, []⟩,
      ⟨5, (some 3), .mv (.con (.bool true)), none, []⟩])
   (.ret))),
 [.cell 2 (some 3), .tmp 3]⟩
theorem p_code_of : prepFun Go.Proofs.Tryd.prog [0] Go.Proofs.Tryd.f110 = some v_code_of := by kernel_rfl
def v_code_checker_reg : VFun :=
⟨.reg [⟨0, (some 6), .mv (.tmp 0), none, []⟩,
   ⟨1, (some 7), .mv (.tmp 2), none, []⟩,
   ⟨2, (some 8), .un .not (.tmp 7), none, []⟩,
   ⟨3, (some 9), .mv (.tmp 8), none, []⟩,
   ⟨4, (some 10), .mv (.tmp 1), (some (9, false)), []⟩,
   ⟨5, (some 11), .mv (.tmp 0), (some (9, false)), []⟩,
   ⟨6, (some 12), .nilck (.tmp 11), (some (9, false)), []⟩,
   ⟨7, (some 13), .fieldA 0 (.tmp 12), (some (9, false)), []⟩,
   ⟨8, (some 14), .fieldA 2 (.tmp 13), (some (9, false)), []⟩,
   ⟨9, (some 15), .load none (.tmp 14), (some (9, false)), []⟩,
   ⟨10, (some 16), .call 104 [(.tmp 10), (.tmp 15)], (some (9, false)), []⟩,
   ⟨11, (some 17), .pick (.tmp 9) (.con (.bool true)) (.tmp 16), none, []⟩,
   ⟨12, (some 18), .call 101 [(.tmp 6), (.tmp 17), (.con (.int .i64 2))], none, []⟩],
 []⟩
theorem p_code_checker_reg : prepFun Go.Proofs.Tryd.prog [0] Go.Proofs.Tryd.f111 = some v_code_checker_reg := by kernel_rfl
def v_slices_swapRangeCmpFunc_int : VFun :=
⟨.seq (.reg [⟨0, (some 10), .mv (.con (.int .i64 0)), none, []⟩])
 (.block 0
  (.loop
   (.seq (.seq (.reg [⟨0, (some 11), .mv (.tmp 10), none, []⟩,
        ⟨1, (some 12), .mv (.tmp 3), none, []⟩,
        ⟨2, (some 13), .bin .lss 3 false (.tmp 11) (.tmp 12), none, []⟩])
     (.cond (.tmp 13)
      (.skip)
      (.exit 0)))
    (.seq (.block 1
      (.reg [⟨0, (some 16), .mv (.tmp 0), none, []⟩,
         ⟨1, (some 17), .mv (.tmp 1), none, []⟩,
         ⟨2, (some 18), .mv (.tmp 10), none, []⟩,
         ⟨3, (some 19), .bin .add 3 false (.tmp 17) (.tmp 18), none, []⟩,
         ⟨4, (some 20), .mv (.tmp 0), none, []⟩,
         ⟨5, (some 21), .mv (.tmp 2), none, []⟩,
         ⟨6, (some 22), .mv (.tmp 10), none, []⟩,
         ⟨7, (some 23), .bin .add 3 false (.tmp 21) (.tmp 22), none, []⟩,
         ⟨8, (some 24), .mv (.tmp 0), none, []⟩,
         ⟨9, (some 25), .mv (.tmp 2), none, []⟩,
         ⟨10, (some 26), .mv (.tmp 10), none, []⟩,
         ⟨11, (some 27), .bin .add 3 false (.tmp 25) (.tmp 26), none, []⟩,
         ⟨12, (some 28), .idxA none 1 (.tmp 24) (.tmp 27), none, []⟩,
         ⟨13, (some 29), .load none (.tmp 28), none, []⟩,
         ⟨14, (some 30), .mv (.tmp 0), none, []⟩,
         ⟨15, (some 31), .mv (.tmp 1), none, []⟩,
         ⟨16, (some 32), .mv (.tmp 10), none, []⟩,
         ⟨17, (some 33), .bin .add 3 false (.tmp 31) (.tmp 32), none, []⟩,
         ⟨18, (some 34), .idxA none 1 (.tmp 30) (.tmp 33), none, []⟩,
         ⟨19, (some 35), .load none (.tmp 34), none, []⟩,
         ⟨20, (some 36), .idxA none 1 (.tmp 16) (.tmp 19), none, []⟩,
         ⟨21, none, .store 1 (.tmp 36) (.tmp 29), none, []⟩,
         ⟨22, (some 37), .idxA none 1 (.tmp 20) (.tmp 23), none, []⟩,
         ⟨23, none, .store 1 (.tmp 37) (.tmp 35), none, []⟩]))
     (.reg [⟨0, (some 14), .mv (.tmp 10), none, []⟩,
        ⟨1, (some 15), .bin .add 3 true (.tmp 14) (.con (.int .i64 1)), none, []⟩,
        ⟨2, (some 10), .mv (.tmp 15), none, []⟩]))))),
 []⟩
theorem p_slices_swapRangeCmpFunc_int : prepFun Go.Proofs.Tryd.prog [0] Go.Proofs.Tryd.f112 = some v_slices_swapRangeCmpFunc_int := by kernel_rfl
def v_r01_one : VFun :=
⟨.seq (.reg [⟨0, (some 2), .mv (.con (.int .i64 0)), none, []⟩])
 (.seq (.seq (.reg [⟨0, (some 3), .mv (.tmp 0), none, []⟩])
   (.cond (.tmp 3)
    (.seq (.reg [⟨0, (some 2), .mv (.con (.int .i64 1)), none, []⟩])
     (.ret))
    (.skip)))
  (.seq (.reg [⟨0, (some 2), .mv (.con (.int .i64 0)), none, []⟩])
   (.ret))),
 [.tmp 2]⟩
theorem p_r01_one : prepFun Go.Proofs.Tryd.prog [0] Go.Proofs.Tryd.f113 = some v_r01_one := by kernel_rfl
end Go.VX.Seat
end
section
/-! MADE BY PROGRAM (lits.py): the functions of the seat. -/
set_option maxRecDepth 20000
namespace Go.VX.Seat
def fns : List (Nat × VFun) := [(3, v_l17_TraceExtends), (4, v_l17_TraceFollows), (5, v_l17_TraceUnrolls), (6, v_l17_TraceAgain), (7, v_l17_TraceLikely), (8, v_l17_TraceForms), (9, v_l17_TraceKeeps), (10, v_l17_TraceProfiles), (11, v_l17_cut), (12, v_trace_Extend), (13, v_l17_there), (14, v_r17_Extend), (15, v_l17_same), (16, v_r07_Same), (17, v_l17_alive), (18, v_l17_profile), (19, v_trace_Follow), (20, v_r17_Follow), (21, v_trace_Unroll), (22, v_trace_Loops), (23, v_r17_Unroll), (24, v_r07_Check), (25, v_r17_Loops), (26, v_l17_ints), (27, v_trace_Likely), (28, v_trace_Trace), (29, v_r17_Likely), (30, v_r17_Trace), (32, v_r17_Form), (33, v_r16_Args), (34, v_r16_Keeps), (35, v_r09_Profile), (36, v_r09_Run), (37, v_l17_entered), (38, v_r07_Cut), (39, v_trace_look), (40, v_trace_next), (41, v_code_Copy), (42, v_trace_extend), (43, v_code_Check), (44, v_r17_Can), (45, v_r17_Next), (46, v_r17_with), (47, v_r07_SameBlocks), (48, v_l17_loop), (49, v_trace_with), (50, v_trace_follow), (51, v_r17_follow), (52, v_trace_around), (53, v_r17_self), (54, v_r07_Copy), (55, v_r07_Find), (56, v_trace_likely), (57, v_trace_trace), (58, v_r17_in), (59, v_slices_SortStableFunc_int), (60, v_trace_Form_c1), (61, v_r09_Outcomes), (62, v_r09_New), (63, v_r09_Engine_Go), (64, v_r09_Engine_Told), (65, v_slices_Clone_int), (66, v_slices_Clone_Block), (67, v_slices_Clone_Op), (69, v_r07_SameOps), (70, v_trace_longer), (71, v_r07_register), (72, v_r07_op), (73, v_r07_end), (74, v_slices_Contains_int), (75, v_slices_stableCmpFunc_int), (76, v_r09_Engine_enter), (77, v_r09_Engine_op), (78, v_r09_Engine_last), (80, v_code_checker_unit), (81, v_r07_One), (82, v_r07_HasDst), (83, v_r07_HasA), (84, v_r07_HasB), (85, v_r07_HasC), (86, v_r07_Array), (87, v_r07_Cell), (88, v_r07_HasN), (89, v_r07_EndA), (90, v_r07_EndTo), (91, v_r07_there), (92, v_r07_EndElse), (93, v_slices_Index_int), (94, v_slices_insertionSortCmpFunc_int), (95, v_slices_symMergeCmpFunc_int), (96, v_r09_Engine_trap), (97, v_r07_Operands), (98, v_r01_Has), (99, v_r01_Do), (100, v_r09_Engine_end), (101, v_code_checker_must), (102, v_slices_ContainsFunc_int), (103, v_code_checker_unit_c1), (104, v_code_within), (105, v_code_checker_op), (106, v_code_checker_end), (107, v_slices_rotateCmpFunc_int), (108, v_r01_Math), (109, v_slices_IndexFunc_int), (110, v_code_of), (111, v_code_checker_reg), (112, v_slices_swapRangeCmpFunc_int), (113, v_r01_one)]
def fnOf (f : FuncId) : Option VFun := match f with
  | 3 => some v_l17_TraceExtends
  | 4 => some v_l17_TraceFollows
  | 5 => some v_l17_TraceUnrolls
  | 6 => some v_l17_TraceAgain
  | 7 => some v_l17_TraceLikely
  | 8 => some v_l17_TraceForms
  | 9 => some v_l17_TraceKeeps
  | 10 => some v_l17_TraceProfiles
  | 11 => some v_l17_cut
  | 12 => some v_trace_Extend
  | 13 => some v_l17_there
  | 14 => some v_r17_Extend
  | 15 => some v_l17_same
  | 16 => some v_r07_Same
  | 17 => some v_l17_alive
  | 18 => some v_l17_profile
  | 19 => some v_trace_Follow
  | 20 => some v_r17_Follow
  | 21 => some v_trace_Unroll
  | 22 => some v_trace_Loops
  | 23 => some v_r17_Unroll
  | 24 => some v_r07_Check
  | 25 => some v_r17_Loops
  | 26 => some v_l17_ints
  | 27 => some v_trace_Likely
  | 28 => some v_trace_Trace
  | 29 => some v_r17_Likely
  | 30 => some v_r17_Trace
  | 32 => some v_r17_Form
  | 33 => some v_r16_Args
  | 34 => some v_r16_Keeps
  | 35 => some v_r09_Profile
  | 36 => some v_r09_Run
  | 37 => some v_l17_entered
  | 38 => some v_r07_Cut
  | 39 => some v_trace_look
  | 40 => some v_trace_next
  | 41 => some v_code_Copy
  | 42 => some v_trace_extend
  | 43 => some v_code_Check
  | 44 => some v_r17_Can
  | 45 => some v_r17_Next
  | 46 => some v_r17_with
  | 47 => some v_r07_SameBlocks
  | 48 => some v_l17_loop
  | 49 => some v_trace_with
  | 50 => some v_trace_follow
  | 51 => some v_r17_follow
  | 52 => some v_trace_around
  | 53 => some v_r17_self
  | 54 => some v_r07_Copy
  | 55 => some v_r07_Find
  | 56 => some v_trace_likely
  | 57 => some v_trace_trace
  | 58 => some v_r17_in
  | 59 => some v_slices_SortStableFunc_int
  | 60 => some v_trace_Form_c1
  | 61 => some v_r09_Outcomes
  | 62 => some v_r09_New
  | 63 => some v_r09_Engine_Go
  | 64 => some v_r09_Engine_Told
  | 65 => some v_slices_Clone_int
  | 66 => some v_slices_Clone_Block
  | 67 => some v_slices_Clone_Op
  | 69 => some v_r07_SameOps
  | 70 => some v_trace_longer
  | 71 => some v_r07_register
  | 72 => some v_r07_op
  | 73 => some v_r07_end
  | 74 => some v_slices_Contains_int
  | 75 => some v_slices_stableCmpFunc_int
  | 76 => some v_r09_Engine_enter
  | 77 => some v_r09_Engine_op
  | 78 => some v_r09_Engine_last
  | 80 => some v_code_checker_unit
  | 81 => some v_r07_One
  | 82 => some v_r07_HasDst
  | 83 => some v_r07_HasA
  | 84 => some v_r07_HasB
  | 85 => some v_r07_HasC
  | 86 => some v_r07_Array
  | 87 => some v_r07_Cell
  | 88 => some v_r07_HasN
  | 89 => some v_r07_EndA
  | 90 => some v_r07_EndTo
  | 91 => some v_r07_there
  | 92 => some v_r07_EndElse
  | 93 => some v_slices_Index_int
  | 94 => some v_slices_insertionSortCmpFunc_int
  | 95 => some v_slices_symMergeCmpFunc_int
  | 96 => some v_r09_Engine_trap
  | 97 => some v_r07_Operands
  | 98 => some v_r01_Has
  | 99 => some v_r01_Do
  | 100 => some v_r09_Engine_end
  | 101 => some v_code_checker_must
  | 102 => some v_slices_ContainsFunc_int
  | 103 => some v_code_checker_unit_c1
  | 104 => some v_code_within
  | 105 => some v_code_checker_op
  | 106 => some v_code_checker_end
  | 107 => some v_slices_rotateCmpFunc_int
  | 108 => some v_r01_Math
  | 109 => some v_slices_IndexFunc_int
  | 110 => some v_code_of
  | 111 => some v_code_checker_reg
  | 112 => some v_slices_swapRangeCmpFunc_int
  | 113 => some v_r01_one
  | _ => none
theorem o_l17_TraceExtends : FunOk Go.Proofs.Tryd.prog [0] 3 v_l17_TraceExtends := ⟨⟨Go.Proofs.Tryd.f3, _, by kernel_rfl, rfl, by kernel_rfl, p_l17_TraceExtends⟩⟩
theorem o_l17_TraceFollows : FunOk Go.Proofs.Tryd.prog [0] 4 v_l17_TraceFollows := ⟨⟨Go.Proofs.Tryd.f4, _, by kernel_rfl, rfl, by kernel_rfl, p_l17_TraceFollows⟩⟩
theorem o_l17_TraceUnrolls : FunOk Go.Proofs.Tryd.prog [0] 5 v_l17_TraceUnrolls := ⟨⟨Go.Proofs.Tryd.f5, _, by kernel_rfl, rfl, by kernel_rfl, p_l17_TraceUnrolls⟩⟩
theorem o_l17_TraceAgain : FunOk Go.Proofs.Tryd.prog [0] 6 v_l17_TraceAgain := ⟨⟨Go.Proofs.Tryd.f6, _, by kernel_rfl, rfl, by kernel_rfl, p_l17_TraceAgain⟩⟩
theorem o_l17_TraceLikely : FunOk Go.Proofs.Tryd.prog [0] 7 v_l17_TraceLikely := ⟨⟨Go.Proofs.Tryd.f7, _, by kernel_rfl, rfl, by kernel_rfl, p_l17_TraceLikely⟩⟩
theorem o_l17_TraceForms : FunOk Go.Proofs.Tryd.prog [0] 8 v_l17_TraceForms := ⟨⟨Go.Proofs.Tryd.f8, _, by kernel_rfl, rfl, by kernel_rfl, p_l17_TraceForms⟩⟩
theorem o_l17_TraceKeeps : FunOk Go.Proofs.Tryd.prog [0] 9 v_l17_TraceKeeps := ⟨⟨Go.Proofs.Tryd.f9, _, by kernel_rfl, rfl, by kernel_rfl, p_l17_TraceKeeps⟩⟩
theorem o_l17_TraceProfiles : FunOk Go.Proofs.Tryd.prog [0] 10 v_l17_TraceProfiles := ⟨⟨Go.Proofs.Tryd.f10, _, by kernel_rfl, rfl, by kernel_rfl, p_l17_TraceProfiles⟩⟩
theorem o_l17_cut : FunOk Go.Proofs.Tryd.prog [0] 11 v_l17_cut := ⟨⟨Go.Proofs.Tryd.f11, _, by kernel_rfl, rfl, by kernel_rfl, p_l17_cut⟩⟩
theorem o_trace_Extend : FunOk Go.Proofs.Tryd.prog [0] 12 v_trace_Extend := ⟨⟨Go.Proofs.Tryd.f12, _, by kernel_rfl, rfl, by kernel_rfl, p_trace_Extend⟩⟩
theorem o_l17_there : FunOk Go.Proofs.Tryd.prog [0] 13 v_l17_there := ⟨⟨Go.Proofs.Tryd.f13, _, by kernel_rfl, rfl, by kernel_rfl, p_l17_there⟩⟩
theorem o_r17_Extend : FunOk Go.Proofs.Tryd.prog [0] 14 v_r17_Extend := ⟨⟨Go.Proofs.Tryd.f14, _, by kernel_rfl, rfl, by kernel_rfl, p_r17_Extend⟩⟩
theorem o_l17_same : FunOk Go.Proofs.Tryd.prog [0] 15 v_l17_same := ⟨⟨Go.Proofs.Tryd.f15, _, by kernel_rfl, rfl, by kernel_rfl, p_l17_same⟩⟩
theorem o_r07_Same : FunOk Go.Proofs.Tryd.prog [0] 16 v_r07_Same := ⟨⟨Go.Proofs.Tryd.f16, _, by kernel_rfl, rfl, by kernel_rfl, p_r07_Same⟩⟩
theorem o_l17_alive : FunOk Go.Proofs.Tryd.prog [0] 17 v_l17_alive := ⟨⟨Go.Proofs.Tryd.f17, _, by kernel_rfl, rfl, by kernel_rfl, p_l17_alive⟩⟩
theorem o_l17_profile : FunOk Go.Proofs.Tryd.prog [0] 18 v_l17_profile := ⟨⟨Go.Proofs.Tryd.f18, _, by kernel_rfl, rfl, by kernel_rfl, p_l17_profile⟩⟩
theorem o_trace_Follow : FunOk Go.Proofs.Tryd.prog [0] 19 v_trace_Follow := ⟨⟨Go.Proofs.Tryd.f19, _, by kernel_rfl, rfl, by kernel_rfl, p_trace_Follow⟩⟩
theorem o_r17_Follow : FunOk Go.Proofs.Tryd.prog [0] 20 v_r17_Follow := ⟨⟨Go.Proofs.Tryd.f20, _, by kernel_rfl, rfl, by kernel_rfl, p_r17_Follow⟩⟩
theorem o_trace_Unroll : FunOk Go.Proofs.Tryd.prog [0] 21 v_trace_Unroll := ⟨⟨Go.Proofs.Tryd.f21, _, by kernel_rfl, rfl, by kernel_rfl, p_trace_Unroll⟩⟩
theorem o_trace_Loops : FunOk Go.Proofs.Tryd.prog [0] 22 v_trace_Loops := ⟨⟨Go.Proofs.Tryd.f22, _, by kernel_rfl, rfl, by kernel_rfl, p_trace_Loops⟩⟩
theorem o_r17_Unroll : FunOk Go.Proofs.Tryd.prog [0] 23 v_r17_Unroll := ⟨⟨Go.Proofs.Tryd.f23, _, by kernel_rfl, rfl, by kernel_rfl, p_r17_Unroll⟩⟩
theorem o_r07_Check : FunOk Go.Proofs.Tryd.prog [0] 24 v_r07_Check := ⟨⟨Go.Proofs.Tryd.f24, _, by kernel_rfl, rfl, by kernel_rfl, p_r07_Check⟩⟩
theorem o_r17_Loops : FunOk Go.Proofs.Tryd.prog [0] 25 v_r17_Loops := ⟨⟨Go.Proofs.Tryd.f25, _, by kernel_rfl, rfl, by kernel_rfl, p_r17_Loops⟩⟩
theorem o_l17_ints : FunOk Go.Proofs.Tryd.prog [0] 26 v_l17_ints := ⟨⟨Go.Proofs.Tryd.f26, _, by kernel_rfl, rfl, by kernel_rfl, p_l17_ints⟩⟩
theorem o_trace_Likely : FunOk Go.Proofs.Tryd.prog [0] 27 v_trace_Likely := ⟨⟨Go.Proofs.Tryd.f27, _, by kernel_rfl, rfl, by kernel_rfl, p_trace_Likely⟩⟩
theorem o_trace_Trace : FunOk Go.Proofs.Tryd.prog [0] 28 v_trace_Trace := ⟨⟨Go.Proofs.Tryd.f28, _, by kernel_rfl, rfl, by kernel_rfl, p_trace_Trace⟩⟩
theorem o_r17_Likely : FunOk Go.Proofs.Tryd.prog [0] 29 v_r17_Likely := ⟨⟨Go.Proofs.Tryd.f29, _, by kernel_rfl, rfl, by kernel_rfl, p_r17_Likely⟩⟩
theorem o_r17_Trace : FunOk Go.Proofs.Tryd.prog [0] 30 v_r17_Trace := ⟨⟨Go.Proofs.Tryd.f30, _, by kernel_rfl, rfl, by kernel_rfl, p_r17_Trace⟩⟩
theorem o_r17_Form : FunOk Go.Proofs.Tryd.prog [0] 32 v_r17_Form := ⟨⟨Go.Proofs.Tryd.f32, _, by kernel_rfl, rfl, by kernel_rfl, p_r17_Form⟩⟩
theorem o_r16_Args : FunOk Go.Proofs.Tryd.prog [0] 33 v_r16_Args := ⟨⟨Go.Proofs.Tryd.f33, _, by kernel_rfl, rfl, by kernel_rfl, p_r16_Args⟩⟩
theorem o_r16_Keeps : FunOk Go.Proofs.Tryd.prog [0] 34 v_r16_Keeps := ⟨⟨Go.Proofs.Tryd.f34, _, by kernel_rfl, rfl, by kernel_rfl, p_r16_Keeps⟩⟩
theorem o_r09_Profile : FunOk Go.Proofs.Tryd.prog [0] 35 v_r09_Profile := ⟨⟨Go.Proofs.Tryd.f35, _, by kernel_rfl, rfl, by kernel_rfl, p_r09_Profile⟩⟩
theorem o_r09_Run : FunOk Go.Proofs.Tryd.prog [0] 36 v_r09_Run := ⟨⟨Go.Proofs.Tryd.f36, _, by kernel_rfl, rfl, by kernel_rfl, p_r09_Run⟩⟩
theorem o_l17_entered : FunOk Go.Proofs.Tryd.prog [0] 37 v_l17_entered := ⟨⟨Go.Proofs.Tryd.f37, _, by kernel_rfl, rfl, by kernel_rfl, p_l17_entered⟩⟩
theorem o_r07_Cut : FunOk Go.Proofs.Tryd.prog [0] 38 v_r07_Cut := ⟨⟨Go.Proofs.Tryd.f38, _, by kernel_rfl, rfl, by kernel_rfl, p_r07_Cut⟩⟩
theorem o_trace_look : FunOk Go.Proofs.Tryd.prog [0] 39 v_trace_look := ⟨⟨Go.Proofs.Tryd.f39, _, by kernel_rfl, rfl, by kernel_rfl, p_trace_look⟩⟩
theorem o_trace_next : FunOk Go.Proofs.Tryd.prog [0] 40 v_trace_next := ⟨⟨Go.Proofs.Tryd.f40, _, by kernel_rfl, rfl, by kernel_rfl, p_trace_next⟩⟩
theorem o_code_Copy : FunOk Go.Proofs.Tryd.prog [0] 41 v_code_Copy := ⟨⟨Go.Proofs.Tryd.f41, _, by kernel_rfl, rfl, by kernel_rfl, p_code_Copy⟩⟩
theorem o_trace_extend : FunOk Go.Proofs.Tryd.prog [0] 42 v_trace_extend := ⟨⟨Go.Proofs.Tryd.f42, _, by kernel_rfl, rfl, by kernel_rfl, p_trace_extend⟩⟩
theorem o_code_Check : FunOk Go.Proofs.Tryd.prog [0] 43 v_code_Check := ⟨⟨Go.Proofs.Tryd.f43, _, by kernel_rfl, rfl, by kernel_rfl, p_code_Check⟩⟩
theorem o_r17_Can : FunOk Go.Proofs.Tryd.prog [0] 44 v_r17_Can := ⟨⟨Go.Proofs.Tryd.f44, _, by kernel_rfl, rfl, by kernel_rfl, p_r17_Can⟩⟩
theorem o_r17_Next : FunOk Go.Proofs.Tryd.prog [0] 45 v_r17_Next := ⟨⟨Go.Proofs.Tryd.f45, _, by kernel_rfl, rfl, by kernel_rfl, p_r17_Next⟩⟩
theorem o_r17_with : FunOk Go.Proofs.Tryd.prog [0] 46 v_r17_with := ⟨⟨Go.Proofs.Tryd.f46, _, by kernel_rfl, rfl, by kernel_rfl, p_r17_with⟩⟩
theorem o_r07_SameBlocks : FunOk Go.Proofs.Tryd.prog [0] 47 v_r07_SameBlocks := ⟨⟨Go.Proofs.Tryd.f47, _, by kernel_rfl, rfl, by kernel_rfl, p_r07_SameBlocks⟩⟩
theorem o_l17_loop : FunOk Go.Proofs.Tryd.prog [0] 48 v_l17_loop := ⟨⟨Go.Proofs.Tryd.f48, _, by kernel_rfl, rfl, by kernel_rfl, p_l17_loop⟩⟩
theorem o_trace_with : FunOk Go.Proofs.Tryd.prog [0] 49 v_trace_with := ⟨⟨Go.Proofs.Tryd.f49, _, by kernel_rfl, rfl, by kernel_rfl, p_trace_with⟩⟩
theorem o_trace_follow : FunOk Go.Proofs.Tryd.prog [0] 50 v_trace_follow := ⟨⟨Go.Proofs.Tryd.f50, _, by kernel_rfl, rfl, by kernel_rfl, p_trace_follow⟩⟩
theorem o_r17_follow : FunOk Go.Proofs.Tryd.prog [0] 51 v_r17_follow := ⟨⟨Go.Proofs.Tryd.f51, _, by kernel_rfl, rfl, by kernel_rfl, p_r17_follow⟩⟩
theorem o_trace_around : FunOk Go.Proofs.Tryd.prog [0] 52 v_trace_around := ⟨⟨Go.Proofs.Tryd.f52, _, by kernel_rfl, rfl, by kernel_rfl, p_trace_around⟩⟩
theorem o_r17_self : FunOk Go.Proofs.Tryd.prog [0] 53 v_r17_self := ⟨⟨Go.Proofs.Tryd.f53, _, by kernel_rfl, rfl, by kernel_rfl, p_r17_self⟩⟩
theorem o_r07_Copy : FunOk Go.Proofs.Tryd.prog [0] 54 v_r07_Copy := ⟨⟨Go.Proofs.Tryd.f54, _, by kernel_rfl, rfl, by kernel_rfl, p_r07_Copy⟩⟩
theorem o_r07_Find : FunOk Go.Proofs.Tryd.prog [0] 55 v_r07_Find := ⟨⟨Go.Proofs.Tryd.f55, _, by kernel_rfl, rfl, by kernel_rfl, p_r07_Find⟩⟩
theorem o_trace_likely : FunOk Go.Proofs.Tryd.prog [0] 56 v_trace_likely := ⟨⟨Go.Proofs.Tryd.f56, _, by kernel_rfl, rfl, by kernel_rfl, p_trace_likely⟩⟩
theorem o_trace_trace : FunOk Go.Proofs.Tryd.prog [0] 57 v_trace_trace := ⟨⟨Go.Proofs.Tryd.f57, _, by kernel_rfl, rfl, by kernel_rfl, p_trace_trace⟩⟩
theorem o_r17_in : FunOk Go.Proofs.Tryd.prog [0] 58 v_r17_in := ⟨⟨Go.Proofs.Tryd.f58, _, by kernel_rfl, rfl, by kernel_rfl, p_r17_in⟩⟩
theorem o_slices_SortStableFunc_int : FunOk Go.Proofs.Tryd.prog [0] 59 v_slices_SortStableFunc_int := ⟨⟨Go.Proofs.Tryd.f59, _, by kernel_rfl, rfl, by kernel_rfl, p_slices_SortStableFunc_int⟩⟩
theorem o_trace_Form_c1 : FunOk Go.Proofs.Tryd.prog [0] 60 v_trace_Form_c1 := ⟨⟨Go.Proofs.Tryd.f60, _, by kernel_rfl, rfl, by kernel_rfl, p_trace_Form_c1⟩⟩
theorem o_r09_Outcomes : FunOk Go.Proofs.Tryd.prog [0] 61 v_r09_Outcomes := ⟨⟨Go.Proofs.Tryd.f61, _, by kernel_rfl, rfl, by kernel_rfl, p_r09_Outcomes⟩⟩
theorem o_r09_New : FunOk Go.Proofs.Tryd.prog [0] 62 v_r09_New := ⟨⟨Go.Proofs.Tryd.f62, _, by kernel_rfl, rfl, by kernel_rfl, p_r09_New⟩⟩
theorem o_r09_Engine_Go : FunOk Go.Proofs.Tryd.prog [0] 63 v_r09_Engine_Go := ⟨⟨Go.Proofs.Tryd.f63, _, by kernel_rfl, rfl, by kernel_rfl, p_r09_Engine_Go⟩⟩
theorem o_r09_Engine_Told : FunOk Go.Proofs.Tryd.prog [0] 64 v_r09_Engine_Told := ⟨⟨Go.Proofs.Tryd.f64, _, by kernel_rfl, rfl, by kernel_rfl, p_r09_Engine_Told⟩⟩
theorem o_slices_Clone_int : FunOk Go.Proofs.Tryd.prog [0] 65 v_slices_Clone_int := ⟨⟨Go.Proofs.Tryd.f65, _, by kernel_rfl, rfl, by kernel_rfl, p_slices_Clone_int⟩⟩
theorem o_slices_Clone_Block : FunOk Go.Proofs.Tryd.prog [0] 66 v_slices_Clone_Block := ⟨⟨Go.Proofs.Tryd.f66, _, by kernel_rfl, rfl, by kernel_rfl, p_slices_Clone_Block⟩⟩
theorem o_slices_Clone_Op : FunOk Go.Proofs.Tryd.prog [0] 67 v_slices_Clone_Op := ⟨⟨Go.Proofs.Tryd.f67, _, by kernel_rfl, rfl, by kernel_rfl, p_slices_Clone_Op⟩⟩
theorem o_r07_SameOps : FunOk Go.Proofs.Tryd.prog [0] 69 v_r07_SameOps := ⟨⟨Go.Proofs.Tryd.f69, _, by kernel_rfl, rfl, by kernel_rfl, p_r07_SameOps⟩⟩
theorem o_trace_longer : FunOk Go.Proofs.Tryd.prog [0] 70 v_trace_longer := ⟨⟨Go.Proofs.Tryd.f70, _, by kernel_rfl, rfl, by kernel_rfl, p_trace_longer⟩⟩
theorem o_r07_register : FunOk Go.Proofs.Tryd.prog [0] 71 v_r07_register := ⟨⟨Go.Proofs.Tryd.f71, _, by kernel_rfl, rfl, by kernel_rfl, p_r07_register⟩⟩
theorem o_r07_op : FunOk Go.Proofs.Tryd.prog [0] 72 v_r07_op := ⟨⟨Go.Proofs.Tryd.f72, _, by kernel_rfl, rfl, by kernel_rfl, p_r07_op⟩⟩
theorem o_r07_end : FunOk Go.Proofs.Tryd.prog [0] 73 v_r07_end := ⟨⟨Go.Proofs.Tryd.f73, _, by kernel_rfl, rfl, by kernel_rfl, p_r07_end⟩⟩
theorem o_slices_Contains_int : FunOk Go.Proofs.Tryd.prog [0] 74 v_slices_Contains_int := ⟨⟨Go.Proofs.Tryd.f74, _, by kernel_rfl, rfl, by kernel_rfl, p_slices_Contains_int⟩⟩
theorem o_slices_stableCmpFunc_int : FunOk Go.Proofs.Tryd.prog [0] 75 v_slices_stableCmpFunc_int := ⟨⟨Go.Proofs.Tryd.f75, _, by kernel_rfl, rfl, by kernel_rfl, p_slices_stableCmpFunc_int⟩⟩
theorem o_r09_Engine_enter : FunOk Go.Proofs.Tryd.prog [0] 76 v_r09_Engine_enter := ⟨⟨Go.Proofs.Tryd.f76, _, by kernel_rfl, rfl, by kernel_rfl, p_r09_Engine_enter⟩⟩
theorem o_r09_Engine_op : FunOk Go.Proofs.Tryd.prog [0] 77 v_r09_Engine_op := ⟨⟨Go.Proofs.Tryd.f77, _, by kernel_rfl, rfl, by kernel_rfl, p_r09_Engine_op⟩⟩
theorem o_r09_Engine_last : FunOk Go.Proofs.Tryd.prog [0] 78 v_r09_Engine_last := ⟨⟨Go.Proofs.Tryd.f78, _, by kernel_rfl, rfl, by kernel_rfl, p_r09_Engine_last⟩⟩
theorem o_code_checker_unit : FunOk Go.Proofs.Tryd.prog [0] 80 v_code_checker_unit := ⟨⟨Go.Proofs.Tryd.f80, _, by kernel_rfl, rfl, by kernel_rfl, p_code_checker_unit⟩⟩
theorem o_r07_One : FunOk Go.Proofs.Tryd.prog [0] 81 v_r07_One := ⟨⟨Go.Proofs.Tryd.f81, _, by kernel_rfl, rfl, by kernel_rfl, p_r07_One⟩⟩
theorem o_r07_HasDst : FunOk Go.Proofs.Tryd.prog [0] 82 v_r07_HasDst := ⟨⟨Go.Proofs.Tryd.f82, _, by kernel_rfl, rfl, by kernel_rfl, p_r07_HasDst⟩⟩
theorem o_r07_HasA : FunOk Go.Proofs.Tryd.prog [0] 83 v_r07_HasA := ⟨⟨Go.Proofs.Tryd.f83, _, by kernel_rfl, rfl, by kernel_rfl, p_r07_HasA⟩⟩
theorem o_r07_HasB : FunOk Go.Proofs.Tryd.prog [0] 84 v_r07_HasB := ⟨⟨Go.Proofs.Tryd.f84, _, by kernel_rfl, rfl, by kernel_rfl, p_r07_HasB⟩⟩
theorem o_r07_HasC : FunOk Go.Proofs.Tryd.prog [0] 85 v_r07_HasC := ⟨⟨Go.Proofs.Tryd.f85, _, by kernel_rfl, rfl, by kernel_rfl, p_r07_HasC⟩⟩
theorem o_r07_Array : FunOk Go.Proofs.Tryd.prog [0] 86 v_r07_Array := ⟨⟨Go.Proofs.Tryd.f86, _, by kernel_rfl, rfl, by kernel_rfl, p_r07_Array⟩⟩
theorem o_r07_Cell : FunOk Go.Proofs.Tryd.prog [0] 87 v_r07_Cell := ⟨⟨Go.Proofs.Tryd.f87, _, by kernel_rfl, rfl, by kernel_rfl, p_r07_Cell⟩⟩
theorem o_r07_HasN : FunOk Go.Proofs.Tryd.prog [0] 88 v_r07_HasN := ⟨⟨Go.Proofs.Tryd.f88, _, by kernel_rfl, rfl, by kernel_rfl, p_r07_HasN⟩⟩
theorem o_r07_EndA : FunOk Go.Proofs.Tryd.prog [0] 89 v_r07_EndA := ⟨⟨Go.Proofs.Tryd.f89, _, by kernel_rfl, rfl, by kernel_rfl, p_r07_EndA⟩⟩
theorem o_r07_EndTo : FunOk Go.Proofs.Tryd.prog [0] 90 v_r07_EndTo := ⟨⟨Go.Proofs.Tryd.f90, _, by kernel_rfl, rfl, by kernel_rfl, p_r07_EndTo⟩⟩
theorem o_r07_there : FunOk Go.Proofs.Tryd.prog [0] 91 v_r07_there := ⟨⟨Go.Proofs.Tryd.f91, _, by kernel_rfl, rfl, by kernel_rfl, p_r07_there⟩⟩
theorem o_r07_EndElse : FunOk Go.Proofs.Tryd.prog [0] 92 v_r07_EndElse := ⟨⟨Go.Proofs.Tryd.f92, _, by kernel_rfl, rfl, by kernel_rfl, p_r07_EndElse⟩⟩
theorem o_slices_Index_int : FunOk Go.Proofs.Tryd.prog [0] 93 v_slices_Index_int := ⟨⟨Go.Proofs.Tryd.f93, _, by kernel_rfl, rfl, by kernel_rfl, p_slices_Index_int⟩⟩
theorem o_slices_insertionSortCmpFunc_int : FunOk Go.Proofs.Tryd.prog [0] 94 v_slices_insertionSortCmpFunc_int := ⟨⟨Go.Proofs.Tryd.f94, _, by kernel_rfl, rfl, by kernel_rfl, p_slices_insertionSortCmpFunc_int⟩⟩
theorem o_slices_symMergeCmpFunc_int : FunOk Go.Proofs.Tryd.prog [0] 95 v_slices_symMergeCmpFunc_int := ⟨⟨Go.Proofs.Tryd.f95, _, by kernel_rfl, rfl, by kernel_rfl, p_slices_symMergeCmpFunc_int⟩⟩
theorem o_r09_Engine_trap : FunOk Go.Proofs.Tryd.prog [0] 96 v_r09_Engine_trap := ⟨⟨Go.Proofs.Tryd.f96, _, by kernel_rfl, rfl, by kernel_rfl, p_r09_Engine_trap⟩⟩
theorem o_r07_Operands : FunOk Go.Proofs.Tryd.prog [0] 97 v_r07_Operands := ⟨⟨Go.Proofs.Tryd.f97, _, by kernel_rfl, rfl, by kernel_rfl, p_r07_Operands⟩⟩
theorem o_r01_Has : FunOk Go.Proofs.Tryd.prog [0] 98 v_r01_Has := ⟨⟨Go.Proofs.Tryd.f98, _, by kernel_rfl, rfl, by kernel_rfl, p_r01_Has⟩⟩
theorem o_r01_Do : FunOk Go.Proofs.Tryd.prog [0] 99 v_r01_Do := ⟨⟨Go.Proofs.Tryd.f99, _, by kernel_rfl, rfl, by kernel_rfl, p_r01_Do⟩⟩
theorem o_r09_Engine_end : FunOk Go.Proofs.Tryd.prog [0] 100 v_r09_Engine_end := ⟨⟨Go.Proofs.Tryd.f100, _, by kernel_rfl, rfl, by kernel_rfl, p_r09_Engine_end⟩⟩
theorem o_code_checker_must : FunOk Go.Proofs.Tryd.prog [0] 101 v_code_checker_must := ⟨⟨Go.Proofs.Tryd.f101, _, by kernel_rfl, rfl, by kernel_rfl, p_code_checker_must⟩⟩
theorem o_slices_ContainsFunc_int : FunOk Go.Proofs.Tryd.prog [0] 102 v_slices_ContainsFunc_int := ⟨⟨Go.Proofs.Tryd.f102, _, by kernel_rfl, rfl, by kernel_rfl, p_slices_ContainsFunc_int⟩⟩
theorem o_code_checker_unit_c1 : FunOk Go.Proofs.Tryd.prog [0] 103 v_code_checker_unit_c1 := ⟨⟨Go.Proofs.Tryd.f103, _, by kernel_rfl, rfl, by kernel_rfl, p_code_checker_unit_c1⟩⟩
theorem o_code_within : FunOk Go.Proofs.Tryd.prog [0] 104 v_code_within := ⟨⟨Go.Proofs.Tryd.f104, _, by kernel_rfl, rfl, by kernel_rfl, p_code_within⟩⟩
theorem o_code_checker_op : FunOk Go.Proofs.Tryd.prog [0] 105 v_code_checker_op := ⟨⟨Go.Proofs.Tryd.f105, _, by kernel_rfl, rfl, by kernel_rfl, p_code_checker_op⟩⟩
theorem o_code_checker_end : FunOk Go.Proofs.Tryd.prog [0] 106 v_code_checker_end := ⟨⟨Go.Proofs.Tryd.f106, _, by kernel_rfl, rfl, by kernel_rfl, p_code_checker_end⟩⟩
theorem o_slices_rotateCmpFunc_int : FunOk Go.Proofs.Tryd.prog [0] 107 v_slices_rotateCmpFunc_int := ⟨⟨Go.Proofs.Tryd.f107, _, by kernel_rfl, rfl, by kernel_rfl, p_slices_rotateCmpFunc_int⟩⟩
theorem o_r01_Math : FunOk Go.Proofs.Tryd.prog [0] 108 v_r01_Math := ⟨⟨Go.Proofs.Tryd.f108, _, by kernel_rfl, rfl, by kernel_rfl, p_r01_Math⟩⟩
theorem o_slices_IndexFunc_int : FunOk Go.Proofs.Tryd.prog [0] 109 v_slices_IndexFunc_int := ⟨⟨Go.Proofs.Tryd.f109, _, by kernel_rfl, rfl, by kernel_rfl, p_slices_IndexFunc_int⟩⟩
theorem o_code_of : FunOk Go.Proofs.Tryd.prog [0] 110 v_code_of := ⟨⟨Go.Proofs.Tryd.f110, _, by kernel_rfl, rfl, by kernel_rfl, p_code_of⟩⟩
theorem o_code_checker_reg : FunOk Go.Proofs.Tryd.prog [0] 111 v_code_checker_reg := ⟨⟨Go.Proofs.Tryd.f111, _, by kernel_rfl, rfl, by kernel_rfl, p_code_checker_reg⟩⟩
theorem o_slices_swapRangeCmpFunc_int : FunOk Go.Proofs.Tryd.prog [0] 112 v_slices_swapRangeCmpFunc_int := ⟨⟨Go.Proofs.Tryd.f112, _, by kernel_rfl, rfl, by kernel_rfl, p_slices_swapRangeCmpFunc_int⟩⟩
theorem o_r01_one : FunOk Go.Proofs.Tryd.prog [0] 113 v_r01_one := ⟨⟨Go.Proofs.Tryd.f113, _, by kernel_rfl, rfl, by kernel_rfl, p_r01_one⟩⟩
theorem fn_ok (f : FuncId) (fn : VFun) (h : fnOf f = some fn) : FunOk Go.Proofs.Tryd.prog [0] f fn := by
  unfold fnOf at h
  split at h
  · cases h; exact o_l17_TraceExtends
  · cases h; exact o_l17_TraceFollows
  · cases h; exact o_l17_TraceUnrolls
  · cases h; exact o_l17_TraceAgain
  · cases h; exact o_l17_TraceLikely
  · cases h; exact o_l17_TraceForms
  · cases h; exact o_l17_TraceKeeps
  · cases h; exact o_l17_TraceProfiles
  · cases h; exact o_l17_cut
  · cases h; exact o_trace_Extend
  · cases h; exact o_l17_there
  · cases h; exact o_r17_Extend
  · cases h; exact o_l17_same
  · cases h; exact o_r07_Same
  · cases h; exact o_l17_alive
  · cases h; exact o_l17_profile
  · cases h; exact o_trace_Follow
  · cases h; exact o_r17_Follow
  · cases h; exact o_trace_Unroll
  · cases h; exact o_trace_Loops
  · cases h; exact o_r17_Unroll
  · cases h; exact o_r07_Check
  · cases h; exact o_r17_Loops
  · cases h; exact o_l17_ints
  · cases h; exact o_trace_Likely
  · cases h; exact o_trace_Trace
  · cases h; exact o_r17_Likely
  · cases h; exact o_r17_Trace
  · cases h; exact o_r17_Form
  · cases h; exact o_r16_Args
  · cases h; exact o_r16_Keeps
  · cases h; exact o_r09_Profile
  · cases h; exact o_r09_Run
  · cases h; exact o_l17_entered
  · cases h; exact o_r07_Cut
  · cases h; exact o_trace_look
  · cases h; exact o_trace_next
  · cases h; exact o_code_Copy
  · cases h; exact o_trace_extend
  · cases h; exact o_code_Check
  · cases h; exact o_r17_Can
  · cases h; exact o_r17_Next
  · cases h; exact o_r17_with
  · cases h; exact o_r07_SameBlocks
  · cases h; exact o_l17_loop
  · cases h; exact o_trace_with
  · cases h; exact o_trace_follow
  · cases h; exact o_r17_follow
  · cases h; exact o_trace_around
  · cases h; exact o_r17_self
  · cases h; exact o_r07_Copy
  · cases h; exact o_r07_Find
  · cases h; exact o_trace_likely
  · cases h; exact o_trace_trace
  · cases h; exact o_r17_in
  · cases h; exact o_slices_SortStableFunc_int
  · cases h; exact o_trace_Form_c1
  · cases h; exact o_r09_Outcomes
  · cases h; exact o_r09_New
  · cases h; exact o_r09_Engine_Go
  · cases h; exact o_r09_Engine_Told
  · cases h; exact o_slices_Clone_int
  · cases h; exact o_slices_Clone_Block
  · cases h; exact o_slices_Clone_Op
  · cases h; exact o_r07_SameOps
  · cases h; exact o_trace_longer
  · cases h; exact o_r07_register
  · cases h; exact o_r07_op
  · cases h; exact o_r07_end
  · cases h; exact o_slices_Contains_int
  · cases h; exact o_slices_stableCmpFunc_int
  · cases h; exact o_r09_Engine_enter
  · cases h; exact o_r09_Engine_op
  · cases h; exact o_r09_Engine_last
  · cases h; exact o_code_checker_unit
  · cases h; exact o_r07_One
  · cases h; exact o_r07_HasDst
  · cases h; exact o_r07_HasA
  · cases h; exact o_r07_HasB
  · cases h; exact o_r07_HasC
  · cases h; exact o_r07_Array
  · cases h; exact o_r07_Cell
  · cases h; exact o_r07_HasN
  · cases h; exact o_r07_EndA
  · cases h; exact o_r07_EndTo
  · cases h; exact o_r07_there
  · cases h; exact o_r07_EndElse
  · cases h; exact o_slices_Index_int
  · cases h; exact o_slices_insertionSortCmpFunc_int
  · cases h; exact o_slices_symMergeCmpFunc_int
  · cases h; exact o_r09_Engine_trap
  · cases h; exact o_r07_Operands
  · cases h; exact o_r01_Has
  · cases h; exact o_r01_Do
  · cases h; exact o_r09_Engine_end
  · cases h; exact o_code_checker_must
  · cases h; exact o_slices_ContainsFunc_int
  · cases h; exact o_code_checker_unit_c1
  · cases h; exact o_code_within
  · cases h; exact o_code_checker_op
  · cases h; exact o_code_checker_end
  · cases h; exact o_slices_rotateCmpFunc_int
  · cases h; exact o_r01_Math
  · cases h; exact o_slices_IndexFunc_int
  · cases h; exact o_code_of
  · cases h; exact o_code_checker_reg
  · cases h; exact o_slices_swapRangeCmpFunc_int
  · cases h; exact o_r01_one
  · cases h
/-- The functions of the seat, and whatever more is told. -/
structure On (X : Cx) : Prop where
  F : X.F = fnOf
  P : X.P = Go.Proofs.Tryd.prog
end Go.VX.Seat
end
section
set_option linter.unusedVariables false
set_option linter.unusedSimpArgs false
namespace Go.VX.Seat
def oneK (k : Int) : Bool := decide (1 ≤ k) && decide (k ≤ 25)
def hasDst (k : Int) : Bool := decide (k ≠ 17) && decide (k ≠ 19) && decide (k ≠ 20) && decide (k ≠ 21) && decide (k ≠ 22)
def hasA (k : Int) : Bool := decide (k ≠ 1) && decide (k ≠ 18)
def hasB (k : Int) : Bool := decide (3 ≤ k) && decide (k ≤ 15) || decide (k = 17) || decide (k = 23) || decide (k = 24)
def hasC (k : Int) : Bool := decide (k = 12)
def arrK (k : Int) : Bool := decide (k = 16) || decide (k = 17) || decide (k = 25)
def cellK (k : Int) : Bool := decide (k = 18) || decide (k = 19)
def endA (k : Int) : Bool := decide (k ≠ 1)
def endTo (k : Int) : Bool := decide (k = 1) || decide (k = 2)
def endElse (k : Int) : Bool := decide (k = 2)
section
variable {X : Cx} {st : St}
theorem j_r07_One (h : On X) (k : Int) : J X.P X.F X.H (.call 81 [.sc (.int .i64 k)] st (.ret (.sc (.bool (oneK k)))) st) := by
  refine pure_intro (by rw [h.F]; rfl) rfl ?_
  unfold oneK
  simp only [v_r07_One, kB, kC, cellsOf, fillA, partsEv, zeroes, Nat.reduceSub, Int.reduceToNat, Nat.reduceMul, asInt?, asNat?, Int.reduceAdd, Int.reduceLE, Int.reduceLT, Int.reduceNeg, Nat.reduceLeDiff, VOpd.ev, Nat.reduceEqDiff, Nat.reduceAdd, reduceIte, reduceCtorEq, splice, resOf, tupOf, cellsV, AV.toV, AV.cell?, cellVal]
  repeat' first | (refine gO_t ?_ ?_ <;> (intro hc; simp only [*, kB, kC, cellsOf, fillA, partsEv, zeroes, Nat.reduceSub, Int.reduceToNat, Nat.reduceMul, asInt?, asNat?, Int.reduceAdd, Int.reduceLE, Int.reduceLT, Int.reduceNeg, Nat.reduceLeDiff, VOpd.ev, Nat.reduceEqDiff, Nat.reduceAdd, reduceIte, reduceCtorEq, splice, resOf, tupOf, cellsV, AV.toV, AV.cell?, cellVal])) | (refine gO_f ?_ ?_ <;> (intro hc; simp only [*, kB, kC, cellsOf, fillA, partsEv, zeroes, Nat.reduceSub, Int.reduceToNat, Nat.reduceMul, asInt?, asNat?, Int.reduceAdd, Int.reduceLE, Int.reduceLT, Int.reduceNeg, Nat.reduceLeDiff, VOpd.ev, Nat.reduceEqDiff, Nat.reduceAdd, reduceIte, reduceCtorEq, splice, resOf, tupOf, cellsV, AV.toV, AV.cell?, cellVal])) | (refine condO_intro ?_ ?_ <;> (intro hc; simp only [*, kB, kC, cellsOf, fillA, partsEv, zeroes, Nat.reduceSub, Int.reduceToNat, Nat.reduceMul, asInt?, asNat?, Int.reduceAdd, Int.reduceLE, Int.reduceLT, Int.reduceNeg, Nat.reduceLeDiff, VOpd.ev, Nat.reduceEqDiff, Nat.reduceAdd, reduceIte, reduceCtorEq, splice, resOf, tupOf, cellsV, AV.toV, AV.cell?, cellVal]))
  all_goals first | exact ⟨_, rfl⟩ | exact ⟨rfl, _, rfl⟩ | exact ⟨trivial, _, rfl⟩ | exact ⟨[], (List.append_nil _).symm⟩
theorem j_r07_HasDst (h : On X) (k : Int) : J X.P X.F X.H (.call 82 [.sc (.int .i64 k)] st (.ret (.sc (.bool (hasDst k)))) st) := by
  refine pure_intro (by rw [h.F]; rfl) rfl ?_
  unfold hasDst
  simp only [v_r07_HasDst, kB, kC, cellsOf, fillA, partsEv, zeroes, Nat.reduceSub, Int.reduceToNat, Nat.reduceMul, asInt?, asNat?, Int.reduceAdd, Int.reduceLE, Int.reduceLT, Int.reduceNeg, Nat.reduceLeDiff, VOpd.ev, Nat.reduceEqDiff, Nat.reduceAdd, reduceIte, reduceCtorEq, splice, resOf, tupOf, cellsV, AV.toV, AV.cell?, cellVal]
  repeat' first | (refine gO_t ?_ ?_ <;> (intro hc; simp only [*, kB, kC, cellsOf, fillA, partsEv, zeroes, Nat.reduceSub, Int.reduceToNat, Nat.reduceMul, asInt?, asNat?, Int.reduceAdd, Int.reduceLE, Int.reduceLT, Int.reduceNeg, Nat.reduceLeDiff, VOpd.ev, Nat.reduceEqDiff, Nat.reduceAdd, reduceIte, reduceCtorEq, splice, resOf, tupOf, cellsV, AV.toV, AV.cell?, cellVal])) | (refine gO_f ?_ ?_ <;> (intro hc; simp only [*, kB, kC, cellsOf, fillA, partsEv, zeroes, Nat.reduceSub, Int.reduceToNat, Nat.reduceMul, asInt?, asNat?, Int.reduceAdd, Int.reduceLE, Int.reduceLT, Int.reduceNeg, Nat.reduceLeDiff, VOpd.ev, Nat.reduceEqDiff, Nat.reduceAdd, reduceIte, reduceCtorEq, splice, resOf, tupOf, cellsV, AV.toV, AV.cell?, cellVal])) | (refine condO_intro ?_ ?_ <;> (intro hc; simp only [*, kB, kC, cellsOf, fillA, partsEv, zeroes, Nat.reduceSub, Int.reduceToNat, Nat.reduceMul, asInt?, asNat?, Int.reduceAdd, Int.reduceLE, Int.reduceLT, Int.reduceNeg, Nat.reduceLeDiff, VOpd.ev, Nat.reduceEqDiff, Nat.reduceAdd, reduceIte, reduceCtorEq, splice, resOf, tupOf, cellsV, AV.toV, AV.cell?, cellVal]))
  all_goals first | exact ⟨_, rfl⟩ | exact ⟨rfl, _, rfl⟩ | exact ⟨trivial, _, rfl⟩ | exact ⟨[], (List.append_nil _).symm⟩
theorem j_r07_HasA (h : On X) (k : Int) : J X.P X.F X.H (.call 83 [.sc (.int .i64 k)] st (.ret (.sc (.bool (hasA k)))) st) := by
  refine pure_intro (by rw [h.F]; rfl) rfl ?_
  unfold hasA
  simp only [v_r07_HasA, kB, kC, cellsOf, fillA, partsEv, zeroes, Nat.reduceSub, Int.reduceToNat, Nat.reduceMul, asInt?, asNat?, Int.reduceAdd, Int.reduceLE, Int.reduceLT, Int.reduceNeg, Nat.reduceLeDiff, VOpd.ev, Nat.reduceEqDiff, Nat.reduceAdd, reduceIte, reduceCtorEq, splice, resOf, tupOf, cellsV, AV.toV, AV.cell?, cellVal]
  repeat' first | (refine gO_t ?_ ?_ <;> (intro hc; simp only [*, kB, kC, cellsOf, fillA, partsEv, zeroes, Nat.reduceSub, Int.reduceToNat, Nat.reduceMul, asInt?, asNat?, Int.reduceAdd, Int.reduceLE, Int.reduceLT, Int.reduceNeg, Nat.reduceLeDiff, VOpd.ev, Nat.reduceEqDiff, Nat.reduceAdd, reduceIte, reduceCtorEq, splice, resOf, tupOf, cellsV, AV.toV, AV.cell?, cellVal])) | (refine gO_f ?_ ?_ <;> (intro hc; simp only [*, kB, kC, cellsOf, fillA, partsEv, zeroes, Nat.reduceSub, Int.reduceToNat, Nat.reduceMul, asInt?, asNat?, Int.reduceAdd, Int.reduceLE, Int.reduceLT, Int.reduceNeg, Nat.reduceLeDiff, VOpd.ev, Nat.reduceEqDiff, Nat.reduceAdd, reduceIte, reduceCtorEq, splice, resOf, tupOf, cellsV, AV.toV, AV.cell?, cellVal])) | (refine condO_intro ?_ ?_ <;> (intro hc; simp only [*, kB, kC, cellsOf, fillA, partsEv, zeroes, Nat.reduceSub, Int.reduceToNat, Nat.reduceMul, asInt?, asNat?, Int.reduceAdd, Int.reduceLE, Int.reduceLT, Int.reduceNeg, Nat.reduceLeDiff, VOpd.ev, Nat.reduceEqDiff, Nat.reduceAdd, reduceIte, reduceCtorEq, splice, resOf, tupOf, cellsV, AV.toV, AV.cell?, cellVal]))
  all_goals first | exact ⟨_, rfl⟩ | exact ⟨rfl, _, rfl⟩ | exact ⟨trivial, _, rfl⟩ | exact ⟨[], (List.append_nil _).symm⟩
theorem j_r07_HasB (h : On X) (k : Int) : J X.P X.F X.H (.call 84 [.sc (.int .i64 k)] st (.ret (.sc (.bool (hasB k)))) st) := by
  refine pure_intro (by rw [h.F]; rfl) rfl ?_
  unfold hasB
  simp only [v_r07_HasB, kB, kC, cellsOf, fillA, partsEv, zeroes, Nat.reduceSub, Int.reduceToNat, Nat.reduceMul, asInt?, asNat?, Int.reduceAdd, Int.reduceLE, Int.reduceLT, Int.reduceNeg, Nat.reduceLeDiff, VOpd.ev, Nat.reduceEqDiff, Nat.reduceAdd, reduceIte, reduceCtorEq, splice, resOf, tupOf, cellsV, AV.toV, AV.cell?, cellVal]
  repeat' first | (refine gO_t ?_ ?_ <;> (intro hc; simp only [*, kB, kC, cellsOf, fillA, partsEv, zeroes, Nat.reduceSub, Int.reduceToNat, Nat.reduceMul, asInt?, asNat?, Int.reduceAdd, Int.reduceLE, Int.reduceLT, Int.reduceNeg, Nat.reduceLeDiff, VOpd.ev, Nat.reduceEqDiff, Nat.reduceAdd, reduceIte, reduceCtorEq, splice, resOf, tupOf, cellsV, AV.toV, AV.cell?, cellVal])) | (refine gO_f ?_ ?_ <;> (intro hc; simp only [*, kB, kC, cellsOf, fillA, partsEv, zeroes, Nat.reduceSub, Int.reduceToNat, Nat.reduceMul, asInt?, asNat?, Int.reduceAdd, Int.reduceLE, Int.reduceLT, Int.reduceNeg, Nat.reduceLeDiff, VOpd.ev, Nat.reduceEqDiff, Nat.reduceAdd, reduceIte, reduceCtorEq, splice, resOf, tupOf, cellsV, AV.toV, AV.cell?, cellVal])) | (refine condO_intro ?_ ?_ <;> (intro hc; simp only [*, kB, kC, cellsOf, fillA, partsEv, zeroes, Nat.reduceSub, Int.reduceToNat, Nat.reduceMul, asInt?, asNat?, Int.reduceAdd, Int.reduceLE, Int.reduceLT, Int.reduceNeg, Nat.reduceLeDiff, VOpd.ev, Nat.reduceEqDiff, Nat.reduceAdd, reduceIte, reduceCtorEq, splice, resOf, tupOf, cellsV, AV.toV, AV.cell?, cellVal]))
  all_goals first | exact ⟨_, rfl⟩ | exact ⟨rfl, _, rfl⟩ | exact ⟨trivial, _, rfl⟩ | exact ⟨[], (List.append_nil _).symm⟩
theorem j_r07_HasC (h : On X) (k : Int) : J X.P X.F X.H (.call 85 [.sc (.int .i64 k)] st (.ret (.sc (.bool (hasC k)))) st) := by
  refine pure_intro (by rw [h.F]; rfl) rfl ?_
  unfold hasC
  simp only [v_r07_HasC, kB, kC, cellsOf, fillA, partsEv, zeroes, Nat.reduceSub, Int.reduceToNat, Nat.reduceMul, asInt?, asNat?, Int.reduceAdd, Int.reduceLE, Int.reduceLT, Int.reduceNeg, Nat.reduceLeDiff, VOpd.ev, Nat.reduceEqDiff, Nat.reduceAdd, reduceIte, reduceCtorEq, splice, resOf, tupOf, cellsV, AV.toV, AV.cell?, cellVal]
  repeat' first | (refine gO_t ?_ ?_ <;> (intro hc; simp only [*, kB, kC, cellsOf, fillA, partsEv, zeroes, Nat.reduceSub, Int.reduceToNat, Nat.reduceMul, asInt?, asNat?, Int.reduceAdd, Int.reduceLE, Int.reduceLT, Int.reduceNeg, Nat.reduceLeDiff, VOpd.ev, Nat.reduceEqDiff, Nat.reduceAdd, reduceIte, reduceCtorEq, splice, resOf, tupOf, cellsV, AV.toV, AV.cell?, cellVal])) | (refine gO_f ?_ ?_ <;> (intro hc; simp only [*, kB, kC, cellsOf, fillA, partsEv, zeroes, Nat.reduceSub, Int.reduceToNat, Nat.reduceMul, asInt?, asNat?, Int.reduceAdd, Int.reduceLE, Int.reduceLT, Int.reduceNeg, Nat.reduceLeDiff, VOpd.ev, Nat.reduceEqDiff, Nat.reduceAdd, reduceIte, reduceCtorEq, splice, resOf, tupOf, cellsV, AV.toV, AV.cell?, cellVal])) | (refine condO_intro ?_ ?_ <;> (intro hc; simp only [*, kB, kC, cellsOf, fillA, partsEv, zeroes, Nat.reduceSub, Int.reduceToNat, Nat.reduceMul, asInt?, asNat?, Int.reduceAdd, Int.reduceLE, Int.reduceLT, Int.reduceNeg, Nat.reduceLeDiff, VOpd.ev, Nat.reduceEqDiff, Nat.reduceAdd, reduceIte, reduceCtorEq, splice, resOf, tupOf, cellsV, AV.toV, AV.cell?, cellVal]))
  all_goals first | exact ⟨_, rfl⟩ | exact ⟨rfl, _, rfl⟩ | exact ⟨trivial, _, rfl⟩ | exact ⟨[], (List.append_nil _).symm⟩
theorem j_r07_Array (h : On X) (k : Int) : J X.P X.F X.H (.call 86 [.sc (.int .i64 k)] st (.ret (.sc (.bool (arrK k)))) st) := by
  refine pure_intro (by rw [h.F]; rfl) rfl ?_
  unfold arrK
  simp only [v_r07_Array, kB, kC, cellsOf, fillA, partsEv, zeroes, Nat.reduceSub, Int.reduceToNat, Nat.reduceMul, asInt?, asNat?, Int.reduceAdd, Int.reduceLE, Int.reduceLT, Int.reduceNeg, Nat.reduceLeDiff, VOpd.ev, Nat.reduceEqDiff, Nat.reduceAdd, reduceIte, reduceCtorEq, splice, resOf, tupOf, cellsV, AV.toV, AV.cell?, cellVal]
  repeat' first | (refine gO_t ?_ ?_ <;> (intro hc; simp only [*, kB, kC, cellsOf, fillA, partsEv, zeroes, Nat.reduceSub, Int.reduceToNat, Nat.reduceMul, asInt?, asNat?, Int.reduceAdd, Int.reduceLE, Int.reduceLT, Int.reduceNeg, Nat.reduceLeDiff, VOpd.ev, Nat.reduceEqDiff, Nat.reduceAdd, reduceIte, reduceCtorEq, splice, resOf, tupOf, cellsV, AV.toV, AV.cell?, cellVal])) | (refine gO_f ?_ ?_ <;> (intro hc; simp only [*, kB, kC, cellsOf, fillA, partsEv, zeroes, Nat.reduceSub, Int.reduceToNat, Nat.reduceMul, asInt?, asNat?, Int.reduceAdd, Int.reduceLE, Int.reduceLT, Int.reduceNeg, Nat.reduceLeDiff, VOpd.ev, Nat.reduceEqDiff, Nat.reduceAdd, reduceIte, reduceCtorEq, splice, resOf, tupOf, cellsV, AV.toV, AV.cell?, cellVal])) | (refine condO_intro ?_ ?_ <;> (intro hc; simp only [*, kB, kC, cellsOf, fillA, partsEv, zeroes, Nat.reduceSub, Int.reduceToNat, Nat.reduceMul, asInt?, asNat?, Int.reduceAdd, Int.reduceLE, Int.reduceLT, Int.reduceNeg, Nat.reduceLeDiff, VOpd.ev, Nat.reduceEqDiff, Nat.reduceAdd, reduceIte, reduceCtorEq, splice, resOf, tupOf, cellsV, AV.toV, AV.cell?, cellVal]))
  all_goals first | exact ⟨_, rfl⟩ | exact ⟨rfl, _, rfl⟩ | exact ⟨trivial, _, rfl⟩ | exact ⟨[], (List.append_nil _).symm⟩
theorem j_r07_Cell (h : On X) (k : Int) : J X.P X.F X.H (.call 87 [.sc (.int .i64 k)] st (.ret (.sc (.bool (cellK k)))) st) := by
  refine pure_intro (by rw [h.F]; rfl) rfl ?_
  unfold cellK
  simp only [v_r07_Cell, kB, kC, cellsOf, fillA, partsEv, zeroes, Nat.reduceSub, Int.reduceToNat, Nat.reduceMul, asInt?, asNat?, Int.reduceAdd, Int.reduceLE, Int.reduceLT, Int.reduceNeg, Nat.reduceLeDiff, VOpd.ev, Nat.reduceEqDiff, Nat.reduceAdd, reduceIte, reduceCtorEq, splice, resOf, tupOf, cellsV, AV.toV, AV.cell?, cellVal]
  repeat' first | (refine gO_t ?_ ?_ <;> (intro hc; simp only [*, kB, kC, cellsOf, fillA, partsEv, zeroes, Nat.reduceSub, Int.reduceToNat, Nat.reduceMul, asInt?, asNat?, Int.reduceAdd, Int.reduceLE, Int.reduceLT, Int.reduceNeg, Nat.reduceLeDiff, VOpd.ev, Nat.reduceEqDiff, Nat.reduceAdd, reduceIte, reduceCtorEq, splice, resOf, tupOf, cellsV, AV.toV, AV.cell?, cellVal])) | (refine gO_f ?_ ?_ <;> (intro hc; simp only [*, kB, kC, cellsOf, fillA, partsEv, zeroes, Nat.reduceSub, Int.reduceToNat, Nat.reduceMul, asInt?, asNat?, Int.reduceAdd, Int.reduceLE, Int.reduceLT, Int.reduceNeg, Nat.reduceLeDiff, VOpd.ev, Nat.reduceEqDiff, Nat.reduceAdd, reduceIte, reduceCtorEq, splice, resOf, tupOf, cellsV, AV.toV, AV.cell?, cellVal])) | (refine condO_intro ?_ ?_ <;> (intro hc; simp only [*, kB, kC, cellsOf, fillA, partsEv, zeroes, Nat.reduceSub, Int.reduceToNat, Nat.reduceMul, asInt?, asNat?, Int.reduceAdd, Int.reduceLE, Int.reduceLT, Int.reduceNeg, Nat.reduceLeDiff, VOpd.ev, Nat.reduceEqDiff, Nat.reduceAdd, reduceIte, reduceCtorEq, splice, resOf, tupOf, cellsV, AV.toV, AV.cell?, cellVal]))
  all_goals first | exact ⟨_, rfl⟩ | exact ⟨rfl, _, rfl⟩ | exact ⟨trivial, _, rfl⟩ | exact ⟨[], (List.append_nil _).symm⟩
theorem j_r07_EndA (h : On X) (k : Int) : J X.P X.F X.H (.call 89 [.sc (.int .i64 k)] st (.ret (.sc (.bool (endA k)))) st) := by
  refine pure_intro (by rw [h.F]; rfl) rfl ?_
  unfold endA
  simp only [v_r07_EndA, kB, kC, cellsOf, fillA, partsEv, zeroes, Nat.reduceSub, Int.reduceToNat, Nat.reduceMul, asInt?, asNat?, Int.reduceAdd, Int.reduceLE, Int.reduceLT, Int.reduceNeg, Nat.reduceLeDiff, VOpd.ev, Nat.reduceEqDiff, Nat.reduceAdd, reduceIte, reduceCtorEq, splice, resOf, tupOf, cellsV, AV.toV, AV.cell?, cellVal]
  repeat' first | (refine gO_t ?_ ?_ <;> (intro hc; simp only [*, kB, kC, cellsOf, fillA, partsEv, zeroes, Nat.reduceSub, Int.reduceToNat, Nat.reduceMul, asInt?, asNat?, Int.reduceAdd, Int.reduceLE, Int.reduceLT, Int.reduceNeg, Nat.reduceLeDiff, VOpd.ev, Nat.reduceEqDiff, Nat.reduceAdd, reduceIte, reduceCtorEq, splice, resOf, tupOf, cellsV, AV.toV, AV.cell?, cellVal])) | (refine gO_f ?_ ?_ <;> (intro hc; simp only [*, kB, kC, cellsOf, fillA, partsEv, zeroes, Nat.reduceSub, Int.reduceToNat, Nat.reduceMul, asInt?, asNat?, Int.reduceAdd, Int.reduceLE, Int.reduceLT, Int.reduceNeg, Nat.reduceLeDiff, VOpd.ev, Nat.reduceEqDiff, Nat.reduceAdd, reduceIte, reduceCtorEq, splice, resOf, tupOf, cellsV, AV.toV, AV.cell?, cellVal])) | (refine condO_intro ?_ ?_ <;> (intro hc; simp only [*, kB, kC, cellsOf, fillA, partsEv, zeroes, Nat.reduceSub, Int.reduceToNat, Nat.reduceMul, asInt?, asNat?, Int.reduceAdd, Int.reduceLE, Int.reduceLT, Int.reduceNeg, Nat.reduceLeDiff, VOpd.ev, Nat.reduceEqDiff, Nat.reduceAdd, reduceIte, reduceCtorEq, splice, resOf, tupOf, cellsV, AV.toV, AV.cell?, cellVal]))
  all_goals first | exact ⟨_, rfl⟩ | exact ⟨rfl, _, rfl⟩ | exact ⟨trivial, _, rfl⟩ | exact ⟨[], (List.append_nil _).symm⟩
theorem j_r07_EndTo (h : On X) (k : Int) : J X.P X.F X.H (.call 90 [.sc (.int .i64 k)] st (.ret (.sc (.bool (endTo k)))) st) := by
  refine pure_intro (by rw [h.F]; rfl) rfl ?_
  unfold endTo
  simp only [v_r07_EndTo, kB, kC, cellsOf, fillA, partsEv, zeroes, Nat.reduceSub, Int.reduceToNat, Nat.reduceMul, asInt?, asNat?, Int.reduceAdd, Int.reduceLE, Int.reduceLT, Int.reduceNeg, Nat.reduceLeDiff, VOpd.ev, Nat.reduceEqDiff, Nat.reduceAdd, reduceIte, reduceCtorEq, splice, resOf, tupOf, cellsV, AV.toV, AV.cell?, cellVal]
  repeat' first | (refine gO_t ?_ ?_ <;> (intro hc; simp only [*, kB, kC, cellsOf, fillA, partsEv, zeroes, Nat.reduceSub, Int.reduceToNat, Nat.reduceMul, asInt?, asNat?, Int.reduceAdd, Int.reduceLE, Int.reduceLT, Int.reduceNeg, Nat.reduceLeDiff, VOpd.ev, Nat.reduceEqDiff, Nat.reduceAdd, reduceIte, reduceCtorEq, splice, resOf, tupOf, cellsV, AV.toV, AV.cell?, cellVal])) | (refine gO_f ?_ ?_ <;> (intro hc; simp only [*, kB, kC, cellsOf, fillA, partsEv, zeroes, Nat.reduceSub, Int.reduceToNat, Nat.reduceMul, asInt?, asNat?, Int.reduceAdd, Int.reduceLE, Int.reduceLT, Int.reduceNeg, Nat.reduceLeDiff, VOpd.ev, Nat.reduceEqDiff, Nat.reduceAdd, reduceIte, reduceCtorEq, splice, resOf, tupOf, cellsV, AV.toV, AV.cell?, cellVal])) | (refine condO_intro ?_ ?_ <;> (intro hc; simp only [*, kB, kC, cellsOf, fillA, partsEv, zeroes, Nat.reduceSub, Int.reduceToNat, Nat.reduceMul, asInt?, asNat?, Int.reduceAdd, Int.reduceLE, Int.reduceLT, Int.reduceNeg, Nat.reduceLeDiff, VOpd.ev, Nat.reduceEqDiff, Nat.reduceAdd, reduceIte, reduceCtorEq, splice, resOf, tupOf, cellsV, AV.toV, AV.cell?, cellVal]))
  all_goals first | exact ⟨_, rfl⟩ | exact ⟨rfl, _, rfl⟩ | exact ⟨trivial, _, rfl⟩ | exact ⟨[], (List.append_nil _).symm⟩
theorem j_r07_EndElse (h : On X) (k : Int) : J X.P X.F X.H (.call 92 [.sc (.int .i64 k)] st (.ret (.sc (.bool (endElse k)))) st) := by
  refine pure_intro (by rw [h.F]; rfl) rfl ?_
  unfold endElse
  simp only [v_r07_EndElse, kB, kC, cellsOf, fillA, partsEv, zeroes, Nat.reduceSub, Int.reduceToNat, Nat.reduceMul, asInt?, asNat?, Int.reduceAdd, Int.reduceLE, Int.reduceLT, Int.reduceNeg, Nat.reduceLeDiff, VOpd.ev, Nat.reduceEqDiff, Nat.reduceAdd, reduceIte, reduceCtorEq, splice, resOf, tupOf, cellsV, AV.toV, AV.cell?, cellVal]
  repeat' first | (refine gO_t ?_ ?_ <;> (intro hc; simp only [*, kB, kC, cellsOf, fillA, partsEv, zeroes, Nat.reduceSub, Int.reduceToNat, Nat.reduceMul, asInt?, asNat?, Int.reduceAdd, Int.reduceLE, Int.reduceLT, Int.reduceNeg, Nat.reduceLeDiff, VOpd.ev, Nat.reduceEqDiff, Nat.reduceAdd, reduceIte, reduceCtorEq, splice, resOf, tupOf, cellsV, AV.toV, AV.cell?, cellVal])) | (refine gO_f ?_ ?_ <;> (intro hc; simp only [*, kB, kC, cellsOf, fillA, partsEv, zeroes, Nat.reduceSub, Int.reduceToNat, Nat.reduceMul, asInt?, asNat?, Int.reduceAdd, Int.reduceLE, Int.reduceLT, Int.reduceNeg, Nat.reduceLeDiff, VOpd.ev, Nat.reduceEqDiff, Nat.reduceAdd, reduceIte, reduceCtorEq, splice, resOf, tupOf, cellsV, AV.toV, AV.cell?, cellVal])) | (refine condO_intro ?_ ?_ <;> (intro hc; simp only [*, kB, kC, cellsOf, fillA, partsEv, zeroes, Nat.reduceSub, Int.reduceToNat, Nat.reduceMul, asInt?, asNat?, Int.reduceAdd, Int.reduceLE, Int.reduceLT, Int.reduceNeg, Nat.reduceLeDiff, VOpd.ev, Nat.reduceEqDiff, Nat.reduceAdd, reduceIte, reduceCtorEq, splice, resOf, tupOf, cellsV, AV.toV, AV.cell?, cellVal]))
  all_goals first | exact ⟨_, rfl⟩ | exact ⟨rfl, _, rfl⟩ | exact ⟨trivial, _, rfl⟩ | exact ⟨[], (List.append_nil _).symm⟩
end
end Go.VX.Seat
end
section
set_option linter.unusedVariables false
set_option linter.unusedSimpArgs false
namespace Go.VX.Seat
def regOkA (regs r : Int) : Bool := decide (0 ≤ r) && decide (r < regs)
section
variable {X : Cx} {st : St}
theorem j_r07_HasN (h : On X) (k : Int) : J X.P X.F X.H (.call 88 [.sc (.int .i64 k)] st (.ret (.sc (.bool (decide (k = 1) || arrK k || cellK k || decide (k = 21))))) st) := by
  refine pure_intro (by rw [h.F]; rfl) rfl ?_
  simp only [v_r07_HasN, kB, kC, cellsOf, fillA, partsEv, zeroes, Nat.reduceSub, Int.reduceToNat, Nat.reduceMul, asInt?, asNat?, Int.reduceAdd, Int.reduceLE, Int.reduceLT, Int.reduceNeg, Nat.reduceLeDiff, VOpd.ev, Nat.reduceEqDiff, Nat.reduceAdd, reduceIte, reduceCtorEq, splice, resOf, tupOf, cellsV, AV.toV, AV.cell?, cellVal]
  repeat' first
    | refine callO_same (j_r07_Array h _) ?_; simp only [kB, kC, cellsOf, fillA, partsEv, zeroes, Nat.reduceSub, Int.reduceToNat, Nat.reduceMul, asInt?, asNat?, Int.reduceAdd, Int.reduceLE, Int.reduceLT, Int.reduceNeg, Nat.reduceLeDiff, VOpd.ev, Nat.reduceEqDiff, Nat.reduceAdd, reduceIte, reduceCtorEq, splice, resOf, tupOf, cellsV, AV.toV, AV.cell?, cellVal]
    | refine callO_same (j_r07_Cell h _) ?_; simp only [kB, kC, cellsOf, fillA, partsEv, zeroes, Nat.reduceSub, Int.reduceToNat, Nat.reduceMul, asInt?, asNat?, Int.reduceAdd, Int.reduceLE, Int.reduceLT, Int.reduceNeg, Nat.reduceLeDiff, VOpd.ev, Nat.reduceEqDiff, Nat.reduceAdd, reduceIte, reduceCtorEq, splice, resOf, tupOf, cellsV, AV.toV, AV.cell?, cellVal]
    | first | (refine gO_t ?_ ?_ <;> (intro hc; simp only [*, kB, kC, cellsOf, fillA, partsEv, zeroes, Nat.reduceSub, Int.reduceToNat, Nat.reduceMul, asInt?, asNat?, Int.reduceAdd, Int.reduceLE, Int.reduceLT, Int.reduceNeg, Nat.reduceLeDiff, VOpd.ev, Nat.reduceEqDiff, Nat.reduceAdd, reduceIte, reduceCtorEq, splice, resOf, tupOf, cellsV, AV.toV, AV.cell?, cellVal])) | (refine gO_f ?_ ?_ <;> (intro hc; simp only [*, kB, kC, cellsOf, fillA, partsEv, zeroes, Nat.reduceSub, Int.reduceToNat, Nat.reduceMul, asInt?, asNat?, Int.reduceAdd, Int.reduceLE, Int.reduceLT, Int.reduceNeg, Nat.reduceLeDiff, VOpd.ev, Nat.reduceEqDiff, Nat.reduceAdd, reduceIte, reduceCtorEq, splice, resOf, tupOf, cellsV, AV.toV, AV.cell?, cellVal])) | (refine condO_intro ?_ ?_ <;> (intro hc; simp only [*, kB, kC, cellsOf, fillA, partsEv, zeroes, Nat.reduceSub, Int.reduceToNat, Nat.reduceMul, asInt?, asNat?, Int.reduceAdd, Int.reduceLE, Int.reduceLT, Int.reduceNeg, Nat.reduceLeDiff, VOpd.ev, Nat.reduceEqDiff, Nat.reduceAdd, reduceIte, reduceCtorEq, splice, resOf, tupOf, cellsV, AV.toV, AV.cell?, cellVal]))
  all_goals first | exact ⟨_, rfl⟩ | exact ⟨rfl, _, rfl⟩ | exact ⟨trivial, _, rfl⟩ | exact ⟨[], (List.append_nil _).symm⟩
theorem j_r07_register (h : On X) (s p c sp bl : AV) (regs r : Int) : J X.P X.F X.H (.call 71 [.agg [s, p, .sc (.int .i64 regs), c, sp, bl], .sc (.int .i64 r)] st (.ret (.sc (.bool (regOkA regs r)))) st) := by
  refine pure_intro (by rw [h.F]; rfl) rfl ?_
  unfold regOkA
  simp only [v_r07_register, kB, kC, cellsOf, fillA, partsEv, zeroes, Nat.reduceSub, Int.reduceToNat, Nat.reduceMul, asInt?, asNat?, Int.reduceAdd, Int.reduceLE, Int.reduceLT, Int.reduceNeg, Nat.reduceLeDiff, VOpd.ev, Nat.reduceEqDiff, Nat.reduceAdd, reduceIte, reduceCtorEq, splice, resOf, tupOf, cellsV, AV.toV, AV.cell?, cellVal]
  repeat' first
    | first | (refine gO_t ?_ ?_ <;> (intro hc; simp only [*, kB, kC, cellsOf, fillA, partsEv, zeroes, Nat.reduceSub, Int.reduceToNat, Nat.reduceMul, asInt?, asNat?, Int.reduceAdd, Int.reduceLE, Int.reduceLT, Int.reduceNeg, Nat.reduceLeDiff, VOpd.ev, Nat.reduceEqDiff, Nat.reduceAdd, reduceIte, reduceCtorEq, splice, resOf, tupOf, cellsV, AV.toV, AV.cell?, cellVal])) | (refine gO_f ?_ ?_ <;> (intro hc; simp only [*, kB, kC, cellsOf, fillA, partsEv, zeroes, Nat.reduceSub, Int.reduceToNat, Nat.reduceMul, asInt?, asNat?, Int.reduceAdd, Int.reduceLE, Int.reduceLT, Int.reduceNeg, Nat.reduceLeDiff, VOpd.ev, Nat.reduceEqDiff, Nat.reduceAdd, reduceIte, reduceCtorEq, splice, resOf, tupOf, cellsV, AV.toV, AV.cell?, cellVal])) | (refine condO_intro ?_ ?_ <;> (intro hc; simp only [*, kB, kC, cellsOf, fillA, partsEv, zeroes, Nat.reduceSub, Int.reduceToNat, Nat.reduceMul, asInt?, asNat?, Int.reduceAdd, Int.reduceLE, Int.reduceLT, Int.reduceNeg, Nat.reduceLeDiff, VOpd.ev, Nat.reduceEqDiff, Nat.reduceAdd, reduceIte, reduceCtorEq, splice, resOf, tupOf, cellsV, AV.toV, AV.cell?, cellVal]))
  all_goals first | exact ⟨_, rfl⟩ | exact ⟨rfl, _, rfl⟩ | exact ⟨trivial, _, rfl⟩ | exact ⟨[], (List.append_nil _).symm⟩
theorem j_r07_there (h : On X) (s p g c sp bl : AV) (nb : Nat) (r : Int) (hb : lenA bl = some nb) : J X.P X.F X.H (.call 91 [.agg [s, p, g, c, sp, bl], .sc (.int .i64 r)] st (.ret (.sc (.bool (regOkA nb r)))) st) := by
  refine pure_intro (by rw [h.F]; rfl) rfl ?_
  unfold regOkA
  simp only [v_r07_there, hb, kB, kC, cellsOf, fillA, partsEv, zeroes, Nat.reduceSub, Int.reduceToNat, Nat.reduceMul, asInt?, asNat?, Int.reduceAdd, Int.reduceLE, Int.reduceLT, Int.reduceNeg, Nat.reduceLeDiff, VOpd.ev, Nat.reduceEqDiff, Nat.reduceAdd, reduceIte, reduceCtorEq, splice, resOf, tupOf, cellsV, AV.toV, AV.cell?, cellVal]
  repeat' first
    | first | (refine gO_t ?_ ?_ <;> (intro hc; simp only [*, kB, kC, cellsOf, fillA, partsEv, zeroes, Nat.reduceSub, Int.reduceToNat, Nat.reduceMul, asInt?, asNat?, Int.reduceAdd, Int.reduceLE, Int.reduceLT, Int.reduceNeg, Nat.reduceLeDiff, VOpd.ev, Nat.reduceEqDiff, Nat.reduceAdd, reduceIte, reduceCtorEq, splice, resOf, tupOf, cellsV, AV.toV, AV.cell?, cellVal])) | (refine gO_f ?_ ?_ <;> (intro hc; simp only [*, kB, kC, cellsOf, fillA, partsEv, zeroes, Nat.reduceSub, Int.reduceToNat, Nat.reduceMul, asInt?, asNat?, Int.reduceAdd, Int.reduceLE, Int.reduceLT, Int.reduceNeg, Nat.reduceLeDiff, VOpd.ev, Nat.reduceEqDiff, Nat.reduceAdd, reduceIte, reduceCtorEq, splice, resOf, tupOf, cellsV, AV.toV, AV.cell?, cellVal])) | (refine condO_intro ?_ ?_ <;> (intro hc; simp only [*, kB, kC, cellsOf, fillA, partsEv, zeroes, Nat.reduceSub, Int.reduceToNat, Nat.reduceMul, asInt?, asNat?, Int.reduceAdd, Int.reduceLE, Int.reduceLT, Int.reduceNeg, Nat.reduceLeDiff, VOpd.ev, Nat.reduceEqDiff, Nat.reduceAdd, reduceIte, reduceCtorEq, splice, resOf, tupOf, cellsV, AV.toV, AV.cell?, cellVal]))
    | simp only [hb, Option.map_some, kB, kC, cellsOf, fillA, partsEv, zeroes, Nat.reduceSub, Int.reduceToNat, Nat.reduceMul, asInt?, asNat?, Int.reduceAdd, Int.reduceLE, Int.reduceLT, Int.reduceNeg, Nat.reduceLeDiff, VOpd.ev, Nat.reduceEqDiff, Nat.reduceAdd, reduceIte, reduceCtorEq, splice, resOf, tupOf, cellsV, AV.toV, AV.cell?, cellVal]
  all_goals first | exact ⟨_, rfl⟩ | exact ⟨rfl, _, rfl⟩ | exact ⟨trivial, _, rfl⟩ | exact ⟨[], (List.append_nil _).symm⟩

def hasN (k : Int) : Bool := decide (k = 1) || arrK k || cellK k || decide (k = 21)
def manyOf (ns nb : Nat) (spill k : Int) : Int := if arrK k then ns else if cellK k then spill else if decide (k = 21) then nb else -1
/-- The error of an operation. -/
def opErr (ns nb : Nat) (regs spill k d a b c n g : Int) : Int :=
  if oneK k = false then 4 else
  if (hasDst k && !regOkA regs d) || (hasA k && !regOkA regs a) || (hasB k && !regOkA regs b) || (hasC k && !regOkA regs c) then 2 else
  if decide (g ≠ -1) && !regOkA regs g then 2 else
  if decide (0 ≤ manyOf ns nb spill k) && (decide (n < 0) || decide (manyOf ns nb spill k ≤ n)) then 5 else
  if (!hasDst k && decide (d ≠ 0)) || (!hasA k && decide (a ≠ 0)) || (!hasB k && decide (b ≠ 0)) || (!hasC k && decide (c ≠ 0)) then 4 else
  if !hasN k && decide (n ≠ 0) then 4 else 0
end
end Go.VX.Seat
end
section
set_option linter.unusedVariables false
set_option linter.unusedSimpArgs false
set_option maxRecDepth 4000
namespace Go.VX.Seat
open Go.Proofs
theorem eq_int (d : Nat) (a b : Int) : closed Tryd.prog (Op.equalIn (d + 1) 3 (.int .i64 a) (.int .i64 b)) = some (a == b) := by kernel_rfl
theorem eq_int2 (d : Nat) (a b : Int) : closed Tryd.prog (Op.equalIn (d + 1) 2 (.int .i64 a) (.int .i64 b)) = some (a == b) := by kernel_rfl
def opEq (k d a b c n g k' d' a' b' c' n' g' : Int) : Bool := if k == k' then if d == d' then if a == a' then if b == b' then if c == c' then if n == n' then if g == g' then true else false else false else false else false else false else false else false
def endEq (k a t e k' a' t' e' : Int) : Bool := if k == k' then if a == a' then if t == t' then if e == e' then true else false else false else false else false
theorem opEq_iff (k d a b c n g k' d' a' b' c' n' g' : Int) : opEq k d a b c n g k' d' a' b' c' n' g' = true ↔ (k = k' ∧ d = d' ∧ a = a' ∧ b = b' ∧ c = c' ∧ n = n' ∧ g = g') := by
  unfold opEq
  repeat' split
  all_goals simp_all
theorem endEq_iff (k a t e k' a' t' e' : Int) : endEq k a t e k' a' t' e' = true ↔ (k = k' ∧ a = a' ∧ t = t' ∧ e = e') := by
  unfold endEq
  repeat' split
  all_goals simp_all
noncomputable def fl_op : List Field := (Tryd.prog.fieldsOf 51).toList
theorem fl_op_eq : fl_op = [fl_op.getD 0 default, fl_op.getD 1 default, fl_op.getD 2 default, fl_op.getD 3 default, fl_op.getD 4 default, fl_op.getD 5 default, fl_op.getD 6 default] := by kernel_rfl
theorem op_fields (k d a b c n g k' d' a' b' c' n' g' : Int) : closed Tryd.prog (Op.eqFields 9999 #[.int .i64 k, .int .i64 d, .int .i64 a, .int .i64 b, .int .i64 c, .int .i64 n, .int .i64 g] #[.int .i64 k', .int .i64 d', .int .i64 a', .int .i64 b', .int .i64 c', .int .i64 n', .int .i64 g'] fl_op) = some (opEq k d a b c n g k' d' a' b' c' n' g') := by
  rw [fl_op_eq]
  rw [closed_fields (a := .int .i64 k) (b := .int .i64 k') (r := k == k') (by kernel_rfl) (by kernel_rfl) (by kernel_rfl) (by kernel_rfl)]
  rw [closed_fields (a := .int .i64 d) (b := .int .i64 d') (r := d == d') (by kernel_rfl) (by kernel_rfl) (by kernel_rfl) (by kernel_rfl)]
  rw [closed_fields (a := .int .i64 a) (b := .int .i64 a') (r := a == a') (by kernel_rfl) (by kernel_rfl) (by kernel_rfl) (by kernel_rfl)]
  rw [closed_fields (a := .int .i64 b) (b := .int .i64 b') (r := b == b') (by kernel_rfl) (by kernel_rfl) (by kernel_rfl) (by kernel_rfl)]
  rw [closed_fields (a := .int .i64 c) (b := .int .i64 c') (r := c == c') (by kernel_rfl) (by kernel_rfl) (by kernel_rfl) (by kernel_rfl)]
  rw [closed_fields (a := .int .i64 n) (b := .int .i64 n') (r := n == n') (by kernel_rfl) (by kernel_rfl) (by kernel_rfl) (by kernel_rfl)]
  rw [closed_fields (a := .int .i64 g) (b := .int .i64 g') (r := g == g') (by kernel_rfl) (by kernel_rfl) (by kernel_rfl) (by kernel_rfl)]
  rw [closed_fields_nil]
  unfold opEq
  repeat' split
  all_goals rfl
theorem op_equal (k d a b c n g k' d' a' b' c' n' g' : Int) : closed Tryd.prog (Op.equal 51 (.agg #[.int .i64 k, .int .i64 d, .int .i64 a, .int .i64 b, .int .i64 c, .int .i64 n, .int .i64 g]) (.agg #[.int .i64 k', .int .i64 d', .int .i64 a', .int .i64 b', .int .i64 c', .int .i64 n', .int .i64 g'])) = some (opEq k d a b c n g k' d' a' b' c' n' g') := by
  unfold Op.equal Op.maxDepth
  rw [closed_struct (P := Tryd.prog) 9999 51 _ _ (fs := Tryd.prog.fieldsOf 51) (by kernel_rfl) (by kernel_rfl)]
  exact op_fields k d a b c n g k' d' a' b' c' n' g'
theorem c_neq_op (ox oy : Operand) (k d a b c n g k' d' a' b' c' n' g' : Int) :
    closed Tryd.prog (do eqGuard .neq 51 ox oy (.agg #[.int .i64 k, .int .i64 d, .int .i64 a, .int .i64 b, .int .i64 c, .int .i64 n, .int .i64 g]) (.agg #[.int .i64 k', .int .i64 d', .int .i64 a', .int .i64 b', .int .i64 c', .int .i64 n', .int .i64 g']); binOp .neq 51 (.agg #[.int .i64 k, .int .i64 d, .int .i64 a, .int .i64 b, .int .i64 c, .int .i64 n, .int .i64 g]) (.agg #[.int .i64 k', .int .i64 d', .int .i64 a', .int .i64 b', .int .i64 c', .int .i64 n', .int .i64 g'])) = some (.bool (!opEq k d a b c n g k' d' a' b' c' n' g')) := by
  rw [closed_bind]
  have h1 : closed Tryd.prog (eqGuard .neq 51 ox oy (.agg #[.int .i64 k, .int .i64 d, .int .i64 a, .int .i64 b, .int .i64 c, .int .i64 n, .int .i64 g]) (.agg #[.int .i64 k', .int .i64 d', .int .i64 a', .int .i64 b', .int .i64 c', .int .i64 n', .int .i64 g'])) = some () := by kernel_rfl
  rw [h1]
  simp only [Option.bind_some]
  have h2 : binOp .neq 51 (.agg #[.int .i64 k, .int .i64 d, .int .i64 a, .int .i64 b, .int .i64 c, .int .i64 n, .int .i64 g]) (.agg #[.int .i64 k', .int .i64 d', .int .i64 a', .int .i64 b', .int .i64 c', .int .i64 n', .int .i64 g']) = (do pure (Value.bool (!(← Op.equal 51 (.agg #[.int .i64 k, .int .i64 d, .int .i64 a, .int .i64 b, .int .i64 c, .int .i64 n, .int .i64 g]) (.agg #[.int .i64 k', .int .i64 d', .int .i64 a', .int .i64 b', .int .i64 c', .int .i64 n', .int .i64 g']))))) := rfl
  rw [h2, closed_bind, op_equal]
  rfl
noncomputable def fl_end : List Field := (Tryd.prog.fieldsOf 47).toList
theorem fl_end_eq : fl_end = [fl_end.getD 0 default, fl_end.getD 1 default, fl_end.getD 2 default, fl_end.getD 3 default] := by kernel_rfl
theorem end_fields (k a t e k' a' t' e' : Int) : closed Tryd.prog (Op.eqFields 9999 #[.int .i64 k, .int .i64 a, .int .i64 t, .int .i64 e] #[.int .i64 k', .int .i64 a', .int .i64 t', .int .i64 e'] fl_end) = some (endEq k a t e k' a' t' e') := by
  rw [fl_end_eq]
  rw [closed_fields (a := .int .i64 k) (b := .int .i64 k') (r := k == k') (by kernel_rfl) (by kernel_rfl) (by kernel_rfl) (by kernel_rfl)]
  rw [closed_fields (a := .int .i64 a) (b := .int .i64 a') (r := a == a') (by kernel_rfl) (by kernel_rfl) (by kernel_rfl) (by kernel_rfl)]
  rw [closed_fields (a := .int .i64 t) (b := .int .i64 t') (r := t == t') (by kernel_rfl) (by kernel_rfl) (by kernel_rfl) (by kernel_rfl)]
  rw [closed_fields (a := .int .i64 e) (b := .int .i64 e') (r := e == e') (by kernel_rfl) (by kernel_rfl) (by kernel_rfl) (by kernel_rfl)]
  rw [closed_fields_nil]
  unfold endEq
  repeat' split
  all_goals rfl
theorem end_equal (k a t e k' a' t' e' : Int) : closed Tryd.prog (Op.equal 47 (.agg #[.int .i64 k, .int .i64 a, .int .i64 t, .int .i64 e]) (.agg #[.int .i64 k', .int .i64 a', .int .i64 t', .int .i64 e'])) = some (endEq k a t e k' a' t' e') := by
  unfold Op.equal Op.maxDepth
  rw [closed_struct (P := Tryd.prog) 9999 47 _ _ (fs := Tryd.prog.fieldsOf 47) (by kernel_rfl) (by kernel_rfl)]
  exact end_fields k a t e k' a' t' e'
theorem c_neq_end (ox oy : Operand) (k a t e k' a' t' e' : Int) :
    closed Tryd.prog (do eqGuard .neq 47 ox oy (.agg #[.int .i64 k, .int .i64 a, .int .i64 t, .int .i64 e]) (.agg #[.int .i64 k', .int .i64 a', .int .i64 t', .int .i64 e']); binOp .neq 47 (.agg #[.int .i64 k, .int .i64 a, .int .i64 t, .int .i64 e]) (.agg #[.int .i64 k', .int .i64 a', .int .i64 t', .int .i64 e'])) = some (.bool (!endEq k a t e k' a' t' e')) := by
  rw [closed_bind]
  have h1 : closed Tryd.prog (eqGuard .neq 47 ox oy (.agg #[.int .i64 k, .int .i64 a, .int .i64 t, .int .i64 e]) (.agg #[.int .i64 k', .int .i64 a', .int .i64 t', .int .i64 e'])) = some () := by kernel_rfl
  rw [h1]
  simp only [Option.bind_some]
  have h2 : binOp .neq 47 (.agg #[.int .i64 k, .int .i64 a, .int .i64 t, .int .i64 e]) (.agg #[.int .i64 k', .int .i64 a', .int .i64 t', .int .i64 e']) = (do pure (Value.bool (!(← Op.equal 47 (.agg #[.int .i64 k, .int .i64 a, .int .i64 t, .int .i64 e]) (.agg #[.int .i64 k', .int .i64 a', .int .i64 t', .int .i64 e']))))) := rfl
  rw [h2, closed_bind, end_equal]
  rfl
end Go.VX.Seat
end
section
set_option linter.unusedVariables false
set_option linter.unusedSimpArgs false
set_option maxRecDepth 4000
namespace Go.VX.Seat
/-- The error of an End. -/
def endErr (nb : Nat) (regs k a t e : Int) : Int :=
  if decide (k < 1) || decide (4 < k) then 4 else
  if endA k && !regOkA regs a then 2 else
  if (endTo k && !regOkA nb t) || (endElse k && !regOkA nb e) then 5 else
  if (!endA k && decide (a ≠ 0)) || (!endTo k && decide (t ≠ 0)) || (!endElse k && decide (e ≠ 0)) then 4 else 0
section
variable {X : Cx} {st : St}
theorem j_r07_end (h : On X) (s p cd sp bl : AV) (nb : Nat) (hb : lenA bl = some nb) (regs k a t e : Int) :
    J X.P X.F X.H (.call 73 [.agg [s, p, iA regs, cd, sp, bl], .agg [iA k, iA a, iA t, iA e]] st (.ret (iA (endErr nb regs k a t e))) st) := by
  refine pure_intro (by rw [h.F]; rfl) rfl ?_
  unfold endErr
  simp only [v_r07_end, kB, kC, cellsOf, fillA, partsEv, zeroes, Nat.reduceSub, Int.reduceToNat, Nat.reduceMul, asInt?, asNat?, Int.reduceAdd, Int.reduceLE, Int.reduceLT, Int.reduceNeg, Nat.reduceLeDiff, VOpd.ev, Nat.reduceEqDiff, Nat.reduceAdd, reduceIte, reduceCtorEq, splice, resOf, tupOf, cellsV, AV.toV, AV.cell?, cellVal]
  refine cutG (mS m0) [2, 3] (fun _ => (decide (k < 1) || decide (4 < k)) = false) ?_ ?_
  · repeat' first | (refine callO_same (j_r07_EndA h _) ?_; simp only [*, kB, kC, cellsOf, fillA, partsEv, zeroes, Nat.reduceSub, Int.reduceToNat, Nat.reduceMul, asInt?, asNat?, Int.reduceAdd, Int.reduceLE, Int.reduceLT, Int.reduceNeg, Nat.reduceLeDiff, VOpd.ev, Nat.reduceEqDiff, Nat.reduceAdd, reduceIte, reduceCtorEq, splice, resOf, tupOf, cellsV, AV.toV, AV.cell?, cellVal]) | (refine callO_same (j_r07_EndTo h _) ?_; simp only [*, kB, kC, cellsOf, fillA, partsEv, zeroes, Nat.reduceSub, Int.reduceToNat, Nat.reduceMul, asInt?, asNat?, Int.reduceAdd, Int.reduceLE, Int.reduceLT, Int.reduceNeg, Nat.reduceLeDiff, VOpd.ev, Nat.reduceEqDiff, Nat.reduceAdd, reduceIte, reduceCtorEq, splice, resOf, tupOf, cellsV, AV.toV, AV.cell?, cellVal]) | (refine callO_same (j_r07_EndElse h _) ?_; simp only [*, kB, kC, cellsOf, fillA, partsEv, zeroes, Nat.reduceSub, Int.reduceToNat, Nat.reduceMul, asInt?, asNat?, Int.reduceAdd, Int.reduceLE, Int.reduceLT, Int.reduceNeg, Nat.reduceLeDiff, VOpd.ev, Nat.reduceEqDiff, Nat.reduceAdd, reduceIte, reduceCtorEq, splice, resOf, tupOf, cellsV, AV.toV, AV.cell?, cellVal]) | (refine callO_same (j_r07_there h _ _ _ _ _ _ _ _ hb) ?_; simp only [*, kB, kC, cellsOf, fillA, partsEv, zeroes, Nat.reduceSub, Int.reduceToNat, Nat.reduceMul, asInt?, asNat?, Int.reduceAdd, Int.reduceLE, Int.reduceLT, Int.reduceNeg, Nat.reduceLeDiff, VOpd.ev, Nat.reduceEqDiff, Nat.reduceAdd, reduceIte, reduceCtorEq, splice, resOf, tupOf, cellsV, AV.toV, AV.cell?, cellVal]) | (refine callO_same (j_r07_register h _ _ _ _ _ _ _) ?_; simp only [*, kB, kC, cellsOf, fillA, partsEv, zeroes, Nat.reduceSub, Int.reduceToNat, Nat.reduceMul, asInt?, asNat?, Int.reduceAdd, Int.reduceLE, Int.reduceLT, Int.reduceNeg, Nat.reduceLeDiff, VOpd.ev, Nat.reduceEqDiff, Nat.reduceAdd, reduceIte, reduceCtorEq, splice, resOf, tupOf, cellsV, AV.toV, AV.cell?, cellVal]) | (refine callO_same (j_r07_Array h _) ?_; simp only [*, kB, kC, cellsOf, fillA, partsEv, zeroes, Nat.reduceSub, Int.reduceToNat, Nat.reduceMul, asInt?, asNat?, Int.reduceAdd, Int.reduceLE, Int.reduceLT, Int.reduceNeg, Nat.reduceLeDiff, VOpd.ev, Nat.reduceEqDiff, Nat.reduceAdd, reduceIte, reduceCtorEq, splice, resOf, tupOf, cellsV, AV.toV, AV.cell?, cellVal]) | (refine callO_same (j_r07_Cell h _) ?_; simp only [*, kB, kC, cellsOf, fillA, partsEv, zeroes, Nat.reduceSub, Int.reduceToNat, Nat.reduceMul, asInt?, asNat?, Int.reduceAdd, Int.reduceLE, Int.reduceLT, Int.reduceNeg, Nat.reduceLeDiff, VOpd.ev, Nat.reduceEqDiff, Nat.reduceAdd, reduceIte, reduceCtorEq, splice, resOf, tupOf, cellsV, AV.toV, AV.cell?, cellVal]) | (refine callO_same (j_r07_HasN h _) ?_; simp only [*, kB, kC, cellsOf, fillA, partsEv, zeroes, Nat.reduceSub, Int.reduceToNat, Nat.reduceMul, asInt?, asNat?, Int.reduceAdd, Int.reduceLE, Int.reduceLT, Int.reduceNeg, Nat.reduceLeDiff, VOpd.ev, Nat.reduceEqDiff, Nat.reduceAdd, reduceIte, reduceCtorEq, splice, resOf, tupOf, cellsV, AV.toV, AV.cell?, cellVal]) | first | (refine gO_t ?_ ?_ <;> (intro hc; simp only [*, kB, kC, cellsOf, fillA, partsEv, zeroes, Nat.reduceSub, Int.reduceToNat, Nat.reduceMul, asInt?, asNat?, Int.reduceAdd, Int.reduceLE, Int.reduceLT, Int.reduceNeg, Nat.reduceLeDiff, VOpd.ev, Nat.reduceEqDiff, Nat.reduceAdd, reduceIte, reduceCtorEq, splice, resOf, tupOf, cellsV, AV.toV, AV.cell?, cellVal])) | (refine gO_f ?_ ?_ <;> (intro hc; simp only [*, kB, kC, cellsOf, fillA, partsEv, zeroes, Nat.reduceSub, Int.reduceToNat, Nat.reduceMul, asInt?, asNat?, Int.reduceAdd, Int.reduceLE, Int.reduceLT, Int.reduceNeg, Nat.reduceLeDiff, VOpd.ev, Nat.reduceEqDiff, Nat.reduceAdd, reduceIte, reduceCtorEq, splice, resOf, tupOf, cellsV, AV.toV, AV.cell?, cellVal])) | (refine condO_intro ?_ ?_ <;> (intro hc; simp only [*, kB, kC, cellsOf, fillA, partsEv, zeroes, Nat.reduceSub, Int.reduceToNat, Nat.reduceMul, asInt?, asNat?, Int.reduceAdd, Int.reduceLE, Int.reduceLT, Int.reduceNeg, Nat.reduceLeDiff, VOpd.ev, Nat.reduceEqDiff, Nat.reduceAdd, reduceIte, reduceCtorEq, splice, resOf, tupOf, cellsV, AV.toV, AV.cell?, cellVal]))
    all_goals first | exact ⟨_, rfl⟩ | exact ⟨rfl, _, rfl⟩ | exact ⟨trivial, _, rfl⟩ | exact ⟨[], (List.append_nil _).symm⟩
  · intro e1 hL hR
    simp only [hR, kB, kC, cellsOf, fillA, partsEv, zeroes, Nat.reduceSub, Int.reduceToNat, Nat.reduceMul, asInt?, asNat?, Int.reduceAdd, Int.reduceLE, Int.reduceLT, Int.reduceNeg, Nat.reduceLeDiff, VOpd.ev, Nat.reduceEqDiff, Nat.reduceAdd, reduceIte, reduceCtorEq, splice, resOf, tupOf, cellsV, AV.toV, AV.cell?, cellVal] at hL ⊢
    obtain ⟨h2, h3⟩ := hL
    simp only [*, kB, kC, cellsOf, fillA, partsEv, zeroes, Nat.reduceSub, Int.reduceToNat, Nat.reduceMul, asInt?, asNat?, Int.reduceAdd, Int.reduceLE, Int.reduceLT, Int.reduceNeg, Nat.reduceLeDiff, VOpd.ev, Nat.reduceEqDiff, Nat.reduceAdd, reduceIte, reduceCtorEq, splice, resOf, tupOf, cellsV, AV.toV, AV.cell?, cellVal]
    refine cutCall (mS m0) [2, 3] (fun _ => (endA k && !regOkA regs a) = false) ?_ ?_
    · repeat' first | (refine callO_same (j_r07_EndA h _) ?_; simp only [*, kB, kC, cellsOf, fillA, partsEv, zeroes, Nat.reduceSub, Int.reduceToNat, Nat.reduceMul, asInt?, asNat?, Int.reduceAdd, Int.reduceLE, Int.reduceLT, Int.reduceNeg, Nat.reduceLeDiff, VOpd.ev, Nat.reduceEqDiff, Nat.reduceAdd, reduceIte, reduceCtorEq, splice, resOf, tupOf, cellsV, AV.toV, AV.cell?, cellVal]) | (refine callO_same (j_r07_EndTo h _) ?_; simp only [*, kB, kC, cellsOf, fillA, partsEv, zeroes, Nat.reduceSub, Int.reduceToNat, Nat.reduceMul, asInt?, asNat?, Int.reduceAdd, Int.reduceLE, Int.reduceLT, Int.reduceNeg, Nat.reduceLeDiff, VOpd.ev, Nat.reduceEqDiff, Nat.reduceAdd, reduceIte, reduceCtorEq, splice, resOf, tupOf, cellsV, AV.toV, AV.cell?, cellVal]) | (refine callO_same (j_r07_EndElse h _) ?_; simp only [*, kB, kC, cellsOf, fillA, partsEv, zeroes, Nat.reduceSub, Int.reduceToNat, Nat.reduceMul, asInt?, asNat?, Int.reduceAdd, Int.reduceLE, Int.reduceLT, Int.reduceNeg, Nat.reduceLeDiff, VOpd.ev, Nat.reduceEqDiff, Nat.reduceAdd, reduceIte, reduceCtorEq, splice, resOf, tupOf, cellsV, AV.toV, AV.cell?, cellVal]) | (refine callO_same (j_r07_there h _ _ _ _ _ _ _ _ hb) ?_; simp only [*, kB, kC, cellsOf, fillA, partsEv, zeroes, Nat.reduceSub, Int.reduceToNat, Nat.reduceMul, asInt?, asNat?, Int.reduceAdd, Int.reduceLE, Int.reduceLT, Int.reduceNeg, Nat.reduceLeDiff, VOpd.ev, Nat.reduceEqDiff, Nat.reduceAdd, reduceIte, reduceCtorEq, splice, resOf, tupOf, cellsV, AV.toV, AV.cell?, cellVal]) | (refine callO_same (j_r07_register h _ _ _ _ _ _ _) ?_; simp only [*, kB, kC, cellsOf, fillA, partsEv, zeroes, Nat.reduceSub, Int.reduceToNat, Nat.reduceMul, asInt?, asNat?, Int.reduceAdd, Int.reduceLE, Int.reduceLT, Int.reduceNeg, Nat.reduceLeDiff, VOpd.ev, Nat.reduceEqDiff, Nat.reduceAdd, reduceIte, reduceCtorEq, splice, resOf, tupOf, cellsV, AV.toV, AV.cell?, cellVal]) | (refine callO_same (j_r07_Array h _) ?_; simp only [*, kB, kC, cellsOf, fillA, partsEv, zeroes, Nat.reduceSub, Int.reduceToNat, Nat.reduceMul, asInt?, asNat?, Int.reduceAdd, Int.reduceLE, Int.reduceLT, Int.reduceNeg, Nat.reduceLeDiff, VOpd.ev, Nat.reduceEqDiff, Nat.reduceAdd, reduceIte, reduceCtorEq, splice, resOf, tupOf, cellsV, AV.toV, AV.cell?, cellVal]) | (refine callO_same (j_r07_Cell h _) ?_; simp only [*, kB, kC, cellsOf, fillA, partsEv, zeroes, Nat.reduceSub, Int.reduceToNat, Nat.reduceMul, asInt?, asNat?, Int.reduceAdd, Int.reduceLE, Int.reduceLT, Int.reduceNeg, Nat.reduceLeDiff, VOpd.ev, Nat.reduceEqDiff, Nat.reduceAdd, reduceIte, reduceCtorEq, splice, resOf, tupOf, cellsV, AV.toV, AV.cell?, cellVal]) | (refine callO_same (j_r07_HasN h _) ?_; simp only [*, kB, kC, cellsOf, fillA, partsEv, zeroes, Nat.reduceSub, Int.reduceToNat, Nat.reduceMul, asInt?, asNat?, Int.reduceAdd, Int.reduceLE, Int.reduceLT, Int.reduceNeg, Nat.reduceLeDiff, VOpd.ev, Nat.reduceEqDiff, Nat.reduceAdd, reduceIte, reduceCtorEq, splice, resOf, tupOf, cellsV, AV.toV, AV.cell?, cellVal]) | first | (refine gO_t ?_ ?_ <;> (intro hc; simp only [*, kB, kC, cellsOf, fillA, partsEv, zeroes, Nat.reduceSub, Int.reduceToNat, Nat.reduceMul, asInt?, asNat?, Int.reduceAdd, Int.reduceLE, Int.reduceLT, Int.reduceNeg, Nat.reduceLeDiff, VOpd.ev, Nat.reduceEqDiff, Nat.reduceAdd, reduceIte, reduceCtorEq, splice, resOf, tupOf, cellsV, AV.toV, AV.cell?, cellVal])) | (refine gO_f ?_ ?_ <;> (intro hc; simp only [*, kB, kC, cellsOf, fillA, partsEv, zeroes, Nat.reduceSub, Int.reduceToNat, Nat.reduceMul, asInt?, asNat?, Int.reduceAdd, Int.reduceLE, Int.reduceLT, Int.reduceNeg, Nat.reduceLeDiff, VOpd.ev, Nat.reduceEqDiff, Nat.reduceAdd, reduceIte, reduceCtorEq, splice, resOf, tupOf, cellsV, AV.toV, AV.cell?, cellVal])) | (refine condO_intro ?_ ?_ <;> (intro hc; simp only [*, kB, kC, cellsOf, fillA, partsEv, zeroes, Nat.reduceSub, Int.reduceToNat, Nat.reduceMul, asInt?, asNat?, Int.reduceAdd, Int.reduceLE, Int.reduceLT, Int.reduceNeg, Nat.reduceLeDiff, VOpd.ev, Nat.reduceEqDiff, Nat.reduceAdd, reduceIte, reduceCtorEq, splice, resOf, tupOf, cellsV, AV.toV, AV.cell?, cellVal]))
      all_goals first | exact ⟨_, rfl⟩ | exact ⟨rfl, _, rfl⟩ | exact ⟨trivial, _, rfl⟩ | exact ⟨[], (List.append_nil _).symm⟩
    · intro e2 hL hR
      simp only [hR, kB, kC, cellsOf, fillA, partsEv, zeroes, Nat.reduceSub, Int.reduceToNat, Nat.reduceMul, asInt?, asNat?, Int.reduceAdd, Int.reduceLE, Int.reduceLT, Int.reduceNeg, Nat.reduceLeDiff, VOpd.ev, Nat.reduceEqDiff, Nat.reduceAdd, reduceIte, reduceCtorEq, splice, resOf, tupOf, cellsV, AV.toV, AV.cell?, cellVal] at hL ⊢
      simp only [h2, h3] at hL
      obtain ⟨h2, h3⟩ := hL
      simp only [*, kB, kC, cellsOf, fillA, partsEv, zeroes, Nat.reduceSub, Int.reduceToNat, Nat.reduceMul, asInt?, asNat?, Int.reduceAdd, Int.reduceLE, Int.reduceLT, Int.reduceNeg, Nat.reduceLeDiff, VOpd.ev, Nat.reduceEqDiff, Nat.reduceAdd, reduceIte, reduceCtorEq, splice, resOf, tupOf, cellsV, AV.toV, AV.cell?, cellVal]
      refine cutCall (mS m0) [2, 3] (fun _ => ((endTo k && !regOkA nb t) || (endElse k && !regOkA nb e)) = false) ?_ ?_
      · repeat' first | (refine callO_same (j_r07_EndA h _) ?_; simp only [*, kB, kC, cellsOf, fillA, partsEv, zeroes, Nat.reduceSub, Int.reduceToNat, Nat.reduceMul, asInt?, asNat?, Int.reduceAdd, Int.reduceLE, Int.reduceLT, Int.reduceNeg, Nat.reduceLeDiff, VOpd.ev, Nat.reduceEqDiff, Nat.reduceAdd, reduceIte, reduceCtorEq, splice, resOf, tupOf, cellsV, AV.toV, AV.cell?, cellVal]) | (refine callO_same (j_r07_EndTo h _) ?_; simp only [*, kB, kC, cellsOf, fillA, partsEv, zeroes, Nat.reduceSub, Int.reduceToNat, Nat.reduceMul, asInt?, asNat?, Int.reduceAdd, Int.reduceLE, Int.reduceLT, Int.reduceNeg, Nat.reduceLeDiff, VOpd.ev, Nat.reduceEqDiff, Nat.reduceAdd, reduceIte, reduceCtorEq, splice, resOf, tupOf, cellsV, AV.toV, AV.cell?, cellVal]) | (refine callO_same (j_r07_EndElse h _) ?_; simp only [*, kB, kC, cellsOf, fillA, partsEv, zeroes, Nat.reduceSub, Int.reduceToNat, Nat.reduceMul, asInt?, asNat?, Int.reduceAdd, Int.reduceLE, Int.reduceLT, Int.reduceNeg, Nat.reduceLeDiff, VOpd.ev, Nat.reduceEqDiff, Nat.reduceAdd, reduceIte, reduceCtorEq, splice, resOf, tupOf, cellsV, AV.toV, AV.cell?, cellVal]) | (refine callO_same (j_r07_there h _ _ _ _ _ _ _ _ hb) ?_; simp only [*, kB, kC, cellsOf, fillA, partsEv, zeroes, Nat.reduceSub, Int.reduceToNat, Nat.reduceMul, asInt?, asNat?, Int.reduceAdd, Int.reduceLE, Int.reduceLT, Int.reduceNeg, Nat.reduceLeDiff, VOpd.ev, Nat.reduceEqDiff, Nat.reduceAdd, reduceIte, reduceCtorEq, splice, resOf, tupOf, cellsV, AV.toV, AV.cell?, cellVal]) | (refine callO_same (j_r07_register h _ _ _ _ _ _ _) ?_; simp only [*, kB, kC, cellsOf, fillA, partsEv, zeroes, Nat.reduceSub, Int.reduceToNat, Nat.reduceMul, asInt?, asNat?, Int.reduceAdd, Int.reduceLE, Int.reduceLT, Int.reduceNeg, Nat.reduceLeDiff, VOpd.ev, Nat.reduceEqDiff, Nat.reduceAdd, reduceIte, reduceCtorEq, splice, resOf, tupOf, cellsV, AV.toV, AV.cell?, cellVal]) | (refine callO_same (j_r07_Array h _) ?_; simp only [*, kB, kC, cellsOf, fillA, partsEv, zeroes, Nat.reduceSub, Int.reduceToNat, Nat.reduceMul, asInt?, asNat?, Int.reduceAdd, Int.reduceLE, Int.reduceLT, Int.reduceNeg, Nat.reduceLeDiff, VOpd.ev, Nat.reduceEqDiff, Nat.reduceAdd, reduceIte, reduceCtorEq, splice, resOf, tupOf, cellsV, AV.toV, AV.cell?, cellVal]) | (refine callO_same (j_r07_Cell h _) ?_; simp only [*, kB, kC, cellsOf, fillA, partsEv, zeroes, Nat.reduceSub, Int.reduceToNat, Nat.reduceMul, asInt?, asNat?, Int.reduceAdd, Int.reduceLE, Int.reduceLT, Int.reduceNeg, Nat.reduceLeDiff, VOpd.ev, Nat.reduceEqDiff, Nat.reduceAdd, reduceIte, reduceCtorEq, splice, resOf, tupOf, cellsV, AV.toV, AV.cell?, cellVal]) | (refine callO_same (j_r07_HasN h _) ?_; simp only [*, kB, kC, cellsOf, fillA, partsEv, zeroes, Nat.reduceSub, Int.reduceToNat, Nat.reduceMul, asInt?, asNat?, Int.reduceAdd, Int.reduceLE, Int.reduceLT, Int.reduceNeg, Nat.reduceLeDiff, VOpd.ev, Nat.reduceEqDiff, Nat.reduceAdd, reduceIte, reduceCtorEq, splice, resOf, tupOf, cellsV, AV.toV, AV.cell?, cellVal]) | first | (refine gO_t ?_ ?_ <;> (intro hc; simp only [*, kB, kC, cellsOf, fillA, partsEv, zeroes, Nat.reduceSub, Int.reduceToNat, Nat.reduceMul, asInt?, asNat?, Int.reduceAdd, Int.reduceLE, Int.reduceLT, Int.reduceNeg, Nat.reduceLeDiff, VOpd.ev, Nat.reduceEqDiff, Nat.reduceAdd, reduceIte, reduceCtorEq, splice, resOf, tupOf, cellsV, AV.toV, AV.cell?, cellVal])) | (refine gO_f ?_ ?_ <;> (intro hc; simp only [*, kB, kC, cellsOf, fillA, partsEv, zeroes, Nat.reduceSub, Int.reduceToNat, Nat.reduceMul, asInt?, asNat?, Int.reduceAdd, Int.reduceLE, Int.reduceLT, Int.reduceNeg, Nat.reduceLeDiff, VOpd.ev, Nat.reduceEqDiff, Nat.reduceAdd, reduceIte, reduceCtorEq, splice, resOf, tupOf, cellsV, AV.toV, AV.cell?, cellVal])) | (refine condO_intro ?_ ?_ <;> (intro hc; simp only [*, kB, kC, cellsOf, fillA, partsEv, zeroes, Nat.reduceSub, Int.reduceToNat, Nat.reduceMul, asInt?, asNat?, Int.reduceAdd, Int.reduceLE, Int.reduceLT, Int.reduceNeg, Nat.reduceLeDiff, VOpd.ev, Nat.reduceEqDiff, Nat.reduceAdd, reduceIte, reduceCtorEq, splice, resOf, tupOf, cellsV, AV.toV, AV.cell?, cellVal]))
        all_goals first | exact ⟨_, rfl⟩ | exact ⟨rfl, _, rfl⟩ | exact ⟨trivial, _, rfl⟩ | exact ⟨[], (List.append_nil _).symm⟩
      · intro e3 hL hR
        simp only [hR, kB, kC, cellsOf, fillA, partsEv, zeroes, Nat.reduceSub, Int.reduceToNat, Nat.reduceMul, asInt?, asNat?, Int.reduceAdd, Int.reduceLE, Int.reduceLT, Int.reduceNeg, Nat.reduceLeDiff, VOpd.ev, Nat.reduceEqDiff, Nat.reduceAdd, reduceIte, reduceCtorEq, splice, resOf, tupOf, cellsV, AV.toV, AV.cell?, cellVal] at hL ⊢
        simp only [h2, h3] at hL
        obtain ⟨h2, h3⟩ := hL
        simp only [*, kB, kC, cellsOf, fillA, partsEv, zeroes, Nat.reduceSub, Int.reduceToNat, Nat.reduceMul, asInt?, asNat?, Int.reduceAdd, Int.reduceLE, Int.reduceLT, Int.reduceNeg, Nat.reduceLeDiff, VOpd.ev, Nat.reduceEqDiff, Nat.reduceAdd, reduceIte, reduceCtorEq, splice, resOf, tupOf, cellsV, AV.toV, AV.cell?, cellVal]
        repeat' first | (refine callO_same (j_r07_EndA h _) ?_; simp only [*, kB, kC, cellsOf, fillA, partsEv, zeroes, Nat.reduceSub, Int.reduceToNat, Nat.reduceMul, asInt?, asNat?, Int.reduceAdd, Int.reduceLE, Int.reduceLT, Int.reduceNeg, Nat.reduceLeDiff, VOpd.ev, Nat.reduceEqDiff, Nat.reduceAdd, reduceIte, reduceCtorEq, splice, resOf, tupOf, cellsV, AV.toV, AV.cell?, cellVal]) | (refine callO_same (j_r07_EndTo h _) ?_; simp only [*, kB, kC, cellsOf, fillA, partsEv, zeroes, Nat.reduceSub, Int.reduceToNat, Nat.reduceMul, asInt?, asNat?, Int.reduceAdd, Int.reduceLE, Int.reduceLT, Int.reduceNeg, Nat.reduceLeDiff, VOpd.ev, Nat.reduceEqDiff, Nat.reduceAdd, reduceIte, reduceCtorEq, splice, resOf, tupOf, cellsV, AV.toV, AV.cell?, cellVal]) | (refine callO_same (j_r07_EndElse h _) ?_; simp only [*, kB, kC, cellsOf, fillA, partsEv, zeroes, Nat.reduceSub, Int.reduceToNat, Nat.reduceMul, asInt?, asNat?, Int.reduceAdd, Int.reduceLE, Int.reduceLT, Int.reduceNeg, Nat.reduceLeDiff, VOpd.ev, Nat.reduceEqDiff, Nat.reduceAdd, reduceIte, reduceCtorEq, splice, resOf, tupOf, cellsV, AV.toV, AV.cell?, cellVal]) | (refine callO_same (j_r07_there h _ _ _ _ _ _ _ _ hb) ?_; simp only [*, kB, kC, cellsOf, fillA, partsEv, zeroes, Nat.reduceSub, Int.reduceToNat, Nat.reduceMul, asInt?, asNat?, Int.reduceAdd, Int.reduceLE, Int.reduceLT, Int.reduceNeg, Nat.reduceLeDiff, VOpd.ev, Nat.reduceEqDiff, Nat.reduceAdd, reduceIte, reduceCtorEq, splice, resOf, tupOf, cellsV, AV.toV, AV.cell?, cellVal]) | (refine callO_same (j_r07_register h _ _ _ _ _ _ _) ?_; simp only [*, kB, kC, cellsOf, fillA, partsEv, zeroes, Nat.reduceSub, Int.reduceToNat, Nat.reduceMul, asInt?, asNat?, Int.reduceAdd, Int.reduceLE, Int.reduceLT, Int.reduceNeg, Nat.reduceLeDiff, VOpd.ev, Nat.reduceEqDiff, Nat.reduceAdd, reduceIte, reduceCtorEq, splice, resOf, tupOf, cellsV, AV.toV, AV.cell?, cellVal]) | (refine callO_same (j_r07_Array h _) ?_; simp only [*, kB, kC, cellsOf, fillA, partsEv, zeroes, Nat.reduceSub, Int.reduceToNat, Nat.reduceMul, asInt?, asNat?, Int.reduceAdd, Int.reduceLE, Int.reduceLT, Int.reduceNeg, Nat.reduceLeDiff, VOpd.ev, Nat.reduceEqDiff, Nat.reduceAdd, reduceIte, reduceCtorEq, splice, resOf, tupOf, cellsV, AV.toV, AV.cell?, cellVal]) | (refine callO_same (j_r07_Cell h _) ?_; simp only [*, kB, kC, cellsOf, fillA, partsEv, zeroes, Nat.reduceSub, Int.reduceToNat, Nat.reduceMul, asInt?, asNat?, Int.reduceAdd, Int.reduceLE, Int.reduceLT, Int.reduceNeg, Nat.reduceLeDiff, VOpd.ev, Nat.reduceEqDiff, Nat.reduceAdd, reduceIte, reduceCtorEq, splice, resOf, tupOf, cellsV, AV.toV, AV.cell?, cellVal]) | (refine callO_same (j_r07_HasN h _) ?_; simp only [*, kB, kC, cellsOf, fillA, partsEv, zeroes, Nat.reduceSub, Int.reduceToNat, Nat.reduceMul, asInt?, asNat?, Int.reduceAdd, Int.reduceLE, Int.reduceLT, Int.reduceNeg, Nat.reduceLeDiff, VOpd.ev, Nat.reduceEqDiff, Nat.reduceAdd, reduceIte, reduceCtorEq, splice, resOf, tupOf, cellsV, AV.toV, AV.cell?, cellVal]) | first | (refine gO_t ?_ ?_ <;> (intro hc; simp only [*, kB, kC, cellsOf, fillA, partsEv, zeroes, Nat.reduceSub, Int.reduceToNat, Nat.reduceMul, asInt?, asNat?, Int.reduceAdd, Int.reduceLE, Int.reduceLT, Int.reduceNeg, Nat.reduceLeDiff, VOpd.ev, Nat.reduceEqDiff, Nat.reduceAdd, reduceIte, reduceCtorEq, splice, resOf, tupOf, cellsV, AV.toV, AV.cell?, cellVal])) | (refine gO_f ?_ ?_ <;> (intro hc; simp only [*, kB, kC, cellsOf, fillA, partsEv, zeroes, Nat.reduceSub, Int.reduceToNat, Nat.reduceMul, asInt?, asNat?, Int.reduceAdd, Int.reduceLE, Int.reduceLT, Int.reduceNeg, Nat.reduceLeDiff, VOpd.ev, Nat.reduceEqDiff, Nat.reduceAdd, reduceIte, reduceCtorEq, splice, resOf, tupOf, cellsV, AV.toV, AV.cell?, cellVal])) | (refine condO_intro ?_ ?_ <;> (intro hc; simp only [*, kB, kC, cellsOf, fillA, partsEv, zeroes, Nat.reduceSub, Int.reduceToNat, Nat.reduceMul, asInt?, asNat?, Int.reduceAdd, Int.reduceLE, Int.reduceLT, Int.reduceNeg, Nat.reduceLeDiff, VOpd.ev, Nat.reduceEqDiff, Nat.reduceAdd, reduceIte, reduceCtorEq, splice, resOf, tupOf, cellsV, AV.toV, AV.cell?, cellVal]))
        all_goals first | exact ⟨_, rfl⟩ | exact ⟨rfl, _, rfl⟩ | exact ⟨trivial, _, rfl⟩ | exact ⟨[], (List.append_nil _).symm⟩
end
end Go.VX.Seat
end
section
set_option linter.unusedVariables false
set_option linter.unusedSimpArgs false
set_option maxRecDepth 4000
namespace Go.VX.Seat
section
variable {X : Cx} {st : St}
theorem j_r07_op (h : On X) (s p cd bl : AV) (ns nb : Nat) (hs : lenA s = some ns) (hb : lenA bl = some nb) (regs spill k d a b c n g : Int) :
    J X.P X.F X.H (.call 72 [.agg [s, p, .sc (.int .i64 regs), cd, .sc (.int .i64 spill), bl], .agg [.sc (.int .i64 k), .sc (.int .i64 d), .sc (.int .i64 a), .sc (.int .i64 b), .sc (.int .i64 c), .sc (.int .i64 n), .sc (.int .i64 g)]] st (.ret (.sc (.int .i64 (opErr ns nb regs spill k d a b c n g)))) st) := by
  refine pure_intro (by rw [h.F]; rfl) rfl ?_
  unfold opErr
  simp only [v_r07_op, kB, kC, cellsOf, fillA, partsEv, zeroes, Nat.reduceSub, Int.reduceToNat, Nat.reduceMul, asInt?, asNat?, Int.reduceAdd, Int.reduceLE, Int.reduceLT, Int.reduceNeg, Nat.reduceLeDiff, VOpd.ev, Nat.reduceEqDiff, Nat.reduceAdd, reduceIte, reduceCtorEq, splice, resOf, tupOf, cellsV, AV.toV, AV.cell?, cellVal]
  refine callO_same (j_r07_One h _) ?_
  simp only [kB, kC, cellsOf, fillA, partsEv, zeroes, Nat.reduceSub, Int.reduceToNat, Nat.reduceMul, asInt?, asNat?, Int.reduceAdd, Int.reduceLE, Int.reduceLT, Int.reduceNeg, Nat.reduceLeDiff, VOpd.ev, Nat.reduceEqDiff, Nat.reduceAdd, reduceIte, reduceCtorEq, splice, resOf, tupOf, cellsV, AV.toV, AV.cell?, cellVal]
  refine condO_intro ?_ ?_ <;> intro h1 <;> simp only [kB, kC, cellsOf, fillA, partsEv, zeroes, Nat.reduceSub, Int.reduceToNat, Nat.reduceMul, asInt?, asNat?, Int.reduceAdd, Int.reduceLE, Int.reduceLT, Int.reduceNeg, Nat.reduceLeDiff, VOpd.ev, Nat.reduceEqDiff, Nat.reduceAdd, reduceIte, reduceCtorEq, splice, resOf, tupOf, cellsV, AV.toV, AV.cell?, cellVal]
  · have h1 : oneK k = false := by simpa using h1
    simp only [h1, kB, kC, cellsOf, fillA, partsEv, zeroes, Nat.reduceSub, Int.reduceToNat, Nat.reduceMul, asInt?, asNat?, Int.reduceAdd, Int.reduceLE, Int.reduceLT, Int.reduceNeg, Nat.reduceLeDiff, VOpd.ev, Nat.reduceEqDiff, Nat.reduceAdd, reduceIte, reduceCtorEq, splice, resOf, tupOf, cellsV, AV.toV, AV.cell?, cellVal]
    first | exact ⟨_, rfl⟩ | exact ⟨rfl, _, rfl⟩ | exact ⟨trivial, _, rfl⟩ | exact ⟨[], (List.append_nil _).symm⟩
  · have h1 : oneK k = true := by simpa using h1
    simp only [h1, kB, kC, cellsOf, fillA, partsEv, zeroes, Nat.reduceSub, Int.reduceToNat, Nat.reduceMul, asInt?, asNat?, Int.reduceAdd, Int.reduceLE, Int.reduceLT, Int.reduceNeg, Nat.reduceLeDiff, VOpd.ev, Nat.reduceEqDiff, Nat.reduceAdd, reduceIte, reduceCtorEq, splice, resOf, tupOf, cellsV, AV.toV, AV.cell?, cellVal]
    refine callO_same (j_r07_HasDst h _) ?_
    simp only [kB, kC, cellsOf, fillA, partsEv, zeroes, Nat.reduceSub, Int.reduceToNat, Nat.reduceMul, asInt?, asNat?, Int.reduceAdd, Int.reduceLE, Int.reduceLT, Int.reduceNeg, Nat.reduceLeDiff, VOpd.ev, Nat.reduceEqDiff, Nat.reduceAdd, reduceIte, reduceCtorEq, splice, resOf, tupOf, cellsV, AV.toV, AV.cell?, cellVal]
    refine callO_same (j_r07_HasA h _) ?_
    simp only [kB, kC, cellsOf, fillA, partsEv, zeroes, Nat.reduceSub, Int.reduceToNat, Nat.reduceMul, asInt?, asNat?, Int.reduceAdd, Int.reduceLE, Int.reduceLT, Int.reduceNeg, Nat.reduceLeDiff, VOpd.ev, Nat.reduceEqDiff, Nat.reduceAdd, reduceIte, reduceCtorEq, splice, resOf, tupOf, cellsV, AV.toV, AV.cell?, cellVal]
    refine callO_same (j_r07_HasB h _) ?_
    simp only [kB, kC, cellsOf, fillA, partsEv, zeroes, Nat.reduceSub, Int.reduceToNat, Nat.reduceMul, asInt?, asNat?, Int.reduceAdd, Int.reduceLE, Int.reduceLT, Int.reduceNeg, Nat.reduceLeDiff, VOpd.ev, Nat.reduceEqDiff, Nat.reduceAdd, reduceIte, reduceCtorEq, splice, resOf, tupOf, cellsV, AV.toV, AV.cell?, cellVal]
    refine callO_same (j_r07_HasC h _) ?_
    simp only [kB, kC, cellsOf, fillA, partsEv, zeroes, Nat.reduceSub, Int.reduceToNat, Nat.reduceMul, asInt?, asNat?, Int.reduceAdd, Int.reduceLE, Int.reduceLT, Int.reduceNeg, Nat.reduceLeDiff, VOpd.ev, Nat.reduceEqDiff, Nat.reduceAdd, reduceIte, reduceCtorEq, splice, resOf, tupOf, cellsV, AV.toV, AV.cell?, cellVal]
    refine loop_cut [2, 3, 5, 6] (fun e => ((hasDst k && !regOkA regs d) || (hasA k && !regOkA regs a) || (hasB k && !regOkA regs b) || (hasC k && !regOkA regs c)) = false) ?_ ?_
    · refine loop_live [2, 3, 5, 6] (fun m e => ∃ i : Int, 0 ≤ i ∧ i + m = 4 ∧ e 7 = .sc (.int .i64 i) ∧ (0 < i → (hasDst k && !regOkA regs d) = false) ∧ (1 < i → (hasA k && !regOkA regs a) = false) ∧ (2 < i → (hasB k && !regOkA regs b) = false) ∧ (3 < i → (hasC k && !regOkA regs c) = false)) 4 ?_ ?_
      · exact ⟨0, by omega, by omega, by simp only [kB, kC, cellsOf, fillA, partsEv, zeroes, Nat.reduceSub, Int.reduceToNat, Nat.reduceMul, asInt?, asNat?, Int.reduceAdd, Int.reduceLE, Int.reduceLT, Int.reduceNeg, Nat.reduceLeDiff, VOpd.ev, Nat.reduceEqDiff, Nat.reduceAdd, reduceIte, reduceCtorEq, splice, resOf, tupOf, cellsV, AV.toV, AV.cell?, cellVal], by omega, by omega, by omega, by omega⟩
      · intro m e hL ⟨i, hi, him, h7, f0, f1, f2, f3⟩
        simp only [kB, kC, cellsOf, fillA, partsEv, zeroes, Nat.reduceSub, Int.reduceToNat, Nat.reduceMul, asInt?, asNat?, Int.reduceAdd, Int.reduceLE, Int.reduceLT, Int.reduceNeg, Nat.reduceLeDiff, VOpd.ev, Nat.reduceEqDiff, Nat.reduceAdd, reduceIte, reduceCtorEq, splice, resOf, tupOf, cellsV, AV.toV, AV.cell?, cellVal] at hL
        obtain ⟨h2, h3, h5, h6⟩ := hL
        have : i = 0 ∨ i = 1 ∨ i = 2 ∨ i = 3 ∨ i = 4 := by omega
        rcases this with rfl | rfl | rfl | rfl | rfl
        all_goals
          simp only [h2, h3, h5, h6, h7, kB, kC, cellsOf, fillA, partsEv, zeroes, Nat.reduceSub, Int.reduceToNat, Nat.reduceMul, asInt?, asNat?, Int.reduceAdd, Int.reduceLE, Int.reduceLT, Int.reduceNeg, Nat.reduceLeDiff, VOpd.ev, Nat.reduceEqDiff, Nat.reduceAdd, reduceIte, reduceCtorEq, splice, resOf, tupOf, cellsV, AV.toV, AV.cell?, cellVal]
          repeat' first | (refine callO_same (j_r07_EndA h _) ?_; simp only [*, kB, kC, cellsOf, fillA, partsEv, zeroes, Nat.reduceSub, Int.reduceToNat, Nat.reduceMul, asInt?, asNat?, Int.reduceAdd, Int.reduceLE, Int.reduceLT, Int.reduceNeg, Nat.reduceLeDiff, VOpd.ev, Nat.reduceEqDiff, Nat.reduceAdd, reduceIte, reduceCtorEq, splice, resOf, tupOf, cellsV, AV.toV, AV.cell?, cellVal]) | (refine callO_same (j_r07_EndTo h _) ?_; simp only [*, kB, kC, cellsOf, fillA, partsEv, zeroes, Nat.reduceSub, Int.reduceToNat, Nat.reduceMul, asInt?, asNat?, Int.reduceAdd, Int.reduceLE, Int.reduceLT, Int.reduceNeg, Nat.reduceLeDiff, VOpd.ev, Nat.reduceEqDiff, Nat.reduceAdd, reduceIte, reduceCtorEq, splice, resOf, tupOf, cellsV, AV.toV, AV.cell?, cellVal]) | (refine callO_same (j_r07_EndElse h _) ?_; simp only [*, kB, kC, cellsOf, fillA, partsEv, zeroes, Nat.reduceSub, Int.reduceToNat, Nat.reduceMul, asInt?, asNat?, Int.reduceAdd, Int.reduceLE, Int.reduceLT, Int.reduceNeg, Nat.reduceLeDiff, VOpd.ev, Nat.reduceEqDiff, Nat.reduceAdd, reduceIte, reduceCtorEq, splice, resOf, tupOf, cellsV, AV.toV, AV.cell?, cellVal]) | (refine callO_same (j_r07_there h _ _ _ _ _ _ _ _ hb) ?_; simp only [*, kB, kC, cellsOf, fillA, partsEv, zeroes, Nat.reduceSub, Int.reduceToNat, Nat.reduceMul, asInt?, asNat?, Int.reduceAdd, Int.reduceLE, Int.reduceLT, Int.reduceNeg, Nat.reduceLeDiff, VOpd.ev, Nat.reduceEqDiff, Nat.reduceAdd, reduceIte, reduceCtorEq, splice, resOf, tupOf, cellsV, AV.toV, AV.cell?, cellVal]) | (refine callO_same (j_r07_register h _ _ _ _ _ _ _) ?_; simp only [*, kB, kC, cellsOf, fillA, partsEv, zeroes, Nat.reduceSub, Int.reduceToNat, Nat.reduceMul, asInt?, asNat?, Int.reduceAdd, Int.reduceLE, Int.reduceLT, Int.reduceNeg, Nat.reduceLeDiff, VOpd.ev, Nat.reduceEqDiff, Nat.reduceAdd, reduceIte, reduceCtorEq, splice, resOf, tupOf, cellsV, AV.toV, AV.cell?, cellVal]) | (refine callO_same (j_r07_Array h _) ?_; simp only [*, kB, kC, cellsOf, fillA, partsEv, zeroes, Nat.reduceSub, Int.reduceToNat, Nat.reduceMul, asInt?, asNat?, Int.reduceAdd, Int.reduceLE, Int.reduceLT, Int.reduceNeg, Nat.reduceLeDiff, VOpd.ev, Nat.reduceEqDiff, Nat.reduceAdd, reduceIte, reduceCtorEq, splice, resOf, tupOf, cellsV, AV.toV, AV.cell?, cellVal]) | (refine callO_same (j_r07_Cell h _) ?_; simp only [*, kB, kC, cellsOf, fillA, partsEv, zeroes, Nat.reduceSub, Int.reduceToNat, Nat.reduceMul, asInt?, asNat?, Int.reduceAdd, Int.reduceLE, Int.reduceLT, Int.reduceNeg, Nat.reduceLeDiff, VOpd.ev, Nat.reduceEqDiff, Nat.reduceAdd, reduceIte, reduceCtorEq, splice, resOf, tupOf, cellsV, AV.toV, AV.cell?, cellVal]) | (refine callO_same (j_r07_HasN h _) ?_; simp only [*, kB, kC, cellsOf, fillA, partsEv, zeroes, Nat.reduceSub, Int.reduceToNat, Nat.reduceMul, asInt?, asNat?, Int.reduceAdd, Int.reduceLE, Int.reduceLT, Int.reduceNeg, Nat.reduceLeDiff, VOpd.ev, Nat.reduceEqDiff, Nat.reduceAdd, reduceIte, reduceCtorEq, splice, resOf, tupOf, cellsV, AV.toV, AV.cell?, cellVal]) | first | (refine gO_t ?_ ?_ <;> (intro hc; simp only [*, kB, kC, cellsOf, fillA, partsEv, zeroes, Nat.reduceSub, Int.reduceToNat, Nat.reduceMul, asInt?, asNat?, Int.reduceAdd, Int.reduceLE, Int.reduceLT, Int.reduceNeg, Nat.reduceLeDiff, VOpd.ev, Nat.reduceEqDiff, Nat.reduceAdd, reduceIte, reduceCtorEq, splice, resOf, tupOf, cellsV, AV.toV, AV.cell?, cellVal])) | (refine gO_f ?_ ?_ <;> (intro hc; simp only [*, kB, kC, cellsOf, fillA, partsEv, zeroes, Nat.reduceSub, Int.reduceToNat, Nat.reduceMul, asInt?, asNat?, Int.reduceAdd, Int.reduceLE, Int.reduceLT, Int.reduceNeg, Nat.reduceLeDiff, VOpd.ev, Nat.reduceEqDiff, Nat.reduceAdd, reduceIte, reduceCtorEq, splice, resOf, tupOf, cellsV, AV.toV, AV.cell?, cellVal])) | (refine condO_intro ?_ ?_ <;> (intro hc; simp only [*, kB, kC, cellsOf, fillA, partsEv, zeroes, Nat.reduceSub, Int.reduceToNat, Nat.reduceMul, asInt?, asNat?, Int.reduceAdd, Int.reduceLE, Int.reduceLT, Int.reduceNeg, Nat.reduceLeDiff, VOpd.ev, Nat.reduceEqDiff, Nat.reduceAdd, reduceIte, reduceCtorEq, splice, resOf, tupOf, cellsV, AV.toV, AV.cell?, cellVal]))
        all_goals first
          | first | exact ⟨_, rfl⟩ | exact ⟨rfl, _, rfl⟩ | exact ⟨trivial, _, rfl⟩ | exact ⟨[], (List.append_nil _).symm⟩
          | exact ⟨m - 1, by omega, _, by omega, by omega, rfl, by intro hh; first | omega | simp_all, by intro hh; first | omega | simp_all, by intro hh; first | omega | simp_all, by intro hh; first | omega | simp_all⟩
          | simp only [f0 (by omega), f1 (by omega), f2 (by omega), f3 (by omega), Bool.or_self, and_self]
    · intro e hL hR
      simp only [hR, kB, kC, cellsOf, fillA, partsEv, zeroes, Nat.reduceSub, Int.reduceToNat, Nat.reduceMul, asInt?, asNat?, Int.reduceAdd, Int.reduceLE, Int.reduceLT, Int.reduceNeg, Nat.reduceLeDiff, VOpd.ev, Nat.reduceEqDiff, Nat.reduceAdd, reduceIte, reduceCtorEq, splice, resOf, tupOf, cellsV, AV.toV, AV.cell?, cellVal] at hL ⊢
      obtain ⟨h2, h3, h5, h6⟩ := hL
      simp only [*, kB, kC, cellsOf, fillA, partsEv, zeroes, Nat.reduceSub, Int.reduceToNat, Nat.reduceMul, asInt?, asNat?, Int.reduceAdd, Int.reduceLE, Int.reduceLT, Int.reduceNeg, Nat.reduceLeDiff, VOpd.ev, Nat.reduceEqDiff, Nat.reduceAdd, reduceIte, reduceCtorEq, splice, resOf, tupOf, cellsV, AV.toV, AV.cell?, cellVal]
      refine cutG (mS m0) [2, 3, 5, 6] (fun _ => (decide (g ≠ -1) && !regOkA regs g) = false) ?_ ?_
      · repeat' first | (refine callO_same (j_r07_EndA h _) ?_; simp only [*, kB, kC, cellsOf, fillA, partsEv, zeroes, Nat.reduceSub, Int.reduceToNat, Nat.reduceMul, asInt?, asNat?, Int.reduceAdd, Int.reduceLE, Int.reduceLT, Int.reduceNeg, Nat.reduceLeDiff, VOpd.ev, Nat.reduceEqDiff, Nat.reduceAdd, reduceIte, reduceCtorEq, splice, resOf, tupOf, cellsV, AV.toV, AV.cell?, cellVal]) | (refine callO_same (j_r07_EndTo h _) ?_; simp only [*, kB, kC, cellsOf, fillA, partsEv, zeroes, Nat.reduceSub, Int.reduceToNat, Nat.reduceMul, asInt?, asNat?, Int.reduceAdd, Int.reduceLE, Int.reduceLT, Int.reduceNeg, Nat.reduceLeDiff, VOpd.ev, Nat.reduceEqDiff, Nat.reduceAdd, reduceIte, reduceCtorEq, splice, resOf, tupOf, cellsV, AV.toV, AV.cell?, cellVal]) | (refine callO_same (j_r07_EndElse h _) ?_; simp only [*, kB, kC, cellsOf, fillA, partsEv, zeroes, Nat.reduceSub, Int.reduceToNat, Nat.reduceMul, asInt?, asNat?, Int.reduceAdd, Int.reduceLE, Int.reduceLT, Int.reduceNeg, Nat.reduceLeDiff, VOpd.ev, Nat.reduceEqDiff, Nat.reduceAdd, reduceIte, reduceCtorEq, splice, resOf, tupOf, cellsV, AV.toV, AV.cell?, cellVal]) | (refine callO_same (j_r07_there h _ _ _ _ _ _ _ _ hb) ?_; simp only [*, kB, kC, cellsOf, fillA, partsEv, zeroes, Nat.reduceSub, Int.reduceToNat, Nat.reduceMul, asInt?, asNat?, Int.reduceAdd, Int.reduceLE, Int.reduceLT, Int.reduceNeg, Nat.reduceLeDiff, VOpd.ev, Nat.reduceEqDiff, Nat.reduceAdd, reduceIte, reduceCtorEq, splice, resOf, tupOf, cellsV, AV.toV, AV.cell?, cellVal]) | (refine callO_same (j_r07_register h _ _ _ _ _ _ _) ?_; simp only [*, kB, kC, cellsOf, fillA, partsEv, zeroes, Nat.reduceSub, Int.reduceToNat, Nat.reduceMul, asInt?, asNat?, Int.reduceAdd, Int.reduceLE, Int.reduceLT, Int.reduceNeg, Nat.reduceLeDiff, VOpd.ev, Nat.reduceEqDiff, Nat.reduceAdd, reduceIte, reduceCtorEq, splice, resOf, tupOf, cellsV, AV.toV, AV.cell?, cellVal]) | (refine callO_same (j_r07_Array h _) ?_; simp only [*, kB, kC, cellsOf, fillA, partsEv, zeroes, Nat.reduceSub, Int.reduceToNat, Nat.reduceMul, asInt?, asNat?, Int.reduceAdd, Int.reduceLE, Int.reduceLT, Int.reduceNeg, Nat.reduceLeDiff, VOpd.ev, Nat.reduceEqDiff, Nat.reduceAdd, reduceIte, reduceCtorEq, splice, resOf, tupOf, cellsV, AV.toV, AV.cell?, cellVal]) | (refine callO_same (j_r07_Cell h _) ?_; simp only [*, kB, kC, cellsOf, fillA, partsEv, zeroes, Nat.reduceSub, Int.reduceToNat, Nat.reduceMul, asInt?, asNat?, Int.reduceAdd, Int.reduceLE, Int.reduceLT, Int.reduceNeg, Nat.reduceLeDiff, VOpd.ev, Nat.reduceEqDiff, Nat.reduceAdd, reduceIte, reduceCtorEq, splice, resOf, tupOf, cellsV, AV.toV, AV.cell?, cellVal]) | (refine callO_same (j_r07_HasN h _) ?_; simp only [*, kB, kC, cellsOf, fillA, partsEv, zeroes, Nat.reduceSub, Int.reduceToNat, Nat.reduceMul, asInt?, asNat?, Int.reduceAdd, Int.reduceLE, Int.reduceLT, Int.reduceNeg, Nat.reduceLeDiff, VOpd.ev, Nat.reduceEqDiff, Nat.reduceAdd, reduceIte, reduceCtorEq, splice, resOf, tupOf, cellsV, AV.toV, AV.cell?, cellVal]) | first | (refine gO_t ?_ ?_ <;> (intro hc; simp only [*, kB, kC, cellsOf, fillA, partsEv, zeroes, Nat.reduceSub, Int.reduceToNat, Nat.reduceMul, asInt?, asNat?, Int.reduceAdd, Int.reduceLE, Int.reduceLT, Int.reduceNeg, Nat.reduceLeDiff, VOpd.ev, Nat.reduceEqDiff, Nat.reduceAdd, reduceIte, reduceCtorEq, splice, resOf, tupOf, cellsV, AV.toV, AV.cell?, cellVal])) | (refine gO_f ?_ ?_ <;> (intro hc; simp only [*, kB, kC, cellsOf, fillA, partsEv, zeroes, Nat.reduceSub, Int.reduceToNat, Nat.reduceMul, asInt?, asNat?, Int.reduceAdd, Int.reduceLE, Int.reduceLT, Int.reduceNeg, Nat.reduceLeDiff, VOpd.ev, Nat.reduceEqDiff, Nat.reduceAdd, reduceIte, reduceCtorEq, splice, resOf, tupOf, cellsV, AV.toV, AV.cell?, cellVal])) | (refine condO_intro ?_ ?_ <;> (intro hc; simp only [*, kB, kC, cellsOf, fillA, partsEv, zeroes, Nat.reduceSub, Int.reduceToNat, Nat.reduceMul, asInt?, asNat?, Int.reduceAdd, Int.reduceLE, Int.reduceLT, Int.reduceNeg, Nat.reduceLeDiff, VOpd.ev, Nat.reduceEqDiff, Nat.reduceAdd, reduceIte, reduceCtorEq, splice, resOf, tupOf, cellsV, AV.toV, AV.cell?, cellVal]))
        all_goals first | exact ⟨_, rfl⟩ | exact ⟨rfl, _, rfl⟩ | exact ⟨trivial, _, rfl⟩ | exact ⟨[], (List.append_nil _).symm⟩
      · intro e1 hL hR2
        simp only [hR2, kB, kC, cellsOf, fillA, partsEv, zeroes, Nat.reduceSub, Int.reduceToNat, Nat.reduceMul, asInt?, asNat?, Int.reduceAdd, Int.reduceLE, Int.reduceLT, Int.reduceNeg, Nat.reduceLeDiff, VOpd.ev, Nat.reduceEqDiff, Nat.reduceAdd, reduceIte, reduceCtorEq, splice, resOf, tupOf, cellsV, AV.toV, AV.cell?, cellVal] at hL ⊢
        simp only [h2, h3, h5, h6] at hL
        obtain ⟨g2, g3, g5, g6⟩ := hL
        simp only [*, kB, kC, cellsOf, fillA, partsEv, zeroes, Nat.reduceSub, Int.reduceToNat, Nat.reduceMul, asInt?, asNat?, Int.reduceAdd, Int.reduceLE, Int.reduceLT, Int.reduceNeg, Nat.reduceLeDiff, VOpd.ev, Nat.reduceEqDiff, Nat.reduceAdd, reduceIte, reduceCtorEq, splice, resOf, tupOf, cellsV, AV.toV, AV.cell?, cellVal]
        refine cutCall (mS (mB m0)) [2, 3, 5, 6] (fun e => e 8 = .sc (.int .i64 (manyOf ns nb spill k))) ?_ ?_
        · unfold manyOf
          repeat' first | (refine callO_same (j_r07_EndA h _) ?_; simp only [*, kB, kC, cellsOf, fillA, partsEv, zeroes, Nat.reduceSub, Int.reduceToNat, Nat.reduceMul, asInt?, asNat?, Int.reduceAdd, Int.reduceLE, Int.reduceLT, Int.reduceNeg, Nat.reduceLeDiff, VOpd.ev, Nat.reduceEqDiff, Nat.reduceAdd, reduceIte, reduceCtorEq, splice, resOf, tupOf, cellsV, AV.toV, AV.cell?, cellVal]) | (refine callO_same (j_r07_EndTo h _) ?_; simp only [*, kB, kC, cellsOf, fillA, partsEv, zeroes, Nat.reduceSub, Int.reduceToNat, Nat.reduceMul, asInt?, asNat?, Int.reduceAdd, Int.reduceLE, Int.reduceLT, Int.reduceNeg, Nat.reduceLeDiff, VOpd.ev, Nat.reduceEqDiff, Nat.reduceAdd, reduceIte, reduceCtorEq, splice, resOf, tupOf, cellsV, AV.toV, AV.cell?, cellVal]) | (refine callO_same (j_r07_EndElse h _) ?_; simp only [*, kB, kC, cellsOf, fillA, partsEv, zeroes, Nat.reduceSub, Int.reduceToNat, Nat.reduceMul, asInt?, asNat?, Int.reduceAdd, Int.reduceLE, Int.reduceLT, Int.reduceNeg, Nat.reduceLeDiff, VOpd.ev, Nat.reduceEqDiff, Nat.reduceAdd, reduceIte, reduceCtorEq, splice, resOf, tupOf, cellsV, AV.toV, AV.cell?, cellVal]) | (refine callO_same (j_r07_there h _ _ _ _ _ _ _ _ hb) ?_; simp only [*, kB, kC, cellsOf, fillA, partsEv, zeroes, Nat.reduceSub, Int.reduceToNat, Nat.reduceMul, asInt?, asNat?, Int.reduceAdd, Int.reduceLE, Int.reduceLT, Int.reduceNeg, Nat.reduceLeDiff, VOpd.ev, Nat.reduceEqDiff, Nat.reduceAdd, reduceIte, reduceCtorEq, splice, resOf, tupOf, cellsV, AV.toV, AV.cell?, cellVal]) | (refine callO_same (j_r07_register h _ _ _ _ _ _ _) ?_; simp only [*, kB, kC, cellsOf, fillA, partsEv, zeroes, Nat.reduceSub, Int.reduceToNat, Nat.reduceMul, asInt?, asNat?, Int.reduceAdd, Int.reduceLE, Int.reduceLT, Int.reduceNeg, Nat.reduceLeDiff, VOpd.ev, Nat.reduceEqDiff, Nat.reduceAdd, reduceIte, reduceCtorEq, splice, resOf, tupOf, cellsV, AV.toV, AV.cell?, cellVal]) | (refine callO_same (j_r07_Array h _) ?_; simp only [*, kB, kC, cellsOf, fillA, partsEv, zeroes, Nat.reduceSub, Int.reduceToNat, Nat.reduceMul, asInt?, asNat?, Int.reduceAdd, Int.reduceLE, Int.reduceLT, Int.reduceNeg, Nat.reduceLeDiff, VOpd.ev, Nat.reduceEqDiff, Nat.reduceAdd, reduceIte, reduceCtorEq, splice, resOf, tupOf, cellsV, AV.toV, AV.cell?, cellVal]) | (refine callO_same (j_r07_Cell h _) ?_; simp only [*, kB, kC, cellsOf, fillA, partsEv, zeroes, Nat.reduceSub, Int.reduceToNat, Nat.reduceMul, asInt?, asNat?, Int.reduceAdd, Int.reduceLE, Int.reduceLT, Int.reduceNeg, Nat.reduceLeDiff, VOpd.ev, Nat.reduceEqDiff, Nat.reduceAdd, reduceIte, reduceCtorEq, splice, resOf, tupOf, cellsV, AV.toV, AV.cell?, cellVal]) | (refine callO_same (j_r07_HasN h _) ?_; simp only [*, kB, kC, cellsOf, fillA, partsEv, zeroes, Nat.reduceSub, Int.reduceToNat, Nat.reduceMul, asInt?, asNat?, Int.reduceAdd, Int.reduceLE, Int.reduceLT, Int.reduceNeg, Nat.reduceLeDiff, VOpd.ev, Nat.reduceEqDiff, Nat.reduceAdd, reduceIte, reduceCtorEq, splice, resOf, tupOf, cellsV, AV.toV, AV.cell?, cellVal]) | first | (refine gO_t ?_ ?_ <;> (intro hc; simp only [*, kB, kC, cellsOf, fillA, partsEv, zeroes, Nat.reduceSub, Int.reduceToNat, Nat.reduceMul, asInt?, asNat?, Int.reduceAdd, Int.reduceLE, Int.reduceLT, Int.reduceNeg, Nat.reduceLeDiff, VOpd.ev, Nat.reduceEqDiff, Nat.reduceAdd, reduceIte, reduceCtorEq, splice, resOf, tupOf, cellsV, AV.toV, AV.cell?, cellVal])) | (refine gO_f ?_ ?_ <;> (intro hc; simp only [*, kB, kC, cellsOf, fillA, partsEv, zeroes, Nat.reduceSub, Int.reduceToNat, Nat.reduceMul, asInt?, asNat?, Int.reduceAdd, Int.reduceLE, Int.reduceLT, Int.reduceNeg, Nat.reduceLeDiff, VOpd.ev, Nat.reduceEqDiff, Nat.reduceAdd, reduceIte, reduceCtorEq, splice, resOf, tupOf, cellsV, AV.toV, AV.cell?, cellVal])) | (refine condO_intro ?_ ?_ <;> (intro hc; simp only [*, kB, kC, cellsOf, fillA, partsEv, zeroes, Nat.reduceSub, Int.reduceToNat, Nat.reduceMul, asInt?, asNat?, Int.reduceAdd, Int.reduceLE, Int.reduceLT, Int.reduceNeg, Nat.reduceLeDiff, VOpd.ev, Nat.reduceEqDiff, Nat.reduceAdd, reduceIte, reduceCtorEq, splice, resOf, tupOf, cellsV, AV.toV, AV.cell?, cellVal]))
        · intro e hL hR
          simp only [g2, g3, g5, g6, kB, kC, cellsOf, fillA, partsEv, zeroes, Nat.reduceSub, Int.reduceToNat, Nat.reduceMul, asInt?, asNat?, Int.reduceAdd, Int.reduceLE, Int.reduceLT, Int.reduceNeg, Nat.reduceLeDiff, VOpd.ev, Nat.reduceEqDiff, Nat.reduceAdd, reduceIte, reduceCtorEq, splice, resOf, tupOf, cellsV, AV.toV, AV.cell?, cellVal] at hL
          obtain ⟨h2, h3, h5, h6⟩ := hL
          generalize manyOf ns nb spill k = mm at hR ⊢
          simp only [*, kB, kC, cellsOf, fillA, partsEv, zeroes, Nat.reduceSub, Int.reduceToNat, Nat.reduceMul, asInt?, asNat?, Int.reduceAdd, Int.reduceLE, Int.reduceLT, Int.reduceNeg, Nat.reduceLeDiff, VOpd.ev, Nat.reduceEqDiff, Nat.reduceAdd, reduceIte, reduceCtorEq, splice, resOf, tupOf, cellsV, AV.toV, AV.cell?, cellVal]
          refine cutG (mS m0) [2, 3, 5, 6] (fun e => (decide (0 ≤ mm) && (decide (n < 0) || decide (mm ≤ n))) = false) ?_ ?_
          · repeat' first | (refine callO_same (j_r07_EndA h _) ?_; simp only [*, kB, kC, cellsOf, fillA, partsEv, zeroes, Nat.reduceSub, Int.reduceToNat, Nat.reduceMul, asInt?, asNat?, Int.reduceAdd, Int.reduceLE, Int.reduceLT, Int.reduceNeg, Nat.reduceLeDiff, VOpd.ev, Nat.reduceEqDiff, Nat.reduceAdd, reduceIte, reduceCtorEq, splice, resOf, tupOf, cellsV, AV.toV, AV.cell?, cellVal]) | (refine callO_same (j_r07_EndTo h _) ?_; simp only [*, kB, kC, cellsOf, fillA, partsEv, zeroes, Nat.reduceSub, Int.reduceToNat, Nat.reduceMul, asInt?, asNat?, Int.reduceAdd, Int.reduceLE, Int.reduceLT, Int.reduceNeg, Nat.reduceLeDiff, VOpd.ev, Nat.reduceEqDiff, Nat.reduceAdd, reduceIte, reduceCtorEq, splice, resOf, tupOf, cellsV, AV.toV, AV.cell?, cellVal]) | (refine callO_same (j_r07_EndElse h _) ?_; simp only [*, kB, kC, cellsOf, fillA, partsEv, zeroes, Nat.reduceSub, Int.reduceToNat, Nat.reduceMul, asInt?, asNat?, Int.reduceAdd, Int.reduceLE, Int.reduceLT, Int.reduceNeg, Nat.reduceLeDiff, VOpd.ev, Nat.reduceEqDiff, Nat.reduceAdd, reduceIte, reduceCtorEq, splice, resOf, tupOf, cellsV, AV.toV, AV.cell?, cellVal]) | (refine callO_same (j_r07_there h _ _ _ _ _ _ _ _ hb) ?_; simp only [*, kB, kC, cellsOf, fillA, partsEv, zeroes, Nat.reduceSub, Int.reduceToNat, Nat.reduceMul, asInt?, asNat?, Int.reduceAdd, Int.reduceLE, Int.reduceLT, Int.reduceNeg, Nat.reduceLeDiff, VOpd.ev, Nat.reduceEqDiff, Nat.reduceAdd, reduceIte, reduceCtorEq, splice, resOf, tupOf, cellsV, AV.toV, AV.cell?, cellVal]) | (refine callO_same (j_r07_register h _ _ _ _ _ _ _) ?_; simp only [*, kB, kC, cellsOf, fillA, partsEv, zeroes, Nat.reduceSub, Int.reduceToNat, Nat.reduceMul, asInt?, asNat?, Int.reduceAdd, Int.reduceLE, Int.reduceLT, Int.reduceNeg, Nat.reduceLeDiff, VOpd.ev, Nat.reduceEqDiff, Nat.reduceAdd, reduceIte, reduceCtorEq, splice, resOf, tupOf, cellsV, AV.toV, AV.cell?, cellVal]) | (refine callO_same (j_r07_Array h _) ?_; simp only [*, kB, kC, cellsOf, fillA, partsEv, zeroes, Nat.reduceSub, Int.reduceToNat, Nat.reduceMul, asInt?, asNat?, Int.reduceAdd, Int.reduceLE, Int.reduceLT, Int.reduceNeg, Nat.reduceLeDiff, VOpd.ev, Nat.reduceEqDiff, Nat.reduceAdd, reduceIte, reduceCtorEq, splice, resOf, tupOf, cellsV, AV.toV, AV.cell?, cellVal]) | (refine callO_same (j_r07_Cell h _) ?_; simp only [*, kB, kC, cellsOf, fillA, partsEv, zeroes, Nat.reduceSub, Int.reduceToNat, Nat.reduceMul, asInt?, asNat?, Int.reduceAdd, Int.reduceLE, Int.reduceLT, Int.reduceNeg, Nat.reduceLeDiff, VOpd.ev, Nat.reduceEqDiff, Nat.reduceAdd, reduceIte, reduceCtorEq, splice, resOf, tupOf, cellsV, AV.toV, AV.cell?, cellVal]) | (refine callO_same (j_r07_HasN h _) ?_; simp only [*, kB, kC, cellsOf, fillA, partsEv, zeroes, Nat.reduceSub, Int.reduceToNat, Nat.reduceMul, asInt?, asNat?, Int.reduceAdd, Int.reduceLE, Int.reduceLT, Int.reduceNeg, Nat.reduceLeDiff, VOpd.ev, Nat.reduceEqDiff, Nat.reduceAdd, reduceIte, reduceCtorEq, splice, resOf, tupOf, cellsV, AV.toV, AV.cell?, cellVal]) | first | (refine gO_t ?_ ?_ <;> (intro hc; simp only [*, kB, kC, cellsOf, fillA, partsEv, zeroes, Nat.reduceSub, Int.reduceToNat, Nat.reduceMul, asInt?, asNat?, Int.reduceAdd, Int.reduceLE, Int.reduceLT, Int.reduceNeg, Nat.reduceLeDiff, VOpd.ev, Nat.reduceEqDiff, Nat.reduceAdd, reduceIte, reduceCtorEq, splice, resOf, tupOf, cellsV, AV.toV, AV.cell?, cellVal])) | (refine gO_f ?_ ?_ <;> (intro hc; simp only [*, kB, kC, cellsOf, fillA, partsEv, zeroes, Nat.reduceSub, Int.reduceToNat, Nat.reduceMul, asInt?, asNat?, Int.reduceAdd, Int.reduceLE, Int.reduceLT, Int.reduceNeg, Nat.reduceLeDiff, VOpd.ev, Nat.reduceEqDiff, Nat.reduceAdd, reduceIte, reduceCtorEq, splice, resOf, tupOf, cellsV, AV.toV, AV.cell?, cellVal])) | (refine condO_intro ?_ ?_ <;> (intro hc; simp only [*, kB, kC, cellsOf, fillA, partsEv, zeroes, Nat.reduceSub, Int.reduceToNat, Nat.reduceMul, asInt?, asNat?, Int.reduceAdd, Int.reduceLE, Int.reduceLT, Int.reduceNeg, Nat.reduceLeDiff, VOpd.ev, Nat.reduceEqDiff, Nat.reduceAdd, reduceIte, reduceCtorEq, splice, resOf, tupOf, cellsV, AV.toV, AV.cell?, cellVal]))
            all_goals first | exact ⟨_, rfl⟩ | exact ⟨rfl, _, rfl⟩ | exact ⟨trivial, _, rfl⟩ | exact ⟨[], (List.append_nil _).symm⟩
          · intro e1 hL hR
            simp only [hR, kB, kC, cellsOf, fillA, partsEv, zeroes, Nat.reduceSub, Int.reduceToNat, Nat.reduceMul, asInt?, asNat?, Int.reduceAdd, Int.reduceLE, Int.reduceLT, Int.reduceNeg, Nat.reduceLeDiff, VOpd.ev, Nat.reduceEqDiff, Nat.reduceAdd, reduceIte, reduceCtorEq, splice, resOf, tupOf, cellsV, AV.toV, AV.cell?, cellVal] at hL ⊢
            simp only [h2, h3, h5, h6] at hL
            obtain ⟨g2, g3, g5, g6⟩ := hL
            try simp only [*, kB, kC, cellsOf, fillA, partsEv, zeroes, Nat.reduceSub, Int.reduceToNat, Nat.reduceMul, asInt?, asNat?, Int.reduceAdd, Int.reduceLE, Int.reduceLT, Int.reduceNeg, Nat.reduceLeDiff, VOpd.ev, Nat.reduceEqDiff, Nat.reduceAdd, reduceIte, reduceCtorEq, splice, resOf, tupOf, cellsV, AV.toV, AV.cell?, cellVal]
            refine cutLoop (mB m0) [2, 3, 5, 6] (fun e => ((!hasDst k && decide (d ≠ 0)) || (!hasA k && decide (a ≠ 0)) || (!hasB k && decide (b ≠ 0)) || (!hasC k && decide (c ≠ 0))) = false) ?_ ?_
            · refine loop_live [2, 3, 5, 6] (fun m e => ∃ i : Int, 0 ≤ i ∧ i + m = 4 ∧ e 9 = .sc (.int .i64 i) ∧ (0 < i → (!hasDst k && decide (d ≠ 0)) = false) ∧ (1 < i → (!hasA k && decide (a ≠ 0)) = false) ∧ (2 < i → (!hasB k && decide (b ≠ 0)) = false) ∧ (3 < i → (!hasC k && decide (c ≠ 0)) = false)) 4 ?_ ?_
              · exact ⟨0, by omega, by omega, by simp only [kB, kC, cellsOf, fillA, partsEv, zeroes, Nat.reduceSub, Int.reduceToNat, Nat.reduceMul, asInt?, asNat?, Int.reduceAdd, Int.reduceLE, Int.reduceLT, Int.reduceNeg, Nat.reduceLeDiff, VOpd.ev, Nat.reduceEqDiff, Nat.reduceAdd, reduceIte, reduceCtorEq, splice, resOf, tupOf, cellsV, AV.toV, AV.cell?, cellVal], by omega, by omega, by omega, by omega⟩
              · intro m e hL ⟨i, hi, him, h7, f0, f1, f2, f3⟩
                simp only [kB, kC, cellsOf, fillA, partsEv, zeroes, Nat.reduceSub, Int.reduceToNat, Nat.reduceMul, asInt?, asNat?, Int.reduceAdd, Int.reduceLE, Int.reduceLT, Int.reduceNeg, Nat.reduceLeDiff, VOpd.ev, Nat.reduceEqDiff, Nat.reduceAdd, reduceIte, reduceCtorEq, splice, resOf, tupOf, cellsV, AV.toV, AV.cell?, cellVal] at hL
                simp only [g2, g3, g5, g6] at hL
                obtain ⟨h2, h3, h5, h6⟩ := hL
                have : i = 0 ∨ i = 1 ∨ i = 2 ∨ i = 3 ∨ i = 4 := by omega
                rcases this with rfl | rfl | rfl | rfl | rfl
                all_goals
                  simp only [h2, h3, h5, h6, h7, kB, kC, cellsOf, fillA, partsEv, zeroes, Nat.reduceSub, Int.reduceToNat, Nat.reduceMul, asInt?, asNat?, Int.reduceAdd, Int.reduceLE, Int.reduceLT, Int.reduceNeg, Nat.reduceLeDiff, VOpd.ev, Nat.reduceEqDiff, Nat.reduceAdd, reduceIte, reduceCtorEq, splice, resOf, tupOf, cellsV, AV.toV, AV.cell?, cellVal]
                  repeat' first | (refine callO_same (j_r07_EndA h _) ?_; simp only [*, kB, kC, cellsOf, fillA, partsEv, zeroes, Nat.reduceSub, Int.reduceToNat, Nat.reduceMul, asInt?, asNat?, Int.reduceAdd, Int.reduceLE, Int.reduceLT, Int.reduceNeg, Nat.reduceLeDiff, VOpd.ev, Nat.reduceEqDiff, Nat.reduceAdd, reduceIte, reduceCtorEq, splice, resOf, tupOf, cellsV, AV.toV, AV.cell?, cellVal]) | (refine callO_same (j_r07_EndTo h _) ?_; simp only [*, kB, kC, cellsOf, fillA, partsEv, zeroes, Nat.reduceSub, Int.reduceToNat, Nat.reduceMul, asInt?, asNat?, Int.reduceAdd, Int.reduceLE, Int.reduceLT, Int.reduceNeg, Nat.reduceLeDiff, VOpd.ev, Nat.reduceEqDiff, Nat.reduceAdd, reduceIte, reduceCtorEq, splice, resOf, tupOf, cellsV, AV.toV, AV.cell?, cellVal]) | (refine callO_same (j_r07_EndElse h _) ?_; simp only [*, kB, kC, cellsOf, fillA, partsEv, zeroes, Nat.reduceSub, Int.reduceToNat, Nat.reduceMul, asInt?, asNat?, Int.reduceAdd, Int.reduceLE, Int.reduceLT, Int.reduceNeg, Nat.reduceLeDiff, VOpd.ev, Nat.reduceEqDiff, Nat.reduceAdd, reduceIte, reduceCtorEq, splice, resOf, tupOf, cellsV, AV.toV, AV.cell?, cellVal]) | (refine callO_same (j_r07_there h _ _ _ _ _ _ _ _ hb) ?_; simp only [*, kB, kC, cellsOf, fillA, partsEv, zeroes, Nat.reduceSub, Int.reduceToNat, Nat.reduceMul, asInt?, asNat?, Int.reduceAdd, Int.reduceLE, Int.reduceLT, Int.reduceNeg, Nat.reduceLeDiff, VOpd.ev, Nat.reduceEqDiff, Nat.reduceAdd, reduceIte, reduceCtorEq, splice, resOf, tupOf, cellsV, AV.toV, AV.cell?, cellVal]) | (refine callO_same (j_r07_register h _ _ _ _ _ _ _) ?_; simp only [*, kB, kC, cellsOf, fillA, partsEv, zeroes, Nat.reduceSub, Int.reduceToNat, Nat.reduceMul, asInt?, asNat?, Int.reduceAdd, Int.reduceLE, Int.reduceLT, Int.reduceNeg, Nat.reduceLeDiff, VOpd.ev, Nat.reduceEqDiff, Nat.reduceAdd, reduceIte, reduceCtorEq, splice, resOf, tupOf, cellsV, AV.toV, AV.cell?, cellVal]) | (refine callO_same (j_r07_Array h _) ?_; simp only [*, kB, kC, cellsOf, fillA, partsEv, zeroes, Nat.reduceSub, Int.reduceToNat, Nat.reduceMul, asInt?, asNat?, Int.reduceAdd, Int.reduceLE, Int.reduceLT, Int.reduceNeg, Nat.reduceLeDiff, VOpd.ev, Nat.reduceEqDiff, Nat.reduceAdd, reduceIte, reduceCtorEq, splice, resOf, tupOf, cellsV, AV.toV, AV.cell?, cellVal]) | (refine callO_same (j_r07_Cell h _) ?_; simp only [*, kB, kC, cellsOf, fillA, partsEv, zeroes, Nat.reduceSub, Int.reduceToNat, Nat.reduceMul, asInt?, asNat?, Int.reduceAdd, Int.reduceLE, Int.reduceLT, Int.reduceNeg, Nat.reduceLeDiff, VOpd.ev, Nat.reduceEqDiff, Nat.reduceAdd, reduceIte, reduceCtorEq, splice, resOf, tupOf, cellsV, AV.toV, AV.cell?, cellVal]) | (refine callO_same (j_r07_HasN h _) ?_; simp only [*, kB, kC, cellsOf, fillA, partsEv, zeroes, Nat.reduceSub, Int.reduceToNat, Nat.reduceMul, asInt?, asNat?, Int.reduceAdd, Int.reduceLE, Int.reduceLT, Int.reduceNeg, Nat.reduceLeDiff, VOpd.ev, Nat.reduceEqDiff, Nat.reduceAdd, reduceIte, reduceCtorEq, splice, resOf, tupOf, cellsV, AV.toV, AV.cell?, cellVal]) | first | (refine gO_t ?_ ?_ <;> (intro hc; simp only [*, kB, kC, cellsOf, fillA, partsEv, zeroes, Nat.reduceSub, Int.reduceToNat, Nat.reduceMul, asInt?, asNat?, Int.reduceAdd, Int.reduceLE, Int.reduceLT, Int.reduceNeg, Nat.reduceLeDiff, VOpd.ev, Nat.reduceEqDiff, Nat.reduceAdd, reduceIte, reduceCtorEq, splice, resOf, tupOf, cellsV, AV.toV, AV.cell?, cellVal])) | (refine gO_f ?_ ?_ <;> (intro hc; simp only [*, kB, kC, cellsOf, fillA, partsEv, zeroes, Nat.reduceSub, Int.reduceToNat, Nat.reduceMul, asInt?, asNat?, Int.reduceAdd, Int.reduceLE, Int.reduceLT, Int.reduceNeg, Nat.reduceLeDiff, VOpd.ev, Nat.reduceEqDiff, Nat.reduceAdd, reduceIte, reduceCtorEq, splice, resOf, tupOf, cellsV, AV.toV, AV.cell?, cellVal])) | (refine condO_intro ?_ ?_ <;> (intro hc; simp only [*, kB, kC, cellsOf, fillA, partsEv, zeroes, Nat.reduceSub, Int.reduceToNat, Nat.reduceMul, asInt?, asNat?, Int.reduceAdd, Int.reduceLE, Int.reduceLT, Int.reduceNeg, Nat.reduceLeDiff, VOpd.ev, Nat.reduceEqDiff, Nat.reduceAdd, reduceIte, reduceCtorEq, splice, resOf, tupOf, cellsV, AV.toV, AV.cell?, cellVal]))
                all_goals first
                  | first | exact ⟨_, rfl⟩ | exact ⟨rfl, _, rfl⟩ | exact ⟨trivial, _, rfl⟩ | exact ⟨[], (List.append_nil _).symm⟩
                  | exact ⟨m - 1, by omega, _, by omega, by omega, rfl, by intro hh; first | omega | simp_all, by intro hh; first | omega | simp_all, by intro hh; first | omega | simp_all, by intro hh; first | omega | simp_all⟩
                  | simp only [g2, g3, g5, g6, f0 (by omega), f1 (by omega), f2 (by omega), f3 (by omega), Bool.or_self, and_self]
            · intro e hL hR
              simp only [hR, kB, kC, cellsOf, fillA, partsEv, zeroes, Nat.reduceSub, Int.reduceToNat, Nat.reduceMul, asInt?, asNat?, Int.reduceAdd, Int.reduceLE, Int.reduceLT, Int.reduceNeg, Nat.reduceLeDiff, VOpd.ev, Nat.reduceEqDiff, Nat.reduceAdd, reduceIte, reduceCtorEq, splice, resOf, tupOf, cellsV, AV.toV, AV.cell?, cellVal] at hL ⊢
              simp only [g2, g3, g5, g6] at hL
              obtain ⟨h2, h3, h5, h6⟩ := hL
              unfold hasN
              simp only [*, kB, kC, cellsOf, fillA, partsEv, zeroes, Nat.reduceSub, Int.reduceToNat, Nat.reduceMul, asInt?, asNat?, Int.reduceAdd, Int.reduceLE, Int.reduceLT, Int.reduceNeg, Nat.reduceLeDiff, VOpd.ev, Nat.reduceEqDiff, Nat.reduceAdd, reduceIte, reduceCtorEq, splice, resOf, tupOf, cellsV, AV.toV, AV.cell?, cellVal]
              repeat' first | (refine callO_same (j_r07_EndA h _) ?_; simp only [*, kB, kC, cellsOf, fillA, partsEv, zeroes, Nat.reduceSub, Int.reduceToNat, Nat.reduceMul, asInt?, asNat?, Int.reduceAdd, Int.reduceLE, Int.reduceLT, Int.reduceNeg, Nat.reduceLeDiff, VOpd.ev, Nat.reduceEqDiff, Nat.reduceAdd, reduceIte, reduceCtorEq, splice, resOf, tupOf, cellsV, AV.toV, AV.cell?, cellVal]) | (refine callO_same (j_r07_EndTo h _) ?_; simp only [*, kB, kC, cellsOf, fillA, partsEv, zeroes, Nat.reduceSub, Int.reduceToNat, Nat.reduceMul, asInt?, asNat?, Int.reduceAdd, Int.reduceLE, Int.reduceLT, Int.reduceNeg, Nat.reduceLeDiff, VOpd.ev, Nat.reduceEqDiff, Nat.reduceAdd, reduceIte, reduceCtorEq, splice, resOf, tupOf, cellsV, AV.toV, AV.cell?, cellVal]) | (refine callO_same (j_r07_EndElse h _) ?_; simp only [*, kB, kC, cellsOf, fillA, partsEv, zeroes, Nat.reduceSub, Int.reduceToNat, Nat.reduceMul, asInt?, asNat?, Int.reduceAdd, Int.reduceLE, Int.reduceLT, Int.reduceNeg, Nat.reduceLeDiff, VOpd.ev, Nat.reduceEqDiff, Nat.reduceAdd, reduceIte, reduceCtorEq, splice, resOf, tupOf, cellsV, AV.toV, AV.cell?, cellVal]) | (refine callO_same (j_r07_there h _ _ _ _ _ _ _ _ hb) ?_; simp only [*, kB, kC, cellsOf, fillA, partsEv, zeroes, Nat.reduceSub, Int.reduceToNat, Nat.reduceMul, asInt?, asNat?, Int.reduceAdd, Int.reduceLE, Int.reduceLT, Int.reduceNeg, Nat.reduceLeDiff, VOpd.ev, Nat.reduceEqDiff, Nat.reduceAdd, reduceIte, reduceCtorEq, splice, resOf, tupOf, cellsV, AV.toV, AV.cell?, cellVal]) | (refine callO_same (j_r07_register h _ _ _ _ _ _ _) ?_; simp only [*, kB, kC, cellsOf, fillA, partsEv, zeroes, Nat.reduceSub, Int.reduceToNat, Nat.reduceMul, asInt?, asNat?, Int.reduceAdd, Int.reduceLE, Int.reduceLT, Int.reduceNeg, Nat.reduceLeDiff, VOpd.ev, Nat.reduceEqDiff, Nat.reduceAdd, reduceIte, reduceCtorEq, splice, resOf, tupOf, cellsV, AV.toV, AV.cell?, cellVal]) | (refine callO_same (j_r07_Array h _) ?_; simp only [*, kB, kC, cellsOf, fillA, partsEv, zeroes, Nat.reduceSub, Int.reduceToNat, Nat.reduceMul, asInt?, asNat?, Int.reduceAdd, Int.reduceLE, Int.reduceLT, Int.reduceNeg, Nat.reduceLeDiff, VOpd.ev, Nat.reduceEqDiff, Nat.reduceAdd, reduceIte, reduceCtorEq, splice, resOf, tupOf, cellsV, AV.toV, AV.cell?, cellVal]) | (refine callO_same (j_r07_Cell h _) ?_; simp only [*, kB, kC, cellsOf, fillA, partsEv, zeroes, Nat.reduceSub, Int.reduceToNat, Nat.reduceMul, asInt?, asNat?, Int.reduceAdd, Int.reduceLE, Int.reduceLT, Int.reduceNeg, Nat.reduceLeDiff, VOpd.ev, Nat.reduceEqDiff, Nat.reduceAdd, reduceIte, reduceCtorEq, splice, resOf, tupOf, cellsV, AV.toV, AV.cell?, cellVal]) | (refine callO_same (j_r07_HasN h _) ?_; simp only [*, kB, kC, cellsOf, fillA, partsEv, zeroes, Nat.reduceSub, Int.reduceToNat, Nat.reduceMul, asInt?, asNat?, Int.reduceAdd, Int.reduceLE, Int.reduceLT, Int.reduceNeg, Nat.reduceLeDiff, VOpd.ev, Nat.reduceEqDiff, Nat.reduceAdd, reduceIte, reduceCtorEq, splice, resOf, tupOf, cellsV, AV.toV, AV.cell?, cellVal]) | first | (refine gO_t ?_ ?_ <;> (intro hc; simp only [*, kB, kC, cellsOf, fillA, partsEv, zeroes, Nat.reduceSub, Int.reduceToNat, Nat.reduceMul, asInt?, asNat?, Int.reduceAdd, Int.reduceLE, Int.reduceLT, Int.reduceNeg, Nat.reduceLeDiff, VOpd.ev, Nat.reduceEqDiff, Nat.reduceAdd, reduceIte, reduceCtorEq, splice, resOf, tupOf, cellsV, AV.toV, AV.cell?, cellVal])) | (refine gO_f ?_ ?_ <;> (intro hc; simp only [*, kB, kC, cellsOf, fillA, partsEv, zeroes, Nat.reduceSub, Int.reduceToNat, Nat.reduceMul, asInt?, asNat?, Int.reduceAdd, Int.reduceLE, Int.reduceLT, Int.reduceNeg, Nat.reduceLeDiff, VOpd.ev, Nat.reduceEqDiff, Nat.reduceAdd, reduceIte, reduceCtorEq, splice, resOf, tupOf, cellsV, AV.toV, AV.cell?, cellVal])) | (refine condO_intro ?_ ?_ <;> (intro hc; simp only [*, kB, kC, cellsOf, fillA, partsEv, zeroes, Nat.reduceSub, Int.reduceToNat, Nat.reduceMul, asInt?, asNat?, Int.reduceAdd, Int.reduceLE, Int.reduceLT, Int.reduceNeg, Nat.reduceLeDiff, VOpd.ev, Nat.reduceEqDiff, Nat.reduceAdd, reduceIte, reduceCtorEq, splice, resOf, tupOf, cellsV, AV.toV, AV.cell?, cellVal]))
              all_goals first | exact ⟨_, rfl⟩ | exact ⟨rfl, _, rfl⟩ | exact ⟨trivial, _, rfl⟩ | exact ⟨[], (List.append_nil _).symm⟩
end
end Go.VX.Seat
end
section
set_option linter.unusedVariables false
set_option linter.unusedSimpArgs false
set_option maxRecDepth 4000
/-! Units as they lie in memory; when two are the same. -/
namespace Go.VX.Seat
open Go.Proofs
structure OpV where
  k : Int
  d : Int
  a : Int
  b : Int
  c : Int
  n : Int
  g : Int
  deriving DecidableEq
structure EndV where
  k : Int
  a : Int
  t : Int
  e : Int
  deriving DecidableEq
structure BlkV where
  ops : List OpV
  e : EndV
  catch_ : Int
  deriving DecidableEq
structure UnitV where
  sizes : List Int
  params : Int
  regs : Int
  code : Int
  spill : Int
  blocks : List BlkV
  deriving DecidableEq
def OpV.row (o : OpV) : List AV := [iA o.k, iA o.d, iA o.a, iA o.b, iA o.c, iA o.n, iA o.g]
def BlkV.row (b : BlkV) (v : AV) : List AV := [v, iA b.e.k, iA b.e.a, iA b.e.t, iA b.e.e, iA b.catch_]
abbrev OpsAt (st : St) (lo hi : Nat) (v : AV) (l : List OpV) : Prop := ArrAt st lo hi v 7 (l.map OpV.row)
abbrev IntsAt (st : St) (lo hi : Nat) (v : AV) (l : List Int) : Prop := ArrAt st lo hi v 1 (l.map fun n => [iA n])
def BlksAt (st : St) (lo hi : Nat) (v : AV) (l : List BlkV) : Prop := ∃ f : Nat → AV, ArrAt st lo hi v 6 (l.mapIdx fun i b => b.row (f i)) ∧ ∀ i (h : i < l.length), OpsAt st lo hi (f i) l[i].ops
def UnitAt (st : St) (lo hi : Nat) (v : AV) (u : UnitV) : Prop := ∃ s bl, v = .agg [s, iA u.params, iA u.regs, iA u.code, iA u.spill, bl] ∧ IntsAt st lo hi s u.sizes ∧ BlksAt st lo hi bl u.blocks
section
variable {X : Cx} {st : St}
theorem j_r07_SameOps (h : On X) {lo hi lo' hi' : Nat} {v w : AV} {xs ys : List OpV} (hv : OpsAt st lo hi v xs) (hw : OpsAt st lo' hi' w ys) (hlen : (xs.length : Int) < 4611686018427387904) :
    J X.P X.F X.H (.call 69 [v, w] st (.ret (bA (decide (xs = ys)))) st) := by
  refine pure_intro (by rw [h.F]; rfl) rfl ?_
  have l1 := hv.len
  have l2 := hw.len
  simp only [List.length_map] at l1 l2
  simp only [v_r07_SameOps, l1, l2, kB, kC, cellsOf, fillA, partsEv, zeroes, Nat.reduceSub, Int.reduceToNat, Nat.reduceMul, asInt?, asNat?, Int.reduceAdd, Int.reduceLE, Int.reduceLT, Int.reduceNeg, Nat.reduceLeDiff, VOpd.ev, Nat.reduceEqDiff, Nat.reduceAdd, reduceIte, reduceCtorEq, splice, resOf, tupOf, cellsV, AV.toV, AV.cell?, cellVal]
  by_cases hne : xs.length = ys.length
  case neg =>
    have : xs ≠ ys := fun e => hne (by rw [e])
    have h3 : ((xs.length : Int) ≠ (ys.length : Int)) := by omega
    simp only [h3, this, ne_eq, not_false_eq_true, kB, kC, cellsOf, fillA, partsEv, zeroes, Nat.reduceSub, Int.reduceToNat, Nat.reduceMul, asInt?, asNat?, Int.reduceAdd, Int.reduceLE, Int.reduceLT, Int.reduceNeg, Nat.reduceLeDiff, VOpd.ev, Nat.reduceEqDiff, Nat.reduceAdd, reduceIte, reduceCtorEq, splice, resOf, tupOf, cellsV, AV.toV, AV.cell?, cellVal]
    first | exact ⟨_, rfl⟩ | exact ⟨rfl, _, rfl⟩ | exact ⟨trivial, _, rfl⟩ | exact ⟨[], (List.append_nil _).symm⟩
  have h3 : ¬ ((xs.length : Int) ≠ (ys.length : Int)) := by omega
  simp only [h3, kB, kC, cellsOf, fillA, partsEv, zeroes, Nat.reduceSub, Int.reduceToNat, Nat.reduceMul, asInt?, asNat?, Int.reduceAdd, Int.reduceLE, Int.reduceLT, Int.reduceNeg, Nat.reduceLeDiff, VOpd.ev, Nat.reduceEqDiff, Nat.reduceAdd, reduceIte, reduceCtorEq, splice, resOf, tupOf, cellsV, AV.toV, AV.cell?, cellVal]
  refine loop_live [0, 1] (fun m e => ∃ i : Nat, i + m = xs.length ∧ e 5 = iA i ∧ ∀ j (h1 : j < xs.length) (h2 : j < ys.length), j < i → xs[j] = ys[j]) xs.length ?_ ?_
  · exact ⟨0, by omega, by simp only [kB, kC, cellsOf, fillA, partsEv, zeroes, Nat.reduceSub, Int.reduceToNat, Nat.reduceMul, asInt?, asNat?, Int.reduceAdd, Int.reduceLE, Int.reduceLT, Int.reduceNeg, Nat.reduceLeDiff, VOpd.ev, Nat.reduceEqDiff, Nat.reduceAdd, reduceIte, reduceCtorEq, splice, resOf, tupOf, cellsV, AV.toV, AV.cell?, cellVal], fun j _ _ hj => absurd hj (by omega)⟩
  · intro m e hL ⟨i, him, h5, hpre⟩
    simp only [kB, kC, cellsOf, fillA, partsEv, zeroes, Nat.reduceSub, Int.reduceToNat, Nat.reduceMul, asInt?, asNat?, Int.reduceAdd, Int.reduceLE, Int.reduceLT, Int.reduceNeg, Nat.reduceLeDiff, VOpd.ev, Nat.reduceEqDiff, Nat.reduceAdd, reduceIte, reduceCtorEq, splice, resOf, tupOf, cellsV, AV.toV, AV.cell?, cellVal] at hL
    obtain ⟨h0, h1⟩ := hL
    simp only [*, kB, kC, cellsOf, fillA, partsEv, zeroes, Nat.reduceSub, Int.reduceToNat, Nat.reduceMul, asInt?, asNat?, Int.reduceAdd, Int.reduceLE, Int.reduceLT, Int.reduceNeg, Nat.reduceLeDiff, VOpd.ev, Nat.reduceEqDiff, Nat.reduceAdd, reduceIte, reduceCtorEq, splice, resOf, tupOf, cellsV, AV.toV, AV.cell?, cellVal]
    refine condO_intro ?_ ?_ <;> intro hc <;> simp only [kB, kC, cellsOf, fillA, partsEv, zeroes, Nat.reduceSub, Int.reduceToNat, Nat.reduceMul, asInt?, asNat?, Int.reduceAdd, Int.reduceLE, Int.reduceLT, Int.reduceNeg, Nat.reduceLeDiff, VOpd.ev, Nat.reduceEqDiff, Nat.reduceAdd, reduceIte, reduceCtorEq, splice, resOf, tupOf, cellsV, AV.toV, AV.cell?, cellVal]
    · have hi : i < xs.length := by have := of_decide_eq_true hc; omega
      obtain ⟨b1, o1, he1, hn1, _, _⟩ := hv.get i (by simpa using hi)
      obtain ⟨b2, o2, he2, hn2, _, _⟩ := hw.get i (by simpa using (by omega : i < ys.length))
      simp only [List.getElem_map, OpV.row] at hn1 hn2
      simp only [*, h.P, c_neq_op, kB, kC, cellsOf, fillA, partsEv, zeroes, Nat.reduceSub, Int.reduceToNat, Nat.reduceMul, asInt?, asNat?, Int.reduceAdd, Int.reduceLE, Int.reduceLT, Int.reduceNeg, Nat.reduceLeDiff, VOpd.ev, Nat.reduceEqDiff, Nat.reduceAdd, reduceIte, reduceCtorEq, splice, resOf, tupOf, cellsV, AV.toV, AV.cell?, cellVal]
      refine condO_intro ?_ ?_ <;> intro hq <;> simp only [*, kB, kC, cellsOf, fillA, partsEv, zeroes, Nat.reduceSub, Int.reduceToNat, Nat.reduceMul, asInt?, asNat?, Int.reduceAdd, Int.reduceLE, Int.reduceLT, Int.reduceNeg, Nat.reduceLeDiff, VOpd.ev, Nat.reduceEqDiff, Nat.reduceAdd, reduceIte, reduceCtorEq, splice, resOf, tupOf, cellsV, AV.toV, AV.cell?, cellVal]
      · have : xs ≠ ys := by
          rintro rfl
          have := (opEq_iff _ _ _ _ _ _ _ _ _ _ _ _ _ _).2 (⟨rfl, rfl, rfl, rfl, rfl, rfl, rfl⟩ : xs[i].k = xs[i].k ∧ xs[i].d = xs[i].d ∧ xs[i].a = xs[i].a ∧ xs[i].b = xs[i].b ∧ xs[i].c = xs[i].c ∧ xs[i].n = xs[i].n ∧ xs[i].g = xs[i].g)
          rw [this] at hq
          cases hq
        simp only [this, kB, kC, cellsOf, fillA, partsEv, zeroes, Nat.reduceSub, Int.reduceToNat, Nat.reduceMul, asInt?, asNat?, Int.reduceAdd, Int.reduceLE, Int.reduceLT, Int.reduceNeg, Nat.reduceLeDiff, VOpd.ev, Nat.reduceEqDiff, Nat.reduceAdd, reduceIte, reduceCtorEq, splice, resOf, tupOf, cellsV, AV.toV, AV.cell?, cellVal]
        first | exact ⟨_, rfl⟩ | exact ⟨rfl, _, rfl⟩ | exact ⟨trivial, _, rfl⟩ | exact ⟨[], (List.append_nil _).symm⟩
      · have he : xs[i] = ys[i] := by
          have := (opEq_iff _ _ _ _ _ _ _ _ _ _ _ _ _ _).1 (by simpa using hq)
          obtain ⟨q1, q2, q3, q4, q5, q6, q7⟩ := this
          cases hx : xs[i]; cases hy : ys[i]
          rw [hx, hy] at q1 q2 q3 q4 q5 q6 q7
          simp_all
        rw [wrap_small (by omega) (by omega)]
        refine ⟨m - 1, by omega, i + 1, by omega, by simp, fun j h1 h2 hj => ?_⟩
        by_cases hji : j = i
        · subst hji; exact he
        · exact hpre j (by omega) h2 (by omega)
    · have hi : i = xs.length := by have := of_decide_eq_false hc; omega
      have : xs = ys := List.ext_getElem hne fun j h1 h2 => hpre j h1 h2 (by omega)
      simp only [this, kB, kC, cellsOf, fillA, partsEv, zeroes, Nat.reduceSub, Int.reduceToNat, Nat.reduceMul, asInt?, asNat?, Int.reduceAdd, Int.reduceLE, Int.reduceLT, Int.reduceNeg, Nat.reduceLeDiff, VOpd.ev, Nat.reduceEqDiff, Nat.reduceAdd, reduceIte, reduceCtorEq, splice, resOf, tupOf, cellsV, AV.toV, AV.cell?, cellVal]
      first | exact ⟨_, rfl⟩ | exact ⟨rfl, _, rfl⟩ | exact ⟨trivial, _, rfl⟩ | exact ⟨[], (List.append_nil _).symm⟩
end
end Go.VX.Seat
end
section
set_option linter.unusedVariables false
set_option linter.unusedSimpArgs false
set_option maxRecDepth 4000
namespace Go.VX.Seat
open Go.Proofs
section
variable {X : Cx} {st : St}
theorem j_r07_SameBlocks (h : On X) {lo hi lo' hi' : Nat} {v w : AV} {xs ys : List BlkV} (hv : BlksAt st lo hi v xs) (hw : BlksAt st lo' hi' w ys) (hlen : (xs.length : Int) < 4611686018427387904) (hops : ∀ b ∈ xs, (b.ops.length : Int) < 4611686018427387904) :
    J X.P X.F X.H (.call 47 [v, w] st (.ret (bA (decide (xs = ys)))) st) := by
  refine pure_intro (by rw [h.F]; rfl) rfl ?_
  obtain ⟨fv, hv, hvo⟩ := hv
  obtain ⟨fw, hw, hwo⟩ := hw
  have l1 := hv.len
  have l2 := hw.len
  simp only [List.length_mapIdx] at l1 l2
  simp only [v_r07_SameBlocks, l1, l2, kB, kC, cellsOf, fillA, partsEv, zeroes, Nat.reduceSub, Int.reduceToNat, Nat.reduceMul, asInt?, asNat?, Int.reduceAdd, Int.reduceLE, Int.reduceLT, Int.reduceNeg, Nat.reduceLeDiff, VOpd.ev, Nat.reduceEqDiff, Nat.reduceAdd, reduceIte, reduceCtorEq, splice, resOf, tupOf, cellsV, AV.toV, AV.cell?, cellVal]
  by_cases hne : xs.length = ys.length
  case neg =>
    have : xs ≠ ys := fun e => hne (by rw [e])
    have h3 : ((xs.length : Int) ≠ (ys.length : Int)) := by omega
    simp only [h3, this, ne_eq, not_false_eq_true, kB, kC, cellsOf, fillA, partsEv, zeroes, Nat.reduceSub, Int.reduceToNat, Nat.reduceMul, asInt?, asNat?, Int.reduceAdd, Int.reduceLE, Int.reduceLT, Int.reduceNeg, Nat.reduceLeDiff, VOpd.ev, Nat.reduceEqDiff, Nat.reduceAdd, reduceIte, reduceCtorEq, splice, resOf, tupOf, cellsV, AV.toV, AV.cell?, cellVal]
    first | exact ⟨_, rfl⟩ | exact ⟨rfl, _, rfl⟩ | exact ⟨trivial, _, rfl⟩ | exact ⟨[], (List.append_nil _).symm⟩
  have h3 : ¬ ((xs.length : Int) ≠ (ys.length : Int)) := by omega
  simp only [h3, kB, kC, cellsOf, fillA, partsEv, zeroes, Nat.reduceSub, Int.reduceToNat, Nat.reduceMul, asInt?, asNat?, Int.reduceAdd, Int.reduceLE, Int.reduceLT, Int.reduceNeg, Nat.reduceLeDiff, VOpd.ev, Nat.reduceEqDiff, Nat.reduceAdd, reduceIte, reduceCtorEq, splice, resOf, tupOf, cellsV, AV.toV, AV.cell?, cellVal]
  refine loop_live [0, 1] (fun m e => ∃ i : Nat, i + m = xs.length ∧ e 5 = iA i ∧ ∀ j (h1 : j < xs.length) (h2 : j < ys.length), j < i → xs[j] = ys[j]) xs.length ?_ ?_
  · exact ⟨0, by omega, by simp only [kB, kC, cellsOf, fillA, partsEv, zeroes, Nat.reduceSub, Int.reduceToNat, Nat.reduceMul, asInt?, asNat?, Int.reduceAdd, Int.reduceLE, Int.reduceLT, Int.reduceNeg, Nat.reduceLeDiff, VOpd.ev, Nat.reduceEqDiff, Nat.reduceAdd, reduceIte, reduceCtorEq, splice, resOf, tupOf, cellsV, AV.toV, AV.cell?, cellVal], fun j _ _ hj => absurd hj (by omega)⟩
  · intro m e hL ⟨i, him, h5, hpre⟩
    simp only [kB, kC, cellsOf, fillA, partsEv, zeroes, Nat.reduceSub, Int.reduceToNat, Nat.reduceMul, asInt?, asNat?, Int.reduceAdd, Int.reduceLE, Int.reduceLT, Int.reduceNeg, Nat.reduceLeDiff, VOpd.ev, Nat.reduceEqDiff, Nat.reduceAdd, reduceIte, reduceCtorEq, splice, resOf, tupOf, cellsV, AV.toV, AV.cell?, cellVal] at hL
    obtain ⟨h0, h1⟩ := hL
    simp only [*, kB, kC, cellsOf, fillA, partsEv, zeroes, Nat.reduceSub, Int.reduceToNat, Nat.reduceMul, asInt?, asNat?, Int.reduceAdd, Int.reduceLE, Int.reduceLT, Int.reduceNeg, Nat.reduceLeDiff, VOpd.ev, Nat.reduceEqDiff, Nat.reduceAdd, reduceIte, reduceCtorEq, splice, resOf, tupOf, cellsV, AV.toV, AV.cell?, cellVal]
    refine condO_intro ?_ ?_ <;> intro hc <;> simp only [kB, kC, cellsOf, fillA, partsEv, zeroes, Nat.reduceSub, Int.reduceToNat, Nat.reduceMul, asInt?, asNat?, Int.reduceAdd, Int.reduceLE, Int.reduceLT, Int.reduceNeg, Nat.reduceLeDiff, VOpd.ev, Nat.reduceEqDiff, Nat.reduceAdd, reduceIte, reduceCtorEq, splice, resOf, tupOf, cellsV, AV.toV, AV.cell?, cellVal]
    · have hi : i < xs.length := by have := of_decide_eq_true hc; omega
      have hi2 : i < ys.length := by omega
      obtain ⟨b1, o1, he1, hn1, ha1, hm1⟩ := hv.get i (by simpa using hi)
      obtain ⟨b2, o2, he2, hn2, ha2, hm2⟩ := hw.get i (by simpa using (by omega : i < ys.length))
      simp only [List.getElem_mapIdx, BlkV.row] at hn1 hn2 ha1 ha2 hm1 hm2
      have p1 := fun L => ha1 L 0 (by omega)
      have p2 := fun L => ha2 L 0 (by omega)
      have q1 := fun L => ha1 L 5 (by omega)
      have q2 := fun L => ha2 L 5 (by omega)
      have r1 := fun L => hm1 L 1 4 (by omega)
      have r2 := fun L => hm2 L 1 4 (by omega)
      simp only [kB, kC, cellsOf, fillA, partsEv, zeroes, Nat.reduceSub, Int.reduceToNat, Nat.reduceMul, asInt?, asNat?, Int.reduceAdd, Int.reduceLE, Int.reduceLT, Int.reduceNeg, Nat.reduceLeDiff, VOpd.ev, Nat.reduceEqDiff, Nat.reduceAdd, reduceIte, reduceCtorEq, splice, resOf, tupOf, cellsV, AV.toV, AV.cell?, cellVal] at p1 p2 q1 q2 r1 r2
      simp only [*, h.P, c_neq_end, kB, kC, cellsOf, fillA, partsEv, zeroes, Nat.reduceSub, Int.reduceToNat, Nat.reduceMul, asInt?, asNat?, Int.reduceAdd, Int.reduceLE, Int.reduceLT, Int.reduceNeg, Nat.reduceLeDiff, VOpd.ev, Nat.reduceEqDiff, Nat.reduceAdd, reduceIte, reduceCtorEq, splice, resOf, tupOf, cellsV, AV.toV, AV.cell?, cellVal]
      have hso := j_r07_SameOps (st := st ++ []) h ((hvo i hi).mono []) ((hwo i hi2).mono []) (hops _ (List.getElem_mem hi))
      refine callO_same hso ?_
      have hxy : xs[i] = ys[i] ↔ (xs[i].ops = ys[i].ops ∧ endEq xs[i].e.k xs[i].e.a xs[i].e.t xs[i].e.e ys[i].e.k ys[i].e.a ys[i].e.t ys[i].e.e = true ∧ xs[i].catch_ = ys[i].catch_) := by
        rw [endEq_iff]
        cases hx : xs[i]; cases hy : ys[i]
        simp only [BlkV.mk.injEq]
        rename_i o1 e1 c1 o2 e2 c2
        cases e1; cases e2
        simp
      generalize xs[i].ops = A at *
      generalize ys[i].ops = B at *
      simp only [*, h.P, c_neq_end, kB, kC, cellsOf, fillA, partsEv, zeroes, Nat.reduceSub, Int.reduceToNat, Nat.reduceMul, asInt?, asNat?, Int.reduceAdd, Int.reduceLE, Int.reduceLT, Int.reduceNeg, Nat.reduceLeDiff, VOpd.ev, Nat.reduceEqDiff, Nat.reduceAdd, reduceIte, reduceCtorEq, splice, resOf, tupOf, cellsV, AV.toV, AV.cell?, cellVal]
      refine cutG (mS (mB m0)) [0, 1, 5] (fun _ => xs[i] = ys[i]) ?_ ?_
      · repeat' first
          | first | (refine gO_t ?_ ?_ <;> (intro hc; simp only [*, kB, kC, cellsOf, fillA, partsEv, zeroes, Nat.reduceSub, Int.reduceToNat, Nat.reduceMul, asInt?, asNat?, Int.reduceAdd, Int.reduceLE, Int.reduceLT, Int.reduceNeg, Nat.reduceLeDiff, VOpd.ev, Nat.reduceEqDiff, Nat.reduceAdd, reduceIte, reduceCtorEq, splice, resOf, tupOf, cellsV, AV.toV, AV.cell?, cellVal])) | (refine gO_f ?_ ?_ <;> (intro hc; simp only [*, kB, kC, cellsOf, fillA, partsEv, zeroes, Nat.reduceSub, Int.reduceToNat, Nat.reduceMul, asInt?, asNat?, Int.reduceAdd, Int.reduceLE, Int.reduceLT, Int.reduceNeg, Nat.reduceLeDiff, VOpd.ev, Nat.reduceEqDiff, Nat.reduceAdd, reduceIte, reduceCtorEq, splice, resOf, tupOf, cellsV, AV.toV, AV.cell?, cellVal])) | (refine condO_intro ?_ ?_ <;> (intro hc; simp only [*, kB, kC, cellsOf, fillA, partsEv, zeroes, Nat.reduceSub, Int.reduceToNat, Nat.reduceMul, asInt?, asNat?, Int.reduceAdd, Int.reduceLE, Int.reduceLT, Int.reduceNeg, Nat.reduceLeDiff, VOpd.ev, Nat.reduceEqDiff, Nat.reduceAdd, reduceIte, reduceCtorEq, splice, resOf, tupOf, cellsV, AV.toV, AV.cell?, cellVal]))
          | simp only [*, h.P, c_neq_end, kB, kC, cellsOf, fillA, partsEv, zeroes, Nat.reduceSub, Int.reduceToNat, Nat.reduceMul, asInt?, asNat?, Int.reduceAdd, Int.reduceLE, Int.reduceLT, Int.reduceNeg, Nat.reduceLeDiff, VOpd.ev, Nat.reduceEqDiff, Nat.reduceAdd, reduceIte, reduceCtorEq, splice, resOf, tupOf, cellsV, AV.toV, AV.cell?, cellVal]
        iterate 3
          have hne2 : xs ≠ ys := fun e => by
            have hx : xs[i] = ys[i] := by subst e; rfl
            obtain ⟨x1, x2, x3⟩ := hxy.1 hx
            simp [x1, x2, x3] at hc
          · simp only [hne2, decide_false]
            exact ⟨trivial, _, rfl⟩
        simp_all
      · intro e1 hL hR
        simp only [kB, kC, cellsOf, fillA, partsEv, zeroes, Nat.reduceSub, Int.reduceToNat, Nat.reduceMul, asInt?, asNat?, Int.reduceAdd, Int.reduceLE, Int.reduceLT, Int.reduceNeg, Nat.reduceLeDiff, VOpd.ev, Nat.reduceEqDiff, Nat.reduceAdd, reduceIte, reduceCtorEq, splice, resOf, tupOf, cellsV, AV.toV, AV.cell?, cellVal] at hL ⊢
        simp only [h0, h1, h5] at hL
        obtain ⟨g0, g1, g5⟩ := hL
        simp only [*, kB, kC, cellsOf, fillA, partsEv, zeroes, Nat.reduceSub, Int.reduceToNat, Nat.reduceMul, asInt?, asNat?, Int.reduceAdd, Int.reduceLE, Int.reduceLT, Int.reduceNeg, Nat.reduceLeDiff, VOpd.ev, Nat.reduceEqDiff, Nat.reduceAdd, reduceIte, reduceCtorEq, splice, resOf, tupOf, cellsV, AV.toV, AV.cell?, cellVal]
        rw [wrap_small (by omega) (by omega)]
        refine ⟨m - 1, by omega, i + 1, by omega, by simp, fun j h1 h2 hj => ?_⟩
        by_cases hji : j = i
        · subst hji; exact hR
        · exact hpre j (by omega) h2 (by omega)
    · have hi : i = xs.length := by have := of_decide_eq_false hc; omega
      have : xs = ys := List.ext_getElem hne fun j h1 h2 => hpre j h1 h2 (by omega)
      simp only [this, kB, kC, cellsOf, fillA, partsEv, zeroes, Nat.reduceSub, Int.reduceToNat, Nat.reduceMul, asInt?, asNat?, Int.reduceAdd, Int.reduceLE, Int.reduceLT, Int.reduceNeg, Nat.reduceLeDiff, VOpd.ev, Nat.reduceEqDiff, Nat.reduceAdd, reduceIte, reduceCtorEq, splice, resOf, tupOf, cellsV, AV.toV, AV.cell?, cellVal]
      first | exact ⟨_, rfl⟩ | exact ⟨rfl, _, rfl⟩ | exact ⟨trivial, _, rfl⟩ | exact ⟨[], (List.append_nil _).symm⟩
end
end Go.VX.Seat
end
