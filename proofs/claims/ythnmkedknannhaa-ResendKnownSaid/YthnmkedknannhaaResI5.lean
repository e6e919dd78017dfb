/- The small language's text of the functions; printed by ShowI.lean. -/
import Derived.Test.YthnmkedknannhaaProg
import Derived.Test.YthnmkedknannhaaAbRuns
namespace Go.Proofs.Res
open Go.Ab
abbrev i5r0 : List IOper := [
  ⟨(some 0), .mv (.c (.b false)), none, false⟩]
abbrev i5r1 : List IOper := [
  ⟨(some 37), .build [.i .i64 0, .b false, .i .i64 0, .ns] [], none, false⟩,
  ⟨(some 38), .call (.c (.fn 23 [])) [.t 37, .c (.i .i64 0), .c (.i .i64 65535)], none, false⟩,
  ⟨(some 39), .call (.c (.fn 23 [])) [.t 38, .c (.i .i64 0), .c (.i .i64 1)], none, false⟩,
  ⟨(some 1), .new [.i .i64 0, .b false, .i .i64 0, .ns], none, false⟩,
  ⟨none, .st 4 (.t 1) (.t 39), none, false⟩]
abbrev i5r2 : List IOper := [
  ⟨(some 40), .fa 3 (.t 1), none, false⟩,
  ⟨(some 41), .ld false 1 (.t 40), none, false⟩,
  ⟨(some 42), .lenV (.t 41), none, false⟩,
  ⟨(some 43), .bin .eql (.t 42) (.c (.i .i64 1)), none, false⟩,
  ⟨(some 44), .mv (.t 43), none, true⟩,
  ⟨(some 45), .fa 3 (.t 1), (some (44, true)), false⟩,
  ⟨(some 46), .ld false 1 (.t 45), (some (44, true)), false⟩,
  ⟨(some 47), .ixaV 4 (.t 46) (.c (.i .i64 0)), (some (44, true)), false⟩,
  ⟨(some 48), .ld true 4 (.t 47), (some (44, true)), false⟩,
  ⟨(some 49), .build [.i .i64 0, .i .i64 0, .i .i64 0, .i .i64 0] [], (some (44, true)), false⟩,
  ⟨(some 50), .eqk false true [.i, .i, .i, .i] (.t 48) (.t 49), (some (44, true)), false⟩,
  ⟨(some 51), .pick (.t 44) (.t 50) (.c (.b false)), none, false⟩,
  ⟨(some 2), .mv (.t 51), none, false⟩]
abbrev i5r3 : List IOper := [
  ⟨(some 52), .bsl [.i .i64 0, .i .i64 0, .i .i64 0, .i .i64 0, .i .i64 0, .i .i64 0] 6 [(0, 1, .c (.i .i64 0)), (1, 1, .c (.i .i64 10)), (2, 1, .c (.i .i64 30)), (3, 1, .c (.i .i64 70)), (4, 1, .c (.i .i64 150)), (5, 1, .c (.i .i64 310))], none, false⟩,
  ⟨(some 53), .lenV (.t 52), none, false⟩,
  ⟨(some 54), .mv (.c (.i .i64 0)), none, false⟩]
abbrev i5r4 : List IOper := [
  ⟨(some 55), .bin .lss (.t 54) (.t 53), none, true⟩]
abbrev i5r5 : List IOper := [
  ⟨(some 56), .mv (.t 54), none, false⟩,
  ⟨(some 57), .ixaV 1 (.t 52) (.t 54), none, false⟩,
  ⟨(some 58), .ld false 1 (.t 57), none, false⟩,
  ⟨(some 3), .mv (.t 56), none, false⟩,
  ⟨(some 4), .mv (.t 58), none, false⟩]
abbrev i5r6 : List IOper := [
  ⟨(some 60), .ld true 4 (.t 1), none, false⟩,
  ⟨(some 61), .mv (.t 4), none, false⟩,
  ⟨(some 62), .bsl [.i .i64 0] 1 [(0, 1, .c (.i .i64 0))], none, false⟩,
  ⟨(some 63), .call (.c (.fn 24 [])) [.t 60, .t 61, .c (.i .i64 10), .c (.b false), .t 62], none, false⟩,
  ⟨(some 59), .mv (.t 63), none, false⟩,
  ⟨(some 64), .ext (.t 59) 0, none, false⟩,
  ⟨(some 65), .ext (.t 59) 1, none, false⟩,
  ⟨(some 5), .new [.i .i64 0, .b false, .i .i64 0, .ns], none, false⟩,
  ⟨none, .st 4 (.t 5) (.t 64), none, false⟩,
  ⟨(some 6), .mv (.t 65), none, false⟩]
abbrev i5r7 : List (IOper × List Nat) := [
  (⟨(some 66), .mv (.t 2), none, false⟩, []),
  (⟨(some 67), .mv (.t 66), none, true⟩, []),
  (⟨(some 68), .mv (.t 6), (some (67, true)), false⟩, []),
  (⟨(some 69), .pick (.t 67) (.t 68) (.c (.b false)), none, false⟩, []),
  (⟨(some 70), .mv (.t 69), none, true⟩, []),
  (⟨(some 71), .fa 3 (.t 5), (some (70, true)), false⟩, []),
  (⟨(some 72), .ld false 1 (.t 71), (some (70, true)), false⟩, []),
  (⟨(some 73), .lenV (.t 72), (some (70, true)), false⟩, []),
  (⟨(some 74), .bin .eql (.t 73) (.c (.i .i64 1)), (some (70, true)), false⟩, []),
  (⟨(some 75), .pick (.t 70) (.t 74) (.c (.b false)), none, false⟩, []),
  (⟨(some 76), .mv (.t 75), none, true⟩, []),
  (⟨(some 77), .fa 3 (.t 5), (some (76, true)), false⟩, []),
  (⟨(some 78), .ld false 1 (.t 77), (some (76, true)), false⟩, []),
  (⟨(some 79), .ixaV 4 (.t 78) (.c (.i .i64 0)), (some (76, true)), false⟩, []),
  (⟨(some 80), .fa 3 (.t 79), (some (76, true)), false⟩, []),
  (⟨(some 81), .ld false 1 (.t 80), (some (76, true)), false⟩, []),
  (⟨(some 82), .mv (.t 3), (some (76, true)), false⟩, [11, 12, 13, 14, 15]),
  (⟨(some 83), .bin .add (.t 82) (.c (.i .i64 1)), (some (76, true)), false⟩, [11, 12, 13, 14, 15]),
  (⟨(some 84), .bin .eql (.t 81) (.t 83), (some (76, true)), false⟩, []),
  (⟨(some 85), .pick (.t 76) (.t 84) (.c (.b false)), none, false⟩, []),
  (⟨(some 86), .mv (.t 85), none, true⟩, []),
  (⟨(some 87), .mv (.t 3), (some (86, true)), false⟩, []),
  (⟨(some 88), .bin .eql (.t 87) (.c (.i .i64 5)), (some (86, true)), false⟩, []),
  (⟨(some 89), .mv (.t 88), (some (86, true)), true⟩, []),
  (⟨(some 90), .ld true 4 (.t 5), (some (89, false)), false⟩, []),
  (⟨(some 91), .bsl [.i .i64 0, .i .i64 0, .i .i64 0, .i .i64 0, .i .i64 0, .i .i64 0] 6 [(0, 1, .c (.i .i64 10)), (1, 1, .c (.i .i64 30)), (2, 1, .c (.i .i64 70)), (3, 1, .c (.i .i64 150)), (4, 1, .c (.i .i64 310)), (5, 1, .c (.i .i64 0))], (some (89, false)), false⟩, [24]),
  (⟨(some 92), .mv (.t 3), (some (89, false)), false⟩, [24, 25]),
  (⟨(some 93), .ixaV 1 (.t 91) (.t 92), (some (89, false)), false⟩, [24]),
  (⟨(some 94), .ld false 1 (.t 93), (some (89, false)), false⟩, [24]),
  (⟨(some 95), .call (.c (.fn 25 [])) [.t 90, .c (.i .i64 10), .t 94], (some (89, false)), false⟩, []),
  (⟨(some 96), .pick (.t 89) (.c (.b true)) (.t 95), (some (86, true)), false⟩, []),
  (⟨(some 97), .pick (.t 86) (.t 96) (.c (.b false)), none, false⟩, []),
  (⟨(some 2), .mv (.t 97), none, false⟩, [])]
abbrev i5r8 : List IOper := [
  ⟨(some 98), .ld true 4 (.t 5), none, false⟩,
  ⟨none, .st 4 (.t 1) (.t 98), none, false⟩]
abbrev i5r9 : List IOper := [
  ⟨(some 99), .mv (.t 2), none, false⟩,
  ⟨(some 100), .not (.t 99), none, true⟩]
abbrev i5r10 : List IOper := [
  ⟨(some 0), .mv (.c (.b false)), none, false⟩]
abbrev i5r11 : List IOper := [
  ⟨(some 101), .bin .add (.t 54) (.c (.i .i64 1)), none, false⟩,
  ⟨(some 54), .mv (.t 101), none, false⟩]
abbrev i5l12 : ICode := (.seq (.reg i5r4) (.seq (.cond (.t 55) .skip (.exit 0)) (.seq (.block 1 (.seq (.reg i5r5) (.seq (.reg i5r6) (.seq (.dreg i5r7) (.seq (.reg i5r8) (.seq (.reg i5r9) (.cond (.t 100) (.seq (.reg i5r10) .ret) .skip))))))) (.reg i5r11))))
abbrev i5r13 : List IOper := [
  ⟨(some 103), .ld true 4 (.t 1), none, false⟩,
  ⟨(some 104), .call (.c (.fn 24 [])) [.t 103, .c (.i .i64 629), .c (.i .i64 10), .c (.b false), .c (.ns)], none, false⟩,
  ⟨(some 102), .mv (.t 104), none, false⟩,
  ⟨(some 105), .ext (.t 102) 0, none, false⟩,
  ⟨(some 106), .ext (.t 102) 1, none, false⟩,
  ⟨(some 7), .new [.i .i64 0, .b false, .i .i64 0, .ns], none, false⟩,
  ⟨none, .st 4 (.t 7) (.t 105), none, false⟩,
  ⟨(some 8), .mv (.t 106), none, false⟩]
abbrev i5r14 : List IOper := [
  ⟨(some 108), .ld true 4 (.t 1), none, false⟩,
  ⟨(some 109), .call (.c (.fn 24 [])) [.t 108, .c (.i .i64 630), .c (.i .i64 10), .c (.b true), .c (.ns)], none, false⟩,
  ⟨(some 107), .mv (.t 109), none, false⟩,
  ⟨(some 110), .ext (.t 107) 0, none, false⟩,
  ⟨(some 111), .ext (.t 107) 1, none, false⟩,
  ⟨(some 9), .new [.i .i64 0, .b false, .i .i64 0, .ns], none, false⟩,
  ⟨none, .st 4 (.t 9) (.t 110), none, false⟩,
  ⟨(some 10), .mv (.t 111), none, false⟩]
abbrev i5r15 : List IOper := [
  ⟨(some 113), .ld true 4 (.t 9), none, false⟩,
  ⟨(some 114), .call (.c (.fn 18 [])) [.t 113, .c (.i .i64 10)], none, false⟩,
  ⟨(some 112), .mv (.t 114), none, false⟩,
  ⟨(some 115), .ext (.t 112) 0, none, false⟩,
  ⟨(some 116), .ext (.t 112) 1, none, false⟩,
  ⟨(some 11), .mv (.t 115), none, false⟩,
  ⟨(some 12), .mv (.t 116), none, false⟩]
abbrev i5r16 : List IOper := [
  ⟨(some 118), .build [.i .i64 0, .b false, .i .i64 0, .ns] [], none, false⟩,
  ⟨(some 119), .call (.c (.fn 23 [])) [.t 118, .c (.i .i64 0), .c (.i .i64 0)], none, false⟩,
  ⟨(some 120), .call (.c (.fn 23 [])) [.t 119, .c (.i .i64 0), .c (.i .i64 2)], none, false⟩,
  ⟨(some 121), .bsl [.i .i64 0] 1 [(0, 1, .c (.i .i64 1))], none, false⟩,
  ⟨(some 122), .call (.c (.fn 24 [])) [.t 120, .c (.i .i64 0), .c (.i .i64 2000), .c (.b false), .t 121], none, false⟩,
  ⟨(some 117), .mv (.t 122), none, false⟩,
  ⟨(some 123), .ext (.t 117) 0, none, false⟩,
  ⟨(some 124), .ext (.t 117) 1, none, false⟩,
  ⟨(some 13), .new [.i .i64 0, .b false, .i .i64 0, .ns], none, false⟩,
  ⟨none, .st 4 (.t 13) (.t 123), none, false⟩,
  ⟨(some 14), .mv (.t 124), none, false⟩]
abbrev i5r17 : List IOper := [
  ⟨(some 126), .ld true 4 (.t 13), none, false⟩,
  ⟨(some 127), .call (.c (.fn 24 [])) [.t 126, .c (.i .i64 999), .c (.i .i64 2000), .c (.b false), .c (.ns)], none, false⟩,
  ⟨(some 125), .mv (.t 127), none, false⟩,
  ⟨(some 128), .ext (.t 125) 0, none, false⟩,
  ⟨(some 129), .ext (.t 125) 1, none, false⟩,
  ⟨(some 15), .new [.i .i64 0, .b false, .i .i64 0, .ns], none, false⟩,
  ⟨none, .st 4 (.t 15) (.t 128), none, false⟩,
  ⟨(some 16), .mv (.t 129), none, false⟩]
abbrev i5r18 : List IOper := [
  ⟨(some 131), .ld true 4 (.t 13), none, false⟩,
  ⟨(some 132), .bsl [.i .i64 0] 1 [(0, 1, .c (.i .i64 1))], none, false⟩,
  ⟨(some 133), .call (.c (.fn 24 [])) [.t 131, .c (.i .i64 1000), .c (.i .i64 2000), .c (.b false), .t 132], none, false⟩,
  ⟨(some 130), .mv (.t 133), none, false⟩,
  ⟨(some 134), .ext (.t 130) 0, none, false⟩,
  ⟨(some 135), .ext (.t 130) 1, none, false⟩,
  ⟨(some 17), .new [.i .i64 0, .b false, .i .i64 0, .ns], none, false⟩,
  ⟨none, .st 4 (.t 17) (.t 134), none, false⟩,
  ⟨(some 18), .mv (.t 135), none, false⟩]
abbrev i5r19 : List IOper := [
  ⟨(some 136), .build [.i .i64 0, .b false, .i .i64 0, .ns] [], none, false⟩,
  ⟨(some 137), .call (.c (.fn 23 [])) [.t 136, .c (.i .i64 0), .c (.i .i64 0)], none, false⟩,
  ⟨(some 138), .call (.c (.fn 23 [])) [.t 137, .c (.i .i64 0), .c (.i .i64 64)], none, false⟩,
  ⟨(some 19), .new [.i .i64 0, .b false, .i .i64 0, .ns], none, false⟩,
  ⟨none, .st 4 (.t 19) (.t 138), none, false⟩]
abbrev i5r20 : List IOper := [
  ⟨(some 140), .ld true 4 (.t 19), none, false⟩,
  ⟨(some 141), .call (.c (.fn 13 [])) [.t 140, .c (.i .i64 0), .c (.i .i64 67)], none, false⟩,
  ⟨(some 139), .mv (.t 141), none, false⟩,
  ⟨(some 142), .ext (.t 139) 0, none, false⟩,
  ⟨(some 143), .ext (.t 139) 1, none, false⟩,
  ⟨(some 20), .new [.i .i64 0, .b false, .i .i64 0, .ns], none, false⟩,
  ⟨none, .st 4 (.t 20) (.t 142), none, false⟩,
  ⟨(some 21), .mv (.t 143), none, false⟩]
abbrev i5r21 : List IOper := [
  ⟨(some 145), .ld true 4 (.t 19), none, false⟩,
  ⟨(some 146), .call (.c (.fn 13 [])) [.t 145, .c (.i .i64 0), .c (.i .i64 66)], none, false⟩,
  ⟨(some 144), .mv (.t 146), none, false⟩,
  ⟨(some 147), .ext (.t 144) 0, none, false⟩,
  ⟨(some 148), .ext (.t 144) 1, none, false⟩,
  ⟨(some 22), .new [.i .i64 0, .b false, .i .i64 0, .ns], none, false⟩,
  ⟨none, .st 4 (.t 22) (.t 147), none, false⟩,
  ⟨(some 23), .mv (.t 148), none, false⟩]
abbrev i5r22 : List IOper := [
  ⟨(some 150), .ld true 4 (.t 22), none, false⟩,
  ⟨(some 151), .call (.c (.fn 13 [])) [.t 150, .c (.i .i64 1099511627777), .c (.i .i64 70000)], none, false⟩,
  ⟨(some 149), .mv (.t 151), none, false⟩,
  ⟨(some 152), .ext (.t 149) 0, none, false⟩,
  ⟨(some 153), .ext (.t 149) 1, none, false⟩,
  ⟨(some 24), .new [.i .i64 0, .b false, .i .i64 0, .ns], none, false⟩,
  ⟨none, .st 4 (.t 24) (.t 152), none, false⟩,
  ⟨(some 25), .mv (.t 153), none, false⟩]
abbrev i5r23 : List IOper := [
  ⟨(some 155), .ld true 4 (.t 22), none, false⟩,
  ⟨(some 156), .call (.c (.fn 13 [])) [.t 155, .c (.i .i64 0), .c (.i .i64 70000)], none, false⟩,
  ⟨(some 154), .mv (.t 156), none, false⟩,
  ⟨(some 157), .ext (.t 154) 0, none, false⟩,
  ⟨(some 158), .ext (.t 154) 1, none, false⟩,
  ⟨(some 26), .new [.i .i64 0, .b false, .i .i64 0, .ns], none, false⟩,
  ⟨none, .st 4 (.t 26) (.t 157), none, false⟩,
  ⟨(some 27), .mv (.t 158), none, false⟩]
abbrev i5r24 : List IOper := [
  ⟨(some 160), .ld true 4 (.t 22), none, false⟩,
  ⟨(some 161), .call (.c (.fn 20 [])) [.t 160, .c (.i .i64 0), .c (.i .i64 2001)], none, false⟩,
  ⟨(some 159), .mv (.t 161), none, false⟩,
  ⟨(some 162), .ext (.t 159) 0, none, false⟩,
  ⟨(some 163), .ext (.t 159) 1, none, false⟩,
  ⟨(some 164), .ext (.t 159) 2, none, false⟩,
  ⟨(some 165), .ext (.t 159) 3, none, false⟩,
  ⟨(some 28), .new [.i .i64 0, .b false, .i .i64 0, .ns], none, false⟩,
  ⟨none, .st 4 (.t 28) (.t 162), none, false⟩,
  ⟨(some 29), .mv (.t 163), none, false⟩,
  ⟨(some 30), .mv (.t 164), none, false⟩,
  ⟨(some 31), .mv (.t 165), none, false⟩]
abbrev i5r25 : List IOper := [
  ⟨(some 167), .build [.i .i64 0, .b false, .i .i64 0, .ns] [(2, 1, .c (.i .i64 1))], none, false⟩,
  ⟨(some 168), .call (.c (.fn 18 [])) [.t 167, .c (.i .i64 0)], none, false⟩,
  ⟨(some 166), .mv (.t 168), none, false⟩,
  ⟨(some 169), .ext (.t 166) 0, none, false⟩,
  ⟨(some 170), .ext (.t 166) 1, none, false⟩,
  ⟨(some 32), .mv (.t 169), none, false⟩,
  ⟨(some 33), .mv (.t 170), none, false⟩]
abbrev i5r26 : List IOper := [
  ⟨(some 171), .build [.i .i64 0, .b false, .i .i64 0, .ns] [], none, false⟩,
  ⟨(some 172), .call (.c (.fn 23 [])) [.t 171, .c (.i .i64 0), .c (.i .i64 0)], none, false⟩,
  ⟨(some 173), .call (.c (.fn 23 [])) [.t 172, .c (.i .i64 0), .c (.i .i64 2)], none, false⟩,
  ⟨(some 34), .new [.i .i64 0, .b false, .i .i64 0, .ns], none, false⟩,
  ⟨none, .st 4 (.t 34) (.t 173), none, false⟩]
abbrev i5r27 : List IOper := [
  ⟨(some 35), .mv (.c (.i .i64 3)), none, false⟩]
abbrev i5r28 : List IOper := [
  ⟨(some 174), .mv (.t 35), none, false⟩,
  ⟨(some 175), .bin .leq (.t 174) (.c (.i .i64 1001)), none, true⟩]
abbrev i5r29 : List IOper := [
  ⟨(some 178), .ld true 4 (.t 34), none, false⟩,
  ⟨(some 179), .mv (.t 35), none, false⟩,
  ⟨(some 180), .call (.c (.fn 23 [])) [.t 178, .c (.i .i64 0), .t 179], none, false⟩,
  ⟨none, .st 4 (.t 34) (.t 180), none, false⟩]
abbrev i5r30 : List IOper := [
  ⟨(some 176), .mv (.t 35), none, false⟩,
  ⟨(some 177), .bin .add (.t 176) (.c (.i .i64 1)), none, false⟩,
  ⟨(some 35), .mv (.t 177), none, false⟩]
abbrev i5l31 : ICode := (.seq (.seq (.reg i5r28) (.cond (.t 175) .skip (.exit 2))) (.seq (.block 3 (.reg i5r29)) (.reg i5r30)))
abbrev i5r32 : List IOper := [
  ⟨(some 181), .fa 3 (.t 34), none, false⟩,
  ⟨(some 182), .ld false 1 (.t 181), none, false⟩,
  ⟨(some 183), .lenV (.t 182), none, false⟩,
  ⟨(some 36), .mv (.t 183), none, false⟩]
abbrev i5r33 : List IOper := [
  ⟨(some 184), .ld true 4 (.t 34), none, false⟩,
  ⟨(some 185), .call (.c (.fn 23 [])) [.t 184, .c (.i .i64 0), .c (.i .i64 1002)], none, false⟩,
  ⟨none, .st 4 (.t 34) (.t 185), none, false⟩]
abbrev i5r34 : List IOper := [
  ⟨(some 186), .mv (.t 8), none, false⟩,
  ⟨(some 187), .not (.t 186), none, false⟩,
  ⟨(some 188), .mv (.t 187), none, true⟩,
  ⟨(some 189), .mv (.t 10), (some (188, false)), false⟩,
  ⟨(some 190), .not (.t 189), (some (188, false)), false⟩,
  ⟨(some 191), .pick (.t 188) (.c (.b true)) (.t 190), none, false⟩,
  ⟨(some 192), .mv (.t 191), none, true⟩,
  ⟨(some 193), .mv (.t 12), (some (192, false)), false⟩,
  ⟨(some 194), .bin .neq (.t 193) (.c (.i .i64 4)), (some (192, false)), false⟩,
  ⟨(some 195), .pick (.t 192) (.c (.b true)) (.t 194), none, false⟩,
  ⟨(some 196), .mv (.t 195), none, true⟩,
  ⟨(some 197), .mv (.t 14), (some (196, false)), false⟩,
  ⟨(some 198), .not (.t 197), (some (196, false)), false⟩,
  ⟨(some 199), .pick (.t 196) (.c (.b true)) (.t 198), none, false⟩,
  ⟨(some 200), .mv (.t 199), none, true⟩,
  ⟨(some 201), .mv (.t 16), (some (200, false)), false⟩,
  ⟨(some 202), .not (.t 201), (some (200, false)), false⟩,
  ⟨(some 203), .pick (.t 200) (.c (.b true)) (.t 202), none, false⟩,
  ⟨(some 204), .mv (.t 203), none, true⟩,
  ⟨(some 205), .mv (.t 18), (some (204, false)), false⟩,
  ⟨(some 206), .not (.t 205), (some (204, false)), false⟩,
  ⟨(some 207), .pick (.t 204) (.c (.b true)) (.t 206), none, false⟩,
  ⟨(some 208), .mv (.t 207), none, true⟩,
  ⟨(some 209), .mv (.t 21), (some (208, false)), false⟩,
  ⟨(some 210), .bin .neq (.t 209) (.c (.i .i64 3)), (some (208, false)), false⟩,
  ⟨(some 211), .pick (.t 208) (.c (.b true)) (.t 210), none, false⟩,
  ⟨(some 212), .mv (.t 211), none, true⟩,
  ⟨(some 213), .mv (.t 23), (some (212, false)), false⟩,
  ⟨(some 214), .bin .neq (.t 213) (.c (.i .i64 0)), (some (212, false)), false⟩,
  ⟨(some 215), .pick (.t 212) (.c (.b true)) (.t 214), none, false⟩,
  ⟨(some 216), .mv (.t 215), none, true⟩,
  ⟨(some 217), .fa 3 (.t 22), (some (216, false)), false⟩,
  ⟨(some 218), .ld false 1 (.t 217), (some (216, false)), false⟩,
  ⟨(some 219), .lenV (.t 218), (some (216, false)), false⟩,
  ⟨(some 220), .bin .neq (.t 219) (.c (.i .i64 64)), (some (216, false)), false⟩,
  ⟨(some 221), .pick (.t 216) (.c (.b true)) (.t 220), none, false⟩,
  ⟨(some 222), .mv (.t 221), none, true⟩,
  ⟨(some 223), .mv (.t 25), (some (222, false)), false⟩,
  ⟨(some 224), .bin .neq (.t 223) (.c (.i .i64 2)), (some (222, false)), false⟩,
  ⟨(some 225), .pick (.t 222) (.c (.b true)) (.t 224), none, false⟩,
  ⟨(some 226), .mv (.t 225), none, true⟩,
  ⟨(some 227), .mv (.t 27), (some (226, false)), false⟩,
  ⟨(some 228), .bin .neq (.t 227) (.c (.i .i64 2)), (some (226, false)), false⟩,
  ⟨(some 229), .pick (.t 226) (.c (.b true)) (.t 228), none, false⟩,
  ⟨(some 230), .mv (.t 229), none, true⟩,
  ⟨(some 231), .mv (.t 31), (some (230, false)), false⟩,
  ⟨(some 232), .bin .neq (.t 231) (.c (.i .i64 2)), (some (230, false)), false⟩,
  ⟨(some 233), .pick (.t 230) (.c (.b true)) (.t 232), none, false⟩,
  ⟨(some 234), .mv (.t 233), none, true⟩,
  ⟨(some 235), .mv (.t 33), (some (234, false)), false⟩,
  ⟨(some 236), .bin .neq (.t 235) (.c (.i .i64 280)), (some (234, false)), false⟩,
  ⟨(some 237), .pick (.t 234) (.c (.b true)) (.t 236), none, false⟩,
  ⟨(some 238), .mv (.t 237), none, true⟩,
  ⟨(some 239), .mv (.t 36), (some (238, false)), false⟩,
  ⟨(some 240), .bin .neq (.t 239) (.c (.i .i64 1)), (some (238, false)), false⟩,
  ⟨(some 241), .pick (.t 238) (.c (.b true)) (.t 240), none, false⟩,
  ⟨(some 242), .mv (.t 241), none, true⟩,
  ⟨(some 243), .fa 3 (.t 34), (some (242, false)), false⟩,
  ⟨(some 244), .ld false 1 (.t 243), (some (242, false)), false⟩,
  ⟨(some 245), .lenV (.t 244), (some (242, false)), false⟩,
  ⟨(some 246), .bin .neq (.t 245) (.c (.i .i64 0)), (some (242, false)), false⟩,
  ⟨(some 247), .pick (.t 242) (.c (.b true)) (.t 246), none, true⟩]
abbrev i5r35 : List IOper := [
  ⟨(some 0), .mv (.c (.b false)), none, false⟩]
abbrev i5r36 : List IOper := [
  ⟨(some 248), .mv (.c (.b true)), none, true⟩,
  ⟨(some 249), .call (.c (.fn 16 [])) [], (some (248, true)), false⟩,
  ⟨(some 250), .pick (.t 248) (.t 249) (.c (.b false)), none, false⟩,
  ⟨(some 251), .mv (.t 250), none, true⟩,
  ⟨(some 252), .call (.c (.fn 26 [])) [], (some (251, true)), false⟩,
  ⟨(some 253), .pick (.t 251) (.t 252) (.c (.b false)), none, false⟩,
  ⟨(some 0), .mv (.t 253), none, false⟩]
abbrev i5c : ICode := (.seq (.reg i5r0) (.seq (.reg i5r1) (.seq (.reg i5r2) (.seq (.seq (.reg i5r3) (.block 0 (.loop i5l12))) (.seq (.reg i5r13) (.seq (.reg i5r14) (.seq (.reg i5r15) (.seq (.reg i5r16) (.seq (.reg i5r17) (.seq (.reg i5r18) (.seq (.reg i5r19) (.seq (.reg i5r20) (.seq (.reg i5r21) (.seq (.reg i5r22) (.seq (.reg i5r23) (.seq (.reg i5r24) (.seq (.reg i5r25) (.seq (.reg i5r26) (.seq (.seq (.reg i5r27) (.block 2 (.loop i5l31))) (.seq (.reg i5r32) (.seq (.reg i5r33) (.seq (.seq (.reg i5r34) (.cond (.t 247) (.seq (.reg i5r35) .ret) .skip)) (.seq (.reg i5r36) .ret)))))))))))))))))))))))
def i5 : IFn := { np := 0, N := 254, ct := [55, 100, 175, 247], code := i5c, res := [.t 0] }
theorem i5_eq : compF Try.prog Try.f5 = some i5 := by kernel_rfl
abbrev i26r0 : List IOper := [
  ⟨(some 0), .mv (.c (.b false)), none, false⟩]
abbrev i26r1 : List IOper := [
  ⟨(some 38), .call (.c (.fn 32 [])) [.c (.i .i64 0), .c (.i .i64 0), .c (.i .i64 65535)], none, false⟩,
  ⟨(some 37), .mv (.t 38), none, false⟩,
  ⟨(some 39), .ext (.t 37) 0, none, false⟩,
  ⟨(some 40), .ext (.t 37) 1, none, false⟩,
  ⟨(some 1), .new [.i .i64 0, .i .i64 0, .i .i64 0, .i .i64 0, .ns], none, false⟩,
  ⟨none, .st 5 (.t 1) (.t 39), none, false⟩,
  ⟨(some 2), .mv (.t 40), none, false⟩]
abbrev i26r2 : List IOper := [
  ⟨(some 41), .mv (.c (.i .i64 0)), none, false⟩]
abbrev i26r3 : List IOper := [
  ⟨(some 42), .bin .lss (.t 41) (.c (.i .i64 65)), none, true⟩]
abbrev i26r4 : List IOper := [
  ⟨(some 43), .mv (.t 41), none, false⟩,
  ⟨(some 3), .mv (.t 43), none, false⟩]
abbrev i26r5 : List (IOper × List Nat) := [
  (⟨(some 45), .ld true 5 (.t 1), none, false⟩, []),
  (⟨(some 46), .mv (.t 3), none, false⟩, [0]),
  (⟨(some 47), .call (.c (.fn 34 [])) [.t 46], none, false⟩, [0]),
  (⟨(some 48), .call (.c (.fn 33 [])) [.t 45, .c (.i .i64 0), .t 47], none, false⟩, []),
  (⟨(some 44), .mv (.t 48), none, false⟩, []),
  (⟨(some 49), .ext (.t 44) 0, none, false⟩, []),
  (⟨(some 50), .ext (.t 44) 1, none, false⟩, [5]),
  (⟨(some 4), .new [.i .i64 0, .i .i64 0, .i .i64 0, .i .i64 0, .ns], none, false⟩, [0, 1, 2, 3, 4, 5, 6]),
  (⟨none, .st 5 (.t 4) (.t 49), none, false⟩, [6]),
  (⟨(some 5), .mv (.t 50), none, false⟩, [])]
abbrev i26r6 : List IOper := [
  ⟨(some 51), .mv (.t 5), none, false⟩,
  ⟨(some 52), .bin .neq (.t 51) (.c (.i .i64 0)), none, true⟩]
abbrev i26r7 : List IOper := [
  ⟨(some 0), .mv (.c (.b false)), none, false⟩]
abbrev i26r8 : List IOper := [
  ⟨(some 53), .ld true 5 (.t 4), none, false⟩,
  ⟨none, .st 5 (.t 1) (.t 53), none, false⟩]
abbrev i26r9 : List IOper := [
  ⟨(some 54), .bin .add (.t 41) (.c (.i .i64 1)), none, false⟩,
  ⟨(some 41), .mv (.t 54), none, false⟩]
abbrev i26l10 : ICode := (.seq (.reg i26r3) (.seq (.cond (.t 42) .skip (.exit 0)) (.seq (.block 1 (.seq (.reg i26r4) (.seq (.dreg i26r5) (.seq (.seq (.reg i26r6) (.cond (.t 52) (.seq (.reg i26r7) .ret) .skip)) (.reg i26r8))))) (.reg i26r9))))
abbrev i26r11 : List IOper := [
  ⟨(some 56), .ld true 5 (.t 1), none, false⟩,
  ⟨(some 57), .bsl [.i .i64 0, .i .i64 0, .i .i64 0, .i .i64 0] 4 [(0, 1, .c (.i .i64 0)), (1, 1, .c (.i .i64 1)), (2, 1, .c (.i .i64 64)), (3, 1, .c (.i .i64 64))], none, false⟩,
  ⟨(some 58), .call (.c (.fn 37 [])) [.t 56, .c (.i .i64 2000), .c (.i .i64 2000), .t 57], none, false⟩,
  ⟨(some 55), .mv (.t 58), none, false⟩,
  ⟨(some 59), .ext (.t 55) 0, none, false⟩,
  ⟨(some 60), .ext (.t 55) 1, none, false⟩,
  ⟨(some 61), .ext (.t 55) 2, none, false⟩,
  ⟨(some 6), .new [.i .i64 0, .i .i64 0, .i .i64 0, .i .i64 0, .ns], none, false⟩,
  ⟨none, .st 5 (.t 6) (.t 59), none, false⟩,
  ⟨(some 7), .mv (.t 60), none, false⟩,
  ⟨(some 8), .mv (.t 61), none, false⟩]
abbrev i26r12 : List IOper := [
  ⟨(some 63), .ld true 5 (.t 1), none, false⟩,
  ⟨(some 64), .bsl [.i .i64 0, .i .i64 0] 2 [(0, 1, .c (.i .i64 1)), (1, 1, .c (.i .i64 64))], none, false⟩,
  ⟨(some 65), .call (.c (.fn 37 [])) [.t 63, .c (.i .i64 2001), .c (.i .i64 2000), .t 64], none, false⟩,
  ⟨(some 62), .mv (.t 65), none, false⟩,
  ⟨(some 66), .ext (.t 62) 0, none, false⟩,
  ⟨(some 67), .ext (.t 62) 1, none, false⟩,
  ⟨(some 68), .ext (.t 62) 2, none, false⟩,
  ⟨(some 9), .new [.i .i64 0, .i .i64 0, .i .i64 0, .i .i64 0, .ns], none, false⟩,
  ⟨none, .st 5 (.t 9) (.t 66), none, false⟩,
  ⟨(some 10), .mv (.t 67), none, false⟩,
  ⟨(some 11), .mv (.t 68), none, false⟩]
abbrev i26r13 : List (IOper × List Nat) := [
  (⟨(some 70), .ld true 5 (.t 1), none, false⟩, []),
  (⟨(some 71), .call (.c (.fn 34 [])) [.c (.i .i64 16386)], none, false⟩, [0]),
  (⟨(some 72), .call (.c (.fn 33 [])) [.t 70, .c (.i .i64 0), .t 71], none, false⟩, []),
  (⟨(some 69), .mv (.t 72), none, false⟩, []),
  (⟨(some 73), .ext (.t 69) 0, none, false⟩, []),
  (⟨(some 74), .ext (.t 69) 1, none, false⟩, [4]),
  (⟨(some 12), .new [.i .i64 0, .i .i64 0, .i .i64 0, .i .i64 0, .ns], none, false⟩, [0, 1, 2, 3, 4, 5]),
  (⟨none, .st 5 (.t 12) (.t 73), none, false⟩, [5]),
  (⟨(some 13), .mv (.t 74), none, false⟩, [])]
abbrev i26r14 : List (IOper × List Nat) := [
  (⟨(some 76), .ld true 5 (.t 1), none, false⟩, []),
  (⟨(some 77), .call (.c (.fn 34 [])) [.c (.i .i64 16385)], none, false⟩, [0]),
  (⟨(some 78), .call (.c (.fn 33 [])) [.t 76, .c (.i .i64 0), .t 77], none, false⟩, []),
  (⟨(some 75), .mv (.t 78), none, false⟩, []),
  (⟨(some 79), .ext (.t 75) 0, none, false⟩, []),
  (⟨(some 80), .ext (.t 75) 1, none, false⟩, [4]),
  (⟨(some 14), .new [.i .i64 0, .i .i64 0, .i .i64 0, .i .i64 0, .ns], none, false⟩, [0, 1, 2, 3, 4, 5]),
  (⟨none, .st 5 (.t 14) (.t 79), none, false⟩, [5]),
  (⟨(some 15), .mv (.t 80), none, false⟩, [])]
abbrev i26r15 : List (IOper × List Nat) := [
  (⟨(some 82), .ld true 5 (.t 1), none, false⟩, []),
  (⟨(some 83), .call (.c (.fn 34 [])) [.c (.i .i64 65)], none, false⟩, [0]),
  (⟨(some 84), .call (.c (.fn 33 [])) [.t 82, .c (.i .i64 2001), .t 83], none, false⟩, []),
  (⟨(some 81), .mv (.t 84), none, false⟩, []),
  (⟨(some 85), .ext (.t 81) 0, none, false⟩, []),
  (⟨(some 86), .ext (.t 81) 1, none, false⟩, [4]),
  (⟨(some 16), .new [.i .i64 0, .i .i64 0, .i .i64 0, .i .i64 0, .ns], none, false⟩, [0, 1, 2, 3, 4, 5]),
  (⟨none, .st 5 (.t 16) (.t 85), none, false⟩, [5]),
  (⟨(some 17), .mv (.t 86), none, false⟩, [])]
abbrev i26r16 : List (IOper × List Nat) := [
  (⟨(some 88), .ld true 5 (.t 1), none, false⟩, []),
  (⟨(some 89), .call (.c (.fn 34 [])) [.c (.i .i64 32833)], none, false⟩, [0]),
  (⟨(some 90), .call (.c (.fn 33 [])) [.t 88, .c (.i .i64 0), .t 89], none, false⟩, []),
  (⟨(some 87), .mv (.t 90), none, false⟩, []),
  (⟨(some 91), .ext (.t 87) 0, none, false⟩, []),
  (⟨(some 92), .ext (.t 87) 1, none, false⟩, [4]),
  (⟨(some 18), .new [.i .i64 0, .i .i64 0, .i .i64 0, .i .i64 0, .ns], none, false⟩, [0, 1, 2, 3, 4, 5]),
  (⟨none, .st 5 (.t 18) (.t 91), none, false⟩, [5]),
  (⟨(some 19), .mv (.t 92), none, false⟩, [])]
abbrev i26r17 : List (IOper × List Nat) := [
  (⟨(some 94), .ld true 5 (.t 1), none, false⟩, []),
  (⟨(some 95), .mks 1 8 [.i .i64 0] (.c (.i .i64 65)) (.c (.i .i64 65)), none, false⟩, [0]),
  (⟨(some 96), .call (.c (.fn 37 [])) [.t 94, .c (.i .i64 0), .c (.i .i64 1), .t 95], none, false⟩, []),
  (⟨(some 93), .mv (.t 96), none, false⟩, []),
  (⟨(some 97), .ext (.t 93) 0, none, false⟩, []),
  (⟨(some 98), .ext (.t 93) 1, none, false⟩, [4]),
  (⟨(some 99), .ext (.t 93) 2, none, false⟩, [4, 5]),
  (⟨(some 20), .new [.i .i64 0, .i .i64 0, .i .i64 0, .i .i64 0, .ns], none, false⟩, [0, 1, 2, 3, 4, 5, 6]),
  (⟨none, .st 5 (.t 20) (.t 97), none, false⟩, [5, 6]),
  (⟨(some 21), .mv (.t 98), none, false⟩, [6]),
  (⟨(some 22), .mv (.t 99), none, false⟩, [])]
abbrev i26r18 : List IOper := [
  ⟨(some 101), .ld true 5 (.t 1), none, false⟩,
  ⟨(some 102), .bsl [.i .i64 0] 1 [(0, 1, .c (.i .i64 65536))], none, false⟩,
  ⟨(some 103), .call (.c (.fn 37 [])) [.t 101, .c (.i .i64 0), .c (.i .i64 1), .t 102], none, false⟩,
  ⟨(some 100), .mv (.t 103), none, false⟩,
  ⟨(some 104), .ext (.t 100) 0, none, false⟩,
  ⟨(some 105), .ext (.t 100) 1, none, false⟩,
  ⟨(some 106), .ext (.t 100) 2, none, false⟩,
  ⟨(some 23), .new [.i .i64 0, .i .i64 0, .i .i64 0, .i .i64 0, .ns], none, false⟩,
  ⟨none, .st 5 (.t 23) (.t 104), none, false⟩,
  ⟨(some 24), .mv (.t 105), none, false⟩,
  ⟨(some 25), .mv (.t 106), none, false⟩]
abbrev i26r19 : List IOper := [
  ⟨(some 108), .ld true 5 (.t 1), none, false⟩,
  ⟨(some 109), .bsl [.i .i64 0] 1 [(0, 1, .c (.i .i64 65536))], none, false⟩,
  ⟨(some 110), .call (.c (.fn 37 [])) [.t 108, .c (.i .i64 0), .c (.i .i64 0), .t 109], none, false⟩,
  ⟨(some 107), .mv (.t 110), none, false⟩,
  ⟨(some 111), .ext (.t 107) 0, none, false⟩,
  ⟨(some 112), .ext (.t 107) 1, none, false⟩,
  ⟨(some 113), .ext (.t 107) 2, none, false⟩,
  ⟨(some 26), .new [.i .i64 0, .i .i64 0, .i .i64 0, .i .i64 0, .ns], none, false⟩,
  ⟨none, .st 5 (.t 26) (.t 111), none, false⟩,
  ⟨(some 27), .mv (.t 112), none, false⟩,
  ⟨(some 28), .mv (.t 113), none, false⟩]
abbrev i26r20 : List IOper := [
  ⟨(some 115), .call (.c (.fn 32 [])) [.c (.i .i64 4294967296), .c (.i .i64 0), .c (.i .i64 0)], none, false⟩,
  ⟨(some 114), .mv (.t 115), none, false⟩,
  ⟨(some 116), .ext (.t 114) 0, none, false⟩,
  ⟨(some 117), .ext (.t 114) 1, none, false⟩,
  ⟨(some 29), .new [.i .i64 0, .i .i64 0, .i .i64 0, .i .i64 0, .ns], none, false⟩,
  ⟨none, .st 5 (.t 29) (.t 116), none, false⟩,
  ⟨(some 30), .mv (.t 117), none, false⟩]
abbrev i26r21 : List IOper := [
  ⟨(some 119), .build [.b false, .i .i64 0, .i .i64 0, .i .i64 0, .i .i64 0, .ns, .ns, .i .i64 0, .s []] [(8, 1, .c (.s [97, 98]))], none, false⟩,
  ⟨(some 120), .call (.c (.fn 38 [])) [.t 119, .c (.i .i64 0), .c (.i .i64 128)], none, false⟩,
  ⟨(some 118), .mv (.t 120), none, false⟩,
  ⟨(some 121), .ext (.t 118) 0, none, false⟩,
  ⟨(some 122), .ext (.t 118) 1, none, false⟩,
  ⟨(some 31), .new [.b false, .i .i64 0, .i .i64 0, .i .i64 0, .i .i64 0, .ns, .ns, .i .i64 0, .s []], none, false⟩,
  ⟨none, .st 9 (.t 31) (.t 121), none, false⟩,
  ⟨(some 32), .mv (.t 122), none, false⟩]
abbrev i26r22 : List IOper := [
  ⟨(some 124), .build [.i .i64 0, .i .i64 0, .i .i64 0, .i .i64 0, .ns] [(3, 1, .c (.i .i64 (-1)))], none, false⟩,
  ⟨(some 125), .build [.b false, .i .i64 0, .i .i64 0, .i .i64 0, .i .i64 0, .ns, .ns, .i .i64 0, .s []] [(2, 1, .c (.i .i64 (-1)))], none, false⟩,
  ⟨(some 126), .call (.c (.fn 33 [])) [.t 124, .c (.i .i64 (-1)), .t 125], none, false⟩,
  ⟨(some 123), .mv (.t 126), none, false⟩,
  ⟨(some 127), .ext (.t 123) 0, none, false⟩,
  ⟨(some 128), .ext (.t 123) 1, none, false⟩,
  ⟨(some 33), .new [.i .i64 0, .i .i64 0, .i .i64 0, .i .i64 0, .ns], none, false⟩,
  ⟨none, .st 5 (.t 33) (.t 127), none, false⟩,
  ⟨(some 34), .mv (.t 128), none, false⟩]
abbrev i26r23 : List IOper := [
  ⟨(some 130), .ld true 5 (.t 1), none, false⟩,
  ⟨(some 131), .build [.b false, .i .i64 0, .i .i64 0, .i .i64 0, .i .i64 0, .ns, .ns, .i .i64 0, .s []] [(2, 1, .c (.i .i64 (-1)))], none, false⟩,
  ⟨(some 132), .call (.c (.fn 33 [])) [.t 130, .c (.i .i64 0), .t 131], none, false⟩,
  ⟨(some 129), .mv (.t 132), none, false⟩,
  ⟨(some 133), .ext (.t 129) 0, none, false⟩,
  ⟨(some 134), .ext (.t 129) 1, none, false⟩,
  ⟨(some 35), .new [.i .i64 0, .i .i64 0, .i .i64 0, .i .i64 0, .ns], none, false⟩,
  ⟨none, .st 5 (.t 35) (.t 133), none, false⟩,
  ⟨(some 36), .mv (.t 134), none, false⟩]
abbrev i26r24 : List IOper := [
  ⟨(some 135), .mv (.t 2), none, false⟩,
  ⟨(some 136), .bin .eql (.t 135) (.c (.i .i64 0)), none, false⟩,
  ⟨(some 137), .mv (.t 136), none, true⟩,
  ⟨(some 138), .fa 4 (.t 1), (some (137, true)), false⟩,
  ⟨(some 139), .ld false 1 (.t 138), (some (137, true)), false⟩,
  ⟨(some 140), .lenV (.t 139), (some (137, true)), false⟩,
  ⟨(some 141), .bin .eql (.t 140) (.c (.i .i64 64)), (some (137, true)), false⟩,
  ⟨(some 142), .pick (.t 137) (.t 141) (.c (.b false)), none, false⟩,
  ⟨(some 143), .mv (.t 142), none, true⟩,
  ⟨(some 144), .mv (.t 8), (some (143, true)), false⟩,
  ⟨(some 145), .bin .eql (.t 144) (.c (.i .i64 0)), (some (143, true)), false⟩,
  ⟨(some 146), .pick (.t 143) (.t 145) (.c (.b false)), none, false⟩,
  ⟨(some 147), .mv (.t 146), none, true⟩,
  ⟨(some 148), .mv (.t 7), (some (147, true)), false⟩,
  ⟨(some 149), .lenV (.t 148), (some (147, true)), false⟩,
  ⟨(some 150), .bin .eql (.t 149) (.c (.i .i64 2)), (some (147, true)), false⟩,
  ⟨(some 151), .pick (.t 147) (.t 150) (.c (.b false)), none, false⟩,
  ⟨(some 152), .mv (.t 151), none, true⟩,
  ⟨(some 153), .mv (.t 7), (some (152, true)), false⟩,
  ⟨(some 154), .ixaV 9 (.t 153) (.c (.i .i64 0)), (some (152, true)), false⟩,
  ⟨(some 155), .fa 2 (.t 154), (some (152, true)), false⟩,
  ⟨(some 156), .ld false 1 (.t 155), (some (152, true)), false⟩,
  ⟨(some 157), .bin .eql (.t 156) (.c (.i .i64 65535)), (some (152, true)), false⟩,
  ⟨(some 158), .pick (.t 152) (.t 157) (.c (.b false)), none, false⟩,
  ⟨(some 159), .mv (.t 158), none, true⟩,
  ⟨(some 160), .mv (.t 7), (some (159, true)), false⟩,
  ⟨(some 161), .ixaV 9 (.t 160) (.c (.i .i64 1)), (some (159, true)), false⟩,
  ⟨(some 162), .fa 2 (.t 161), (some (159, true)), false⟩,
  ⟨(some 163), .ld false 1 (.t 162), (some (159, true)), false⟩,
  ⟨(some 164), .bin .eql (.t 163) (.c (.i .i64 0)), (some (159, true)), false⟩,
  ⟨(some 165), .pick (.t 159) (.t 164) (.c (.b false)), none, false⟩,
  ⟨(some 166), .mv (.t 165), none, true⟩,
  ⟨(some 167), .fa 3 (.t 6), (some (166, true)), false⟩,
  ⟨(some 168), .ld false 1 (.t 167), (some (166, true)), false⟩,
  ⟨(some 169), .bin .eql (.t 168) (.c (.i .i64 1)), (some (166, true)), false⟩,
  ⟨(some 170), .pick (.t 166) (.t 169) (.c (.b false)), none, false⟩,
  ⟨(some 171), .mv (.t 170), none, true⟩,
  ⟨(some 172), .mv (.t 11), (some (171, true)), false⟩,
  ⟨(some 173), .bin .eql (.t 172) (.c (.i .i64 0)), (some (171, true)), false⟩,
  ⟨(some 174), .pick (.t 171) (.t 173) (.c (.b false)), none, false⟩,
  ⟨(some 175), .mv (.t 174), none, true⟩,
  ⟨(some 176), .mv (.t 10), (some (175, true)), false⟩,
  ⟨(some 177), .lenV (.t 176), (some (175, true)), false⟩,
  ⟨(some 178), .bin .eql (.t 177) (.c (.i .i64 0)), (some (175, true)), false⟩,
  ⟨(some 179), .pick (.t 175) (.t 178) (.c (.b false)), none, false⟩,
  ⟨(some 180), .mv (.t 179), none, true⟩,
  ⟨(some 181), .mv (.t 13), (some (180, true)), false⟩,
  ⟨(some 182), .bin .eql (.t 181) (.c (.i .i64 0)), (some (180, true)), false⟩,
  ⟨(some 183), .pick (.t 180) (.t 182) (.c (.b false)), none, false⟩,
  ⟨(some 184), .mv (.t 183), none, true⟩,
  ⟨(some 185), .fa 4 (.t 12), (some (184, true)), false⟩,
  ⟨(some 186), .ld false 1 (.t 185), (some (184, true)), false⟩,
  ⟨(some 187), .lenV (.t 186), (some (184, true)), false⟩,
  ⟨(some 188), .bin .eql (.t 187) (.c (.i .i64 64)), (some (184, true)), false⟩,
  ⟨(some 189), .pick (.t 184) (.t 188) (.c (.b false)), none, false⟩,
  ⟨(some 190), .mv (.t 189), none, true⟩,
  ⟨(some 191), .mv (.t 15), (some (190, true)), false⟩,
  ⟨(some 192), .bin .eql (.t 191) (.c (.i .i64 0)), (some (190, true)), false⟩,
  ⟨(some 193), .pick (.t 190) (.t 192) (.c (.b false)), none, false⟩,
  ⟨(some 194), .mv (.t 193), none, true⟩,
  ⟨(some 195), .fa 4 (.t 14), (some (194, true)), false⟩,
  ⟨(some 196), .ld false 1 (.t 195), (some (194, true)), false⟩,
  ⟨(some 197), .lenV (.t 196), (some (194, true)), false⟩,
  ⟨(some 198), .bin .eql (.t 197) (.c (.i .i64 64)), (some (194, true)), false⟩,
  ⟨(some 199), .pick (.t 194) (.t 198) (.c (.b false)), none, false⟩,
  ⟨(some 200), .mv (.t 199), none, true⟩,
  ⟨(some 201), .mv (.t 17), (some (200, true)), false⟩,
  ⟨(some 202), .bin .eql (.t 201) (.c (.i .i64 0)), (some (200, true)), false⟩,
  ⟨(some 203), .pick (.t 200) (.t 202) (.c (.b false)), none, false⟩,
  ⟨(some 204), .mv (.t 203), none, true⟩,
  ⟨(some 205), .fa 4 (.t 16), (some (204, true)), false⟩,
  ⟨(some 206), .ld false 1 (.t 205), (some (204, true)), false⟩,
  ⟨(some 207), .lenV (.t 206), (some (204, true)), false⟩,
  ⟨(some 208), .bin .eql (.t 207) (.c (.i .i64 1)), (some (204, true)), false⟩,
  ⟨(some 209), .pick (.t 204) (.t 208) (.c (.b false)), none, false⟩,
  ⟨(some 210), .mv (.t 209), none, true⟩,
  ⟨(some 211), .mv (.t 19), (some (210, true)), false⟩,
  ⟨(some 212), .bin .eql (.t 211) (.c (.i .i64 10)), (some (210, true)), false⟩,
  ⟨(some 213), .pick (.t 210) (.t 212) (.c (.b false)), none, false⟩,
  ⟨(some 214), .mv (.t 213), none, true⟩,
  ⟨(some 215), .mv (.t 22), (some (214, true)), false⟩,
  ⟨(some 216), .bin .eql (.t 215) (.c (.i .i64 3)), (some (214, true)), false⟩,
  ⟨(some 217), .pick (.t 214) (.t 216) (.c (.b false)), none, false⟩,
  ⟨(some 218), .mv (.t 217), none, true⟩,
  ⟨(some 219), .mv (.t 25), (some (218, true)), false⟩,
  ⟨(some 220), .bin .eql (.t 219) (.c (.i .i64 2)), (some (218, true)), false⟩,
  ⟨(some 221), .pick (.t 218) (.t 220) (.c (.b false)), none, false⟩,
  ⟨(some 222), .mv (.t 221), none, true⟩,
  ⟨(some 223), .mv (.t 28), (some (222, true)), false⟩,
  ⟨(some 224), .bin .eql (.t 223) (.c (.i .i64 2)), (some (222, true)), false⟩,
  ⟨(some 225), .pick (.t 222) (.t 224) (.c (.b false)), none, false⟩,
  ⟨(some 226), .mv (.t 225), none, true⟩,
  ⟨(some 227), .mv (.t 30), (some (226, true)), false⟩,
  ⟨(some 228), .bin .eql (.t 227) (.c (.i .i64 2)), (some (226, true)), false⟩,
  ⟨(some 229), .pick (.t 226) (.t 228) (.c (.b false)), none, false⟩,
  ⟨(some 230), .mv (.t 229), none, true⟩,
  ⟨(some 231), .mv (.t 32), (some (230, true)), false⟩,
  ⟨(some 232), .bin .eql (.t 231) (.c (.i .i64 2)), (some (230, true)), false⟩,
  ⟨(some 233), .pick (.t 230) (.t 232) (.c (.b false)), none, false⟩,
  ⟨(some 234), .mv (.t 233), none, true⟩,
  ⟨(some 235), .mv (.t 34), (some (234, true)), false⟩,
  ⟨(some 236), .bin .eql (.t 235) (.c (.i .i64 281)), (some (234, true)), false⟩,
  ⟨(some 237), .pick (.t 234) (.t 236) (.c (.b false)), none, false⟩,
  ⟨(some 238), .mv (.t 237), none, true⟩,
  ⟨(some 239), .mv (.t 36), (some (238, true)), false⟩,
  ⟨(some 240), .bin .eql (.t 239) (.c (.i .i64 230)), (some (238, true)), false⟩,
  ⟨(some 241), .pick (.t 238) (.t 240) (.c (.b false)), none, false⟩,
  ⟨(some 0), .mv (.t 241), none, false⟩]
abbrev i26c : ICode := (.seq (.reg i26r0) (.seq (.reg i26r1) (.seq (.seq (.reg i26r2) (.block 0 (.loop i26l10))) (.seq (.reg i26r11) (.seq (.reg i26r12) (.seq (.dreg i26r13) (.seq (.dreg i26r14) (.seq (.dreg i26r15) (.seq (.dreg i26r16) (.seq (.dreg i26r17) (.seq (.reg i26r18) (.seq (.reg i26r19) (.seq (.reg i26r20) (.seq (.reg i26r21) (.seq (.reg i26r22) (.seq (.reg i26r23) (.seq (.reg i26r24) .ret)))))))))))))))))
def i26 : IFn := { np := 0, N := 242, ct := [42, 52], code := i26c, res := [.t 0] }
theorem i26_eq : compF Try.prog Try.f26 = some i26 := by kernel_rfl
end Go.Proofs.Res
