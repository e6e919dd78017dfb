/- The small language's text of the functions; printed by ShowI.lean. -/
import Derived.Test.YtiacdfhaopnekaaProg
import Derived.Test.YtiacdfhaopnekaaAbRuns
namespace Go.Proofs.Arr
open Go.Ab
abbrev i10r0 : List IOper := [
  ⟨(some 0), .mv (.c (.b false)), none, false⟩]
abbrev i10r1 : List IOper := [
  ⟨(some 20), .call (.c (.fn 18 [])) [], none, false⟩,
  ⟨(some 21), .build [.i .i64 0, .i .i64 0] [(0, 1, .c (.i .i64 0)), (1, 1, .c (.i .i64 10))], none, false⟩,
  ⟨(some 22), .build [.i .i64 0, .i .i64 0] [(0, 1, .c (.i .i64 10)), (1, 1, .c (.i .i64 25))], none, false⟩,
  ⟨(some 23), .build [.i .i64 0, .i .i64 0] [(0, 1, .c (.i .i64 20)), (1, 1, .c (.i .i64 40))], none, false⟩,
  ⟨(some 24), .build [.i .i64 0, .i .i64 0] [(0, 1, .c (.i .i64 30)), (1, 1, .c (.i .i64 55))], none, false⟩,
  ⟨(some 25), .bsl [.i .i64 0, .i .i64 0, .i .i64 0, .i .i64 0, .i .i64 0, .i .i64 0, .i .i64 0, .i .i64 0] 4 [(0, 2, .t 21), (2, 2, .t 22), (4, 2, .t 23), (6, 2, .t 24)], none, false⟩,
  ⟨(some 26), .call (.c (.fn 24 [])) [.t 20, .t 25], none, false⟩,
  ⟨(some 19), .mv (.t 26), none, false⟩,
  ⟨(some 27), .ext (.t 19) 0, none, false⟩,
  ⟨(some 28), .ext (.t 19) 1, none, false⟩,
  ⟨(some 1), .new [.i .i64 0, .b false, .b false, .i .i64 0, .i .i64 0, .i .i64 0, .i .i64 0, .i .i64 0, .i .i64 0, .i .i64 0, .i .i64 0, .i .i64 0, .i .i64 0, .i .i64 0, .i .i64 0, .i .i64 0, .ns], none, false⟩,
  ⟨none, .st 17 (.t 1) (.t 27), none, false⟩,
  ⟨(some 2), .mv (.t 28), none, false⟩]
abbrev i10r2 : List IOper := [
  ⟨(some 30), .ld true 17 (.t 1), none, false⟩,
  ⟨(some 31), .build [.i .i64 0, .i .i64 0] [(0, 1, .c (.i .i64 2030)), (1, 1, .c (.i .i64 2055))], none, false⟩,
  ⟨(some 32), .build [.i .i64 0, .i .i64 0] [(0, 1, .c (.i .i64 2040)), (1, 1, .c (.i .i64 2065))], none, false⟩,
  ⟨(some 33), .bsl [.i .i64 0, .i .i64 0, .i .i64 0, .i .i64 0] 2 [(0, 2, .t 31), (2, 2, .t 32)], none, false⟩,
  ⟨(some 34), .call (.c (.fn 24 [])) [.t 30, .t 33], none, false⟩,
  ⟨(some 29), .mv (.t 34), none, false⟩,
  ⟨(some 35), .ext (.t 29) 0, none, false⟩,
  ⟨(some 36), .ext (.t 29) 1, none, false⟩,
  ⟨(some 3), .new [.i .i64 0, .b false, .b false, .i .i64 0, .i .i64 0, .i .i64 0, .i .i64 0, .i .i64 0, .i .i64 0, .i .i64 0, .i .i64 0, .i .i64 0, .i .i64 0, .i .i64 0, .i .i64 0, .i .i64 0, .ns], none, false⟩,
  ⟨none, .st 17 (.t 3) (.t 35), none, false⟩,
  ⟨(some 4), .mv (.t 36), none, false⟩]
abbrev i10r3 : List IOper := [
  ⟨(some 38), .ld true 17 (.t 1), none, false⟩,
  ⟨(some 39), .build [.i .i64 0, .i .i64 0] [(0, 1, .c (.i .i64 2031)), (1, 1, .c (.i .i64 2055))], none, false⟩,
  ⟨(some 40), .build [.i .i64 0, .i .i64 0] [(0, 1, .c (.i .i64 2041)), (1, 1, .c (.i .i64 2065))], none, false⟩,
  ⟨(some 41), .bsl [.i .i64 0, .i .i64 0, .i .i64 0, .i .i64 0] 2 [(0, 2, .t 39), (2, 2, .t 40)], none, false⟩,
  ⟨(some 42), .call (.c (.fn 24 [])) [.t 38, .t 41], none, false⟩,
  ⟨(some 37), .mv (.t 42), none, false⟩,
  ⟨(some 43), .ext (.t 37) 0, none, false⟩,
  ⟨(some 44), .ext (.t 37) 1, none, false⟩,
  ⟨(some 5), .new [.i .i64 0, .b false, .b false, .i .i64 0, .i .i64 0, .i .i64 0, .i .i64 0, .i .i64 0, .i .i64 0, .i .i64 0, .i .i64 0, .i .i64 0, .i .i64 0, .i .i64 0, .i .i64 0, .i .i64 0, .ns], none, false⟩,
  ⟨none, .st 17 (.t 5) (.t 43), none, false⟩,
  ⟨(some 6), .mv (.t 44), none, false⟩]
abbrev i10r4 : List IOper := [
  ⟨(some 45), .mv (.t 2), none, false⟩,
  ⟨(some 46), .not (.t 45), none, false⟩,
  ⟨(some 47), .mv (.t 46), none, true⟩,
  ⟨(some 48), .mv (.t 4), (some (47, false)), false⟩,
  ⟨(some 49), .not (.t 48), (some (47, false)), false⟩,
  ⟨(some 50), .pick (.t 47) (.c (.b true)) (.t 49), none, false⟩,
  ⟨(some 51), .mv (.t 50), none, true⟩,
  ⟨(some 52), .mv (.t 6), (some (51, false)), false⟩,
  ⟨(some 53), .not (.t 52), (some (51, false)), false⟩,
  ⟨(some 54), .pick (.t 51) (.c (.b true)) (.t 53), none, false⟩,
  ⟨(some 55), .mv (.t 54), none, true⟩,
  ⟨(some 56), .fa 8 (.t 1), (some (55, false)), false⟩,
  ⟨(some 57), .ld false 1 (.t 56), (some (55, false)), false⟩,
  ⟨(some 58), .bin .neq (.t 57) (.c (.i .i64 2)), (some (55, false)), false⟩,
  ⟨(some 59), .pick (.t 55) (.c (.b true)) (.t 58), none, false⟩,
  ⟨(some 60), .mv (.t 59), none, true⟩,
  ⟨(some 61), .fa 9 (.t 1), (some (60, false)), false⟩,
  ⟨(some 62), .ld false 1 (.t 61), (some (60, false)), false⟩,
  ⟨(some 63), .bin .neq (.t 62) (.c (.i .i64 10)), (some (60, false)), false⟩,
  ⟨(some 64), .pick (.t 60) (.c (.b true)) (.t 63), none, false⟩,
  ⟨(some 65), .mv (.t 64), none, true⟩,
  ⟨(some 66), .fa 8 (.t 3), (some (65, false)), false⟩,
  ⟨(some 67), .ld false 1 (.t 66), (some (65, false)), false⟩,
  ⟨(some 68), .bin .neq (.t 67) (.c (.i .i64 4)), (some (65, false)), false⟩,
  ⟨(some 69), .pick (.t 65) (.c (.b true)) (.t 68), none, false⟩,
  ⟨(some 70), .mv (.t 69), none, true⟩,
  ⟨(some 71), .fa 8 (.t 5), (some (70, false)), false⟩,
  ⟨(some 72), .ld false 1 (.t 71), (some (70, false)), false⟩,
  ⟨(some 73), .bin .neq (.t 72) (.c (.i .i64 0)), (some (70, false)), false⟩,
  ⟨(some 74), .pick (.t 70) (.c (.b true)) (.t 73), none, false⟩,
  ⟨(some 75), .mv (.t 74), none, true⟩,
  ⟨(some 76), .fa 9 (.t 5), (some (75, false)), false⟩,
  ⟨(some 77), .ld false 1 (.t 76), (some (75, false)), false⟩,
  ⟨(some 78), .bin .neq (.t 77) (.c (.i .i64 0)), (some (75, false)), false⟩,
  ⟨(some 79), .pick (.t 75) (.c (.b true)) (.t 78), none, false⟩,
  ⟨(some 80), .mv (.t 79), none, true⟩,
  ⟨(some 81), .fa 16 (.t 5), (some (80, false)), false⟩,
  ⟨(some 82), .ld false 1 (.t 81), (some (80, false)), false⟩,
  ⟨(some 83), .lenV (.t 82), (some (80, false)), false⟩,
  ⟨(some 84), .bin .neq (.t 83) (.c (.i .i64 0)), (some (80, false)), false⟩,
  ⟨(some 85), .pick (.t 80) (.c (.b true)) (.t 84), none, true⟩]
abbrev i10r5 : List IOper := [
  ⟨(some 0), .mv (.c (.b false)), none, false⟩]
abbrev i10r6 : List IOper := [
  ⟨(some 86), .ld true 17 (.t 1), none, false⟩,
  ⟨(some 7), .new [.i .i64 0, .b false, .b false, .i .i64 0, .i .i64 0, .i .i64 0, .i .i64 0, .i .i64 0, .i .i64 0, .i .i64 0, .i .i64 0, .i .i64 0, .i .i64 0, .i .i64 0, .i .i64 0, .i .i64 0, .ns], none, false⟩,
  ⟨none, .st 17 (.t 7) (.t 86), none, false⟩]
abbrev i10r7 : List IOper := [
  ⟨(some 87), .fa 7 (.t 1), none, false⟩,
  ⟨(some 88), .ld false 1 (.t 87), none, false⟩,
  ⟨(some 89), .bin .sub (.t 88) (.c (.i .i64 1)), none, false⟩,
  ⟨(some 90), .build [.i .i64 0, .i .i64 0] [(0, 1, .t 89)], none, false⟩,
  ⟨(some 91), .bsl [.i .i64 0, .i .i64 0] 1 [(0, 2, .t 90)], none, false⟩,
  ⟨(some 92), .fa 16 (.t 7), none, false⟩,
  ⟨none, .st 1 (.t 92) (.t 91), none, false⟩]
abbrev i10r8 : List IOper := [
  ⟨(some 93), .ld true 17 (.t 1), none, false⟩,
  ⟨(some 8), .new [.i .i64 0, .b false, .b false, .i .i64 0, .i .i64 0, .i .i64 0, .i .i64 0, .i .i64 0, .i .i64 0, .i .i64 0, .i .i64 0, .i .i64 0, .i .i64 0, .i .i64 0, .i .i64 0, .i .i64 0, .ns], none, false⟩,
  ⟨none, .st 17 (.t 8) (.t 93), none, false⟩]
abbrev i10r9 : List IOper := [
  ⟨(some 94), .mks 2 16 [.i .i64 0, .i .i64 0] (.c (.i .i64 21)) (.c (.i .i64 21)), none, false⟩,
  ⟨(some 95), .fa 16 (.t 8), none, false⟩,
  ⟨none, .st 1 (.t 95) (.t 94), none, false⟩]
abbrev i10r10 : List IOper := [
  ⟨(some 96), .call (.c (.fn 18 [])) [], none, false⟩,
  ⟨(some 9), .new [.i .i64 0, .b false, .b false, .i .i64 0, .i .i64 0, .i .i64 0, .i .i64 0, .i .i64 0, .i .i64 0, .i .i64 0, .i .i64 0, .i .i64 0, .i .i64 0, .i .i64 0, .i .i64 0, .i .i64 0, .ns], none, false⟩,
  ⟨none, .st 17 (.t 9) (.t 96), none, false⟩]
abbrev i10r11 : List IOper := [
  ⟨(some 97), .fa 11 (.t 9), none, false⟩,
  ⟨none, .st 1 (.t 97) (.c (.i .i64 6143)), none, false⟩]
abbrev i10r12 : List IOper := [
  ⟨(some 99), .ld true 17 (.t 9), none, false⟩,
  ⟨(some 100), .call (.c (.fn 15 [])) [.t 99, .c (.i .i64 (-1)), .c (.i .i64 (-1))], none, false⟩,
  ⟨(some 98), .mv (.t 100), none, false⟩,
  ⟨(some 101), .ext (.t 98) 0, none, false⟩,
  ⟨(some 102), .ext (.t 98) 1, none, false⟩,
  ⟨(some 10), .new [.i .i64 0, .b false, .b false, .i .i64 0, .i .i64 0, .i .i64 0, .i .i64 0, .i .i64 0, .i .i64 0, .i .i64 0, .i .i64 0, .i .i64 0, .i .i64 0, .i .i64 0, .i .i64 0, .i .i64 0, .ns], none, false⟩,
  ⟨none, .st 17 (.t 10) (.t 101), none, false⟩,
  ⟨(some 11), .mv (.t 102), none, false⟩]
abbrev i10r13 : List IOper := [
  ⟨(some 104), .ld true 17 (.t 1), none, false⟩,
  ⟨(some 105), .call (.c (.fn 15 [])) [.t 104, .c (.i .i64 0), .c (.i .i64 54)], none, false⟩,
  ⟨(some 103), .mv (.t 105), none, false⟩,
  ⟨(some 106), .ext (.t 103) 0, none, false⟩,
  ⟨(some 107), .ext (.t 103) 1, none, false⟩,
  ⟨(some 12), .new [.i .i64 0, .b false, .b false, .i .i64 0, .i .i64 0, .i .i64 0, .i .i64 0, .i .i64 0, .i .i64 0, .i .i64 0, .i .i64 0, .i .i64 0, .i .i64 0, .i .i64 0, .i .i64 0, .i .i64 0, .ns], none, false⟩,
  ⟨none, .st 17 (.t 12) (.t 106), none, false⟩,
  ⟨(some 13), .mv (.t 107), none, false⟩]
abbrev i10r14 : List IOper := [
  ⟨(some 109), .ld true 17 (.t 1), none, false⟩,
  ⟨(some 110), .call (.c (.fn 15 [])) [.t 109, .c (.i .i64 1099511627777), .c (.i .i64 55)], none, false⟩,
  ⟨(some 108), .mv (.t 110), none, false⟩,
  ⟨(some 111), .ext (.t 108) 0, none, false⟩,
  ⟨(some 112), .ext (.t 108) 1, none, false⟩,
  ⟨(some 14), .new [.i .i64 0, .b false, .b false, .i .i64 0, .i .i64 0, .i .i64 0, .i .i64 0, .i .i64 0, .i .i64 0, .i .i64 0, .i .i64 0, .i .i64 0, .i .i64 0, .i .i64 0, .i .i64 0, .i .i64 0, .ns], none, false⟩,
  ⟨none, .st 17 (.t 14) (.t 111), none, false⟩,
  ⟨(some 15), .mv (.t 112), none, false⟩]
abbrev i10r15 : List IOper := [
  ⟨(some 114), .ld true 17 (.t 1), none, false⟩,
  ⟨(some 115), .build [.i .i64 0, .i .i64 0] [(0, 1, .c (.i .i64 1099511627776)), (1, 1, .c (.i .i64 1099511627776))], none, false⟩,
  ⟨(some 116), .bsl [.i .i64 0, .i .i64 0] 1 [(0, 2, .t 115)], none, false⟩,
  ⟨(some 117), .call (.c (.fn 24 [])) [.t 114, .t 116], none, false⟩,
  ⟨(some 113), .mv (.t 117), none, false⟩,
  ⟨(some 118), .ext (.t 113) 0, none, false⟩,
  ⟨(some 119), .ext (.t 113) 1, none, false⟩,
  ⟨(some 16), .new [.i .i64 0, .b false, .b false, .i .i64 0, .i .i64 0, .i .i64 0, .i .i64 0, .i .i64 0, .i .i64 0, .i .i64 0, .i .i64 0, .i .i64 0, .i .i64 0, .i .i64 0, .i .i64 0, .i .i64 0, .ns], none, false⟩,
  ⟨none, .st 17 (.t 16) (.t 118), none, false⟩,
  ⟨(some 17), .mv (.t 119), none, false⟩]
abbrev i10r16 : List IOper := [
  ⟨(some 120), .build [.i .i64 0, .i .i64 0] [], none, false⟩,
  ⟨(some 121), .build [.i .i64 0, .i .i64 0] [(0, 1, .c (.i .i64 40000)), (1, 1, .c (.i .i64 67108864))], none, false⟩,
  ⟨(some 122), .bsl [.i .i64 0, .i .i64 0, .i .i64 0, .i .i64 0] 2 [(0, 2, .t 120), (2, 2, .t 121)], none, false⟩,
  ⟨(some 18), .mv (.t 122), none, false⟩]
abbrev i10r17 : List IOper := [
  ⟨(some 123), .mv (.c (.b true)), none, true⟩,
  ⟨(some 124), .call (.c (.fn 20 [])) [], (some (123, true)), false⟩,
  ⟨(some 125), .pick (.t 123) (.t 124) (.c (.b false)), none, false⟩,
  ⟨(some 126), .mv (.t 125), none, true⟩,
  ⟨(some 127), .ld true 17 (.t 7), (some (126, true)), false⟩,
  ⟨(some 128), .call (.c (.fn 13 [])) [.t 127], (some (126, true)), false⟩,
  ⟨(some 129), .bin .eql (.t 128) (.c (.i .i64 290)), (some (126, true)), false⟩,
  ⟨(some 130), .pick (.t 126) (.t 129) (.c (.b false)), none, false⟩,
  ⟨(some 131), .mv (.t 130), none, true⟩,
  ⟨(some 132), .ld true 17 (.t 8), (some (131, true)), false⟩,
  ⟨(some 133), .call (.c (.fn 13 [])) [.t 132], (some (131, true)), false⟩,
  ⟨(some 134), .bin .eql (.t 133) (.c (.i .i64 290)), (some (131, true)), false⟩,
  ⟨(some 135), .pick (.t 131) (.t 134) (.c (.b false)), none, false⟩,
  ⟨(some 136), .mv (.t 135), none, true⟩,
  ⟨(some 137), .build [.i .i64 0, .b false, .b false, .i .i64 0, .i .i64 0, .i .i64 0, .i .i64 0, .i .i64 0, .i .i64 0, .i .i64 0, .i .i64 0, .i .i64 0, .i .i64 0, .i .i64 0, .i .i64 0, .i .i64 0, .ns] [], (some (136, true)), false⟩,
  ⟨(some 138), .call (.c (.fn 13 [])) [.t 137], (some (136, true)), false⟩,
  ⟨(some 139), .bin .eql (.t 138) (.c (.i .i64 290)), (some (136, true)), false⟩,
  ⟨(some 140), .pick (.t 136) (.t 139) (.c (.b false)), none, false⟩,
  ⟨(some 141), .mv (.t 140), none, true⟩,
  ⟨(some 142), .mv (.t 11), (some (141, true)), false⟩,
  ⟨(some 143), .bin .eql (.t 142) (.c (.i .i64 290)), (some (141, true)), false⟩,
  ⟨(some 144), .pick (.t 141) (.t 143) (.c (.b false)), none, false⟩,
  ⟨(some 145), .mv (.t 144), none, true⟩,
  ⟨(some 146), .mv (.t 13), (some (145, true)), false⟩,
  ⟨(some 147), .bin .eql (.t 146) (.c (.i .i64 2)), (some (145, true)), false⟩,
  ⟨(some 148), .pick (.t 145) (.t 147) (.c (.b false)), none, false⟩,
  ⟨(some 149), .mv (.t 148), none, true⟩,
  ⟨(some 150), .mv (.t 15), (some (149, true)), false⟩,
  ⟨(some 151), .bin .eql (.t 150) (.c (.i .i64 2)), (some (149, true)), false⟩,
  ⟨(some 152), .pick (.t 149) (.t 151) (.c (.b false)), none, false⟩,
  ⟨(some 153), .mv (.t 152), none, true⟩,
  ⟨(some 154), .mv (.t 17), (some (153, true)), false⟩,
  ⟨(some 155), .pick (.t 153) (.t 154) (.c (.b false)), none, false⟩,
  ⟨(some 156), .mv (.t 155), none, true⟩,
  ⟨(some 157), .fa 3 (.t 16), (some (156, true)), false⟩,
  ⟨(some 158), .ld false 1 (.t 157), (some (156, true)), false⟩,
  ⟨(some 159), .bin .eql (.t 158) (.c (.i .i64 1099511627776)), (some (156, true)), false⟩,
  ⟨(some 160), .pick (.t 156) (.t 159) (.c (.b false)), none, false⟩,
  ⟨(some 161), .mv (.t 160), none, true⟩,
  ⟨(some 162), .fa 0 (.t 16), (some (161, true)), false⟩,
  ⟨(some 163), .ld false 1 (.t 162), (some (161, true)), false⟩,
  ⟨(some 164), .bin .eql (.t 163) (.c (.i .i64 1099511627776)), (some (161, true)), false⟩,
  ⟨(some 165), .pick (.t 161) (.t 164) (.c (.b false)), none, false⟩,
  ⟨(some 166), .mv (.t 165), none, true⟩,
  ⟨(some 167), .mv (.t 18), (some (166, true)), false⟩,
  ⟨(some 168), .call (.c (.fn 26 [])) [.c (.i .i64 2684354560000), .c (.i .i64 1600000000), .t 167], (some (166, true)), false⟩,
  ⟨(some 169), .pick (.t 166) (.t 168) (.c (.b false)), none, false⟩,
  ⟨(some 170), .mv (.t 169), none, true⟩,
  ⟨(some 171), .build [.i .i64 0, .i .i64 0] [], (some (170, true)), false⟩,
  ⟨(some 172), .build [.i .i64 0, .i .i64 0] [(0, 1, .c (.i .i64 40001))], (some (170, true)), false⟩,
  ⟨(some 173), .bsl [.i .i64 0, .i .i64 0, .i .i64 0, .i .i64 0] 2 [(0, 2, .t 171), (2, 2, .t 172)], (some (170, true)), false⟩,
  ⟨(some 174), .call (.c (.fn 25 [])) [.t 173], (some (170, true)), false⟩,
  ⟨(some 175), .pick (.t 170) (.t 174) (.c (.b false)), none, false⟩,
  ⟨(some 176), .mv (.t 175), none, true⟩,
  ⟨(some 177), .build [.i .i64 0, .i .i64 0] [], (some (176, true)), false⟩,
  ⟨(some 178), .build [.i .i64 0, .i .i64 0] [(0, 1, .c (.i .i64 1)), (1, 1, .c (.i .i64 67108865))], (some (176, true)), false⟩,
  ⟨(some 179), .bsl [.i .i64 0, .i .i64 0, .i .i64 0, .i .i64 0] 2 [(0, 2, .t 177), (2, 2, .t 178)], (some (176, true)), false⟩,
  ⟨(some 180), .call (.c (.fn 25 [])) [.t 179], (some (176, true)), false⟩,
  ⟨(some 181), .pick (.t 176) (.t 180) (.c (.b false)), none, false⟩,
  ⟨(some 182), .mv (.t 181), none, true⟩,
  ⟨(some 183), .build [.i .i64 0, .i .i64 0] [(0, 1, .c (.i .i64 (-1)))], (some (182, true)), false⟩,
  ⟨(some 184), .build [.i .i64 0, .i .i64 0] [], (some (182, true)), false⟩,
  ⟨(some 185), .bsl [.i .i64 0, .i .i64 0, .i .i64 0, .i .i64 0] 2 [(0, 2, .t 183), (2, 2, .t 184)], (some (182, true)), false⟩,
  ⟨(some 186), .call (.c (.fn 25 [])) [.t 185], (some (182, true)), false⟩,
  ⟨(some 187), .pick (.t 182) (.t 186) (.c (.b false)), none, false⟩,
  ⟨(some 188), .mv (.t 187), none, true⟩,
  ⟨(some 189), .mks 2 16 [.i .i64 0, .i .i64 0] (.c (.i .i64 21)) (.c (.i .i64 21)), (some (188, true)), false⟩,
  ⟨(some 190), .call (.c (.fn 25 [])) [.t 189], (some (188, true)), false⟩,
  ⟨(some 191), .pick (.t 188) (.t 190) (.c (.b false)), none, false⟩,
  ⟨(some 192), .mv (.t 191), none, true⟩,
  ⟨(some 193), .call (.c (.fn 25 [])) [.c (.ns)], (some (192, true)), false⟩,
  ⟨(some 194), .pick (.t 192) (.t 193) (.c (.b false)), none, false⟩,
  ⟨(some 0), .mv (.t 194), none, false⟩]
abbrev i10c : ICode := (.seq (.reg i10r0) (.seq (.reg i10r1) (.seq (.reg i10r2) (.seq (.reg i10r3) (.seq (.seq (.reg i10r4) (.cond (.t 85) (.seq (.reg i10r5) .ret) .skip)) (.seq (.reg i10r6) (.seq (.reg i10r7) (.seq (.reg i10r8) (.seq (.reg i10r9) (.seq (.reg i10r10) (.seq (.reg i10r11) (.seq (.reg i10r12) (.seq (.reg i10r13) (.seq (.reg i10r14) (.seq (.reg i10r15) (.seq (.reg i10r16) (.seq (.reg i10r17) .ret)))))))))))))))))
def i10 : IFn := { np := 0, N := 195, ct := [85], code := i10c, res := [.t 0] }
theorem i10_eq : compF Try.prog Try.f10 = some i10 := by kernel_rfl
abbrev i13r0 : List IOper := [
  ⟨(some 1), .box (.t 0), none, false⟩,
  ⟨(some 2), .mv (.c (.i .i64 0)), none, false⟩]
abbrev i13r1 : List IOper := [
  ⟨(some 5), .fa 0 (.t 1), none, false⟩,
  ⟨(some 6), .ld false 1 (.t 5), none, false⟩,
  ⟨(some 7), .fa 3 (.t 1), none, false⟩,
  ⟨(some 8), .ld false 1 (.t 7), none, false⟩,
  ⟨(some 9), .fa 4 (.t 1), none, false⟩,
  ⟨(some 10), .ld false 1 (.t 9), none, false⟩,
  ⟨(some 11), .fa 5 (.t 1), none, false⟩,
  ⟨(some 12), .ld false 1 (.t 11), none, false⟩,
  ⟨(some 13), .fa 6 (.t 1), none, false⟩,
  ⟨(some 14), .ld false 1 (.t 13), none, false⟩,
  ⟨(some 15), .fa 7 (.t 1), none, false⟩,
  ⟨(some 16), .ld false 1 (.t 15), none, false⟩,
  ⟨(some 17), .bsl [.i .i64 0, .i .i64 0, .i .i64 0, .i .i64 0, .i .i64 0, .i .i64 0] 6 [(0, 1, .t 6), (1, 1, .t 8), (2, 1, .t 10), (3, 1, .t 12), (4, 1, .t 14), (5, 1, .t 16)], none, false⟩,
  ⟨(some 18), .call (.c (.fn 27 [])) [.c (.i .i64 0), .c (.i .i64 1099511627776), .t 17], none, false⟩,
  ⟨(some 19), .mv (.t 18), none, true⟩,
  ⟨(some 20), .fa 11 (.t 1), (some (19, true)), false⟩,
  ⟨(some 21), .ld false 1 (.t 20), (some (19, true)), false⟩,
  ⟨(some 22), .bsl [.i .i64 0] 1 [(0, 1, .t 21)], (some (19, true)), false⟩,
  ⟨(some 23), .call (.c (.fn 27 [])) [.c (.i .i64 6144), .c (.i .i64 614400), .t 22], (some (19, true)), false⟩,
  ⟨(some 24), .pick (.t 19) (.t 23) (.c (.b false)), none, false⟩,
  ⟨(some 25), .mv (.t 24), none, true⟩,
  ⟨(some 26), .fa 15 (.t 1), (some (25, true)), false⟩,
  ⟨(some 27), .ld false 1 (.t 26), (some (25, true)), false⟩,
  ⟨(some 28), .bsl [.i .i64 0] 1 [(0, 1, .t 27)], (some (25, true)), false⟩,
  ⟨(some 29), .call (.c (.fn 27 [])) [.c (.i .i64 0), .c (.i .i64 2), .t 28], (some (25, true)), false⟩,
  ⟨(some 30), .pick (.t 25) (.t 29) (.c (.b false)), none, false⟩,
  ⟨(some 31), .mv (.t 30), none, true⟩,
  ⟨(some 32), .fa 12 (.t 1), (some (31, true)), false⟩,
  ⟨(some 33), .ld false 1 (.t 32), (some (31, true)), false⟩,
  ⟨(some 34), .fa 13 (.t 1), (some (31, true)), false⟩,
  ⟨(some 35), .ld false 1 (.t 34), (some (31, true)), false⟩,
  ⟨(some 36), .bsl [.i .i64 0, .i .i64 0] 2 [(0, 1, .t 33), (1, 1, .t 35)], (some (31, true)), false⟩,
  ⟨(some 37), .call (.c (.fn 27 [])) [.c (.i .i64 0), .c (.i .i64 20000), .t 36], (some (31, true)), false⟩,
  ⟨(some 38), .pick (.t 31) (.t 37) (.c (.b false)), none, false⟩,
  ⟨(some 39), .mv (.t 38), none, true⟩,
  ⟨(some 40), .fa 8 (.t 1), (some (39, true)), false⟩,
  ⟨(some 41), .ld false 1 (.t 40), (some (39, true)), false⟩,
  ⟨(some 42), .bsl [.i .i64 0] 1 [(0, 1, .t 41)], (some (39, true)), false⟩,
  ⟨(some 43), .call (.c (.fn 27 [])) [.c (.i .i64 0), .c (.i .i64 60), .t 42], (some (39, true)), false⟩,
  ⟨(some 44), .pick (.t 39) (.t 43) (.c (.b false)), none, false⟩,
  ⟨(some 45), .mv (.t 44), none, true⟩,
  ⟨(some 46), .fa 14 (.t 1), (some (45, true)), false⟩,
  ⟨(some 47), .ld false 1 (.t 46), (some (45, true)), false⟩,
  ⟨(some 48), .fa 9 (.t 1), (some (45, true)), false⟩,
  ⟨(some 49), .ld false 1 (.t 48), (some (45, true)), false⟩,
  ⟨(some 50), .fa 10 (.t 1), (some (45, true)), false⟩,
  ⟨(some 51), .ld false 1 (.t 50), (some (45, true)), false⟩,
  ⟨(some 52), .bsl [.i .i64 0, .i .i64 0, .i .i64 0] 3 [(0, 1, .t 47), (1, 1, .t 49), (2, 1, .t 51)], (some (45, true)), false⟩,
  ⟨(some 53), .call (.c (.fn 27 [])) [.c (.i .i64 (-1099511627776)), .c (.i .i64 1099511627776), .t 52], (some (45, true)), false⟩,
  ⟨(some 54), .pick (.t 45) (.t 53) (.c (.b false)), none, false⟩,
  ⟨(some 55), .mv (.t 54), none, true⟩,
  ⟨(some 56), .fa 16 (.t 1), (some (55, true)), false⟩,
  ⟨(some 57), .ld false 1 (.t 56), (some (55, true)), false⟩,
  ⟨(some 58), .call (.c (.fn 28 [])) [.t 57, .c (.i .i64 2000)], (some (55, true)), false⟩,
  ⟨(some 59), .pick (.t 55) (.t 58) (.c (.b false)), none, false⟩,
  ⟨(some 3), .mv (.t 59), none, false⟩]
abbrev i13r2 : List IOper := [
  ⟨(some 60), .fa 1 (.t 1), none, false⟩,
  ⟨(some 61), .ld false 1 (.t 60), none, true⟩]
abbrev i13r3 : List IOper := [
  ⟨(some 62), .mv (.t 3), none, false⟩,
  ⟨(some 63), .mv (.t 62), none, true⟩,
  ⟨(some 64), .fa 3 (.t 1), (some (63, true)), false⟩,
  ⟨(some 65), .ld false 1 (.t 64), (some (63, true)), false⟩,
  ⟨(some 66), .fa 3 (.t 1), (some (63, true)), false⟩,
  ⟨(some 67), .ld false 1 (.t 66), (some (63, true)), false⟩,
  ⟨(some 68), .bin .add (.t 67) (.c (.i .i64 4)), (some (63, true)), false⟩,
  ⟨(some 69), .fa 4 (.t 1), (some (63, true)), false⟩,
  ⟨(some 70), .ld false 1 (.t 69), (some (63, true)), false⟩,
  ⟨(some 71), .bsl [.i .i64 0] 1 [(0, 1, .t 70)], (some (63, true)), false⟩,
  ⟨(some 72), .call (.c (.fn 27 [])) [.t 65, .t 68, .t 71], (some (63, true)), false⟩,
  ⟨(some 73), .pick (.t 63) (.t 72) (.c (.b false)), none, false⟩,
  ⟨(some 74), .mv (.t 73), none, true⟩,
  ⟨(some 75), .fa 5 (.t 1), (some (74, true)), false⟩,
  ⟨(some 76), .ld false 1 (.t 75), (some (74, true)), false⟩,
  ⟨(some 77), .fa 0 (.t 1), (some (74, true)), false⟩,
  ⟨(some 78), .ld false 1 (.t 77), (some (74, true)), false⟩,
  ⟨(some 79), .bin .leq (.t 76) (.t 78), (some (74, true)), false⟩,
  ⟨(some 80), .pick (.t 74) (.t 79) (.c (.b false)), none, false⟩,
  ⟨(some 3), .mv (.t 80), none, false⟩]
abbrev i13r4 : List IOper := [
  ⟨(some 81), .mv (.t 3), none, false⟩,
  ⟨(some 82), .mv (.t 81), none, true⟩,
  ⟨(some 83), .fa 2 (.t 1), (some (82, true)), false⟩,
  ⟨(some 84), .ld false 1 (.t 83), (some (82, true)), false⟩,
  ⟨(some 85), .not (.t 84), (some (82, true)), false⟩,
  ⟨(some 86), .pick (.t 82) (.t 85) (.c (.b false)), none, false⟩,
  ⟨(some 87), .mv (.t 86), none, true⟩,
  ⟨(some 88), .fa 3 (.t 1), (some (87, true)), false⟩,
  ⟨(some 89), .ld false 1 (.t 88), (some (87, true)), false⟩,
  ⟨(some 90), .fa 4 (.t 1), (some (87, true)), false⟩,
  ⟨(some 91), .ld false 1 (.t 90), (some (87, true)), false⟩,
  ⟨(some 92), .bin .or (.t 89) (.t 91), (some (87, true)), false⟩,
  ⟨(some 93), .fa 5 (.t 1), (some (87, true)), false⟩,
  ⟨(some 94), .ld false 1 (.t 93), (some (87, true)), false⟩,
  ⟨(some 95), .bin .or (.t 92) (.t 94), (some (87, true)), false⟩,
  ⟨(some 96), .bin .eql (.t 95) (.c (.i .i64 0)), (some (87, true)), false⟩,
  ⟨(some 97), .pick (.t 87) (.t 96) (.c (.b false)), none, false⟩,
  ⟨(some 3), .mv (.t 97), none, false⟩]
abbrev i13r5 : List IOper := [
  ⟨(some 98), .fa 2 (.t 1), none, false⟩,
  ⟨(some 99), .ld false 1 (.t 98), none, true⟩]
abbrev i13r6 : List IOper := [
  ⟨(some 100), .fa 16 (.t 1), none, false⟩,
  ⟨(some 101), .ld false 1 (.t 100), none, false⟩,
  ⟨(some 102), .lenV (.t 101), none, false⟩,
  ⟨(some 4), .mv (.t 102), none, false⟩]
abbrev i13r7 : List (IOper × List Nat) := [
  (⟨(some 103), .mv (.t 3), none, false⟩, []),
  (⟨(some 104), .mv (.t 103), none, true⟩, []),
  (⟨(some 105), .fa 6 (.t 1), (some (104, true)), false⟩, []),
  (⟨(some 106), .ld false 1 (.t 105), (some (104, true)), false⟩, []),
  (⟨(some 107), .fa 3 (.t 1), (some (104, true)), false⟩, [2, 3]),
  (⟨(some 108), .ld false 1 (.t 107), (some (104, true)), false⟩, [2, 3]),
  (⟨(some 109), .bin .lss (.t 106) (.t 108), (some (104, true)), false⟩, []),
  (⟨(some 110), .pick (.t 104) (.t 109) (.c (.b false)), none, false⟩, []),
  (⟨(some 111), .mv (.t 110), none, true⟩, []),
  (⟨(some 112), .fa 7 (.t 1), (some (111, true)), false⟩, []),
  (⟨(some 113), .ld false 1 (.t 112), (some (111, true)), false⟩, []),
  (⟨(some 114), .fa 5 (.t 1), (some (111, true)), false⟩, [9, 10]),
  (⟨(some 115), .ld false 1 (.t 114), (some (111, true)), false⟩, [9, 10]),
  (⟨(some 116), .bin .leq (.t 113) (.t 115), (some (111, true)), false⟩, []),
  (⟨(some 117), .pick (.t 111) (.t 116) (.c (.b false)), none, false⟩, []),
  (⟨(some 118), .mv (.t 117), none, true⟩, []),
  (⟨(some 119), .mv (.t 4), (some (118, true)), false⟩, []),
  (⟨(some 120), .bin .eql (.t 119) (.c (.i .i64 0)), (some (118, true)), false⟩, []),
  (⟨(some 121), .mv (.t 120), (some (118, true)), true⟩, []),
  (⟨(some 122), .fa 16 (.t 1), (some (121, false)), false⟩, []),
  (⟨(some 123), .ld false 1 (.t 122), (some (121, false)), false⟩, []),
  (⟨(some 124), .mv (.t 4), (some (121, false)), false⟩, [19, 20]),
  (⟨(some 125), .bin .sub (.t 124) (.c (.i .i64 1)), (some (121, false)), false⟩, [19, 20]),
  (⟨(some 126), .ixaV 2 (.t 123) (.t 125), (some (121, false)), false⟩, []),
  (⟨(some 127), .fa 0 (.t 126), (some (121, false)), false⟩, []),
  (⟨(some 128), .ld false 1 (.t 127), (some (121, false)), false⟩, []),
  (⟨(some 129), .fa 7 (.t 1), (some (121, false)), false⟩, [19, 20, 21, 22, 23, 24, 25]),
  (⟨(some 130), .ld false 1 (.t 129), (some (121, false)), false⟩, [19, 20, 21, 22, 23, 24, 25]),
  (⟨(some 131), .bin .eql (.t 128) (.t 130), (some (121, false)), false⟩, []),
  (⟨(some 132), .pick (.t 121) (.c (.b true)) (.t 131), (some (118, true)), false⟩, []),
  (⟨(some 133), .pick (.t 118) (.t 132) (.c (.b false)), none, false⟩, []),
  (⟨(some 3), .mv (.t 133), none, false⟩, [])]
abbrev i13r8 : List IOper := [
  ⟨(some 134), .mv (.t 3), none, false⟩,
  ⟨(some 135), .mv (.t 134), none, true⟩,
  ⟨(some 136), .fa 6 (.t 1), (some (135, true)), false⟩,
  ⟨(some 137), .ld false 1 (.t 136), (some (135, true)), false⟩,
  ⟨(some 138), .fa 7 (.t 1), (some (135, true)), false⟩,
  ⟨(some 139), .ld false 1 (.t 138), (some (135, true)), false⟩,
  ⟨(some 140), .bin .or (.t 137) (.t 139), (some (135, true)), false⟩,
  ⟨(some 141), .fa 8 (.t 1), (some (135, true)), false⟩,
  ⟨(some 142), .ld false 1 (.t 141), (some (135, true)), false⟩,
  ⟨(some 143), .bin .or (.t 140) (.t 142), (some (135, true)), false⟩,
  ⟨(some 144), .fa 9 (.t 1), (some (135, true)), false⟩,
  ⟨(some 145), .ld false 1 (.t 144), (some (135, true)), false⟩,
  ⟨(some 146), .bin .or (.t 143) (.t 145), (some (135, true)), false⟩,
  ⟨(some 147), .fa 10 (.t 1), (some (135, true)), false⟩,
  ⟨(some 148), .ld false 1 (.t 147), (some (135, true)), false⟩,
  ⟨(some 149), .bin .or (.t 146) (.t 148), (some (135, true)), false⟩,
  ⟨(some 150), .fa 12 (.t 1), (some (135, true)), false⟩,
  ⟨(some 151), .ld false 1 (.t 150), (some (135, true)), false⟩,
  ⟨(some 152), .bin .or (.t 149) (.t 151), (some (135, true)), false⟩,
  ⟨(some 153), .fa 13 (.t 1), (some (135, true)), false⟩,
  ⟨(some 154), .ld false 1 (.t 153), (some (135, true)), false⟩,
  ⟨(some 155), .bin .or (.t 152) (.t 154), (some (135, true)), false⟩,
  ⟨(some 156), .fa 14 (.t 1), (some (135, true)), false⟩,
  ⟨(some 157), .ld false 1 (.t 156), (some (135, true)), false⟩,
  ⟨(some 158), .bin .or (.t 155) (.t 157), (some (135, true)), false⟩,
  ⟨(some 159), .fa 15 (.t 1), (some (135, true)), false⟩,
  ⟨(some 160), .ld false 1 (.t 159), (some (135, true)), false⟩,
  ⟨(some 161), .bin .or (.t 158) (.t 160), (some (135, true)), false⟩,
  ⟨(some 162), .bin .eql (.t 161) (.c (.i .i64 0)), (some (135, true)), false⟩,
  ⟨(some 163), .pick (.t 135) (.t 162) (.c (.b false)), none, false⟩,
  ⟨(some 164), .mv (.t 163), none, true⟩,
  ⟨(some 165), .fa 16 (.t 1), (some (164, true)), false⟩,
  ⟨(some 166), .ld false 1 (.t 165), (some (164, true)), false⟩,
  ⟨(some 167), .lenV (.t 166), (some (164, true)), false⟩,
  ⟨(some 168), .bin .eql (.t 167) (.c (.i .i64 0)), (some (164, true)), false⟩,
  ⟨(some 169), .pick (.t 164) (.t 168) (.c (.b false)), none, false⟩,
  ⟨(some 3), .mv (.t 169), none, false⟩]
abbrev i13r9 : List IOper := [
  ⟨(some 170), .mv (.t 3), none, false⟩,
  ⟨(some 171), .not (.t 170), none, true⟩]
abbrev i13r10 : List IOper := [
  ⟨(some 2), .mv (.c (.i .i64 290)), none, false⟩]
abbrev i13r11 : List IOper := [
  ⟨(some 2), .mv (.c (.i .i64 0)), none, false⟩]
abbrev i13c : ICode := (.seq (.reg i13r0) (.seq (.reg i13r1) (.seq (.seq (.reg i13r2) (.cond (.t 61) (.reg i13r3) (.reg i13r4))) (.seq (.seq (.reg i13r5) (.cond (.t 99) (.seq (.reg i13r6) (.dreg i13r7)) (.reg i13r8))) (.seq (.seq (.reg i13r9) (.cond (.t 171) (.seq (.reg i13r10) .ret) .skip)) (.seq (.reg i13r11) .ret))))))
def i13 : IFn := { np := 1, N := 172, ct := [61, 99, 171], code := i13c, res := [.t 2] }
theorem i13_eq : compF Try.prog Try.f13 = some i13 := by kernel_rfl
abbrev i15r0 : List IOper := [
  ⟨(some 3), .box (.t 0), none, false⟩,
  ⟨(some 6), .new [.i .i64 0, .b false, .b false, .i .i64 0, .i .i64 0, .i .i64 0, .i .i64 0, .i .i64 0, .i .i64 0, .i .i64 0, .i .i64 0, .i .i64 0, .i .i64 0, .i .i64 0, .i .i64 0, .i .i64 0, .ns], none, false⟩,
  ⟨(some 7), .mv (.c (.i .i64 0)), none, false⟩]
abbrev i15r1 : List IOper := [
  ⟨(some 10), .ld true 17 (.t 3), none, false⟩,
  ⟨(some 11), .call (.c (.fn 13 [])) [.t 10], none, false⟩,
  ⟨(some 8), .mv (.t 11), none, false⟩]
abbrev i15r2 : List IOper := [
  ⟨(some 12), .mv (.t 8), none, false⟩,
  ⟨(some 13), .bin .neq (.t 12) (.c (.i .i64 0)), none, true⟩]
abbrev i15r3 : List IOper := [
  ⟨(some 14), .build [.i .i64 0, .b false, .b false, .i .i64 0, .i .i64 0, .i .i64 0, .i .i64 0, .i .i64 0, .i .i64 0, .i .i64 0, .i .i64 0, .i .i64 0, .i .i64 0, .i .i64 0, .i .i64 0, .i .i64 0, .ns] [], none, false⟩,
  ⟨(some 15), .mv (.t 8), none, false⟩,
  ⟨none, .st 17 (.t 6) (.t 14), none, false⟩,
  ⟨(some 7), .mv (.t 15), none, false⟩]
abbrev i15r4 : List IOper := [
  ⟨(some 16), .mv (.t 1), none, false⟩,
  ⟨(some 17), .mv (.t 2), none, false⟩,
  ⟨(some 18), .bsl [.i .i64 0, .i .i64 0] 2 [(0, 1, .t 16), (1, 1, .t 17)], none, false⟩,
  ⟨(some 19), .call (.c (.fn 27 [])) [.c (.i .i64 0), .c (.i .i64 1099511627776), .t 18], none, false⟩,
  ⟨(some 20), .not (.t 19), none, false⟩,
  ⟨(some 21), .mv (.t 20), none, true⟩,
  ⟨(some 22), .mv (.t 2), (some (21, false)), false⟩,
  ⟨(some 23), .fa 0 (.t 3), (some (21, false)), false⟩,
  ⟨(some 24), .ld false 1 (.t 23), (some (21, false)), false⟩,
  ⟨(some 25), .bin .lss (.t 22) (.t 24), (some (21, false)), false⟩,
  ⟨(some 26), .pick (.t 21) (.c (.b true)) (.t 25), none, true⟩]
abbrev i15r5 : List IOper := [
  ⟨(some 27), .build [.i .i64 0, .b false, .b false, .i .i64 0, .i .i64 0, .i .i64 0, .i .i64 0, .i .i64 0, .i .i64 0, .i .i64 0, .i .i64 0, .i .i64 0, .i .i64 0, .i .i64 0, .i .i64 0, .i .i64 0, .ns] [], none, false⟩,
  ⟨none, .st 17 (.t 6) (.t 27), none, false⟩,
  ⟨(some 7), .mv (.c (.i .i64 2)), none, false⟩]
abbrev i15r6 : List IOper := [
  ⟨(some 28), .ld true 17 (.t 3), none, false⟩,
  ⟨(some 29), .mv (.t 1), none, false⟩,
  ⟨(some 30), .mv (.t 2), none, false⟩,
  ⟨(some 31), .build [.i .i64 0, .b false, .b false, .i .i64 0, .i .i64 0, .i .i64 0, .i .i64 0, .i .i64 0, .i .i64 0, .i .i64 0, .i .i64 0, .i .i64 0, .i .i64 0, .i .i64 0, .i .i64 0, .i .i64 0, .ns, .i .i64 0, .i .i64 0] [(0, 17, .t 28), (17, 1, .t 29), (18, 1, .t 30)], none, false⟩,
  ⟨(some 32), .box (.t 31), none, false⟩,
  ⟨(some 9), .mv (.t 32), none, false⟩]
abbrev i15r7 : List IOper := [
  ⟨(some 33), .mv (.t 9), none, false⟩,
  ⟨(some 34), .mv (.t 9), none, false⟩,
  ⟨(some 35), .mv (.t 2), none, false⟩,
  ⟨(some 36), .fa 16 (.t 3), none, false⟩,
  ⟨(some 37), .ld false 1 (.t 36), none, false⟩,
  ⟨(some 38), .call (.c (.fn 33 [])) [.t 37], none, false⟩,
  ⟨(some 39), .nck (.t 33), none, false⟩,
  ⟨(some 40), .fa 0 (.t 39), none, false⟩,
  ⟨(some 41), .fa 0 (.t 40), none, false⟩,
  ⟨none, .st 1 (.t 41) (.t 35), none, false⟩,
  ⟨(some 42), .nck (.t 34), none, false⟩,
  ⟨(some 43), .fa 0 (.t 42), none, false⟩,
  ⟨(some 44), .fa 16 (.t 43), none, false⟩,
  ⟨none, .st 1 (.t 44) (.t 38), none, false⟩]
abbrev i15r8 : List IOper := [
  ⟨(some 77), .mv (.t 9), none, false⟩,
  ⟨(some 78), .nck (.t 77), none, false⟩,
  ⟨(some 79), .fa 0 (.t 78), none, false⟩,
  ⟨(some 80), .fa 1 (.t 79), none, false⟩,
  ⟨(some 81), .ld false 1 (.t 80), none, false⟩,
  ⟨(some 82), .not (.t 81), none, false⟩,
  ⟨(some 76), .mv (.t 82), none, true⟩]
abbrev i15r9 : List IOper := [
  ⟨(some 83), .mv (.t 9), none, false⟩,
  ⟨(some 84), .nck (.t 83), none, false⟩,
  ⟨(some 85), .fa 0 (.t 84), none, false⟩,
  ⟨(some 86), .fa 1 (.t 85), none, false⟩,
  ⟨none, .st 1 (.t 86) (.c (.b true)), none, false⟩]
abbrev i15r10 : List IOper := [
  ⟨(some 87), .mv (.t 9), none, false⟩,
  ⟨(some 88), .call (.c (.fn 34 [])) [.t 87], none, false⟩]
abbrev i15r11 : List IOper := [
  ⟨(some 90), .mv (.t 1), none, false⟩,
  ⟨(some 91), .mv (.t 9), none, false⟩,
  ⟨(some 92), .nck (.t 91), none, false⟩,
  ⟨(some 93), .fa 0 (.t 92), none, false⟩,
  ⟨(some 94), .fa 3 (.t 93), none, false⟩,
  ⟨(some 95), .ld false 1 (.t 94), none, false⟩,
  ⟨(some 96), .bin .lss (.t 90) (.t 95), none, false⟩,
  ⟨(some 89), .mv (.t 96), none, true⟩]
abbrev i15r12 : List IOper := [
  ⟨(some 98), .mv (.t 1), none, false⟩,
  ⟨(some 99), .mv (.t 9), none, false⟩,
  ⟨(some 100), .nck (.t 99), none, false⟩,
  ⟨(some 101), .fa 0 (.t 100), none, false⟩,
  ⟨(some 102), .fa 3 (.t 101), none, false⟩,
  ⟨(some 103), .ld false 1 (.t 102), none, false⟩,
  ⟨(some 104), .bin .add (.t 103) (.c (.i .i64 4)), none, false⟩,
  ⟨(some 105), .bin .leq (.t 98) (.t 104), none, false⟩,
  ⟨(some 97), .mv (.t 105), none, true⟩]
abbrev i15r13 : List IOper := [
  ⟨(some 106), .mv (.t 9), none, false⟩,
  ⟨(some 107), .mv (.t 9), none, false⟩,
  ⟨(some 108), .mv (.t 9), none, false⟩,
  ⟨(some 109), .nck (.t 108), none, false⟩,
  ⟨(some 110), .fa 0 (.t 109), none, false⟩,
  ⟨(some 111), .fa 4 (.t 110), none, false⟩,
  ⟨(some 112), .ld false 1 (.t 111), none, false⟩,
  ⟨(some 113), .mv (.t 1), none, false⟩,
  ⟨(some 114), .mx (.t 112) [.t 113], none, false⟩,
  ⟨(some 115), .mv (.t 2), none, false⟩,
  ⟨(some 116), .nck (.t 106), none, false⟩,
  ⟨(some 117), .fa 0 (.t 116), none, false⟩,
  ⟨(some 118), .fa 4 (.t 117), none, false⟩,
  ⟨none, .st 1 (.t 118) (.t 114), none, false⟩,
  ⟨(some 119), .nck (.t 107), none, false⟩,
  ⟨(some 120), .fa 0 (.t 119), none, false⟩,
  ⟨(some 121), .fa 5 (.t 120), none, false⟩,
  ⟨none, .st 1 (.t 121) (.t 115), none, false⟩]
abbrev i15r14 : List IOper := [
  ⟨(some 45), .mv (.t 9), none, false⟩,
  ⟨(some 46), .nck (.t 45), none, false⟩,
  ⟨(some 47), .fa 0 (.t 46), none, false⟩,
  ⟨(some 48), .fa 2 (.t 47), none, false⟩,
  ⟨(some 49), .ld false 1 (.t 48), none, true⟩]
abbrev i15r15 : List IOper := [
  ⟨(some 50), .mv (.t 9), none, false⟩,
  ⟨(some 51), .call (.c (.fn 35 [])) [.t 50], none, false⟩]
abbrev i15r16 : List (IOper × List Nat) := [
  (⟨(some 52), .mv (.t 9), none, false⟩, []),
  (⟨(some 53), .mv (.t 9), none, false⟩, [0]),
  (⟨(some 54), .mv (.t 9), none, false⟩, [0, 1]),
  (⟨(some 55), .mv (.t 9), none, false⟩, [0, 1, 2]),
  (⟨(some 56), .nck (.t 55), none, false⟩, [0, 1, 2]),
  (⟨(some 57), .fa 0 (.t 56), none, false⟩, [0, 1, 2]),
  (⟨(some 58), .fa 4 (.t 57), none, false⟩, [0, 1, 2]),
  (⟨(some 59), .ld false 1 (.t 58), none, false⟩, [0, 1, 2]),
  (⟨(some 60), .mv (.t 9), none, false⟩, [0, 1, 2, 3, 4, 5, 6, 7]),
  (⟨(some 61), .nck (.t 60), none, false⟩, [0, 1, 2, 3, 4, 5, 6, 7]),
  (⟨(some 62), .fa 0 (.t 61), none, false⟩, [0, 1, 2, 3, 4, 5, 6, 7]),
  (⟨(some 63), .fa 5 (.t 62), none, false⟩, [0, 1, 2, 3, 4, 5, 6, 7]),
  (⟨(some 64), .ld false 1 (.t 63), none, false⟩, [0, 1, 2, 3, 4, 5, 6, 7]),
  (⟨(some 65), .nck (.t 52), none, false⟩, [1, 2]),
  (⟨(some 66), .fa 0 (.t 65), none, false⟩, [1, 2]),
  (⟨(some 67), .fa 2 (.t 66), none, false⟩, [1, 2]),
  (⟨none, .st 1 (.t 67) (.c (.b true)), none, false⟩, [1, 2]),
  (⟨(some 68), .nck (.t 53), none, false⟩, [2]),
  (⟨(some 69), .fa 0 (.t 68), none, false⟩, [2]),
  (⟨(some 70), .fa 6 (.t 69), none, false⟩, [2]),
  (⟨none, .st 1 (.t 70) (.t 59), none, false⟩, [2]),
  (⟨(some 71), .nck (.t 54), none, false⟩, []),
  (⟨(some 72), .fa 0 (.t 71), none, false⟩, []),
  (⟨(some 73), .fa 7 (.t 72), none, false⟩, []),
  (⟨none, .st 1 (.t 73) (.t 64), none, false⟩, [])]
abbrev i15r17 : List IOper := [
  ⟨(some 74), .mv (.t 9), none, false⟩,
  ⟨(some 75), .call (.c (.fn 34 [])) [.t 74], none, false⟩]
abbrev i15r18 : List IOper := [
  ⟨(some 122), .mv (.t 9), none, false⟩,
  ⟨(some 123), .nck (.t 122), none, false⟩,
  ⟨(some 124), .fa 0 (.t 123), none, false⟩,
  ⟨(some 125), .ld true 17 (.t 124), none, false⟩,
  ⟨none, .st 17 (.t 6) (.t 125), none, false⟩,
  ⟨(some 7), .mv (.c (.i .i64 0)), none, false⟩]
abbrev i15c : ICode := (.seq (.reg i15r0) (.seq (.seq (.reg i15r1) (.seq (.reg i15r2) (.cond (.t 13) (.seq (.reg i15r3) .ret) .skip))) (.seq (.seq (.reg i15r4) (.cond (.t 26) (.seq (.reg i15r5) .ret) .skip)) (.seq (.reg i15r6) (.seq (.reg i15r7) (.seq (.block 0 (.seq (.reg i15r8) (.cond (.t 76) (.seq (.reg i15r9) (.reg i15r10)) (.seq (.reg i15r11) (.cond (.t 89) .skip (.seq (.reg i15r12) (.cond (.t 97) (.reg i15r13) (.seq (.seq (.reg i15r14) (.cond (.t 49) (.reg i15r15) .skip)) (.seq (.dreg i15r16) (.reg i15r17)))))))))) (.seq (.reg i15r18) .ret)))))))
def i15 : IFn := { np := 3, N := 126, ct := [13, 26, 76, 89, 97, 49], code := i15c, res := [.c 6 true 17, .t 7] }
theorem i15_eq : compF Try.prog Try.f15 = some i15 := by kernel_rfl
abbrev i18r0 : List IOper := [
  ⟨(some 0), .new [.i .i64 0, .b false, .b false, .i .i64 0, .i .i64 0, .i .i64 0, .i .i64 0, .i .i64 0, .i .i64 0, .i .i64 0, .i .i64 0, .i .i64 0, .i .i64 0, .i .i64 0, .i .i64 0, .i .i64 0, .ns], none, false⟩]
abbrev i18r1 : List IOper := [
  ⟨(some 1), .build [.i .i64 0, .b false, .b false, .i .i64 0, .i .i64 0, .i .i64 0, .i .i64 0, .i .i64 0, .i .i64 0, .i .i64 0, .i .i64 0, .i .i64 0, .i .i64 0, .i .i64 0, .i .i64 0, .i .i64 0, .ns] [(11, 1, .c (.i .i64 12800))], none, false⟩,
  ⟨none, .st 17 (.t 0) (.t 1), none, false⟩]
abbrev i18c : ICode := (.seq (.reg i18r0) (.seq (.reg i18r1) .ret))
def i18 : IFn := { np := 0, N := 2, ct := [], code := i18c, res := [.c 0 true 17] }
theorem i18_eq : compF Try.prog Try.f18 = some i18 := by kernel_rfl
abbrev i20r0 : List IOper := [
  ⟨(some 0), .mv (.c (.b false)), none, false⟩]
abbrev i20r1 : List IOper := [
  ⟨(some 15), .call (.c (.fn 18 [])) [], none, false⟩,
  ⟨(some 16), .build [.i .i64 0, .i .i64 0] [(0, 1, .c (.i .i64 0)), (1, 1, .c (.i .i64 10))], none, false⟩,
  ⟨(some 17), .build [.i .i64 0, .i .i64 0] [(0, 1, .c (.i .i64 3)), (1, 1, .c (.i .i64 12))], none, false⟩,
  ⟨(some 18), .build [.i .i64 0, .i .i64 0] [(0, 1, .c (.i .i64 5)), (1, 1, .c (.i .i64 20))], none, false⟩,
  ⟨(some 19), .bsl [.i .i64 0, .i .i64 0, .i .i64 0, .i .i64 0, .i .i64 0, .i .i64 0] 3 [(0, 2, .t 16), (2, 2, .t 17), (4, 2, .t 18)], none, false⟩,
  ⟨(some 20), .call (.c (.fn 24 [])) [.t 15, .t 19], none, false⟩,
  ⟨(some 14), .mv (.t 20), none, false⟩,
  ⟨(some 21), .ext (.t 14) 0, none, false⟩,
  ⟨(some 22), .ext (.t 14) 1, none, false⟩,
  ⟨(some 1), .new [.i .i64 0, .b false, .b false, .i .i64 0, .i .i64 0, .i .i64 0, .i .i64 0, .i .i64 0, .i .i64 0, .i .i64 0, .i .i64 0, .i .i64 0, .i .i64 0, .i .i64 0, .i .i64 0, .i .i64 0, .ns], none, false⟩,
  ⟨none, .st 17 (.t 1) (.t 21), none, false⟩,
  ⟨(some 2), .mv (.t 22), none, false⟩]
abbrev i20r2 : List IOper := [
  ⟨(some 24), .ld true 17 (.t 1), none, false⟩,
  ⟨(some 25), .build [.i .i64 0, .i .i64 0] [(0, 1, .c (.i .i64 10)), (1, 1, .c (.i .i64 30))], none, false⟩,
  ⟨(some 26), .bsl [.i .i64 0, .i .i64 0] 1 [(0, 2, .t 25)], none, false⟩,
  ⟨(some 27), .call (.c (.fn 24 [])) [.t 24, .t 26], none, false⟩,
  ⟨(some 23), .mv (.t 27), none, false⟩,
  ⟨(some 28), .ext (.t 23) 0, none, false⟩,
  ⟨(some 29), .ext (.t 23) 1, none, false⟩,
  ⟨(some 3), .new [.i .i64 0, .b false, .b false, .i .i64 0, .i .i64 0, .i .i64 0, .i .i64 0, .i .i64 0, .i .i64 0, .i .i64 0, .i .i64 0, .i .i64 0, .i .i64 0, .i .i64 0, .i .i64 0, .i .i64 0, .ns], none, false⟩,
  ⟨none, .st 17 (.t 3) (.t 28), none, false⟩,
  ⟨(some 4), .mv (.t 29), none, false⟩]
abbrev i20r3 : List IOper := [
  ⟨(some 31), .ld true 17 (.t 3), none, false⟩,
  ⟨(some 32), .build [.i .i64 0, .i .i64 0] [(0, 1, .c (.i .i64 15)), (1, 1, .c (.i .i64 30))], none, false⟩,
  ⟨(some 33), .bsl [.i .i64 0, .i .i64 0] 1 [(0, 2, .t 32)], none, false⟩,
  ⟨(some 34), .call (.c (.fn 24 [])) [.t 31, .t 33], none, false⟩,
  ⟨(some 30), .mv (.t 34), none, false⟩,
  ⟨(some 35), .ext (.t 30) 0, none, false⟩,
  ⟨(some 36), .ext (.t 30) 1, none, false⟩,
  ⟨(some 5), .new [.i .i64 0, .b false, .b false, .i .i64 0, .i .i64 0, .i .i64 0, .i .i64 0, .i .i64 0, .i .i64 0, .i .i64 0, .i .i64 0, .i .i64 0, .i .i64 0, .i .i64 0, .i .i64 0, .i .i64 0, .ns], none, false⟩,
  ⟨none, .st 17 (.t 5) (.t 35), none, false⟩,
  ⟨(some 6), .mv (.t 36), none, false⟩]
abbrev i20r4 : List IOper := [
  ⟨(some 37), .mv (.t 2), none, false⟩,
  ⟨(some 38), .not (.t 37), none, false⟩,
  ⟨(some 39), .mv (.t 38), none, true⟩,
  ⟨(some 40), .mv (.t 4), (some (39, false)), false⟩,
  ⟨(some 41), .not (.t 40), (some (39, false)), false⟩,
  ⟨(some 42), .pick (.t 39) (.c (.b true)) (.t 41), none, false⟩,
  ⟨(some 43), .mv (.t 42), none, true⟩,
  ⟨(some 44), .mv (.t 6), (some (43, false)), false⟩,
  ⟨(some 45), .not (.t 44), (some (43, false)), false⟩,
  ⟨(some 46), .pick (.t 43) (.c (.b true)) (.t 45), none, false⟩,
  ⟨(some 47), .mv (.t 46), none, true⟩,
  ⟨(some 48), .fa 16 (.t 3), (some (47, false)), false⟩,
  ⟨(some 49), .ld false 1 (.t 48), (some (47, false)), false⟩,
  ⟨(some 50), .lenV (.t 49), (some (47, false)), false⟩,
  ⟨(some 51), .bin .neq (.t 50) (.c (.i .i64 1)), (some (47, false)), false⟩,
  ⟨(some 52), .pick (.t 47) (.c (.b true)) (.t 51), none, false⟩,
  ⟨(some 53), .mv (.t 52), none, true⟩,
  ⟨(some 54), .fa 16 (.t 5), (some (53, false)), false⟩,
  ⟨(some 55), .ld false 1 (.t 54), (some (53, false)), false⟩,
  ⟨(some 56), .lenV (.t 55), (some (53, false)), false⟩,
  ⟨(some 57), .bin .neq (.t 56) (.c (.i .i64 2)), (some (53, false)), false⟩,
  ⟨(some 58), .pick (.t 53) (.c (.b true)) (.t 57), none, true⟩]
abbrev i20r5 : List IOper := [
  ⟨(some 0), .mv (.c (.b false)), none, false⟩]
abbrev i20r6 : List IOper := [
  ⟨(some 60), .call (.c (.fn 18 [])) [], none, false⟩,
  ⟨(some 61), .call (.c (.fn 15 [])) [.t 60, .c (.i .i64 (-1)), .c (.i .i64 0)], none, false⟩,
  ⟨(some 59), .mv (.t 61), none, false⟩,
  ⟨(some 62), .ext (.t 59) 0, none, false⟩,
  ⟨(some 63), .ext (.t 59) 1, none, false⟩,
  ⟨(some 7), .new [.i .i64 0, .b false, .b false, .i .i64 0, .i .i64 0, .i .i64 0, .i .i64 0, .i .i64 0, .i .i64 0, .i .i64 0, .i .i64 0, .i .i64 0, .i .i64 0, .i .i64 0, .i .i64 0, .i .i64 0, .ns], none, false⟩,
  ⟨none, .st 17 (.t 7) (.t 62), none, false⟩,
  ⟨(some 8), .mv (.t 63), none, false⟩]
abbrev i20r7 : List IOper := [
  ⟨(some 65), .call (.c (.fn 18 [])) [], none, false⟩,
  ⟨(some 66), .build [.i .i64 0, .i .i64 0] [(0, 1, .c (.i .i64 0)), (1, 1, .c (.i .i64 5))], none, false⟩,
  ⟨(some 67), .bsl [.i .i64 0, .i .i64 0] 1 [(0, 2, .t 66)], none, false⟩,
  ⟨(some 68), .call (.c (.fn 24 [])) [.t 65, .t 67], none, false⟩,
  ⟨(some 64), .mv (.t 68), none, false⟩,
  ⟨(some 69), .ext (.t 64) 0, none, false⟩,
  ⟨(some 70), .ext (.t 64) 1, none, false⟩,
  ⟨(some 9), .new [.i .i64 0, .b false, .b false, .i .i64 0, .i .i64 0, .i .i64 0, .i .i64 0, .i .i64 0, .i .i64 0, .i .i64 0, .i .i64 0, .i .i64 0, .i .i64 0, .i .i64 0, .i .i64 0, .i .i64 0, .ns], none, false⟩,
  ⟨none, .st 17 (.t 9) (.t 69), none, false⟩,
  ⟨(some 10), .mv (.t 70), none, false⟩]
abbrev i20r8 : List IOper := [
  ⟨(some 72), .ld true 17 (.t 9), none, false⟩,
  ⟨(some 73), .call (.c (.fn 15 [])) [.t 72, .c (.i .i64 1), .c (.i .i64 4)], none, false⟩,
  ⟨(some 71), .mv (.t 73), none, false⟩,
  ⟨(some 74), .ext (.t 71) 0, none, false⟩,
  ⟨(some 75), .ext (.t 71) 1, none, false⟩,
  ⟨(some 11), .new [.i .i64 0, .b false, .b false, .i .i64 0, .i .i64 0, .i .i64 0, .i .i64 0, .i .i64 0, .i .i64 0, .i .i64 0, .i .i64 0, .i .i64 0, .i .i64 0, .i .i64 0, .i .i64 0, .i .i64 0, .ns], none, false⟩,
  ⟨none, .st 17 (.t 11) (.t 74), none, false⟩,
  ⟨(some 12), .mv (.t 75), none, false⟩]
abbrev i20r9 : List IOper := [
  ⟨(some 76), .fa 3 (.t 1), none, false⟩,
  ⟨(some 77), .ld false 1 (.t 76), none, false⟩,
  ⟨(some 78), .bin .eql (.t 77) (.c (.i .i64 5)), none, false⟩,
  ⟨(some 79), .mv (.t 78), none, true⟩,
  ⟨(some 80), .fa 4 (.t 1), (some (79, true)), false⟩,
  ⟨(some 81), .ld false 1 (.t 80), (some (79, true)), false⟩,
  ⟨(some 82), .bin .eql (.t 81) (.c (.i .i64 5)), (some (79, true)), false⟩,
  ⟨(some 83), .pick (.t 79) (.t 82) (.c (.b false)), none, false⟩,
  ⟨(some 84), .mv (.t 83), none, true⟩,
  ⟨(some 85), .fa 5 (.t 1), (some (84, true)), false⟩,
  ⟨(some 86), .ld false 1 (.t 85), (some (84, true)), false⟩,
  ⟨(some 87), .bin .eql (.t 86) (.c (.i .i64 20)), (some (84, true)), false⟩,
  ⟨(some 88), .pick (.t 84) (.t 87) (.c (.b false)), none, false⟩,
  ⟨(some 89), .mv (.t 88), none, true⟩,
  ⟨(some 90), .fa 6 (.t 1), (some (89, true)), false⟩,
  ⟨(some 91), .ld false 1 (.t 90), (some (89, true)), false⟩,
  ⟨(some 92), .bin .eql (.t 91) (.c (.i .i64 3)), (some (89, true)), false⟩,
  ⟨(some 93), .pick (.t 89) (.t 92) (.c (.b false)), none, false⟩,
  ⟨(some 94), .mv (.t 93), none, true⟩,
  ⟨(some 95), .fa 7 (.t 1), (some (94, true)), false⟩,
  ⟨(some 96), .ld false 1 (.t 95), (some (94, true)), false⟩,
  ⟨(some 97), .bin .eql (.t 96) (.c (.i .i64 12)), (some (94, true)), false⟩,
  ⟨(some 98), .pick (.t 94) (.t 97) (.c (.b false)), none, false⟩,
  ⟨(some 99), .mv (.t 98), none, true⟩,
  ⟨(some 100), .fa 8 (.t 3), (some (99, true)), false⟩,
  ⟨(some 101), .ld false 1 (.t 100), (some (99, true)), false⟩,
  ⟨(some 102), .bin .eql (.t 101) (.c (.i .i64 1)), (some (99, true)), false⟩,
  ⟨(some 103), .pick (.t 99) (.t 102) (.c (.b false)), none, false⟩,
  ⟨(some 104), .mv (.t 103), none, true⟩,
  ⟨(some 105), .fa 9 (.t 3), (some (104, true)), false⟩,
  ⟨(some 106), .ld false 1 (.t 105), (some (104, true)), false⟩,
  ⟨(some 107), .bin .eql (.t 106) (.c (.i .i64 6)), (some (104, true)), false⟩,
  ⟨(some 108), .pick (.t 104) (.t 107) (.c (.b false)), none, false⟩,
  ⟨(some 109), .mv (.t 108), none, true⟩,
  ⟨(some 110), .fa 10 (.t 3), (some (109, true)), false⟩,
  ⟨(some 111), .ld false 1 (.t 110), (some (109, true)), false⟩,
  ⟨(some 112), .bin .eql (.t 111) (.c (.i .i64 614)), (some (109, true)), false⟩,
  ⟨(some 113), .pick (.t 109) (.t 112) (.c (.b false)), none, false⟩,
  ⟨(some 114), .mv (.t 113), none, true⟩,
  ⟨(some 115), .fa 16 (.t 3), (some (114, true)), false⟩,
  ⟨(some 116), .ld false 1 (.t 115), (some (114, true)), false⟩,
  ⟨(some 117), .ixaV 2 (.t 116) (.c (.i .i64 0)), (some (114, true)), false⟩,
  ⟨(some 118), .ld true 2 (.t 117), (some (114, true)), false⟩,
  ⟨(some 119), .build [.i .i64 0, .i .i64 0] [(0, 1, .c (.i .i64 20)), (1, 1, .c (.i .i64 614))], (some (114, true)), false⟩,
  ⟨(some 120), .eqk false true [.i, .i] (.t 118) (.t 119), (some (114, true)), false⟩,
  ⟨(some 121), .pick (.t 114) (.t 120) (.c (.b false)), none, false⟩,
  ⟨(some 122), .mv (.t 121), none, true⟩,
  ⟨(some 123), .fa 11 (.t 3), (some (122, true)), false⟩,
  ⟨(some 124), .ld false 1 (.t 123), (some (122, true)), false⟩,
  ⟨(some 125), .bin .eql (.t 124) (.c (.i .i64 8806)), (some (122, true)), false⟩,
  ⟨(some 126), .pick (.t 122) (.t 125) (.c (.b false)), none, false⟩,
  ⟨(some 13), .mv (.t 126), none, false⟩]
abbrev i20r10 : List IOper := [
  ⟨(some 127), .mv (.t 13), none, false⟩,
  ⟨(some 128), .mv (.t 127), none, true⟩,
  ⟨(some 129), .fa 8 (.t 5), (some (128, true)), false⟩,
  ⟨(some 130), .ld false 1 (.t 129), (some (128, true)), false⟩,
  ⟨(some 131), .bin .eql (.t 130) (.c (.i .i64 2)), (some (128, true)), false⟩,
  ⟨(some 132), .pick (.t 128) (.t 131) (.c (.b false)), none, false⟩,
  ⟨(some 133), .mv (.t 132), none, true⟩,
  ⟨(some 134), .fa 9 (.t 5), (some (133, true)), false⟩,
  ⟨(some 135), .ld false 1 (.t 134), (some (133, true)), false⟩,
  ⟨(some 136), .bin .eql (.t 135) (.c (.i .i64 11)), (some (133, true)), false⟩,
  ⟨(some 137), .pick (.t 133) (.t 136) (.c (.b false)), none, false⟩,
  ⟨(some 138), .mv (.t 137), none, true⟩,
  ⟨(some 139), .fa 10 (.t 5), (some (138, true)), false⟩,
  ⟨(some 140), .ld false 1 (.t 139), (some (138, true)), false⟩,
  ⟨(some 141), .bin .eql (.t 140) (.c (.i .i64 1679)), (some (138, true)), false⟩,
  ⟨(some 142), .pick (.t 138) (.t 141) (.c (.b false)), none, false⟩,
  ⟨(some 143), .mv (.t 142), none, true⟩,
  ⟨(some 144), .fa 16 (.t 5), (some (143, true)), false⟩,
  ⟨(some 145), .ld false 1 (.t 144), (some (143, true)), false⟩,
  ⟨(some 146), .ixaV 2 (.t 145) (.c (.i .i64 0)), (some (143, true)), false⟩,
  ⟨(some 147), .ld true 2 (.t 146), (some (143, true)), false⟩,
  ⟨(some 148), .build [.i .i64 0, .i .i64 0] [(0, 1, .c (.i .i64 20)), (1, 1, .c (.i .i64 614))], (some (143, true)), false⟩,
  ⟨(some 149), .eqk false true [.i, .i] (.t 147) (.t 148), (some (143, true)), false⟩,
  ⟨(some 150), .pick (.t 143) (.t 149) (.c (.b false)), none, false⟩,
  ⟨(some 151), .mv (.t 150), none, true⟩,
  ⟨(some 152), .fa 16 (.t 5), (some (151, true)), false⟩,
  ⟨(some 153), .ld false 1 (.t 152), (some (151, true)), false⟩,
  ⟨(some 154), .ixaV 2 (.t 153) (.c (.i .i64 1)), (some (151, true)), false⟩,
  ⟨(some 155), .ld true 2 (.t 154), (some (151, true)), false⟩,
  ⟨(some 156), .build [.i .i64 0, .i .i64 0] [(0, 1, .c (.i .i64 30)), (1, 1, .c (.i .i64 1679))], (some (151, true)), false⟩,
  ⟨(some 157), .eqk false true [.i, .i] (.t 155) (.t 156), (some (151, true)), false⟩,
  ⟨(some 158), .pick (.t 151) (.t 157) (.c (.b false)), none, false⟩,
  ⟨(some 159), .mv (.t 158), none, true⟩,
  ⟨(some 160), .fa 14 (.t 5), (some (159, true)), false⟩,
  ⟨(some 161), .ld false 1 (.t 160), (some (159, true)), false⟩,
  ⟨(some 162), .bin .eql (.t 161) (.c (.i .i64 852)), (some (159, true)), false⟩,
  ⟨(some 163), .pick (.t 159) (.t 162) (.c (.b false)), none, false⟩,
  ⟨(some 164), .mv (.t 163), none, true⟩,
  ⟨(some 165), .fa 11 (.t 5), (some (164, true)), false⟩,
  ⟨(some 166), .ld false 1 (.t 165), (some (164, true)), false⟩,
  ⟨(some 167), .bin .eql (.t 166) (.c (.i .i64 6144)), (some (164, true)), false⟩,
  ⟨(some 168), .pick (.t 164) (.t 167) (.c (.b false)), none, false⟩,
  ⟨(some 13), .mv (.t 168), none, false⟩]
abbrev i20r11 : List IOper := [
  ⟨(some 169), .mv (.t 13), none, false⟩,
  ⟨(some 170), .mv (.t 169), none, true⟩,
  ⟨(some 171), .build [.i .i64 0, .i .i64 0] [], (some (170, true)), false⟩,
  ⟨(some 172), .build [.i .i64 0, .i .i64 0] [(0, 1, .c (.i .i64 10)), (1, 1, .c (.i .i64 5))], (some (170, true)), false⟩,
  ⟨(some 173), .build [.i .i64 0, .i .i64 0] [(0, 1, .c (.i .i64 20)), (1, 1, .c (.i .i64 10))], (some (170, true)), false⟩,
  ⟨(some 174), .bsl [.i .i64 0, .i .i64 0, .i .i64 0, .i .i64 0, .i .i64 0, .i .i64 0] 3 [(0, 2, .t 171), (2, 2, .t 172), (4, 2, .t 173)], (some (170, true)), false⟩,
  ⟨(some 175), .call (.c (.fn 26 [])) [.c (.i .i64 300), .c (.i .i64 600), .t 174], (some (170, true)), false⟩,
  ⟨(some 176), .pick (.t 170) (.t 175) (.c (.b false)), none, false⟩,
  ⟨(some 177), .mv (.t 176), none, true⟩,
  ⟨(some 178), .build [.i .i64 0, .i .i64 0] [(0, 1, .c (.i .i64 1)), (1, 1, .c (.i .i64 1))], (some (177, true)), false⟩,
  ⟨(some 179), .bsl [.i .i64 0, .i .i64 0] 1 [(0, 2, .t 178)], (some (177, true)), false⟩,
  ⟨(some 180), .call (.c (.fn 25 [])) [.t 179], (some (177, true)), false⟩,
  ⟨(some 181), .pick (.t 177) (.t 180) (.c (.b false)), none, false⟩,
  ⟨(some 182), .mv (.t 181), none, true⟩,
  ⟨(some 183), .build [.i .i64 0, .i .i64 0] [(0, 1, .c (.i .i64 1)), (1, 1, .c (.i .i64 1))], (some (182, true)), false⟩,
  ⟨(some 184), .build [.i .i64 0, .i .i64 0] [(0, 1, .c (.i .i64 1)), (1, 1, .c (.i .i64 2))], (some (182, true)), false⟩,
  ⟨(some 185), .bsl [.i .i64 0, .i .i64 0, .i .i64 0, .i .i64 0] 2 [(0, 2, .t 183), (2, 2, .t 184)], (some (182, true)), false⟩,
  ⟨(some 186), .call (.c (.fn 25 [])) [.t 185], (some (182, true)), false⟩,
  ⟨(some 187), .pick (.t 182) (.t 186) (.c (.b false)), none, false⟩,
  ⟨(some 188), .mv (.t 187), none, true⟩,
  ⟨(some 189), .build [.i .i64 0, .i .i64 0] [(0, 1, .c (.i .i64 2)), (1, 1, .c (.i .i64 1))], (some (188, true)), false⟩,
  ⟨(some 190), .build [.i .i64 0, .i .i64 0] [(0, 1, .c (.i .i64 1)), (1, 1, .c (.i .i64 1))], (some (188, true)), false⟩,
  ⟨(some 191), .bsl [.i .i64 0, .i .i64 0, .i .i64 0, .i .i64 0] 2 [(0, 2, .t 189), (2, 2, .t 190)], (some (188, true)), false⟩,
  ⟨(some 192), .call (.c (.fn 25 [])) [.t 191], (some (188, true)), false⟩,
  ⟨(some 193), .pick (.t 188) (.t 192) (.c (.b false)), none, false⟩,
  ⟨(some 194), .mv (.t 193), none, true⟩,
  ⟨(some 195), .mv (.t 8), (some (194, true)), false⟩,
  ⟨(some 196), .bin .eql (.t 195) (.c (.i .i64 2)), (some (194, true)), false⟩,
  ⟨(some 197), .pick (.t 194) (.t 196) (.c (.b false)), none, false⟩,
  ⟨(some 198), .mv (.t 197), none, true⟩,
  ⟨(some 199), .mv (.t 12), (some (198, true)), false⟩,
  ⟨(some 200), .bin .eql (.t 199) (.c (.i .i64 2)), (some (198, true)), false⟩,
  ⟨(some 201), .pick (.t 198) (.t 200) (.c (.b false)), none, false⟩,
  ⟨(some 0), .mv (.t 201), none, false⟩]
abbrev i20c : ICode := (.seq (.reg i20r0) (.seq (.reg i20r1) (.seq (.reg i20r2) (.seq (.reg i20r3) (.seq (.seq (.reg i20r4) (.cond (.t 58) (.seq (.reg i20r5) .ret) .skip)) (.seq (.reg i20r6) (.seq (.reg i20r7) (.seq (.reg i20r8) (.seq (.reg i20r9) (.seq (.reg i20r10) (.seq (.reg i20r11) .ret)))))))))))
def i20 : IFn := { np := 0, N := 202, ct := [58], code := i20c, res := [.t 0] }
theorem i20_eq : compF Try.prog Try.f20 = some i20 := by kernel_rfl
abbrev i22r0 : List IOper := [
  ⟨(some 2), .mv (.c (.i .i64 0)), none, false⟩,
  ⟨(some 3), .mv (.c (.i .i64 0)), none, false⟩,
  ⟨(some 4), .mv (.c (.i .i64 0)), none, false⟩]
abbrev i22r1 : List IOper := [
  ⟨(some 6), .mv (.t 0), none, false⟩,
  ⟨(some 7), .lenV (.t 6), none, false⟩,
  ⟨(some 5), .mv (.t 7), none, false⟩]
abbrev i22r2 : List (IOper × List Nat) := [
  (⟨(some 8), .mv (.t 5), none, false⟩, []),
  (⟨(some 9), .bin .lss (.t 8) (.c (.i .i64 2)), none, false⟩, []),
  (⟨(some 10), .mv (.t 9), none, true⟩, []),
  (⟨(some 11), .mv (.t 0), (some (10, false)), false⟩, []),
  (⟨(some 12), .call (.c (.fn 28 [])) [.t 11, .c (.i .i64 40000)], (some (10, false)), false⟩, []),
  (⟨(some 13), .not (.t 12), (some (10, false)), false⟩, []),
  (⟨(some 14), .pick (.t 10) (.c (.b true)) (.t 13), none, false⟩, []),
  (⟨(some 15), .mv (.t 14), none, true⟩, []),
  (⟨(some 16), .mv (.t 0), (some (15, false)), false⟩, []),
  (⟨(some 17), .mv (.t 5), (some (15, false)), false⟩, [8]),
  (⟨(some 18), .bin .sub (.t 17) (.c (.i .i64 1)), (some (15, false)), false⟩, [8]),
  (⟨(some 19), .ixaV 2 (.t 16) (.t 18), (some (15, false)), false⟩, []),
  (⟨(some 20), .fa 0 (.t 19), (some (15, false)), false⟩, []),
  (⟨(some 21), .ld false 1 (.t 20), (some (15, false)), false⟩, []),
  (⟨(some 22), .mv (.t 0), (some (15, false)), false⟩, [8, 9, 10, 11, 12, 13]),
  (⟨(some 23), .ixaV 2 (.t 22) (.c (.i .i64 0)), (some (15, false)), false⟩, [8, 9, 10, 11, 12, 13]),
  (⟨(some 24), .fa 0 (.t 23), (some (15, false)), false⟩, [8, 9, 10, 11, 12, 13]),
  (⟨(some 25), .ld false 1 (.t 24), (some (15, false)), false⟩, [8, 9, 10, 11, 12, 13]),
  (⟨(some 26), .bin .sub (.t 21) (.t 25), (some (15, false)), false⟩, []),
  (⟨(some 27), .bsl [.i .i64 0] 1 [(0, 1, .t 26)], (some (15, false)), false⟩, []),
  (⟨(some 28), .call (.c (.fn 27 [])) [.c (.i .i64 1), .c (.i .i64 40000), .t 27], (some (15, false)), false⟩, []),
  (⟨(some 29), .not (.t 28), (some (15, false)), false⟩, []),
  (⟨(some 30), .pick (.t 15) (.c (.b true)) (.t 29), none, true⟩, [])]
abbrev i22r3 : List IOper := [
  ⟨(some 2), .mv (.c (.i .i64 0)), none, false⟩,
  ⟨(some 3), .mv (.c (.i .i64 0)), none, false⟩,
  ⟨(some 4), .mv (.c (.i .i64 291)), none, false⟩]
abbrev i22r4 : List IOper := [
  ⟨(some 32), .mv (.t 0), none, false⟩,
  ⟨(some 33), .call (.c (.fn 38 [])) [.t 32], none, false⟩,
  ⟨(some 31), .mv (.t 33), none, false⟩,
  ⟨(some 34), .ext (.t 31) 0, none, false⟩,
  ⟨(some 35), .ext (.t 31) 1, none, false⟩,
  ⟨(some 2), .mv (.t 34), none, false⟩,
  ⟨(some 3), .mv (.t 35), none, false⟩]
abbrev i22r5 : List IOper := [
  ⟨(some 36), .mv (.t 2), none, false⟩,
  ⟨(some 37), .mv (.t 3), none, false⟩,
  ⟨(some 2), .mv (.t 36), none, false⟩,
  ⟨(some 3), .mv (.t 37), none, false⟩,
  ⟨(some 4), .mv (.c (.i .i64 0)), none, false⟩]
abbrev i22c : ICode := (.seq (.reg i22r0) (.seq (.reg i22r1) (.seq (.seq (.dreg i22r2) (.cond (.t 30) (.seq (.reg i22r3) .ret) .skip)) (.seq (.reg i22r4) (.seq (.reg i22r5) .ret)))))
def i22 : IFn := { np := 1, N := 38, ct := [30], code := i22c, res := [.t 2, .t 3, .t 4] }
theorem i22_eq : compF Try.prog Try.f22 = some i22 := by kernel_rfl
abbrev i24r0 : List IOper := [
  ⟨(some 2), .box (.t 0), none, false⟩,
  ⟨(some 4), .new [.i .i64 0, .b false, .b false, .i .i64 0, .i .i64 0, .i .i64 0, .i .i64 0, .i .i64 0, .i .i64 0, .i .i64 0, .i .i64 0, .i .i64 0, .i .i64 0, .i .i64 0, .i .i64 0, .i .i64 0, .ns], none, false⟩,
  ⟨(some 5), .mv (.c (.b false)), none, false⟩]
abbrev i24r1 : List IOper := [
  ⟨(some 10), .mv (.t 1), none, false⟩,
  ⟨(some 11), .lenV (.t 10), none, false⟩,
  ⟨(some 12), .mv (.c (.i .i64 0)), none, false⟩]
abbrev i24r2 : List IOper := [
  ⟨(some 13), .bin .lss (.t 12) (.t 11), none, true⟩]
abbrev i24r3 : List IOper := [
  ⟨(some 14), .ixaV 2 (.t 10) (.t 12), none, false⟩,
  ⟨(some 15), .ld true 2 (.t 14), none, false⟩,
  ⟨(some 7), .new [.i .i64 0, .i .i64 0], none, false⟩,
  ⟨none, .st 2 (.t 7) (.t 15), none, false⟩]
abbrev i24r4 : List IOper := [
  ⟨(some 17), .ld true 17 (.t 2), none, false⟩,
  ⟨(some 18), .ixaA 2 1 (.t 7) (.c (.i .i64 0)), none, false⟩,
  ⟨(some 19), .ld false 1 (.t 18), none, false⟩,
  ⟨(some 20), .ixaA 2 1 (.t 7) (.c (.i .i64 1)), none, false⟩,
  ⟨(some 21), .ld false 1 (.t 20), none, false⟩,
  ⟨(some 22), .call (.c (.fn 15 [])) [.t 17, .t 19, .t 21], none, false⟩,
  ⟨(some 16), .mv (.t 22), none, false⟩,
  ⟨(some 23), .ext (.t 16) 0, none, false⟩,
  ⟨(some 24), .ext (.t 16) 1, none, false⟩,
  ⟨(some 8), .new [.i .i64 0, .b false, .b false, .i .i64 0, .i .i64 0, .i .i64 0, .i .i64 0, .i .i64 0, .i .i64 0, .i .i64 0, .i .i64 0, .i .i64 0, .i .i64 0, .i .i64 0, .i .i64 0, .i .i64 0, .ns], none, false⟩,
  ⟨none, .st 17 (.t 8) (.t 23), none, false⟩,
  ⟨(some 9), .mv (.t 24), none, false⟩]
abbrev i24r5 : List IOper := [
  ⟨(some 25), .mv (.t 9), none, false⟩,
  ⟨(some 26), .bin .neq (.t 25) (.c (.i .i64 0)), none, false⟩,
  ⟨(some 27), .mv (.t 26), none, true⟩,
  ⟨(some 28), .ld true 17 (.t 8), (some (27, false)), false⟩,
  ⟨(some 29), .call (.c (.fn 13 [])) [.t 28], (some (27, false)), false⟩,
  ⟨(some 30), .bin .neq (.t 29) (.c (.i .i64 0)), (some (27, false)), false⟩,
  ⟨(some 31), .pick (.t 27) (.c (.b true)) (.t 30), none, true⟩]
abbrev i24r6 : List IOper := [
  ⟨(some 32), .build [.i .i64 0, .b false, .b false, .i .i64 0, .i .i64 0, .i .i64 0, .i .i64 0, .i .i64 0, .i .i64 0, .i .i64 0, .i .i64 0, .i .i64 0, .i .i64 0, .i .i64 0, .i .i64 0, .i .i64 0, .ns] [], none, false⟩,
  ⟨none, .st 17 (.t 4) (.t 32), none, false⟩,
  ⟨(some 5), .mv (.c (.b false)), none, false⟩]
abbrev i24r7 : List IOper := [
  ⟨(some 33), .ld true 17 (.t 8), none, false⟩,
  ⟨none, .st 17 (.t 2) (.t 33), none, false⟩]
abbrev i24r8 : List IOper := [
  ⟨(some 34), .bin .add (.t 12) (.c (.i .i64 1)), none, false⟩,
  ⟨(some 12), .mv (.t 34), none, false⟩]
abbrev i24l9 : ICode := (.seq (.reg i24r2) (.seq (.cond (.t 13) .skip (.exit 0)) (.seq (.block 1 (.seq (.reg i24r3) (.seq (.reg i24r4) (.seq (.seq (.reg i24r5) (.cond (.t 31) (.seq (.reg i24r6) .ret) .skip)) (.reg i24r7))))) (.reg i24r8))))
abbrev i24r10 : List IOper := [
  ⟨(some 35), .ld true 17 (.t 2), none, false⟩,
  ⟨none, .st 17 (.t 4) (.t 35), none, false⟩,
  ⟨(some 5), .mv (.c (.b true)), none, false⟩]
abbrev i24c : ICode := (.seq (.reg i24r0) (.seq (.seq (.reg i24r1) (.block 0 (.loop i24l9))) (.seq (.reg i24r10) .ret)))
def i24 : IFn := { np := 2, N := 36, ct := [13, 31], code := i24c, res := [.c 4 true 17, .t 5] }
theorem i24_eq : compF Try.prog Try.f24 = some i24 := by kernel_rfl
abbrev i25r0 : List IOper := [
  ⟨(some 2), .mv (.c (.b false)), none, false⟩]
abbrev i25r1 : List IOper := [
  ⟨(some 7), .mv (.t 0), none, false⟩,
  ⟨(some 8), .call (.c (.fn 22 [])) [.t 7], none, false⟩,
  ⟨(some 6), .mv (.t 8), none, false⟩,
  ⟨(some 9), .ext (.t 6) 0, none, false⟩,
  ⟨(some 10), .ext (.t 6) 1, none, false⟩,
  ⟨(some 11), .ext (.t 6) 2, none, false⟩,
  ⟨(some 3), .mv (.t 9), none, false⟩,
  ⟨(some 4), .mv (.t 10), none, false⟩,
  ⟨(some 5), .mv (.t 11), none, false⟩]
abbrev i25r2 : List IOper := [
  ⟨(some 12), .mv (.t 3), none, false⟩,
  ⟨(some 13), .bin .eql (.t 12) (.c (.i .i64 0)), none, false⟩,
  ⟨(some 14), .mv (.t 13), none, true⟩,
  ⟨(some 15), .mv (.t 4), (some (14, true)), false⟩,
  ⟨(some 16), .bin .eql (.t 15) (.c (.i .i64 0)), (some (14, true)), false⟩,
  ⟨(some 17), .pick (.t 14) (.t 16) (.c (.b false)), none, false⟩,
  ⟨(some 18), .mv (.t 17), none, true⟩,
  ⟨(some 19), .mv (.t 5), (some (18, true)), false⟩,
  ⟨(some 20), .bin .eql (.t 19) (.c (.i .i64 291)), (some (18, true)), false⟩,
  ⟨(some 21), .pick (.t 18) (.t 20) (.c (.b false)), none, false⟩,
  ⟨(some 2), .mv (.t 21), none, false⟩]
abbrev i25c : ICode := (.seq (.reg i25r0) (.seq (.reg i25r1) (.seq (.reg i25r2) .ret)))
def i25 : IFn := { np := 1, N := 22, ct := [], code := i25c, res := [.t 2] }
theorem i25_eq : compF Try.prog Try.f25 = some i25 := by kernel_rfl
abbrev i26r0 : List IOper := [
  ⟨(some 6), .mv (.c (.b false)), none, false⟩]
abbrev i26r1 : List IOper := [
  ⟨(some 11), .mv (.t 2), none, false⟩,
  ⟨(some 12), .call (.c (.fn 22 [])) [.t 11], none, false⟩,
  ⟨(some 10), .mv (.t 12), none, false⟩,
  ⟨(some 13), .ext (.t 10) 0, none, false⟩,
  ⟨(some 14), .ext (.t 10) 1, none, false⟩,
  ⟨(some 15), .ext (.t 10) 2, none, false⟩,
  ⟨(some 7), .mv (.t 13), none, false⟩,
  ⟨(some 8), .mv (.t 14), none, false⟩,
  ⟨(some 9), .mv (.t 15), none, false⟩]
abbrev i26r2 : List IOper := [
  ⟨(some 16), .mv (.t 7), none, false⟩,
  ⟨(some 17), .mv (.t 0), none, false⟩,
  ⟨(some 18), .bin .eql (.t 16) (.t 17), none, false⟩,
  ⟨(some 19), .mv (.t 18), none, true⟩,
  ⟨(some 20), .mv (.t 8), (some (19, true)), false⟩,
  ⟨(some 21), .mv (.t 1), (some (19, true)), false⟩,
  ⟨(some 22), .bin .eql (.t 20) (.t 21), (some (19, true)), false⟩,
  ⟨(some 23), .pick (.t 19) (.t 22) (.c (.b false)), none, false⟩,
  ⟨(some 24), .mv (.t 23), none, true⟩,
  ⟨(some 25), .mv (.t 9), (some (24, true)), false⟩,
  ⟨(some 26), .bin .eql (.t 25) (.c (.i .i64 0)), (some (24, true)), false⟩,
  ⟨(some 27), .pick (.t 24) (.t 26) (.c (.b false)), none, false⟩,
  ⟨(some 6), .mv (.t 27), none, false⟩]
abbrev i26c : ICode := (.seq (.reg i26r0) (.seq (.reg i26r1) (.seq (.reg i26r2) .ret)))
def i26 : IFn := { np := 3, N := 28, ct := [], code := i26c, res := [.t 6] }
theorem i26_eq : compF Try.prog Try.f26 = some i26 := by kernel_rfl
abbrev i27r0 : List IOper := [
  ⟨(some 3), .box (.t 0), none, false⟩,
  ⟨(some 4), .box (.t 1), none, false⟩,
  ⟨(some 6), .mv (.c (.b false)), none, false⟩]
abbrev i27r1 : List IOper := [
  ⟨(some 7), .mv (.t 2), none, false⟩,
  ⟨(some 8), .mkf 41 [.t 3, .t 4], none, false⟩,
  ⟨(some 9), .call (.c (.fn 40 [])) [.t 7, .t 8], none, false⟩,
  ⟨(some 10), .not (.t 9), none, false⟩,
  ⟨(some 6), .mv (.t 10), none, false⟩]
abbrev i27c : ICode := (.seq (.reg i27r0) (.seq (.reg i27r1) .ret))
def i27 : IFn := { np := 3, N := 11, ct := [], code := i27c, res := [.t 6] }
theorem i27_eq : compF Try.prog Try.f27 = some i27 := by kernel_rfl
abbrev i28r0 : List IOper := [
  ⟨(some 4), .mv (.c (.b false)), none, false⟩]
abbrev i28r1 : List IOper := [
  ⟨(some 7), .mv (.t 0), none, false⟩,
  ⟨(some 8), .lenV (.t 7), none, false⟩,
  ⟨(some 9), .mv (.c (.i .i64 0)), none, false⟩]
abbrev i28r2 : List IOper := [
  ⟨(some 10), .bin .lss (.t 9) (.t 8), none, true⟩]
abbrev i28r3 : List IOper := [
  ⟨(some 11), .mv (.t 9), none, false⟩,
  ⟨(some 12), .ixaV 2 (.t 7) (.t 9), none, false⟩,
  ⟨(some 13), .ld true 2 (.t 12), none, false⟩,
  ⟨(some 6), .new [.i .i64 0, .i .i64 0], none, false⟩,
  ⟨(some 5), .mv (.t 11), none, false⟩,
  ⟨none, .st 2 (.t 6) (.t 13), none, false⟩]
abbrev i28r4 : List (IOper × List Nat) := [
  (⟨(some 14), .fa 0 (.t 6), none, false⟩, []),
  (⟨(some 15), .ld false 1 (.t 14), none, false⟩, []),
  (⟨(some 16), .bsl [.i .i64 0] 1 [(0, 1, .t 15)], none, false⟩, []),
  (⟨(some 17), .call (.c (.fn 27 [])) [.c (.i .i64 0), .c (.i .i64 1099511627776), .t 16], none, false⟩, []),
  (⟨(some 18), .not (.t 17), none, false⟩, []),
  (⟨(some 19), .mv (.t 18), none, true⟩, []),
  (⟨(some 20), .fa 1 (.t 6), (some (19, false)), false⟩, []),
  (⟨(some 21), .ld false 1 (.t 20), (some (19, false)), false⟩, []),
  (⟨(some 22), .bsl [.i .i64 0] 1 [(0, 1, .t 21)], (some (19, false)), false⟩, []),
  (⟨(some 23), .call (.c (.fn 27 [])) [.c (.i .i64 (-1099511627776)), .c (.i .i64 1099511627776), .t 22], (some (19, false)), false⟩, []),
  (⟨(some 24), .not (.t 23), (some (19, false)), false⟩, []),
  (⟨(some 25), .pick (.t 19) (.c (.b true)) (.t 24), none, false⟩, []),
  (⟨(some 26), .mv (.t 25), none, true⟩, []),
  (⟨(some 27), .mv (.t 5), (some (26, false)), false⟩, []),
  (⟨(some 28), .bin .gtr (.t 27) (.c (.i .i64 0)), (some (26, false)), false⟩, []),
  (⟨(some 29), .mv (.t 28), (some (26, false)), true⟩, []),
  (⟨(some 30), .mv (.t 1), (some (29, true)), false⟩, []),
  (⟨(some 31), .fa 0 (.t 6), (some (29, true)), false⟩, [16]),
  (⟨(some 32), .ld false 1 (.t 31), (some (29, true)), false⟩, [16]),
  (⟨(some 33), .mv (.t 0), (some (29, true)), false⟩, [16, 17, 18]),
  (⟨(some 34), .mv (.t 5), (some (29, true)), false⟩, [16, 17, 18, 19]),
  (⟨(some 35), .bin .sub (.t 34) (.c (.i .i64 1)), (some (29, true)), false⟩, [16, 17, 18, 19]),
  (⟨(some 36), .ixaV 2 (.t 33) (.t 35), (some (29, true)), false⟩, [16, 17, 18]),
  (⟨(some 37), .fa 0 (.t 36), (some (29, true)), false⟩, [16, 17, 18]),
  (⟨(some 38), .ld false 1 (.t 37), (some (29, true)), false⟩, [16, 17, 18]),
  (⟨(some 39), .bin .sub (.t 32) (.t 38), (some (29, true)), false⟩, [16]),
  (⟨(some 40), .bsl [.i .i64 0] 1 [(0, 1, .t 39)], (some (29, true)), false⟩, [16]),
  (⟨(some 41), .call (.c (.fn 27 [])) [.c (.i .i64 0), .t 30, .t 40], (some (29, true)), false⟩, []),
  (⟨(some 42), .not (.t 41), (some (29, true)), false⟩, []),
  (⟨(some 43), .pick (.t 29) (.t 42) (.c (.b false)), (some (26, false)), false⟩, []),
  (⟨(some 44), .pick (.t 26) (.c (.b true)) (.t 43), none, false⟩, []),
  (⟨(some 45), .mv (.t 44), none, true⟩, []),
  (⟨(some 46), .fa 1 (.t 6), (some (45, false)), false⟩, []),
  (⟨(some 47), .ld false 1 (.t 46), (some (45, false)), false⟩, []),
  (⟨(some 48), .mv (.t 0), (some (45, false)), false⟩, [32, 33]),
  (⟨(some 49), .ixaV 2 (.t 48) (.c (.i .i64 0)), (some (45, false)), false⟩, [32, 33]),
  (⟨(some 50), .fa 1 (.t 49), (some (45, false)), false⟩, [32, 33]),
  (⟨(some 51), .ld false 1 (.t 50), (some (45, false)), false⟩, [32, 33]),
  (⟨(some 52), .bin .sub (.t 47) (.t 51), (some (45, false)), false⟩, []),
  (⟨(some 53), .bsl [.i .i64 0] 1 [(0, 1, .t 52)], (some (45, false)), false⟩, []),
  (⟨(some 54), .call (.c (.fn 27 [])) [.c (.i .i64 (-67108864)), .c (.i .i64 67108864), .t 53], (some (45, false)), false⟩, []),
  (⟨(some 55), .not (.t 54), (some (45, false)), false⟩, []),
  (⟨(some 56), .pick (.t 45) (.c (.b true)) (.t 55), none, true⟩, [])]
abbrev i28r5 : List IOper := [
  ⟨(some 4), .mv (.c (.b false)), none, false⟩]
abbrev i28r6 : List IOper := [
  ⟨(some 57), .bin .add (.t 9) (.c (.i .i64 1)), none, false⟩,
  ⟨(some 9), .mv (.t 57), none, false⟩]
abbrev i28l7 : ICode := (.seq (.reg i28r2) (.seq (.cond (.t 10) .skip (.exit 0)) (.seq (.block 1 (.seq (.reg i28r3) (.seq (.dreg i28r4) (.cond (.t 56) (.seq (.reg i28r5) .ret) .skip)))) (.reg i28r6))))
abbrev i28r8 : List IOper := [
  ⟨(some 58), .mv (.t 0), none, false⟩,
  ⟨(some 59), .lenV (.t 58), none, false⟩,
  ⟨(some 60), .bin .leq (.t 59) (.c (.i .i64 20)), none, false⟩,
  ⟨(some 4), .mv (.t 60), none, false⟩]
abbrev i28c : ICode := (.seq (.reg i28r0) (.seq (.seq (.reg i28r1) (.block 0 (.loop i28l7))) (.seq (.reg i28r8) .ret)))
def i28 : IFn := { np := 2, N := 61, ct := [10, 56], code := i28c, res := [.t 4] }
theorem i28_eq : compF Try.prog Try.f28 = some i28 := by kernel_rfl
abbrev i33r0 : List IOper := [
  ⟨(some 2), .mv (.c (.ns)), none, false⟩]
abbrev i33r1 : List IOper := [
  ⟨(some 3), .mv (.t 0), none, false⟩,
  ⟨(some 4), .eqn false 1 (.t 3) (.c (.ns)), none, true⟩]
abbrev i33r2 : List IOper := [
  ⟨(some 2), .mv (.c (.ns)), none, false⟩]
abbrev i33r3 : List IOper := [
  ⟨(some 5), .bsl [] 0 [], none, false⟩,
  ⟨(some 6), .mv (.t 0), none, false⟩,
  ⟨(some 7), .app 2 16 [.i .i64 0, .i .i64 0] (.t 5) (.t 6), none, false⟩,
  ⟨(some 2), .mv (.t 7), none, false⟩]
abbrev i33c : ICode := (.seq (.reg i33r0) (.seq (.seq (.reg i33r1) (.cond (.t 4) (.seq (.reg i33r2) .ret) .skip)) (.seq (.reg i33r3) .ret)))
def i33 : IFn := { np := 1, N := 8, ct := [4], code := i33c, res := [.t 2] }
theorem i33_eq : compF Try.prog Try.f33 = some i33 := by kernel_rfl
abbrev i34r0 : List (IOper × List Nat) := [
  (⟨(some 2), .mv (.t 0), none, false⟩, []),
  (⟨(some 3), .mv (.t 0), none, false⟩, [0]),
  (⟨(some 4), .mv (.t 0), none, false⟩, [0, 1]),
  (⟨(some 5), .mv (.t 0), none, false⟩, [0, 1, 2]),
  (⟨(some 6), .nck (.t 5), none, false⟩, [0, 1, 2]),
  (⟨(some 7), .fa 17 (.t 6), none, false⟩, [0, 1, 2]),
  (⟨(some 8), .ld false 1 (.t 7), none, false⟩, [0, 1, 2]),
  (⟨(some 9), .mv (.t 0), none, false⟩, [0, 1, 2, 3, 4, 5, 6]),
  (⟨(some 10), .nck (.t 9), none, false⟩, [0, 1, 2, 3, 4, 5, 6]),
  (⟨(some 11), .fa 17 (.t 10), none, false⟩, [0, 1, 2, 3, 4, 5, 6]),
  (⟨(some 12), .ld false 1 (.t 11), none, false⟩, [0, 1, 2, 3, 4, 5, 6]),
  (⟨(some 13), .mv (.t 0), none, false⟩, [0, 1, 2, 3, 4, 5, 6, 7, 8, 9, 10]),
  (⟨(some 14), .nck (.t 13), none, false⟩, [0, 1, 2, 3, 4, 5, 6, 7, 8, 9, 10]),
  (⟨(some 15), .fa 18 (.t 14), none, false⟩, [0, 1, 2, 3, 4, 5, 6, 7, 8, 9, 10]),
  (⟨(some 16), .ld false 1 (.t 15), none, false⟩, [0, 1, 2, 3, 4, 5, 6, 7, 8, 9, 10]),
  (⟨(some 17), .nck (.t 2), none, false⟩, [1, 2]),
  (⟨(some 18), .fa 0 (.t 17), none, false⟩, [1, 2]),
  (⟨(some 19), .fa 3 (.t 18), none, false⟩, [1, 2]),
  (⟨none, .st 1 (.t 19) (.t 8), none, false⟩, [1, 2]),
  (⟨(some 20), .nck (.t 3), none, false⟩, [2]),
  (⟨(some 21), .fa 0 (.t 20), none, false⟩, [2]),
  (⟨(some 22), .fa 4 (.t 21), none, false⟩, [2]),
  (⟨none, .st 1 (.t 22) (.t 12), none, false⟩, [2]),
  (⟨(some 23), .nck (.t 4), none, false⟩, []),
  (⟨(some 24), .fa 0 (.t 23), none, false⟩, []),
  (⟨(some 25), .fa 5 (.t 24), none, false⟩, []),
  (⟨none, .st 1 (.t 25) (.t 16), none, false⟩, [])]
abbrev i34c : ICode := (.dreg i34r0)
def i34 : IFn := { np := 1, N := 26, ct := [], code := i34c, res := [] }
theorem i34_eq : compF Try.prog Try.f34 = some i34 := by kernel_rfl
abbrev i35r0 : List (IOper × List Nat) := [
  (⟨(some 5), .mv (.t 0), none, false⟩, []),
  (⟨(some 6), .nck (.t 5), none, false⟩, []),
  (⟨(some 7), .fa 0 (.t 6), none, false⟩, []),
  (⟨(some 8), .fa 4 (.t 7), none, false⟩, []),
  (⟨(some 9), .ld false 1 (.t 8), none, false⟩, []),
  (⟨(some 10), .mv (.t 0), none, false⟩, [0, 1, 2, 3, 4]),
  (⟨(some 11), .nck (.t 10), none, false⟩, [0, 1, 2, 3, 4]),
  (⟨(some 12), .fa 0 (.t 11), none, false⟩, [0, 1, 2, 3, 4]),
  (⟨(some 13), .fa 6 (.t 12), none, false⟩, [0, 1, 2, 3, 4]),
  (⟨(some 14), .ld false 1 (.t 13), none, false⟩, [0, 1, 2, 3, 4]),
  (⟨(some 15), .bin .sub (.t 9) (.t 14), none, false⟩, []),
  (⟨(some 16), .mv (.t 0), none, false⟩, [0, 1, 2, 3, 4, 5, 6, 7, 8, 9, 10]),
  (⟨(some 17), .nck (.t 16), none, false⟩, [0, 1, 2, 3, 4, 5, 6, 7, 8, 9, 10]),
  (⟨(some 18), .fa 0 (.t 17), none, false⟩, [0, 1, 2, 3, 4, 5, 6, 7, 8, 9, 10]),
  (⟨(some 19), .fa 5 (.t 18), none, false⟩, [0, 1, 2, 3, 4, 5, 6, 7, 8, 9, 10]),
  (⟨(some 20), .ld false 1 (.t 19), none, false⟩, [0, 1, 2, 3, 4, 5, 6, 7, 8, 9, 10]),
  (⟨(some 21), .mv (.t 0), none, false⟩, [0, 1, 2, 3, 4, 5, 6, 7, 8, 9, 10, 11, 12, 13, 14, 15]),
  (⟨(some 22), .nck (.t 21), none, false⟩, [0, 1, 2, 3, 4, 5, 6, 7, 8, 9, 10, 11, 12, 13, 14, 15]),
  (⟨(some 23), .fa 0 (.t 22), none, false⟩, [0, 1, 2, 3, 4, 5, 6, 7, 8, 9, 10, 11, 12, 13, 14, 15]),
  (⟨(some 24), .fa 7 (.t 23), none, false⟩, [0, 1, 2, 3, 4, 5, 6, 7, 8, 9, 10, 11, 12, 13, 14, 15]),
  (⟨(some 25), .ld false 1 (.t 24), none, false⟩, [0, 1, 2, 3, 4, 5, 6, 7, 8, 9, 10, 11, 12, 13, 14, 15]),
  (⟨(some 26), .bin .sub (.t 20) (.t 25), none, false⟩, [0, 1, 2, 3, 4, 5, 6, 7, 8, 9, 10]),
  (⟨(some 2), .mv (.t 15), none, false⟩, [11, 12, 13, 14, 15, 16, 17, 18, 19, 20, 21]),
  (⟨(some 3), .mv (.t 26), none, false⟩, [])]
abbrev i35r1 : List IOper := [
  ⟨(some 144), .mv (.t 2), none, false⟩,
  ⟨(some 145), .mv (.t 3), none, false⟩,
  ⟨(some 146), .mx (.t 144) [.t 145], none, false⟩,
  ⟨(some 147), .bin .gtr (.t 146) (.c (.i .i64 2000)), none, false⟩,
  ⟨(some 143), .mv (.t 147), none, true⟩]
abbrev i35r2 : List IOper := [
  ⟨(some 148), .mv (.t 0), none, false⟩,
  ⟨(some 149), .call (.c (.fn 42 [])) [.t 148], none, false⟩]
abbrev i35r3 : List IOper := [
  ⟨(some 27), .mv (.t 0), none, false⟩,
  ⟨(some 28), .nck (.t 27), none, false⟩,
  ⟨(some 29), .fa 0 (.t 28), none, false⟩,
  ⟨(some 30), .fa 9 (.t 29), none, false⟩,
  ⟨(some 31), .ld false 1 (.t 30), none, false⟩,
  ⟨(some 32), .mv (.t 3), none, false⟩,
  ⟨(some 33), .mv (.t 2), none, false⟩,
  ⟨(some 34), .bin .sub (.t 32) (.t 33), none, false⟩,
  ⟨(some 35), .bin .add (.t 31) (.t 34), none, false⟩,
  ⟨(some 36), .nck (.t 27), none, false⟩,
  ⟨(some 37), .fa 0 (.t 36), none, false⟩,
  ⟨(some 38), .fa 9 (.t 37), none, false⟩,
  ⟨none, .st 1 (.t 38) (.t 35), none, false⟩]
abbrev i35r4 : List (IOper × List Nat) := [
  (⟨(some 39), .mv (.t 0), none, false⟩, []),
  (⟨(some 40), .mv (.t 0), none, false⟩, [0]),
  (⟨(some 41), .nck (.t 40), none, false⟩, [0]),
  (⟨(some 42), .fa 0 (.t 41), none, false⟩, [0]),
  (⟨(some 43), .fa 10 (.t 42), none, false⟩, [0]),
  (⟨(some 44), .ld false 1 (.t 43), none, false⟩, [0]),
  (⟨(some 45), .bin .mul (.c (.i .i64 9)) (.t 44), none, false⟩, [0]),
  (⟨(some 46), .mv (.t 0), none, false⟩, [0, 1, 2, 3, 4, 5, 6]),
  (⟨(some 47), .nck (.t 46), none, false⟩, [0, 1, 2, 3, 4, 5, 6]),
  (⟨(some 48), .fa 0 (.t 47), none, false⟩, [0, 1, 2, 3, 4, 5, 6]),
  (⟨(some 49), .fa 9 (.t 48), none, false⟩, [0, 1, 2, 3, 4, 5, 6]),
  (⟨(some 50), .ld false 1 (.t 49), none, false⟩, [0, 1, 2, 3, 4, 5, 6]),
  (⟨(some 51), .bin .mul (.c (.i .i64 1024)) (.t 50), none, false⟩, [0, 1, 2, 3, 4, 5, 6]),
  (⟨(some 52), .bin .add (.t 45) (.t 51), none, false⟩, [0]),
  (⟨(some 53), .call (.c (.fn 43 [])) [.t 52, .c (.i .i64 10)], none, false⟩, [0]),
  (⟨(some 54), .nck (.t 39), none, false⟩, []),
  (⟨(some 55), .fa 0 (.t 54), none, false⟩, []),
  (⟨(some 56), .fa 10 (.t 55), none, false⟩, []),
  (⟨none, .st 1 (.t 56) (.t 53), none, false⟩, [])]
abbrev i35r5 : List IOper := [
  ⟨(some 57), .mv (.t 0), none, false⟩,
  ⟨(some 58), .mv (.t 0), none, false⟩,
  ⟨(some 59), .nck (.t 58), none, false⟩,
  ⟨(some 60), .fa 0 (.t 59), none, false⟩,
  ⟨(some 61), .fa 8 (.t 60), none, false⟩,
  ⟨(some 62), .ld false 1 (.t 61), none, false⟩,
  ⟨(some 63), .bin .add (.t 62) (.c (.i .i64 1)), none, false⟩,
  ⟨(some 64), .mn (.t 63) [.c (.i .i64 60)], none, false⟩,
  ⟨(some 65), .nck (.t 57), none, false⟩,
  ⟨(some 66), .fa 0 (.t 65), none, false⟩,
  ⟨(some 67), .fa 8 (.t 66), none, false⟩,
  ⟨none, .st 1 (.t 67) (.t 64), none, false⟩]
abbrev i35r6 : List (IOper × List Nat) := [
  (⟨(some 68), .mv (.t 0), none, false⟩, []),
  (⟨(some 69), .mv (.t 0), none, false⟩, [0]),
  (⟨(some 70), .nck (.t 69), none, false⟩, [0]),
  (⟨(some 71), .fa 0 (.t 70), none, false⟩, [0]),
  (⟨(some 72), .fa 16 (.t 71), none, false⟩, [0]),
  (⟨(some 73), .ld false 1 (.t 72), none, false⟩, [0]),
  (⟨(some 74), .mv (.t 0), none, false⟩, [0, 1, 2, 3, 4, 5]),
  (⟨(some 75), .nck (.t 74), none, false⟩, [0, 1, 2, 3, 4, 5]),
  (⟨(some 76), .fa 0 (.t 75), none, false⟩, [0, 1, 2, 3, 4, 5]),
  (⟨(some 77), .fa 5 (.t 76), none, false⟩, [0, 1, 2, 3, 4, 5]),
  (⟨(some 78), .ld false 1 (.t 77), none, false⟩, [0, 1, 2, 3, 4, 5]),
  (⟨(some 79), .mv (.t 0), none, false⟩, [0, 1, 2, 3, 4, 5, 6, 7, 8, 9, 10]),
  (⟨(some 80), .nck (.t 79), none, false⟩, [0, 1, 2, 3, 4, 5, 6, 7, 8, 9, 10]),
  (⟨(some 81), .fa 0 (.t 80), none, false⟩, [0, 1, 2, 3, 4, 5, 6, 7, 8, 9, 10]),
  (⟨(some 82), .fa 10 (.t 81), none, false⟩, [0, 1, 2, 3, 4, 5, 6, 7, 8, 9, 10]),
  (⟨(some 83), .ld false 1 (.t 82), none, false⟩, [0, 1, 2, 3, 4, 5, 6, 7, 8, 9, 10]),
  (⟨(some 84), .build [.i .i64 0, .i .i64 0] [(0, 1, .t 78), (1, 1, .t 83)], none, false⟩, [0, 1, 2, 3, 4, 5]),
  (⟨(some 85), .bsl [.i .i64 0, .i .i64 0] 1 [(0, 2, .t 84)], none, false⟩, [0, 1, 2, 3, 4, 5]),
  (⟨(some 86), .app 2 16 [.i .i64 0, .i .i64 0] (.t 73) (.t 85), none, false⟩, [0]),
  (⟨(some 87), .nck (.t 68), none, false⟩, []),
  (⟨(some 88), .fa 0 (.t 87), none, false⟩, []),
  (⟨(some 89), .fa 16 (.t 88), none, false⟩, []),
  (⟨none, .st 1 (.t 89) (.t 86), none, false⟩, [])]
abbrev i35r7 : List IOper := [
  ⟨(some 90), .mv (.t 0), none, false⟩,
  ⟨(some 91), .nck (.t 90), none, false⟩,
  ⟨(some 92), .fa 0 (.t 91), none, false⟩,
  ⟨(some 93), .fa 16 (.t 92), none, false⟩,
  ⟨(some 94), .ld false 1 (.t 93), none, false⟩,
  ⟨(some 95), .lenV (.t 94), none, false⟩,
  ⟨(some 96), .bin .gtr (.t 95) (.c (.i .i64 20)), none, true⟩]
abbrev i35r8 : List IOper := [
  ⟨(some 97), .mv (.t 0), none, false⟩,
  ⟨(some 98), .mv (.t 0), none, false⟩,
  ⟨(some 99), .nck (.t 98), none, false⟩,
  ⟨(some 100), .fa 0 (.t 99), none, false⟩,
  ⟨(some 101), .fa 16 (.t 100), none, false⟩,
  ⟨(some 102), .ld false 1 (.t 101), none, false⟩,
  ⟨(some 103), .slV 2 (.t 102) (some (.c (.i .i64 1))) none none, none, false⟩,
  ⟨(some 104), .nck (.t 97), none, false⟩,
  ⟨(some 105), .fa 0 (.t 104), none, false⟩,
  ⟨(some 106), .fa 16 (.t 105), none, false⟩,
  ⟨none, .st 1 (.t 106) (.t 103), none, false⟩]
abbrev i35r9 : List IOper := [
  ⟨(some 107), .mv (.t 0), none, false⟩,
  ⟨(some 108), .nck (.t 107), none, false⟩,
  ⟨(some 109), .fa 0 (.t 108), none, false⟩,
  ⟨(some 110), .fa 9 (.t 109), none, false⟩,
  ⟨(some 111), .ld false 1 (.t 110), none, false⟩,
  ⟨(some 112), .bsl [.i .i64 0] 1 [(0, 1, .t 111)], none, false⟩,
  ⟨(some 113), .call (.c (.fn 27 [])) [.c (.i .i64 (-1048576)), .c (.i .i64 1048576), .t 112], none, false⟩,
  ⟨(some 114), .not (.t 113), none, false⟩,
  ⟨(some 115), .mv (.t 114), none, true⟩,
  ⟨(some 116), .mv (.t 0), (some (115, false)), false⟩,
  ⟨(some 117), .nck (.t 116), (some (115, false)), false⟩,
  ⟨(some 118), .fa 0 (.t 117), (some (115, false)), false⟩,
  ⟨(some 119), .fa 16 (.t 118), (some (115, false)), false⟩,
  ⟨(some 120), .ld false 1 (.t 119), (some (115, false)), false⟩,
  ⟨(some 121), .call (.c (.fn 28 [])) [.t 120, .c (.i .i64 2000)], (some (115, false)), false⟩,
  ⟨(some 122), .not (.t 121), (some (115, false)), false⟩,
  ⟨(some 123), .pick (.t 115) (.c (.b true)) (.t 122), none, true⟩]
abbrev i35r10 : List IOper := [
  ⟨(some 124), .mv (.t 0), none, false⟩,
  ⟨(some 125), .call (.c (.fn 42 [])) [.t 124], none, false⟩]
abbrev i35r11 : List IOper := [
  ⟨(some 126), .mv (.t 0), none, false⟩,
  ⟨(some 127), .call (.c (.fn 44 [])) [.t 126], none, false⟩,
  ⟨(some 4), .mv (.t 127), none, false⟩]
abbrev i35r12 : List IOper := [
  ⟨(some 128), .mv (.t 0), none, false⟩,
  ⟨(some 129), .mv (.t 4), none, false⟩,
  ⟨(some 130), .mv (.t 2), none, false⟩,
  ⟨(some 131), .call (.c (.fn 45 [])) [.t 128, .t 129, .t 130], none, false⟩]
abbrev i35r13 : List IOper := [
  ⟨(some 132), .mv (.t 0), none, false⟩,
  ⟨(some 133), .mv (.t 4), none, false⟩,
  ⟨(some 134), .mx (.t 133) [.c (.i .i64 (-1099511627776))], none, false⟩,
  ⟨(some 135), .mn (.t 134) [.c (.i .i64 1099511627776)], none, false⟩,
  ⟨(some 136), .nck (.t 132), none, false⟩,
  ⟨(some 137), .fa 0 (.t 136), none, false⟩,
  ⟨(some 138), .fa 14 (.t 137), none, false⟩,
  ⟨none, .st 1 (.t 138) (.t 135), none, false⟩]
abbrev i35r14 : List IOper := [
  ⟨(some 139), .mv (.t 0), none, false⟩,
  ⟨(some 140), .mv (.t 4), none, false⟩,
  ⟨(some 141), .mv (.t 3), none, false⟩,
  ⟨(some 142), .call (.c (.fn 46 [])) [.t 139, .t 140, .t 141], none, false⟩]
abbrev i35c : ICode := (.scope (.seq (.dreg i35r0) (.seq .skip (.block 0 (.seq (.reg i35r1) (.cond (.t 143) (.seq (.reg i35r2) (.exit 0)) (.seq (.reg i35r3) (.seq (.dreg i35r4) (.seq (.reg i35r5) (.seq (.dreg i35r6) (.seq (.seq (.reg i35r7) (.cond (.t 96) (.reg i35r8) .skip)) (.seq (.seq (.reg i35r9) (.cond (.t 123) (.seq (.reg i35r10) (.exit 0)) .skip)) (.seq (.reg i35r11) (.seq (.reg i35r12) (.seq (.reg i35r13) (.reg i35r14))))))))))))))))
def i35 : IFn := { np := 1, N := 150, ct := [143, 96, 123], code := i35c, res := [] }
theorem i35_eq : compF Try.prog Try.f35 = some i35 := by kernel_rfl
abbrev i38r0 : List IOper := [
  ⟨(some 1), .box (.t 0), none, false⟩,
  ⟨(some 2), .mv (.c (.i .i64 0)), none, false⟩,
  ⟨(some 3), .mv (.c (.i .i64 0)), none, false⟩]
abbrev i38r1 : List IOper := [
  ⟨(some 7), .mkf 50 [.t 1], none, false⟩,
  ⟨(some 4), .mv (.t 7), none, false⟩]
abbrev i38r2 : List IOper := [
  ⟨(some 8), .mv (.t 4), none, false⟩,
  ⟨(some 9), .call (.t 8) [.c (.fn 51 [])], none, false⟩,
  ⟨(some 5), .mv (.t 9), none, false⟩]
abbrev i38r3 : List IOper := [
  ⟨(some 10), .mv (.t 4), none, false⟩,
  ⟨(some 11), .call (.t 10) [.c (.fn 52 [])], none, false⟩,
  ⟨(some 6), .mv (.t 11), none, false⟩]
abbrev i38r4 : List (IOper × List Nat) := [
  (⟨(some 12), .ld false 1 (.t 1), none, false⟩, []),
  (⟨(some 13), .lenV (.t 12), none, false⟩, []),
  (⟨(some 14), .mv (.t 4), none, false⟩, [0, 1]),
  (⟨(some 15), .call (.t 14) [.c (.fn 53 [])], none, false⟩, [0, 1]),
  (⟨(some 16), .bin .mul (.t 13) (.t 15), none, false⟩, []),
  (⟨(some 17), .mv (.t 5), none, false⟩, [0, 1, 2, 3, 4]),
  (⟨(some 18), .mv (.t 6), none, false⟩, [0, 1, 2, 3, 4, 5]),
  (⟨(some 19), .bin .mul (.t 17) (.t 18), none, false⟩, [0, 1, 2, 3, 4]),
  (⟨(some 20), .bin .sub (.t 16) (.t 19), none, false⟩, []),
  (⟨(some 2), .mv (.t 20), none, false⟩, [])]
abbrev i38r5 : List (IOper × List Nat) := [
  (⟨(some 21), .ld false 1 (.t 1), none, false⟩, []),
  (⟨(some 22), .lenV (.t 21), none, false⟩, []),
  (⟨(some 23), .mv (.t 4), none, false⟩, [0, 1]),
  (⟨(some 24), .call (.t 23) [.c (.fn 54 [])], none, false⟩, [0, 1]),
  (⟨(some 25), .bin .mul (.t 22) (.t 24), none, false⟩, []),
  (⟨(some 26), .mv (.t 5), none, false⟩, [0, 1, 2, 3, 4]),
  (⟨(some 27), .mv (.t 5), none, false⟩, [0, 1, 2, 3, 4, 5]),
  (⟨(some 28), .bin .mul (.t 26) (.t 27), none, false⟩, [0, 1, 2, 3, 4]),
  (⟨(some 29), .bin .sub (.t 25) (.t 28), none, false⟩, []),
  (⟨(some 3), .mv (.t 29), none, false⟩, [])]
abbrev i38r6 : List IOper := [
  ⟨(some 30), .mv (.t 2), none, false⟩,
  ⟨(some 31), .mv (.t 3), none, false⟩,
  ⟨(some 2), .mv (.t 30), none, false⟩,
  ⟨(some 3), .mv (.t 31), none, false⟩]
abbrev i38c : ICode := (.seq (.reg i38r0) (.seq (.reg i38r1) (.seq (.reg i38r2) (.seq (.reg i38r3) (.seq (.dreg i38r4) (.seq (.dreg i38r5) (.seq (.reg i38r6) .ret)))))))
def i38 : IFn := { np := 1, N := 32, ct := [], code := i38c, res := [.t 2, .t 3] }
theorem i38_eq : compF Try.prog Try.f38 = some i38 := by kernel_rfl
abbrev i40r0 : List IOper := [
  ⟨(some 4), .mv (.c (.b false)), none, false⟩]
abbrev i40r1 : List IOper := [
  ⟨(some 5), .mv (.t 0), none, false⟩,
  ⟨(some 6), .mv (.t 1), none, false⟩,
  ⟨(some 7), .call (.c (.fn 55 [])) [.t 5, .t 6], none, false⟩,
  ⟨(some 8), .bin .geq (.t 7) (.c (.i .i64 0)), none, false⟩,
  ⟨(some 4), .mv (.t 8), none, false⟩]
abbrev i40c : ICode := (.seq (.reg i40r0) (.seq (.reg i40r1) .ret))
def i40 : IFn := { np := 2, N := 9, ct := [], code := i40c, res := [.t 4] }
theorem i40_eq : compF Try.prog Try.f40 = some i40 := by kernel_rfl
abbrev i41r0 : List IOper := [
  ⟨(some 4), .mv (.c (.b false)), none, false⟩]
abbrev i41r1 : List IOper := [
  ⟨(some 5), .mv (.t 0), none, false⟩,
  ⟨(some 6), .ld false 1 (.t 1), none, false⟩,
  ⟨(some 7), .bin .lss (.t 5) (.t 6), none, false⟩,
  ⟨(some 8), .mv (.t 7), none, true⟩,
  ⟨(some 9), .mv (.t 0), (some (8, false)), false⟩,
  ⟨(some 10), .ld false 1 (.t 2), (some (8, false)), false⟩,
  ⟨(some 11), .bin .gtr (.t 9) (.t 10), (some (8, false)), false⟩,
  ⟨(some 12), .pick (.t 8) (.c (.b true)) (.t 11), none, false⟩,
  ⟨(some 4), .mv (.t 12), none, false⟩]
abbrev i41c : ICode := (.seq (.reg i41r0) (.seq (.reg i41r1) .ret))
def i41 : IFn := { np := 3, N := 13, ct := [], code := i41c, res := [.t 4] }
theorem i41_eq : compF Try.prog Try.f41 = some i41 := by kernel_rfl
abbrev i42r0 : List IOper := [
  ⟨(some 2), .mv (.t 0), none, false⟩,
  ⟨(some 3), .mv (.t 0), none, false⟩,
  ⟨(some 4), .nck (.t 2), none, false⟩,
  ⟨(some 5), .fa 0 (.t 4), none, false⟩,
  ⟨(some 6), .fa 16 (.t 5), none, false⟩,
  ⟨none, .st 1 (.t 6) (.c (.ns)), none, false⟩,
  ⟨(some 7), .nck (.t 3), none, false⟩,
  ⟨(some 8), .fa 0 (.t 7), none, false⟩,
  ⟨(some 9), .fa 15 (.t 8), none, false⟩,
  ⟨none, .st 1 (.t 9) (.c (.i .i64 0)), none, false⟩]
abbrev i42r1 : List IOper := [
  ⟨(some 10), .mv (.t 0), none, false⟩,
  ⟨(some 11), .mv (.t 0), none, false⟩,
  ⟨(some 12), .mv (.t 0), none, false⟩,
  ⟨(some 13), .mv (.t 0), none, false⟩,
  ⟨(some 14), .mv (.t 0), none, false⟩,
  ⟨(some 15), .mv (.t 0), none, false⟩,
  ⟨(some 16), .nck (.t 10), none, false⟩,
  ⟨(some 17), .fa 0 (.t 16), none, false⟩,
  ⟨(some 18), .fa 8 (.t 17), none, false⟩,
  ⟨none, .st 1 (.t 18) (.c (.i .i64 0)), none, false⟩,
  ⟨(some 19), .nck (.t 11), none, false⟩,
  ⟨(some 20), .fa 0 (.t 19), none, false⟩,
  ⟨(some 21), .fa 9 (.t 20), none, false⟩,
  ⟨none, .st 1 (.t 21) (.c (.i .i64 0)), none, false⟩,
  ⟨(some 22), .nck (.t 12), none, false⟩,
  ⟨(some 23), .fa 0 (.t 22), none, false⟩,
  ⟨(some 24), .fa 10 (.t 23), none, false⟩,
  ⟨none, .st 1 (.t 24) (.c (.i .i64 0)), none, false⟩,
  ⟨(some 25), .nck (.t 13), none, false⟩,
  ⟨(some 26), .fa 0 (.t 25), none, false⟩,
  ⟨(some 27), .fa 12 (.t 26), none, false⟩,
  ⟨none, .st 1 (.t 27) (.c (.i .i64 0)), none, false⟩,
  ⟨(some 28), .nck (.t 14), none, false⟩,
  ⟨(some 29), .fa 0 (.t 28), none, false⟩,
  ⟨(some 30), .fa 13 (.t 29), none, false⟩,
  ⟨none, .st 1 (.t 30) (.c (.i .i64 0)), none, false⟩,
  ⟨(some 31), .nck (.t 15), none, false⟩,
  ⟨(some 32), .fa 0 (.t 31), none, false⟩,
  ⟨(some 33), .fa 14 (.t 32), none, false⟩,
  ⟨none, .st 1 (.t 33) (.c (.i .i64 0)), none, false⟩]
abbrev i42c : ICode := (.seq (.reg i42r0) (.reg i42r1))
def i42 : IFn := { np := 1, N := 34, ct := [], code := i42c, res := [] }
theorem i42_eq : compF Try.prog Try.f42 = some i42 := by kernel_rfl
abbrev i43r0 : List IOper := [
  ⟨(some 4), .mv (.c (.i .i64 0)), none, false⟩]
abbrev i43r1 : List IOper := [
  ⟨(some 6), .mv (.t 0), none, false⟩,
  ⟨(some 7), .mv (.t 1), none, false⟩,
  ⟨(some 8), .bin .quo (.t 6) (.t 7), none, false⟩,
  ⟨(some 5), .mv (.t 8), none, false⟩]
abbrev i43r2 : List IOper := [
  ⟨(some 9), .mv (.t 0), none, false⟩,
  ⟨(some 10), .mv (.t 1), none, false⟩,
  ⟨(some 11), .bin .rem (.t 9) (.t 10), none, false⟩,
  ⟨(some 12), .bin .lss (.t 11) (.c (.i .i64 0)), none, true⟩]
abbrev i43r3 : List IOper := [
  ⟨(some 13), .mv (.t 5), none, false⟩,
  ⟨(some 14), .bin .sub (.t 13) (.c (.i .i64 1)), none, false⟩,
  ⟨(some 5), .mv (.t 14), none, false⟩]
abbrev i43r4 : List IOper := [
  ⟨(some 15), .mv (.t 5), none, false⟩,
  ⟨(some 4), .mv (.t 15), none, false⟩]
abbrev i43c : ICode := (.seq (.reg i43r0) (.seq (.reg i43r1) (.seq (.seq (.reg i43r2) (.cond (.t 12) (.reg i43r3) .skip)) (.seq (.reg i43r4) .ret))))
def i43 : IFn := { np := 2, N := 16, ct := [12], code := i43c, res := [.t 4] }
theorem i43_eq : compF Try.prog Try.f43 = some i43 := by kernel_rfl
abbrev i44r0 : List IOper := [
  ⟨(some 2), .mv (.c (.i .i64 0)), none, false⟩]
abbrev i44r1 : List IOper := [
  ⟨(some 6), .mv (.t 0), none, false⟩,
  ⟨(some 7), .nck (.t 6), none, false⟩,
  ⟨(some 8), .fa 0 (.t 7), none, false⟩,
  ⟨(some 9), .fa 16 (.t 8), none, false⟩,
  ⟨(some 10), .ld false 1 (.t 9), none, false⟩,
  ⟨(some 3), .mv (.t 10), none, false⟩]
abbrev i44r2 : List (IOper × List Nat) := [
  (⟨(some 11), .mv (.t 3), none, false⟩, []),
  (⟨(some 12), .ixaV 2 (.t 11) (.c (.i .i64 0)), none, false⟩, []),
  (⟨(some 13), .ld true 2 (.t 12), none, false⟩, []),
  (⟨(some 14), .mv (.t 3), none, false⟩, [0, 1, 2]),
  (⟨(some 15), .mv (.t 3), none, false⟩, [0, 1, 2, 3]),
  (⟨(some 16), .lenV (.t 15), none, false⟩, [0, 1, 2, 3]),
  (⟨(some 17), .bin .sub (.t 16) (.c (.i .i64 1)), none, false⟩, [0, 1, 2, 3]),
  (⟨(some 18), .ixaV 2 (.t 14) (.t 17), none, false⟩, [0, 1, 2]),
  (⟨(some 19), .ld true 2 (.t 18), none, false⟩, [0, 1, 2]),
  (⟨(some 20), .eqk true true [.i, .i] (.t 13) (.t 19), none, false⟩, []),
  (⟨(some 21), .mv (.t 20), none, true⟩, []),
  (⟨(some 22), .mv (.t 3), (some (21, true)), false⟩, []),
  (⟨(some 23), .ixaV 2 (.t 22) (.c (.i .i64 0)), (some (21, true)), false⟩, []),
  (⟨(some 24), .fa 0 (.t 23), (some (21, true)), false⟩, []),
  (⟨(some 25), .ld false 1 (.t 24), (some (21, true)), false⟩, []),
  (⟨(some 26), .mv (.t 3), (some (21, true)), false⟩, [11, 12, 13, 14]),
  (⟨(some 27), .mv (.t 3), (some (21, true)), false⟩, [11, 12, 13, 14, 15]),
  (⟨(some 28), .lenV (.t 27), (some (21, true)), false⟩, [11, 12, 13, 14, 15]),
  (⟨(some 29), .bin .sub (.t 28) (.c (.i .i64 1)), (some (21, true)), false⟩, [11, 12, 13, 14, 15]),
  (⟨(some 30), .ixaV 2 (.t 26) (.t 29), (some (21, true)), false⟩, [11, 12, 13, 14]),
  (⟨(some 31), .fa 0 (.t 30), (some (21, true)), false⟩, [11, 12, 13, 14]),
  (⟨(some 32), .ld false 1 (.t 31), (some (21, true)), false⟩, [11, 12, 13, 14]),
  (⟨(some 33), .bin .neq (.t 25) (.t 32), (some (21, true)), false⟩, []),
  (⟨(some 34), .pick (.t 21) (.t 33) (.c (.b false)), none, true⟩, [])]
abbrev i44r3 : List IOper := [
  ⟨(some 36), .mv (.t 3), none, false⟩,
  ⟨(some 37), .call (.c (.fn 38 [])) [.t 36], none, false⟩,
  ⟨(some 35), .mv (.t 37), none, false⟩,
  ⟨(some 38), .ext (.t 35) 0, none, false⟩,
  ⟨(some 39), .ext (.t 35) 1, none, false⟩,
  ⟨(some 4), .mv (.t 38), none, false⟩,
  ⟨(some 5), .mv (.t 39), none, false⟩]
abbrev i44r4 : List IOper := [
  ⟨(some 40), .mv (.t 0), none, false⟩,
  ⟨(some 41), .nck (.t 40), none, false⟩,
  ⟨(some 42), .fa 0 (.t 41), none, false⟩,
  ⟨(some 43), .fa 8 (.t 42), none, false⟩,
  ⟨(some 44), .ld false 1 (.t 43), none, false⟩,
  ⟨(some 45), .bin .mul (.c (.i .i64 4)) (.t 44), none, false⟩,
  ⟨(some 46), .mv (.t 4), none, false⟩,
  ⟨(some 47), .bin .mul (.t 45) (.t 46), none, false⟩,
  ⟨(some 48), .mv (.t 5), none, false⟩,
  ⟨(some 49), .call (.c (.fn 43 [])) [.t 47, .t 48], none, false⟩,
  ⟨(some 2), .mv (.t 49), none, false⟩]
abbrev i44r5 : List IOper := [
  ⟨(some 2), .mv (.c (.i .i64 0)), none, false⟩]
abbrev i44c : ICode := (.seq (.reg i44r0) (.seq (.seq (.reg i44r1) (.seq (.dreg i44r2) (.cond (.t 34) (.seq (.reg i44r3) (.seq (.reg i44r4) .ret)) .skip))) (.seq (.reg i44r5) .ret)))
def i44 : IFn := { np := 1, N := 50, ct := [34], code := i44c, res := [.t 2] }
theorem i44_eq : compF Try.prog Try.f44 = some i44 := by kernel_rfl
abbrev i45r0 : List IOper := [
  ⟨(some 6), .mv (.t 1), none, false⟩,
  ⟨(some 7), .mv (.t 0), none, false⟩,
  ⟨(some 8), .nck (.t 7), none, false⟩,
  ⟨(some 9), .fa 0 (.t 8), none, false⟩,
  ⟨(some 10), .fa 11 (.t 9), none, false⟩,
  ⟨(some 11), .ld false 1 (.t 10), none, false⟩,
  ⟨(some 12), .bin .leq (.t 6) (.t 11), none, true⟩]
abbrev i45r1 : List IOper := [
  ⟨(some 13), .mv (.t 0), none, false⟩,
  ⟨(some 14), .mv (.t 0), none, false⟩,
  ⟨(some 15), .mv (.t 0), none, false⟩,
  ⟨(some 16), .nck (.t 13), none, false⟩,
  ⟨(some 17), .fa 0 (.t 16), none, false⟩,
  ⟨(some 18), .fa 12 (.t 17), none, false⟩,
  ⟨none, .st 1 (.t 18) (.c (.i .i64 0)), none, false⟩,
  ⟨(some 19), .nck (.t 14), none, false⟩,
  ⟨(some 20), .fa 0 (.t 19), none, false⟩,
  ⟨(some 21), .fa 13 (.t 20), none, false⟩,
  ⟨none, .st 1 (.t 21) (.c (.i .i64 0)), none, false⟩,
  ⟨(some 22), .nck (.t 15), none, false⟩,
  ⟨(some 23), .fa 0 (.t 22), none, false⟩,
  ⟨(some 24), .fa 15 (.t 23), none, false⟩,
  ⟨none, .st 1 (.t 24) (.c (.i .i64 0)), none, false⟩]
abbrev i45r2 : List IOper := [
  ⟨(some 25), .mv (.t 1), none, false⟩,
  ⟨(some 26), .mv (.t 0), none, false⟩,
  ⟨(some 27), .nck (.t 26), none, false⟩,
  ⟨(some 28), .fa 0 (.t 27), none, false⟩,
  ⟨(some 29), .fa 11 (.t 28), none, false⟩,
  ⟨(some 30), .ld false 1 (.t 29), none, false⟩,
  ⟨(some 31), .neg (.t 30), none, false⟩,
  ⟨(some 32), .bin .lss (.t 25) (.t 31), none, true⟩]
abbrev i45r3 : List IOper := [
  ⟨(some 33), .mv (.t 0), none, false⟩,
  ⟨(some 34), .nck (.t 33), none, false⟩,
  ⟨(some 35), .fa 0 (.t 34), none, false⟩,
  ⟨(some 36), .fa 15 (.t 35), none, false⟩,
  ⟨none, .st 1 (.t 36) (.c (.i .i64 2)), none, false⟩]
abbrev i45r4 : List IOper := [
  ⟨(some 37), .mv (.t 0), none, false⟩,
  ⟨(some 38), .nck (.t 37), none, false⟩,
  ⟨(some 39), .fa 0 (.t 38), none, false⟩,
  ⟨(some 40), .fa 13 (.t 39), none, false⟩,
  ⟨(some 41), .ld false 1 (.t 40), none, false⟩,
  ⟨(some 42), .bin .eql (.t 41) (.c (.i .i64 0)), none, true⟩]
abbrev i45r5 : List IOper := [
  ⟨(some 43), .mv (.t 0), none, false⟩,
  ⟨(some 44), .mv (.t 2), none, false⟩,
  ⟨(some 45), .bin .quo (.t 44) (.c (.i .i64 2)), none, false⟩,
  ⟨(some 46), .nck (.t 43), none, false⟩,
  ⟨(some 47), .fa 0 (.t 46), none, false⟩,
  ⟨(some 48), .fa 12 (.t 47), none, false⟩,
  ⟨none, .st 1 (.t 48) (.t 45), none, false⟩]
abbrev i45r6 : List IOper := [
  ⟨(some 49), .mv (.t 0), none, false⟩,
  ⟨(some 50), .mv (.t 0), none, false⟩,
  ⟨(some 51), .nck (.t 50), none, false⟩,
  ⟨(some 52), .fa 0 (.t 51), none, false⟩,
  ⟨(some 53), .fa 12 (.t 52), none, false⟩,
  ⟨(some 54), .ld false 1 (.t 53), none, false⟩,
  ⟨(some 55), .mv (.t 2), none, false⟩,
  ⟨(some 56), .bin .add (.t 54) (.t 55), none, false⟩,
  ⟨(some 57), .mn (.t 56) [.c (.i .i64 20000)], none, false⟩,
  ⟨(some 58), .nck (.t 49), none, false⟩,
  ⟨(some 59), .fa 0 (.t 58), none, false⟩,
  ⟨(some 60), .fa 12 (.t 59), none, false⟩,
  ⟨none, .st 1 (.t 60) (.t 57), none, false⟩]
abbrev i45r7 : List IOper := [
  ⟨(some 61), .mv (.t 0), none, false⟩,
  ⟨(some 62), .mv (.t 0), none, false⟩,
  ⟨(some 63), .nck (.t 62), none, false⟩,
  ⟨(some 64), .fa 0 (.t 63), none, false⟩,
  ⟨(some 65), .fa 13 (.t 64), none, false⟩,
  ⟨(some 66), .ld false 1 (.t 65), none, false⟩,
  ⟨(some 67), .bin .add (.t 66) (.c (.i .i64 1)), none, false⟩,
  ⟨(some 68), .mn (.t 67) [.c (.i .i64 20000)], none, false⟩,
  ⟨(some 69), .nck (.t 61), none, false⟩,
  ⟨(some 70), .fa 0 (.t 69), none, false⟩,
  ⟨(some 71), .fa 13 (.t 70), none, false⟩,
  ⟨none, .st 1 (.t 71) (.t 68), none, false⟩]
abbrev i45r8 : List IOper := [
  ⟨(some 72), .mv (.t 0), none, false⟩,
  ⟨(some 73), .nck (.t 72), none, false⟩,
  ⟨(some 74), .fa 0 (.t 73), none, false⟩,
  ⟨(some 75), .fa 12 (.t 74), none, false⟩,
  ⟨(some 76), .ld false 1 (.t 75), none, false⟩,
  ⟨(some 77), .bin .gtr (.t 76) (.c (.i .i64 10)), none, false⟩,
  ⟨(some 78), .mv (.t 77), none, true⟩,
  ⟨(some 79), .mv (.t 0), (some (78, true)), false⟩,
  ⟨(some 80), .nck (.t 79), (some (78, true)), false⟩,
  ⟨(some 81), .fa 0 (.t 80), (some (78, true)), false⟩,
  ⟨(some 82), .fa 13 (.t 81), (some (78, true)), false⟩,
  ⟨(some 83), .ld false 1 (.t 82), (some (78, true)), false⟩,
  ⟨(some 84), .bin .gtr (.t 83) (.c (.i .i64 1)), (some (78, true)), false⟩,
  ⟨(some 85), .pick (.t 78) (.t 84) (.c (.b false)), none, false⟩,
  ⟨(some 86), .mv (.t 85), none, true⟩,
  ⟨(some 87), .mv (.t 1), (some (86, true)), false⟩,
  ⟨(some 88), .mv (.t 0), (some (86, true)), false⟩,
  ⟨(some 89), .nck (.t 88), (some (86, true)), false⟩,
  ⟨(some 90), .fa 0 (.t 89), (some (86, true)), false⟩,
  ⟨(some 91), .fa 14 (.t 90), (some (86, true)), false⟩,
  ⟨(some 92), .ld false 1 (.t 91), (some (86, true)), false⟩,
  ⟨(some 93), .bin .geq (.t 87) (.t 92), (some (86, true)), false⟩,
  ⟨(some 94), .pick (.t 86) (.t 93) (.c (.b false)), none, true⟩]
abbrev i45r9 : List IOper := [
  ⟨(some 95), .mv (.t 0), none, false⟩,
  ⟨(some 96), .mv (.t 0), none, false⟩,
  ⟨(some 97), .mv (.t 0), none, false⟩,
  ⟨(some 98), .nck (.t 95), none, false⟩,
  ⟨(some 99), .fa 0 (.t 98), none, false⟩,
  ⟨(some 100), .fa 12 (.t 99), none, false⟩,
  ⟨none, .st 1 (.t 100) (.c (.i .i64 0)), none, false⟩,
  ⟨(some 101), .nck (.t 96), none, false⟩,
  ⟨(some 102), .fa 0 (.t 101), none, false⟩,
  ⟨(some 103), .fa 13 (.t 102), none, false⟩,
  ⟨none, .st 1 (.t 103) (.c (.i .i64 0)), none, false⟩,
  ⟨(some 104), .nck (.t 97), none, false⟩,
  ⟨(some 105), .fa 0 (.t 104), none, false⟩,
  ⟨(some 106), .fa 15 (.t 105), none, false⟩,
  ⟨none, .st 1 (.t 106) (.c (.i .i64 1)), none, false⟩]
abbrev i45c : ICode := (.seq (.seq (.reg i45r0) (.cond (.t 12) (.seq (.reg i45r1) (.seq (.seq (.reg i45r2) (.cond (.t 32) (.reg i45r3) .skip)) .ret)) .skip)) (.seq (.seq (.reg i45r4) (.cond (.t 42) (.reg i45r5) (.reg i45r6))) (.seq (.reg i45r7) (.seq (.reg i45r8) (.cond (.t 94) (.reg i45r9) .skip)))))
def i45 : IFn := { np := 3, N := 107, ct := [12, 32, 42, 94], code := i45c, res := [] }
theorem i45_eq : compF Try.prog Try.f45 = some i45 := by kernel_rfl
abbrev i46r0 : List IOper := [
  ⟨(some 9), .mv (.t 1), none, false⟩,
  ⟨(some 10), .mv (.t 1), none, false⟩,
  ⟨(some 11), .neg (.t 10), none, false⟩,
  ⟨(some 12), .mx (.t 9) [.t 11], none, false⟩,
  ⟨(some 6), .mv (.t 12), none, false⟩,
  ⟨(some 7), .mv (.c (.i .i64 390)), none, false⟩]
abbrev i46r1 : List IOper := [
  ⟨(some 13), .mv (.t 6), none, false⟩,
  ⟨(some 14), .mv (.t 0), none, false⟩,
  ⟨(some 15), .nck (.t 14), none, false⟩,
  ⟨(some 16), .fa 0 (.t 15), none, false⟩,
  ⟨(some 17), .fa 11 (.t 16), none, false⟩,
  ⟨(some 18), .ld false 1 (.t 17), none, false⟩,
  ⟨(some 19), .bin .add (.t 18) (.c (.i .i64 15360)), none, false⟩,
  ⟨(some 20), .bin .gtr (.t 13) (.t 19), none, true⟩]
abbrev i46r2 : List IOper := [
  ⟨(some 21), .mv (.t 6), none, false⟩,
  ⟨(some 22), .mv (.t 0), none, false⟩,
  ⟨(some 23), .nck (.t 22), none, false⟩,
  ⟨(some 24), .fa 0 (.t 23), none, false⟩,
  ⟨(some 25), .fa 11 (.t 24), none, false⟩,
  ⟨(some 26), .ld false 1 (.t 25), none, false⟩,
  ⟨(some 27), .bin .gtr (.t 21) (.t 26), none, true⟩]
abbrev i46r3 : List IOper := [
  ⟨(some 7), .mv (.c (.i .i64 87)), none, false⟩]
abbrev i46r4 : List (IOper × List Nat) := [
  (⟨(some 28), .mv (.t 0), none, false⟩, []),
  (⟨(some 29), .nck (.t 28), none, false⟩, []),
  (⟨(some 30), .fa 0 (.t 29), none, false⟩, []),
  (⟨(some 31), .fa 11 (.t 30), none, false⟩, []),
  (⟨(some 32), .ld false 1 (.t 31), none, false⟩, []),
  (⟨(some 33), .mv (.t 6), none, false⟩, [0, 1, 2, 3, 4]),
  (⟨(some 34), .mv (.t 0), none, false⟩, [0, 1, 2, 3, 4, 5]),
  (⟨(some 35), .nck (.t 34), none, false⟩, [0, 1, 2, 3, 4, 5]),
  (⟨(some 36), .fa 0 (.t 35), none, false⟩, [0, 1, 2, 3, 4, 5]),
  (⟨(some 37), .fa 11 (.t 36), none, false⟩, [0, 1, 2, 3, 4, 5]),
  (⟨(some 38), .ld false 1 (.t 37), none, false⟩, [0, 1, 2, 3, 4, 5]),
  (⟨(some 39), .bin .sub (.t 33) (.t 38), none, false⟩, [0, 1, 2, 3, 4]),
  (⟨(some 40), .mv (.t 7), none, false⟩, [0, 1, 2, 3, 4, 5, 6, 7, 8, 9, 10, 11]),
  (⟨(some 41), .bin .mul (.t 39) (.t 40), none, false⟩, [0, 1, 2, 3, 4]),
  (⟨(some 42), .mv (.t 2), none, false⟩, [0, 1, 2, 3, 4, 5, 6, 7, 8, 9, 10, 11, 12, 13]),
  (⟨(some 43), .mn (.t 42) [.c (.i .i64 100)], none, false⟩, [0, 1, 2, 3, 4, 5, 6, 7, 8, 9, 10, 11, 12, 13]),
  (⟨(some 44), .bin .mul (.t 41) (.t 43), none, false⟩, [0, 1, 2, 3, 4]),
  (⟨(some 45), .call (.c (.fn 43 [])) [.t 44, .c (.i .i64 10000)], none, false⟩, [0, 1, 2, 3, 4]),
  (⟨(some 46), .bin .add (.t 32) (.t 45), none, false⟩, []),
  (⟨(some 8), .mv (.t 46), none, false⟩, [])]
abbrev i46r5 : List IOper := [
  ⟨(some 47), .mv (.t 0), none, false⟩,
  ⟨(some 48), .mv (.t 8), none, false⟩,
  ⟨(some 49), .mx (.t 48) [.c (.i .i64 6144)], none, false⟩,
  ⟨(some 50), .mn (.t 49) [.c (.i .i64 614400)], none, false⟩,
  ⟨(some 51), .nck (.t 47), none, false⟩,
  ⟨(some 52), .fa 0 (.t 51), none, false⟩,
  ⟨(some 53), .fa 11 (.t 52), none, false⟩,
  ⟨none, .st 1 (.t 53) (.t 50), none, false⟩]
abbrev i46c : ICode := (.seq (.reg i46r0) (.seq (.seq (.reg i46r1) (.cond (.t 20) .ret .skip)) (.seq (.seq (.reg i46r2) (.cond (.t 27) (.reg i46r3) .skip)) (.seq (.dreg i46r4) (.reg i46r5)))))
def i46 : IFn := { np := 3, N := 54, ct := [20, 27], code := i46c, res := [] }
theorem i46_eq : compF Try.prog Try.f46 = some i46 := by kernel_rfl
abbrev i50r0 : List IOper := [
  ⟨(some 3), .mv (.c (.i .i64 0)), none, false⟩]
abbrev i50r1 : List IOper := [
  ⟨(some 4), .mv (.c (.i .i64 0)), none, false⟩]
abbrev i50r2 : List IOper := [
  ⟨(some 7), .ld false 1 (.t 1), none, false⟩,
  ⟨(some 8), .lenV (.t 7), none, false⟩,
  ⟨(some 9), .mv (.c (.i .i64 0)), none, false⟩]
abbrev i50r3 : List IOper := [
  ⟨(some 10), .bin .lss (.t 9) (.t 8), none, true⟩]
abbrev i50r4 : List IOper := [
  ⟨(some 11), .ixaV 2 (.t 7) (.t 9), none, false⟩,
  ⟨(some 12), .ld true 2 (.t 11), none, false⟩,
  ⟨(some 6), .new [.i .i64 0, .i .i64 0], none, false⟩,
  ⟨none, .st 2 (.t 6) (.t 12), none, false⟩]
abbrev i50r5 : List (IOper × List Nat) := [
  (⟨(some 13), .mv (.t 4), none, false⟩, []),
  (⟨(some 14), .mv (.t 0), none, false⟩, [0]),
  (⟨(some 15), .fa 0 (.t 6), none, false⟩, [0, 1]),
  (⟨(some 16), .ld false 1 (.t 15), none, false⟩, [0, 1]),
  (⟨(some 17), .ld false 1 (.t 1), none, false⟩, [0, 1, 2, 3]),
  (⟨(some 18), .ixaV 2 (.t 17) (.c (.i .i64 0)), none, false⟩, [0, 1, 2, 3]),
  (⟨(some 19), .fa 0 (.t 18), none, false⟩, [0, 1, 2, 3]),
  (⟨(some 20), .ld false 1 (.t 19), none, false⟩, [0, 1, 2, 3]),
  (⟨(some 21), .bin .sub (.t 16) (.t 20), none, false⟩, [0, 1]),
  (⟨(some 22), .fa 1 (.t 6), none, false⟩, [0, 1, 2, 3, 4, 5, 6, 7, 8]),
  (⟨(some 23), .ld false 1 (.t 22), none, false⟩, [0, 1, 2, 3, 4, 5, 6, 7, 8]),
  (⟨(some 24), .ld false 1 (.t 1), none, false⟩, [0, 1, 2, 3, 4, 5, 6, 7, 8, 9, 10]),
  (⟨(some 25), .ixaV 2 (.t 24) (.c (.i .i64 0)), none, false⟩, [0, 1, 2, 3, 4, 5, 6, 7, 8, 9, 10]),
  (⟨(some 26), .fa 1 (.t 25), none, false⟩, [0, 1, 2, 3, 4, 5, 6, 7, 8, 9, 10]),
  (⟨(some 27), .ld false 1 (.t 26), none, false⟩, [0, 1, 2, 3, 4, 5, 6, 7, 8, 9, 10]),
  (⟨(some 28), .bin .sub (.t 23) (.t 27), none, false⟩, [0, 1, 2, 3, 4, 5, 6, 7, 8]),
  (⟨(some 29), .call (.t 14) [.t 21, .t 28], none, false⟩, [0]),
  (⟨(some 30), .bin .add (.t 13) (.t 29), none, false⟩, []),
  (⟨(some 4), .mv (.t 30), none, false⟩, [])]
abbrev i50r6 : List IOper := [
  ⟨(some 31), .bin .add (.t 9) (.c (.i .i64 1)), none, false⟩,
  ⟨(some 9), .mv (.t 31), none, false⟩]
abbrev i50l7 : ICode := (.seq (.reg i50r3) (.seq (.cond (.t 10) .skip (.exit 0)) (.seq (.block 1 (.seq (.reg i50r4) (.dreg i50r5))) (.reg i50r6))))
abbrev i50r8 : List IOper := [
  ⟨(some 32), .mv (.t 4), none, false⟩,
  ⟨(some 3), .mv (.t 32), none, false⟩]
abbrev i50c : ICode := (.seq (.reg i50r0) (.seq (.reg i50r1) (.seq (.seq (.reg i50r2) (.block 0 (.loop i50l7))) (.seq (.reg i50r8) .ret))))
def i50 : IFn := { np := 2, N := 33, ct := [10], code := i50c, res := [.t 3] }
theorem i50_eq : compF Try.prog Try.f50 = some i50 := by kernel_rfl
abbrev i51r0 : List IOper := [
  ⟨(some 4), .mv (.c (.i .i64 0)), none, false⟩]
abbrev i51r1 : List IOper := [
  ⟨(some 5), .mv (.t 0), none, false⟩,
  ⟨(some 4), .mv (.t 5), none, false⟩]
abbrev i51c : ICode := (.seq (.reg i51r0) (.seq (.reg i51r1) .ret))
def i51 : IFn := { np := 2, N := 6, ct := [], code := i51c, res := [.t 4] }
theorem i51_eq : compF Try.prog Try.f51 = some i51 := by kernel_rfl
abbrev i52r0 : List IOper := [
  ⟨(some 4), .mv (.c (.i .i64 0)), none, false⟩]
abbrev i52r1 : List IOper := [
  ⟨(some 5), .mv (.t 1), none, false⟩,
  ⟨(some 4), .mv (.t 5), none, false⟩]
abbrev i52c : ICode := (.seq (.reg i52r0) (.seq (.reg i52r1) .ret))
def i52 : IFn := { np := 2, N := 6, ct := [], code := i52c, res := [.t 4] }
theorem i52_eq : compF Try.prog Try.f52 = some i52 := by kernel_rfl
abbrev i53r0 : List IOper := [
  ⟨(some 4), .mv (.c (.i .i64 0)), none, false⟩]
abbrev i53r1 : List IOper := [
  ⟨(some 5), .mv (.t 0), none, false⟩,
  ⟨(some 6), .mv (.t 1), none, false⟩,
  ⟨(some 7), .bin .mul (.t 5) (.t 6), none, false⟩,
  ⟨(some 4), .mv (.t 7), none, false⟩]
abbrev i53c : ICode := (.seq (.reg i53r0) (.seq (.reg i53r1) .ret))
def i53 : IFn := { np := 2, N := 8, ct := [], code := i53c, res := [.t 4] }
theorem i53_eq : compF Try.prog Try.f53 = some i53 := by kernel_rfl
abbrev i54r0 : List IOper := [
  ⟨(some 4), .mv (.c (.i .i64 0)), none, false⟩]
abbrev i54r1 : List IOper := [
  ⟨(some 5), .mv (.t 0), none, false⟩,
  ⟨(some 6), .mv (.t 0), none, false⟩,
  ⟨(some 7), .bin .mul (.t 5) (.t 6), none, false⟩,
  ⟨(some 4), .mv (.t 7), none, false⟩]
abbrev i54c : ICode := (.seq (.reg i54r0) (.seq (.reg i54r1) .ret))
def i54 : IFn := { np := 2, N := 8, ct := [], code := i54c, res := [.t 4] }
theorem i54_eq : compF Try.prog Try.f54 = some i54 := by kernel_rfl
abbrev i55r0 : List IOper := [
  ⟨(some 4), .mv (.c (.i .i64 0)), none, false⟩]
abbrev i55r1 : List IOper := [
  ⟨(some 6), .mv (.t 0), none, false⟩,
  ⟨(some 7), .lenV (.t 6), none, false⟩,
  ⟨(some 8), .mv (.c (.i .i64 0)), none, false⟩]
abbrev i55r2 : List IOper := [
  ⟨(some 9), .bin .lss (.t 8) (.t 7), none, true⟩]
abbrev i55r3 : List IOper := [
  ⟨(some 10), .mv (.t 8), none, false⟩,
  ⟨(some 5), .mv (.t 10), none, false⟩]
abbrev i55r4 : List IOper := [
  ⟨(some 11), .mv (.t 1), none, false⟩,
  ⟨(some 12), .mv (.t 0), none, false⟩,
  ⟨(some 13), .mv (.t 5), none, false⟩,
  ⟨(some 14), .ixaV 1 (.t 12) (.t 13), none, false⟩,
  ⟨(some 15), .ld false 1 (.t 14), none, false⟩,
  ⟨(some 16), .call (.t 11) [.t 15], none, true⟩]
abbrev i55r5 : List IOper := [
  ⟨(some 17), .mv (.t 5), none, false⟩,
  ⟨(some 4), .mv (.t 17), none, false⟩]
abbrev i55r6 : List IOper := [
  ⟨(some 18), .bin .add (.t 8) (.c (.i .i64 1)), none, false⟩,
  ⟨(some 8), .mv (.t 18), none, false⟩]
abbrev i55l7 : ICode := (.seq (.reg i55r2) (.seq (.cond (.t 9) .skip (.exit 0)) (.seq (.block 1 (.seq (.reg i55r3) (.seq (.reg i55r4) (.cond (.t 16) (.seq (.reg i55r5) .ret) .skip)))) (.reg i55r6))))
abbrev i55r8 : List IOper := [
  ⟨(some 4), .mv (.c (.i .i64 (-1))), none, false⟩]
abbrev i55c : ICode := (.seq (.reg i55r0) (.seq (.seq (.reg i55r1) (.block 0 (.loop i55l7))) (.seq (.reg i55r8) .ret)))
def i55 : IFn := { np := 2, N := 19, ct := [9, 16], code := i55c, res := [.t 4] }
theorem i55_eq : compF Try.prog Try.f55 = some i55 := by kernel_rfl
end Go.Proofs.Arr
