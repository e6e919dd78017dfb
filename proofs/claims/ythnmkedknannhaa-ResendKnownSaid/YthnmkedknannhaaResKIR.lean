/- The small language's text of the functions; printed by ShowI.lean. -/
import Derived.Test.YthnmkedknannhaaProg
import Derived.Test.YthnmkedknannhaaAbRuns
namespace Go.Proofs.Res
open Go.Ab
abbrev i16r0 : List IOper := [
  ⟨(some 0), .mv (.c (.b false)), none, false⟩]
abbrev i16r1 : List IOper := [
  ⟨(some 41), .build [.i .i64 0, .b false, .i .i64 0, .ns] [], none, false⟩,
  ⟨(some 42), .call (.c (.fn 23 [])) [.t 41, .c (.i .i64 0), .c (.i .i64 10)], none, false⟩,
  ⟨(some 43), .call (.c (.fn 23 [])) [.t 42, .c (.i .i64 5), .c (.i .i64 13)], none, false⟩,
  ⟨(some 1), .new [.i .i64 0, .b false, .i .i64 0, .ns], none, false⟩,
  ⟨none, .st 4 (.t 1) (.t 43), none, false⟩]
abbrev i16r2 : List IOper := [
  ⟨(some 45), .ld true 4 (.t 1), none, false⟩,
  ⟨(some 46), .bsl [.i .i64 0, .i .i64 0] 2 [(0, 1, .c (.i .i64 11)), (1, 1, .c (.i .i64 12))], none, false⟩,
  ⟨(some 47), .call (.c (.fn 24 [])) [.t 45, .c (.i .i64 5), .c (.i .i64 100), .c (.b false), .t 46], none, false⟩,
  ⟨(some 44), .mv (.t 47), none, false⟩,
  ⟨(some 48), .ext (.t 44) 0, none, false⟩,
  ⟨(some 49), .ext (.t 44) 1, none, false⟩,
  ⟨(some 2), .new [.i .i64 0, .b false, .i .i64 0, .ns], none, false⟩,
  ⟨none, .st 4 (.t 2) (.t 48), none, false⟩,
  ⟨(some 3), .mv (.t 49), none, false⟩]
abbrev i16r3 : List IOper := [
  ⟨(some 51), .ld true 4 (.t 2), none, false⟩,
  ⟨(some 52), .call (.c (.fn 24 [])) [.t 51, .c (.i .i64 104), .c (.i .i64 100), .c (.b false), .c (.ns)], none, false⟩,
  ⟨(some 50), .mv (.t 52), none, false⟩,
  ⟨(some 53), .ext (.t 50) 0, none, false⟩,
  ⟨(some 54), .ext (.t 50) 1, none, false⟩,
  ⟨(some 4), .new [.i .i64 0, .b false, .i .i64 0, .ns], none, false⟩,
  ⟨none, .st 4 (.t 4) (.t 53), none, false⟩,
  ⟨(some 5), .mv (.t 54), none, false⟩]
abbrev i16r4 : List IOper := [
  ⟨(some 56), .ld true 4 (.t 2), none, false⟩,
  ⟨(some 57), .bsl [.i .i64 0, .i .i64 0] 2 [(0, 1, .c (.i .i64 11)), (1, 1, .c (.i .i64 12))], none, false⟩,
  ⟨(some 58), .call (.c (.fn 24 [])) [.t 56, .c (.i .i64 105), .c (.i .i64 100), .c (.b false), .t 57], none, false⟩,
  ⟨(some 55), .mv (.t 58), none, false⟩,
  ⟨(some 59), .ext (.t 55) 0, none, false⟩,
  ⟨(some 60), .ext (.t 55) 1, none, false⟩,
  ⟨(some 6), .new [.i .i64 0, .b false, .i .i64 0, .ns], none, false⟩,
  ⟨none, .st 4 (.t 6) (.t 59), none, false⟩,
  ⟨(some 7), .mv (.t 60), none, false⟩]
abbrev i16r5 : List IOper := [
  ⟨(some 62), .ld true 4 (.t 6), none, false⟩,
  ⟨(some 63), .call (.c (.fn 24 [])) [.t 62, .c (.i .i64 304), .c (.i .i64 100), .c (.b false), .c (.ns)], none, false⟩,
  ⟨(some 61), .mv (.t 63), none, false⟩,
  ⟨(some 64), .ext (.t 61) 0, none, false⟩,
  ⟨(some 65), .ext (.t 61) 1, none, false⟩,
  ⟨(some 8), .new [.i .i64 0, .b false, .i .i64 0, .ns], none, false⟩,
  ⟨none, .st 4 (.t 8) (.t 64), none, false⟩,
  ⟨(some 9), .mv (.t 65), none, false⟩]
abbrev i16r6 : List IOper := [
  ⟨(some 67), .ld true 4 (.t 6), none, false⟩,
  ⟨(some 68), .bsl [.i .i64 0, .i .i64 0] 2 [(0, 1, .c (.i .i64 11)), (1, 1, .c (.i .i64 12))], none, false⟩,
  ⟨(some 69), .call (.c (.fn 24 [])) [.t 67, .c (.i .i64 305), .c (.i .i64 100), .c (.b false), .t 68], none, false⟩,
  ⟨(some 66), .mv (.t 69), none, false⟩,
  ⟨(some 70), .ext (.t 66) 0, none, false⟩,
  ⟨(some 71), .ext (.t 66) 1, none, false⟩,
  ⟨(some 10), .new [.i .i64 0, .b false, .i .i64 0, .ns], none, false⟩,
  ⟨none, .st 4 (.t 10) (.t 70), none, false⟩,
  ⟨(some 11), .mv (.t 71), none, false⟩]
abbrev i16r7 : List IOper := [
  ⟨(some 73), .ld true 4 (.t 2), none, false⟩,
  ⟨(some 74), .call (.c (.fn 23 [])) [.t 73, .c (.i .i64 50), .c (.i .i64 11)], none, false⟩,
  ⟨(some 75), .bsl [.i .i64 0] 1 [(0, 1, .c (.i .i64 12))], none, false⟩,
  ⟨(some 76), .call (.c (.fn 24 [])) [.t 74, .c (.i .i64 105), .c (.i .i64 100), .c (.b false), .t 75], none, false⟩,
  ⟨(some 72), .mv (.t 76), none, false⟩,
  ⟨(some 77), .ext (.t 72) 0, none, false⟩,
  ⟨(some 78), .ext (.t 72) 1, none, false⟩,
  ⟨(some 12), .new [.i .i64 0, .b false, .i .i64 0, .ns], none, false⟩,
  ⟨none, .st 4 (.t 12) (.t 77), none, false⟩,
  ⟨(some 13), .mv (.t 78), none, false⟩]
abbrev i16r8 : List IOper := [
  ⟨(some 80), .ld true 4 (.t 1), none, false⟩,
  ⟨(some 81), .bsl [.i .i64 0, .i .i64 0] 2 [(0, 1, .c (.i .i64 11)), (1, 1, .c (.i .i64 12))], none, false⟩,
  ⟨(some 82), .call (.c (.fn 24 [])) [.t 80, .c (.i .i64 2004), .c (.i .i64 100), .c (.b false), .t 81], none, false⟩,
  ⟨(some 79), .mv (.t 82), none, false⟩,
  ⟨(some 83), .ext (.t 79) 0, none, false⟩,
  ⟨(some 84), .ext (.t 79) 1, none, false⟩,
  ⟨(some 14), .new [.i .i64 0, .b false, .i .i64 0, .ns], none, false⟩,
  ⟨none, .st 4 (.t 14) (.t 83), none, false⟩,
  ⟨(some 15), .mv (.t 84), none, false⟩]
abbrev i16r9 : List IOper := [
  ⟨(some 86), .ld true 4 (.t 1), none, false⟩,
  ⟨(some 87), .call (.c (.fn 24 [])) [.t 86, .c (.i .i64 2005), .c (.i .i64 100), .c (.b true), .c (.ns)], none, false⟩,
  ⟨(some 85), .mv (.t 87), none, false⟩,
  ⟨(some 88), .ext (.t 85) 0, none, false⟩,
  ⟨(some 89), .ext (.t 85) 1, none, false⟩,
  ⟨(some 16), .new [.i .i64 0, .b false, .i .i64 0, .ns], none, false⟩,
  ⟨none, .st 4 (.t 16) (.t 88), none, false⟩,
  ⟨(some 17), .mv (.t 89), none, false⟩]
abbrev i16r10 : List IOper := [
  ⟨(some 91), .build [.i .i64 0, .b false, .i .i64 0, .ns] [], none, false⟩,
  ⟨(some 92), .call (.c (.fn 23 [])) [.t 91, .c (.i .i64 0), .c (.i .i64 10)], none, false⟩,
  ⟨(some 93), .call (.c (.fn 13 [])) [.t 92, .c (.i .i64 0), .c (.i .i64 75)], none, false⟩,
  ⟨(some 90), .mv (.t 93), none, false⟩,
  ⟨(some 94), .ext (.t 90) 0, none, false⟩,
  ⟨(some 95), .ext (.t 90) 1, none, false⟩,
  ⟨(some 18), .new [.i .i64 0, .b false, .i .i64 0, .ns], none, false⟩,
  ⟨none, .st 4 (.t 18) (.t 94), none, false⟩,
  ⟨(some 19), .mv (.t 95), none, false⟩]
abbrev i16r11 : List IOper := [
  ⟨(some 96), .build [.i .i64 0, .b false, .i .i64 0, .ns] [], none, false⟩,
  ⟨(some 97), .call (.c (.fn 23 [])) [.t 96, .c (.i .i64 0), .c (.i .i64 10)], none, false⟩,
  ⟨(some 98), .call (.c (.fn 23 [])) [.t 97, .c (.i .i64 0), .c (.i .i64 74)], none, false⟩,
  ⟨(some 20), .new [.i .i64 0, .b false, .i .i64 0, .ns], none, false⟩,
  ⟨none, .st 4 (.t 20) (.t 98), none, false⟩]
abbrev i16r12 : List IOper := [
  ⟨(some 99), .mv (.t 3), none, false⟩,
  ⟨(some 100), .not (.t 99), none, false⟩,
  ⟨(some 101), .mv (.t 100), none, true⟩,
  ⟨(some 102), .mv (.t 5), (some (101, false)), false⟩,
  ⟨(some 103), .not (.t 102), (some (101, false)), false⟩,
  ⟨(some 104), .pick (.t 101) (.c (.b true)) (.t 103), none, false⟩,
  ⟨(some 105), .mv (.t 104), none, true⟩,
  ⟨(some 106), .mv (.t 7), (some (105, false)), false⟩,
  ⟨(some 107), .not (.t 106), (some (105, false)), false⟩,
  ⟨(some 108), .pick (.t 105) (.c (.b true)) (.t 107), none, false⟩,
  ⟨(some 109), .mv (.t 108), none, true⟩,
  ⟨(some 110), .mv (.t 9), (some (109, false)), false⟩,
  ⟨(some 111), .not (.t 110), (some (109, false)), false⟩,
  ⟨(some 112), .pick (.t 109) (.c (.b true)) (.t 111), none, false⟩,
  ⟨(some 113), .mv (.t 112), none, true⟩,
  ⟨(some 114), .mv (.t 11), (some (113, false)), false⟩,
  ⟨(some 115), .not (.t 114), (some (113, false)), false⟩,
  ⟨(some 116), .pick (.t 113) (.c (.b true)) (.t 115), none, false⟩,
  ⟨(some 117), .mv (.t 116), none, true⟩,
  ⟨(some 118), .mv (.t 13), (some (117, false)), false⟩,
  ⟨(some 119), .not (.t 118), (some (117, false)), false⟩,
  ⟨(some 120), .pick (.t 117) (.c (.b true)) (.t 119), none, false⟩,
  ⟨(some 121), .mv (.t 120), none, true⟩,
  ⟨(some 122), .mv (.t 15), (some (121, false)), false⟩,
  ⟨(some 123), .not (.t 122), (some (121, false)), false⟩,
  ⟨(some 124), .pick (.t 121) (.c (.b true)) (.t 123), none, false⟩,
  ⟨(some 125), .mv (.t 124), none, true⟩,
  ⟨(some 126), .mv (.t 17), (some (125, false)), false⟩,
  ⟨(some 127), .not (.t 126), (some (125, false)), false⟩,
  ⟨(some 128), .pick (.t 125) (.c (.b true)) (.t 127), none, false⟩,
  ⟨(some 129), .mv (.t 128), none, true⟩,
  ⟨(some 130), .fa 3 (.t 16), (some (129, false)), false⟩,
  ⟨(some 131), .ld false 1 (.t 130), (some (129, false)), false⟩,
  ⟨(some 132), .lenV (.t 131), (some (129, false)), false⟩,
  ⟨(some 133), .bin .neq (.t 132) (.c (.i .i64 0)), (some (129, false)), false⟩,
  ⟨(some 134), .pick (.t 129) (.c (.b true)) (.t 133), none, false⟩,
  ⟨(some 135), .mv (.t 134), none, true⟩,
  ⟨(some 136), .mv (.t 19), (some (135, false)), false⟩,
  ⟨(some 137), .bin .neq (.t 136) (.c (.i .i64 6)), (some (135, false)), false⟩,
  ⟨(some 138), .pick (.t 135) (.c (.b true)) (.t 137), none, false⟩,
  ⟨(some 139), .mv (.t 138), none, true⟩,
  ⟨(some 140), .fa 3 (.t 20), (some (139, false)), false⟩,
  ⟨(some 141), .ld false 1 (.t 140), (some (139, false)), false⟩,
  ⟨(some 142), .lenV (.t 141), (some (139, false)), false⟩,
  ⟨(some 143), .bin .neq (.t 142) (.c (.i .i64 63)), (some (139, false)), false⟩,
  ⟨(some 144), .pick (.t 139) (.c (.b true)) (.t 143), none, false⟩,
  ⟨(some 145), .mv (.t 144), none, true⟩,
  ⟨(some 146), .ld true 4 (.t 1), (some (145, false)), false⟩,
  ⟨(some 147), .call (.c (.fn 25 [])) [.t 146, .c (.i .i64 100), .c (.i .i64 5)], (some (145, false)), false⟩,
  ⟨(some 148), .not (.t 147), (some (145, false)), false⟩,
  ⟨(some 149), .pick (.t 145) (.c (.b true)) (.t 148), none, false⟩,
  ⟨(some 150), .mv (.t 149), none, true⟩,
  ⟨(some 151), .ld true 4 (.t 2), (some (150, false)), false⟩,
  ⟨(some 152), .call (.c (.fn 25 [])) [.t 151, .c (.i .i64 100), .c (.i .i64 105)], (some (150, false)), false⟩,
  ⟨(some 153), .not (.t 152), (some (150, false)), false⟩,
  ⟨(some 154), .pick (.t 150) (.c (.b true)) (.t 153), none, true⟩]
abbrev i16r13 : List IOper := [
  ⟨(some 0), .mv (.c (.b false)), none, false⟩]
abbrev i16r14 : List IOper := [
  ⟨(some 155), .build [.b false, .i .i64 0, .i .i64 0, .i .i64 0, .i .i64 0, .ns, .ns, .i .i64 0, .s []] [(1, 1, .c (.i .i64 96)), (2, 1, .c (.i .i64 5)), (3, 1, .c (.i .i64 9)), (4, 1, .c (.i .i64 1)), (8, 1, .c (.s [120]))], none, false⟩,
  ⟨(some 21), .new [.b false, .i .i64 0, .i .i64 0, .i .i64 0, .i .i64 0, .ns, .ns, .i .i64 0, .s []], none, false⟩,
  ⟨none, .st 9 (.t 21) (.t 155), none, false⟩]
abbrev i16r15 : List IOper := [
  ⟨(some 157), .call (.c (.fn 32 [])) [.c (.i .i64 7), .c (.i .i64 97), .c (.i .i64 100)], none, false⟩,
  ⟨(some 156), .mv (.t 157), none, false⟩,
  ⟨(some 158), .ext (.t 156) 0, none, false⟩,
  ⟨(some 159), .ext (.t 156) 1, none, false⟩,
  ⟨(some 22), .new [.i .i64 0, .i .i64 0, .i .i64 0, .i .i64 0, .ns], none, false⟩,
  ⟨none, .st 5 (.t 22) (.t 158), none, false⟩,
  ⟨(some 23), .mv (.t 159), none, false⟩]
abbrev i16r16 : List IOper := [
  ⟨(some 161), .ld true 5 (.t 22), none, false⟩,
  ⟨(some 162), .ld true 9 (.t 21), none, false⟩,
  ⟨(some 163), .call (.c (.fn 33 [])) [.t 161, .c (.i .i64 0), .t 162], none, false⟩,
  ⟨(some 160), .mv (.t 163), none, false⟩,
  ⟨(some 164), .ext (.t 160) 0, none, false⟩,
  ⟨(some 165), .ext (.t 160) 1, none, false⟩,
  ⟨(some 24), .new [.i .i64 0, .i .i64 0, .i .i64 0, .i .i64 0, .ns], none, false⟩,
  ⟨none, .st 5 (.t 24) (.t 164), none, false⟩,
  ⟨(some 25), .mv (.t 165), none, false⟩]
abbrev i16r17 : List IOper := [
  ⟨(some 167), .ld true 5 (.t 24), none, false⟩,
  ⟨(some 168), .bsl [.i .i64 0, .i .i64 0] 2 [(0, 1, .c (.i .i64 5)), (1, 1, .c (.i .i64 6))], none, false⟩,
  ⟨(some 169), .call (.c (.fn 37 [])) [.t 167, .c (.i .i64 10), .c (.i .i64 100), .t 168], none, false⟩,
  ⟨(some 166), .mv (.t 169), none, false⟩,
  ⟨(some 170), .ext (.t 166) 0, none, false⟩,
  ⟨(some 171), .ext (.t 166) 1, none, false⟩,
  ⟨(some 172), .ext (.t 166) 2, none, false⟩,
  ⟨(some 26), .new [.i .i64 0, .i .i64 0, .i .i64 0, .i .i64 0, .ns], none, false⟩,
  ⟨none, .st 5 (.t 26) (.t 170), none, false⟩,
  ⟨(some 27), .mv (.t 171), none, false⟩,
  ⟨(some 28), .mv (.t 172), none, false⟩]
abbrev i16r18 : List IOper := [
  ⟨(some 174), .ld true 5 (.t 26), none, false⟩,
  ⟨(some 175), .bsl [.i .i64 0] 1 [(0, 1, .c (.i .i64 5))], none, false⟩,
  ⟨(some 176), .call (.c (.fn 37 [])) [.t 174, .c (.i .i64 109), .c (.i .i64 100), .t 175], none, false⟩,
  ⟨(some 173), .mv (.t 176), none, false⟩,
  ⟨(some 177), .ext (.t 173) 0, none, false⟩,
  ⟨(some 178), .ext (.t 173) 1, none, false⟩,
  ⟨(some 179), .ext (.t 173) 2, none, false⟩,
  ⟨(some 29), .new [.i .i64 0, .i .i64 0, .i .i64 0, .i .i64 0, .ns], none, false⟩,
  ⟨none, .st 5 (.t 29) (.t 177), none, false⟩,
  ⟨(some 30), .mv (.t 178), none, false⟩,
  ⟨(some 31), .mv (.t 179), none, false⟩]
abbrev i16r19 : List IOper := [
  ⟨(some 181), .ld true 5 (.t 26), none, false⟩,
  ⟨(some 182), .bsl [.i .i64 0] 1 [(0, 1, .c (.i .i64 5))], none, false⟩,
  ⟨(some 183), .call (.c (.fn 37 [])) [.t 181, .c (.i .i64 110), .c (.i .i64 100), .t 182], none, false⟩,
  ⟨(some 180), .mv (.t 183), none, false⟩,
  ⟨(some 184), .ext (.t 180) 0, none, false⟩,
  ⟨(some 185), .ext (.t 180) 1, none, false⟩,
  ⟨(some 186), .ext (.t 180) 2, none, false⟩,
  ⟨(some 32), .new [.i .i64 0, .i .i64 0, .i .i64 0, .i .i64 0, .ns], none, false⟩,
  ⟨none, .st 5 (.t 32) (.t 184), none, false⟩,
  ⟨(some 33), .mv (.t 185), none, false⟩,
  ⟨(some 34), .mv (.t 186), none, false⟩]
abbrev i16r20 : List IOper := [
  ⟨(some 187), .mv (.t 23), none, false⟩,
  ⟨(some 188), .bin .neq (.t 187) (.c (.i .i64 0)), none, false⟩,
  ⟨(some 189), .mv (.t 188), none, true⟩,
  ⟨(some 190), .mv (.t 25), (some (189, false)), false⟩,
  ⟨(some 191), .bin .neq (.t 190) (.c (.i .i64 0)), (some (189, false)), false⟩,
  ⟨(some 192), .pick (.t 189) (.c (.b true)) (.t 191), none, false⟩,
  ⟨(some 193), .mv (.t 192), none, true⟩,
  ⟨(some 194), .mv (.t 28), (some (193, false)), false⟩,
  ⟨(some 195), .bin .neq (.t 194) (.c (.i .i64 0)), (some (193, false)), false⟩,
  ⟨(some 196), .pick (.t 193) (.c (.b true)) (.t 195), none, false⟩,
  ⟨(some 197), .mv (.t 196), none, true⟩,
  ⟨(some 198), .mv (.t 31), (some (197, false)), false⟩,
  ⟨(some 199), .bin .neq (.t 198) (.c (.i .i64 0)), (some (197, false)), false⟩,
  ⟨(some 200), .pick (.t 197) (.c (.b true)) (.t 199), none, false⟩,
  ⟨(some 201), .mv (.t 200), none, true⟩,
  ⟨(some 202), .mv (.t 34), (some (201, false)), false⟩,
  ⟨(some 203), .bin .neq (.t 202) (.c (.i .i64 0)), (some (201, false)), false⟩,
  ⟨(some 204), .pick (.t 201) (.c (.b true)) (.t 203), none, false⟩,
  ⟨(some 205), .mv (.t 204), none, true⟩,
  ⟨(some 206), .mv (.t 27), (some (205, false)), false⟩,
  ⟨(some 207), .lenV (.t 206), (some (205, false)), false⟩,
  ⟨(some 208), .bin .neq (.t 207) (.c (.i .i64 1)), (some (205, false)), false⟩,
  ⟨(some 209), .pick (.t 205) (.c (.b true)) (.t 208), none, false⟩,
  ⟨(some 210), .mv (.t 209), none, true⟩,
  ⟨(some 211), .mv (.t 30), (some (210, false)), false⟩,
  ⟨(some 212), .lenV (.t 211), (some (210, false)), false⟩,
  ⟨(some 213), .bin .neq (.t 212) (.c (.i .i64 0)), (some (210, false)), false⟩,
  ⟨(some 214), .pick (.t 210) (.c (.b true)) (.t 213), none, false⟩,
  ⟨(some 215), .mv (.t 214), none, true⟩,
  ⟨(some 216), .mv (.t 33), (some (215, false)), false⟩,
  ⟨(some 217), .lenV (.t 216), (some (215, false)), false⟩,
  ⟨(some 218), .bin .neq (.t 217) (.c (.i .i64 1)), (some (215, false)), false⟩,
  ⟨(some 219), .pick (.t 215) (.c (.b true)) (.t 218), none, false⟩,
  ⟨(some 220), .mv (.t 219), none, true⟩,
  ⟨(some 221), .mv (.t 33), (some (220, false)), false⟩,
  ⟨(some 222), .ixaV 9 (.t 221) (.c (.i .i64 0)), (some (220, false)), false⟩,
  ⟨(some 223), .fa 2 (.t 222), (some (220, false)), false⟩,
  ⟨(some 224), .ld false 1 (.t 223), (some (220, false)), false⟩,
  ⟨(some 225), .bin .neq (.t 224) (.c (.i .i64 101)), (some (220, false)), false⟩,
  ⟨(some 226), .pick (.t 220) (.c (.b true)) (.t 225), none, true⟩]
abbrev i16r21 : List IOper := [
  ⟨(some 0), .mv (.c (.b false)), none, false⟩]
abbrev i16r22 : List IOper := [
  ⟨(some 228), .mv (.t 27), none, false⟩,
  ⟨(some 229), .ixaV 9 (.t 228) (.c (.i .i64 0)), none, false⟩,
  ⟨(some 230), .ld true 9 (.t 229), none, false⟩,
  ⟨(some 231), .call (.c (.fn 38 [])) [.t 230, .c (.i .i64 1), .c (.i .i64 96)], none, false⟩,
  ⟨(some 227), .mv (.t 231), none, false⟩,
  ⟨(some 232), .ext (.t 227) 0, none, false⟩,
  ⟨(some 233), .ext (.t 227) 1, none, false⟩,
  ⟨(some 35), .new [.b false, .i .i64 0, .i .i64 0, .i .i64 0, .i .i64 0, .ns, .ns, .i .i64 0, .s []], none, false⟩,
  ⟨none, .st 9 (.t 35) (.t 232), none, false⟩,
  ⟨(some 36), .mv (.t 233), none, false⟩]
abbrev i16r23 : List IOper := [
  ⟨(some 235), .ld true 5 (.t 24), none, false⟩,
  ⟨(some 236), .ld true 9 (.t 21), none, false⟩,
  ⟨(some 237), .call (.c (.fn 33 [])) [.t 235, .c (.i .i64 1), .t 236], none, false⟩,
  ⟨(some 234), .mv (.t 237), none, false⟩,
  ⟨(some 238), .ext (.t 234) 0, none, false⟩,
  ⟨(some 239), .ext (.t 234) 1, none, false⟩,
  ⟨(some 37), .new [.i .i64 0, .i .i64 0, .i .i64 0, .i .i64 0, .ns], none, false⟩,
  ⟨none, .st 5 (.t 37) (.t 238), none, false⟩,
  ⟨(some 38), .mv (.t 239), none, false⟩]
abbrev i16r24 : List IOper := [
  ⟨(some 241), .ld true 9 (.t 21), none, false⟩,
  ⟨(some 242), .call (.c (.fn 38 [])) [.t 241, .c (.i .i64 1), .c (.i .i64 96)], none, false⟩,
  ⟨(some 240), .mv (.t 242), none, false⟩,
  ⟨(some 243), .ext (.t 240) 0, none, false⟩,
  ⟨(some 244), .ext (.t 240) 1, none, false⟩,
  ⟨(some 39), .new [.b false, .i .i64 0, .i .i64 0, .i .i64 0, .i .i64 0, .ns, .ns, .i .i64 0, .s []], none, false⟩,
  ⟨none, .st 9 (.t 39) (.t 243), none, false⟩,
  ⟨(some 40), .mv (.t 244), none, false⟩]
abbrev i16r25 : List IOper := [
  ⟨(some 245), .mv (.t 27), none, false⟩,
  ⟨(some 246), .ixaV 9 (.t 245) (.c (.i .i64 0)), none, false⟩,
  ⟨(some 247), .ld true 9 (.t 246), none, false⟩,
  ⟨(some 248), .build [.b false, .i .i64 0, .i .i64 0, .i .i64 0, .i .i64 0, .ns, .ns, .i .i64 0, .s []] [(1, 1, .c (.i .i64 97)), (2, 1, .c (.i .i64 100)), (3, 1, .c (.i .i64 9)), (4, 1, .c (.i .i64 7)), (8, 1, .c (.s [0, 5, 120]))], none, false⟩,
  ⟨(some 249), .call (.c (.fn 36 [])) [.t 247, .t 248], none, false⟩,
  ⟨(some 250), .mv (.t 249), none, true⟩,
  ⟨(some 251), .mv (.t 36), (some (250, true)), false⟩,
  ⟨(some 252), .bin .eql (.t 251) (.c (.i .i64 0)), (some (250, true)), false⟩,
  ⟨(some 253), .pick (.t 250) (.t 252) (.c (.b false)), none, false⟩,
  ⟨(some 254), .mv (.t 253), none, true⟩,
  ⟨(some 255), .ld true 9 (.t 35), (some (254, true)), false⟩,
  ⟨(some 256), .ld true 9 (.t 21), (some (254, true)), false⟩,
  ⟨(some 257), .call (.c (.fn 36 [])) [.t 255, .t 256], (some (254, true)), false⟩,
  ⟨(some 258), .pick (.t 254) (.t 257) (.c (.b false)), none, false⟩,
  ⟨(some 259), .mv (.t 258), none, true⟩,
  ⟨(some 260), .mv (.t 38), (some (259, true)), false⟩,
  ⟨(some 261), .bin .eql (.t 260) (.c (.i .i64 10)), (some (259, true)), false⟩,
  ⟨(some 262), .pick (.t 259) (.t 261) (.c (.b false)), none, false⟩,
  ⟨(some 263), .mv (.t 262), none, true⟩,
  ⟨(some 264), .mv (.t 40), (some (263, true)), false⟩,
  ⟨(some 265), .bin .eql (.t 264) (.c (.i .i64 7)), (some (263, true)), false⟩,
  ⟨(some 266), .pick (.t 263) (.t 265) (.c (.b false)), none, false⟩,
  ⟨(some 0), .mv (.t 266), none, false⟩]
abbrev i16c : ICode := (.seq (.reg i16r0) (.seq (.reg i16r1) (.seq (.reg i16r2) (.seq (.reg i16r3) (.seq (.reg i16r4) (.seq (.reg i16r5) (.seq (.reg i16r6) (.seq (.reg i16r7) (.seq (.reg i16r8) (.seq (.reg i16r9) (.seq (.reg i16r10) (.seq (.reg i16r11) (.seq (.seq (.reg i16r12) (.cond (.t 154) (.seq (.reg i16r13) .ret) .skip)) (.seq (.reg i16r14) (.seq (.reg i16r15) (.seq (.reg i16r16) (.seq (.reg i16r17) (.seq (.reg i16r18) (.seq (.reg i16r19) (.seq (.seq (.reg i16r20) (.cond (.t 226) (.seq (.reg i16r21) .ret) .skip)) (.seq (.reg i16r22) (.seq (.reg i16r23) (.seq (.reg i16r24) (.seq (.reg i16r25) .ret))))))))))))))))))))))))
def i16 : IFn := { np := 0, N := 267, ct := [154, 226], code := i16c, res := [.t 0] }
theorem i16_eq : compF Try.prog Try.f16 = some i16 := by kernel_rfl
abbrev i32r0 : List IOper := [
  ⟨(some 6), .new [.i .i64 0, .i .i64 0, .i .i64 0, .i .i64 0, .ns], none, false⟩,
  ⟨(some 7), .mv (.c (.i .i64 0)), none, false⟩]
abbrev i32r1 : List IOper := [
  ⟨(some 8), .mv (.t 0), none, false⟩,
  ⟨(some 9), .mv (.t 1), none, false⟩,
  ⟨(some 10), .mv (.t 2), none, false⟩,
  ⟨(some 11), .call (.c (.fn 66 [])) [.t 8, .t 9, .t 10], none, false⟩,
  ⟨(some 12), .not (.t 11), none, true⟩]
abbrev i32r2 : List IOper := [
  ⟨(some 13), .build [.i .i64 0, .i .i64 0, .i .i64 0, .i .i64 0, .ns] [], none, false⟩,
  ⟨none, .st 5 (.t 6) (.t 13), none, false⟩,
  ⟨(some 7), .mv (.c (.i .i64 2)), none, false⟩]
abbrev i32r3 : List IOper := [
  ⟨(some 14), .mv (.t 0), none, false⟩,
  ⟨(some 15), .mv (.t 1), none, false⟩,
  ⟨(some 16), .mv (.t 2), none, false⟩,
  ⟨(some 17), .build [.i .i64 0, .i .i64 0, .i .i64 0, .i .i64 0, .ns] [(1, 1, .t 14), (2, 1, .t 15), (3, 1, .t 16)], none, false⟩,
  ⟨none, .st 5 (.t 6) (.t 17), none, false⟩,
  ⟨(some 7), .mv (.c (.i .i64 0)), none, false⟩]
abbrev i32c : ICode := (.seq (.reg i32r0) (.seq (.seq (.reg i32r1) (.cond (.t 12) (.seq (.reg i32r2) .ret) .skip)) (.seq (.reg i32r3) .ret)))
def i32 : IFn := { np := 3, N := 18, ct := [12], code := i32c, res := [.c 6 true 5, .t 7] }
theorem i32_eq : compF Try.prog Try.f32 = some i32 := by kernel_rfl
abbrev i33r0 : List IOper := [
  ⟨(some 3), .box (.t 0), none, false⟩,
  ⟨(some 4), .box (.t 1), none, false⟩,
  ⟨(some 5), .box (.t 2), none, false⟩,
  ⟨(some 6), .new [.i .i64 0, .i .i64 0, .i .i64 0, .i .i64 0, .ns], none, false⟩,
  ⟨(some 7), .mv (.c (.i .i64 0)), none, false⟩]
abbrev i33r1 : List IOper := [
  ⟨(some 14), .ld true 5 (.t 3), none, false⟩,
  ⟨(some 15), .ld false 1 (.t 4), none, false⟩,
  ⟨(some 16), .call (.c (.fn 67 [])) [.t 14, .t 15], none, false⟩,
  ⟨(some 13), .mv (.t 16), none, false⟩,
  ⟨(some 17), .ext (.t 13) 0, none, false⟩,
  ⟨(some 18), .ext (.t 13) 1, none, false⟩,
  ⟨(some 8), .mv (.t 17), none, false⟩,
  ⟨(some 9), .mv (.t 18), none, false⟩]
abbrev i33r2 : List IOper := [
  ⟨(some 19), .mv (.t 9), none, false⟩,
  ⟨(some 20), .bin .neq (.t 19) (.c (.i .i64 0)), none, true⟩]
abbrev i33r3 : List IOper := [
  ⟨(some 21), .build [.i .i64 0, .i .i64 0, .i .i64 0, .i .i64 0, .ns] [], none, false⟩,
  ⟨(some 22), .mv (.t 9), none, false⟩,
  ⟨none, .st 5 (.t 6) (.t 21), none, false⟩,
  ⟨(some 7), .mv (.t 22), none, false⟩]
abbrev i33r4 : List IOper := [
  ⟨(some 23), .ld true 9 (.t 5), none, false⟩,
  ⟨(some 24), .call (.c (.fn 68 [])) [.t 23], none, false⟩,
  ⟨(some 25), .bin .neq (.t 24) (.c (.i .i64 0)), none, true⟩]
abbrev i33r5 : List IOper := [
  ⟨(some 26), .build [.i .i64 0, .i .i64 0, .i .i64 0, .i .i64 0, .ns] [], none, false⟩,
  ⟨none, .st 5 (.t 6) (.t 26), none, false⟩,
  ⟨(some 7), .mv (.c (.i .i64 230)), none, false⟩]
abbrev i33r6 : List IOper := [
  ⟨(some 10), .new [.i .i64 0], none, false⟩,
  ⟨(some 11), .new [.i .i64 0], none, false⟩,
  ⟨none, .st 1 (.t 10) (.c (.i .i64 0)), none, false⟩,
  ⟨none, .st 1 (.t 11) (.c (.i .i64 0)), none, false⟩]
abbrev i33r7 : List IOper := [
  ⟨(some 27), .mv (.t 8), none, false⟩,
  ⟨(some 28), .nck (.t 27), none, false⟩,
  ⟨(some 29), .fa 0 (.t 28), none, false⟩,
  ⟨(some 30), .fa 4 (.t 29), none, false⟩,
  ⟨(some 31), .ld false 1 (.t 30), none, false⟩,
  ⟨(some 32), .lenV (.t 31), none, false⟩,
  ⟨(some 12), .mv (.t 32), none, false⟩]
abbrev i33r8 : List IOper := [
  ⟨(some 33), .mv (.t 12), none, false⟩,
  ⟨(some 34), .bin .gtr (.t 33) (.c (.i .i64 0)), none, true⟩]
abbrev i33r9 : List IOper := [
  ⟨(some 35), .mv (.t 8), none, false⟩,
  ⟨(some 36), .nck (.t 35), none, false⟩,
  ⟨(some 37), .fa 0 (.t 36), none, false⟩,
  ⟨(some 38), .fa 4 (.t 37), none, false⟩,
  ⟨(some 39), .ld false 1 (.t 38), none, false⟩,
  ⟨(some 40), .mv (.t 12), none, false⟩,
  ⟨(some 41), .bin .sub (.t 40) (.c (.i .i64 1)), none, false⟩,
  ⟨(some 42), .ixaV 11 (.t 39) (.t 41), none, false⟩,
  ⟨(some 43), .fa 0 (.t 42), none, false⟩,
  ⟨(some 44), .fa 2 (.t 43), none, false⟩,
  ⟨(some 45), .ld false 1 (.t 44), none, false⟩,
  ⟨none, .st 1 (.t 10) (.t 45), none, false⟩]
abbrev i33r10 : List IOper := [
  ⟨(some 46), .fa 2 (.t 5), none, false⟩,
  ⟨(some 47), .ld false 1 (.t 46), none, false⟩,
  ⟨(some 48), .ld false 1 (.t 10), none, false⟩,
  ⟨(some 49), .call (.c (.fn 51 [])) [.t 47, .t 48], none, false⟩,
  ⟨none, .st 1 (.t 11) (.t 49), none, false⟩]
abbrev i33r11 : List IOper := [
  ⟨(some 50), .ld false 1 (.t 11), none, false⟩,
  ⟨(some 51), .bin .leq (.t 50) (.c (.i .i64 0)), none, true⟩]
abbrev i33r12 : List IOper := [
  ⟨(some 52), .build [.i .i64 0, .i .i64 0, .i .i64 0, .i .i64 0, .ns] [], none, false⟩,
  ⟨none, .st 5 (.t 6) (.t 52), none, false⟩,
  ⟨(some 7), .mv (.c (.i .i64 10)), none, false⟩]
abbrev i33r13 : List IOper := [
  ⟨(some 53), .mv (.t 8), none, false⟩,
  ⟨(some 54), .mv (.t 8), none, false⟩,
  ⟨(some 55), .nck (.t 54), none, false⟩,
  ⟨(some 56), .fa 0 (.t 55), none, false⟩,
  ⟨(some 57), .fa 4 (.t 56), none, false⟩,
  ⟨(some 58), .ld false 1 (.t 57), none, false⟩,
  ⟨(some 59), .mkf 70 [.t 4, .t 10, .t 11], none, false⟩,
  ⟨(some 60), .call (.c (.fn 69 [])) [.t 58, .t 59], none, false⟩,
  ⟨(some 61), .nck (.t 53), none, false⟩,
  ⟨(some 62), .fa 0 (.t 61), none, false⟩,
  ⟨(some 63), .fa 4 (.t 62), none, false⟩,
  ⟨none, .st 1 (.t 63) (.t 60), none, false⟩]
abbrev i33r14 : List IOper := [
  ⟨(some 64), .mv (.t 8), none, false⟩,
  ⟨(some 65), .nck (.t 64), none, false⟩,
  ⟨(some 66), .fa 0 (.t 65), none, false⟩,
  ⟨(some 67), .fa 4 (.t 66), none, false⟩,
  ⟨(some 68), .ld false 1 (.t 67), none, false⟩,
  ⟨(some 69), .lenV (.t 68), none, false⟩,
  ⟨(some 70), .bin .eql (.t 69) (.c (.i .i64 64)), none, true⟩]
abbrev i33r15 : List IOper := [
  ⟨(some 71), .mv (.t 8), none, false⟩,
  ⟨(some 72), .mv (.t 8), none, false⟩,
  ⟨(some 73), .nck (.t 72), none, false⟩,
  ⟨(some 74), .fa 0 (.t 73), none, false⟩,
  ⟨(some 75), .fa 4 (.t 74), none, false⟩,
  ⟨(some 76), .ld false 1 (.t 75), none, false⟩,
  ⟨(some 77), .slV 11 (.t 76) (some (.c (.i .i64 1))) none none, none, false⟩,
  ⟨(some 78), .nck (.t 71), none, false⟩,
  ⟨(some 79), .fa 0 (.t 78), none, false⟩,
  ⟨(some 80), .fa 4 (.t 79), none, false⟩,
  ⟨none, .st 1 (.t 80) (.t 77), none, false⟩]
abbrev i33r16 : List (IOper × List Nat) := [
  (⟨(some 81), .mv (.t 8), none, false⟩, []),
  (⟨(some 82), .mv (.t 8), none, false⟩, [0]),
  (⟨(some 83), .nck (.t 82), none, false⟩, [0]),
  (⟨(some 84), .fa 0 (.t 83), none, false⟩, [0]),
  (⟨(some 85), .fa 4 (.t 84), none, false⟩, [0]),
  (⟨(some 86), .ld false 1 (.t 85), none, false⟩, [0]),
  (⟨(some 87), .ld true 9 (.t 5), none, false⟩, [0, 1, 2, 3, 4, 5]),
  (⟨(some 88), .ld false 1 (.t 4), none, false⟩, [0, 1, 2, 3, 4, 5, 6]),
  (⟨(some 89), .build [.b false, .i .i64 0, .i .i64 0, .i .i64 0, .i .i64 0, .ns, .ns, .i .i64 0, .s [], .i .i64 0, .i .i64 0] [(0, 9, .t 87), (9, 1, .t 88), (10, 1, .c (.i .i64 (-1)))], none, false⟩, [0, 1, 2, 3, 4, 5]),
  (⟨(some 90), .bsl [.b false, .i .i64 0, .i .i64 0, .i .i64 0, .i .i64 0, .ns, .ns, .i .i64 0, .s [], .i .i64 0, .i .i64 0] 1 [(0, 11, .t 89)], none, false⟩, [0, 1, 2, 3, 4, 5]),
  (⟨(some 91), .app 11 128 [.b false, .i .i64 0, .i .i64 0, .i .i64 0, .i .i64 0, .ns, .ns, .i .i64 0, .s [], .i .i64 0, .i .i64 0] (.t 86) (.t 90), none, false⟩, [0]),
  (⟨(some 92), .nck (.t 81), none, false⟩, []),
  (⟨(some 93), .fa 0 (.t 92), none, false⟩, []),
  (⟨(some 94), .fa 4 (.t 93), none, false⟩, []),
  (⟨none, .st 1 (.t 94) (.t 91), none, false⟩, [])]
abbrev i33r17 : List IOper := [
  ⟨(some 95), .mv (.t 8), none, false⟩,
  ⟨(some 96), .nck (.t 95), none, false⟩,
  ⟨(some 97), .fa 0 (.t 96), none, false⟩,
  ⟨(some 98), .ld true 5 (.t 97), none, false⟩,
  ⟨none, .st 5 (.t 6) (.t 98), none, false⟩,
  ⟨(some 7), .mv (.c (.i .i64 0)), none, false⟩]
abbrev i33c : ICode := (.seq (.reg i33r0) (.seq (.reg i33r1) (.seq (.seq (.reg i33r2) (.cond (.t 20) (.seq (.reg i33r3) .ret) .skip)) (.seq (.seq (.reg i33r4) (.cond (.t 25) (.seq (.reg i33r5) .ret) .skip)) (.seq (.reg i33r6) (.seq (.seq (.reg i33r7) (.seq (.reg i33r8) (.cond (.t 34) (.seq (.reg i33r9) (.seq (.reg i33r10) (.seq (.reg i33r11) (.cond (.t 51) (.seq (.reg i33r12) .ret) .skip)))) .skip))) (.seq (.reg i33r13) (.seq (.seq (.reg i33r14) (.cond (.t 70) (.reg i33r15) .skip)) (.seq (.dreg i33r16) (.seq (.reg i33r17) .ret))))))))))
def i33 : IFn := { np := 3, N := 99, ct := [20, 25, 34, 51, 70], code := i33c, res := [.c 6 true 5, .t 7] }
theorem i33_eq : compF Try.prog Try.f33 = some i33 := by kernel_rfl
abbrev i35r0 : List IOper := [
  ⟨(some 1), .box (.t 0), none, false⟩,
  ⟨(some 2), .mv (.c (.i .i64 0)), none, false⟩]
abbrev i35r1 : List IOper := [
  ⟨(some 8), .fa 0 (.t 1), none, false⟩,
  ⟨(some 9), .ld false 1 (.t 8), none, false⟩,
  ⟨(some 10), .call (.c (.fn 49 [])) [.c (.i .i64 0), .c (.i .i64 1099511627776), .t 9], none, false⟩,
  ⟨(some 11), .not (.t 10), none, false⟩,
  ⟨(some 12), .mv (.t 11), none, true⟩,
  ⟨(some 13), .fa 1 (.t 1), (some (12, false)), false⟩,
  ⟨(some 14), .ld false 1 (.t 13), (some (12, false)), false⟩,
  ⟨(some 15), .fa 2 (.t 1), (some (12, false)), false⟩,
  ⟨(some 16), .ld false 1 (.t 15), (some (12, false)), false⟩,
  ⟨(some 17), .fa 3 (.t 1), (some (12, false)), false⟩,
  ⟨(some 18), .ld false 1 (.t 17), (some (12, false)), false⟩,
  ⟨(some 19), .call (.c (.fn 66 [])) [.t 14, .t 16, .t 18], (some (12, false)), false⟩,
  ⟨(some 20), .not (.t 19), (some (12, false)), false⟩,
  ⟨(some 21), .pick (.t 12) (.c (.b true)) (.t 20), none, false⟩,
  ⟨(some 22), .mv (.t 21), none, true⟩,
  ⟨(some 23), .fa 4 (.t 1), (some (22, false)), false⟩,
  ⟨(some 24), .ld false 1 (.t 23), (some (22, false)), false⟩,
  ⟨(some 25), .lenV (.t 24), (some (22, false)), false⟩,
  ⟨(some 26), .bin .gtr (.t 25) (.c (.i .i64 64)), (some (22, false)), false⟩,
  ⟨(some 27), .pick (.t 22) (.c (.b true)) (.t 26), none, true⟩]
abbrev i35r2 : List IOper := [
  ⟨(some 2), .mv (.c (.i .i64 281)), none, false⟩]
abbrev i35r3 : List IOper := [
  ⟨(some 28), .fa 4 (.t 1), none, false⟩,
  ⟨(some 29), .ld false 1 (.t 28), none, false⟩,
  ⟨(some 30), .call (.c (.fn 40 [])) [.t 29, .c (.fn 71 [])], none, true⟩]
abbrev i35r4 : List IOper := [
  ⟨(some 2), .mv (.c (.i .i64 281)), none, false⟩]
abbrev i35r5 : List IOper := [
  ⟨(some 3), .mv (.c (.i .i64 0)), none, false⟩,
  ⟨(some 4), .mv (.c (.i .i64 (-16385))), none, false⟩]
abbrev i35r6 : List IOper := [
  ⟨(some 31), .fa 4 (.t 1), none, false⟩,
  ⟨(some 32), .ld false 1 (.t 31), none, false⟩,
  ⟨(some 33), .lenV (.t 32), none, false⟩,
  ⟨(some 34), .mv (.c (.i .i64 0)), none, false⟩]
abbrev i35r7 : List IOper := [
  ⟨(some 35), .bin .lss (.t 34) (.t 33), none, true⟩]
abbrev i35r8 : List IOper := [
  ⟨(some 36), .ixaV 11 (.t 32) (.t 34), none, false⟩,
  ⟨(some 37), .ld true 11 (.t 36), none, false⟩,
  ⟨(some 6), .new [.b false, .i .i64 0, .i .i64 0, .i .i64 0, .i .i64 0, .ns, .ns, .i .i64 0, .s [], .i .i64 0, .i .i64 0], none, false⟩,
  ⟨none, .st 11 (.t 6) (.t 37), none, false⟩]
abbrev i35r9 : List (IOper × List Nat) := [
  (⟨(some 38), .fa 0 (.t 6), none, false⟩, []),
  (⟨(some 39), .fa 2 (.t 38), none, false⟩, []),
  (⟨(some 40), .ld false 1 (.t 39), none, false⟩, []),
  (⟨(some 41), .fa 4 (.t 1), none, false⟩, [0, 1, 2]),
  (⟨(some 42), .ld false 1 (.t 41), none, false⟩, [0, 1, 2]),
  (⟨(some 43), .fa 4 (.t 1), none, false⟩, [0, 1, 2, 3, 4]),
  (⟨(some 44), .ld false 1 (.t 43), none, false⟩, [0, 1, 2, 3, 4]),
  (⟨(some 45), .lenV (.t 44), none, false⟩, [0, 1, 2, 3, 4]),
  (⟨(some 46), .bin .sub (.t 45) (.c (.i .i64 1)), none, false⟩, [0, 1, 2, 3, 4]),
  (⟨(some 47), .ixaV 11 (.t 42) (.t 46), none, false⟩, [0, 1, 2]),
  (⟨(some 48), .fa 0 (.t 47), none, false⟩, [0, 1, 2]),
  (⟨(some 49), .fa 2 (.t 48), none, false⟩, [0, 1, 2]),
  (⟨(some 50), .ld false 1 (.t 49), none, false⟩, [0, 1, 2]),
  (⟨(some 51), .call (.c (.fn 51 [])) [.t 40, .t 50], none, false⟩, []),
  (⟨(some 7), .mv (.t 51), none, false⟩, [])]
abbrev i35r10 : List IOper := [
  ⟨(some 52), .mv (.t 3), none, false⟩,
  ⟨(some 53), .fa 0 (.t 1), none, false⟩,
  ⟨(some 54), .ld false 1 (.t 53), none, false⟩,
  ⟨(some 55), .fa 9 (.t 6), none, false⟩,
  ⟨(some 56), .ld false 1 (.t 55), none, false⟩,
  ⟨(some 57), .call (.c (.fn 49 [])) [.t 52, .t 54, .t 56], none, false⟩,
  ⟨(some 58), .not (.t 57), none, false⟩,
  ⟨(some 59), .mv (.t 58), none, true⟩,
  ⟨(some 60), .fa 10 (.t 6), (some (59, false)), false⟩,
  ⟨(some 61), .ld false 1 (.t 60), (some (59, false)), false⟩,
  ⟨(some 62), .bin .neq (.t 61) (.c (.i .i64 (-1))), (some (59, false)), false⟩,
  ⟨(some 63), .mv (.t 62), (some (59, false)), true⟩,
  ⟨(some 64), .fa 9 (.t 6), (some (63, true)), false⟩,
  ⟨(some 65), .ld false 1 (.t 64), (some (63, true)), false⟩,
  ⟨(some 66), .fa 0 (.t 1), (some (63, true)), false⟩,
  ⟨(some 67), .ld false 1 (.t 66), (some (63, true)), false⟩,
  ⟨(some 68), .fa 10 (.t 6), (some (63, true)), false⟩,
  ⟨(some 69), .ld false 1 (.t 68), (some (63, true)), false⟩,
  ⟨(some 70), .call (.c (.fn 49 [])) [.t 65, .t 67, .t 69], (some (63, true)), false⟩,
  ⟨(some 71), .not (.t 70), (some (63, true)), false⟩,
  ⟨(some 72), .pick (.t 63) (.t 71) (.c (.b false)), (some (59, false)), false⟩,
  ⟨(some 73), .pick (.t 59) (.c (.b true)) (.t 72), none, false⟩,
  ⟨(some 74), .mv (.t 73), none, true⟩,
  ⟨(some 75), .mv (.t 4), (some (74, false)), false⟩,
  ⟨(some 76), .bin .add (.t 75) (.c (.i .i64 1)), (some (74, false)), false⟩,
  ⟨(some 77), .mv (.t 7), (some (74, false)), false⟩,
  ⟨(some 78), .call (.c (.fn 49 [])) [.t 76, .c (.i .i64 0), .t 77], (some (74, false)), false⟩,
  ⟨(some 79), .not (.t 78), (some (74, false)), false⟩,
  ⟨(some 80), .pick (.t 74) (.c (.b true)) (.t 79), none, true⟩]
abbrev i35r11 : List IOper := [
  ⟨(some 2), .mv (.c (.i .i64 281)), none, false⟩]
abbrev i35r12 : List IOper := [
  ⟨(some 81), .fa 9 (.t 6), none, false⟩,
  ⟨(some 82), .ld false 1 (.t 81), none, false⟩,
  ⟨(some 83), .mv (.t 7), none, false⟩,
  ⟨(some 3), .mv (.t 82), none, false⟩,
  ⟨(some 4), .mv (.t 83), none, false⟩]
abbrev i35r13 : List IOper := [
  ⟨(some 84), .bin .add (.t 34) (.c (.i .i64 1)), none, false⟩,
  ⟨(some 34), .mv (.t 84), none, false⟩]
abbrev i35l14 : ICode := (.seq (.reg i35r7) (.seq (.cond (.t 35) .skip (.exit 0)) (.seq (.block 1 (.seq (.reg i35r8) (.seq (.dreg i35r9) (.seq (.seq (.reg i35r10) (.cond (.t 80) (.seq (.reg i35r11) .ret) .skip)) (.reg i35r12))))) (.reg i35r13))))
abbrev i35r15 : List IOper := [
  ⟨(some 2), .mv (.c (.i .i64 0)), none, false⟩]
abbrev i35c : ICode := (.seq (.reg i35r0) (.seq (.seq (.reg i35r1) (.cond (.t 27) (.seq (.reg i35r2) .ret) .skip)) (.seq (.seq (.reg i35r3) (.cond (.t 30) (.seq (.reg i35r4) .ret) .skip)) (.seq (.reg i35r5) (.seq (.seq (.reg i35r6) (.block 0 (.loop i35l14))) (.seq (.reg i35r15) .ret))))))
def i35 : IFn := { np := 1, N := 85, ct := [27, 30, 35, 80], code := i35c, res := [.t 2] }
theorem i35_eq : compF Try.prog Try.f35 = some i35 := by kernel_rfl
abbrev i36r0 : List IOper := [
  ⟨(some 2), .box (.t 0), none, false⟩,
  ⟨(some 3), .box (.t 1), none, false⟩,
  ⟨(some 4), .mv (.c (.b false)), none, false⟩]
abbrev i36r1 : List IOper := [
  ⟨(some 7), .fa 0 (.t 2), none, false⟩,
  ⟨(some 8), .ld false 1 (.t 7), none, false⟩,
  ⟨(some 9), .fa 0 (.t 3), none, false⟩,
  ⟨(some 10), .ld false 1 (.t 9), none, false⟩,
  ⟨(some 11), .eqk true false [.b] (.t 8) (.t 10), none, false⟩,
  ⟨(some 12), .mv (.t 11), none, true⟩,
  ⟨(some 13), .fa 1 (.t 2), (some (12, false)), false⟩,
  ⟨(some 14), .ld false 1 (.t 13), (some (12, false)), false⟩,
  ⟨(some 15), .fa 1 (.t 3), (some (12, false)), false⟩,
  ⟨(some 16), .ld false 1 (.t 15), (some (12, false)), false⟩,
  ⟨(some 17), .bin .neq (.t 14) (.t 16), (some (12, false)), false⟩,
  ⟨(some 18), .pick (.t 12) (.c (.b true)) (.t 17), none, false⟩,
  ⟨(some 19), .mv (.t 18), none, true⟩,
  ⟨(some 20), .fa 2 (.t 2), (some (19, false)), false⟩,
  ⟨(some 21), .ld false 1 (.t 20), (some (19, false)), false⟩,
  ⟨(some 22), .fa 2 (.t 3), (some (19, false)), false⟩,
  ⟨(some 23), .ld false 1 (.t 22), (some (19, false)), false⟩,
  ⟨(some 24), .bin .neq (.t 21) (.t 23), (some (19, false)), false⟩,
  ⟨(some 25), .pick (.t 19) (.c (.b true)) (.t 24), none, false⟩,
  ⟨(some 26), .mv (.t 25), none, true⟩,
  ⟨(some 27), .fa 3 (.t 2), (some (26, false)), false⟩,
  ⟨(some 28), .ld false 1 (.t 27), (some (26, false)), false⟩,
  ⟨(some 29), .fa 3 (.t 3), (some (26, false)), false⟩,
  ⟨(some 30), .ld false 1 (.t 29), (some (26, false)), false⟩,
  ⟨(some 31), .bin .neq (.t 28) (.t 30), (some (26, false)), false⟩,
  ⟨(some 32), .pick (.t 26) (.c (.b true)) (.t 31), none, false⟩,
  ⟨(some 33), .mv (.t 32), none, true⟩,
  ⟨(some 34), .fa 4 (.t 2), (some (33, false)), false⟩,
  ⟨(some 35), .ld false 1 (.t 34), (some (33, false)), false⟩,
  ⟨(some 36), .fa 4 (.t 3), (some (33, false)), false⟩,
  ⟨(some 37), .ld false 1 (.t 36), (some (33, false)), false⟩,
  ⟨(some 38), .bin .neq (.t 35) (.t 37), (some (33, false)), false⟩,
  ⟨(some 39), .pick (.t 33) (.c (.b true)) (.t 38), none, false⟩,
  ⟨(some 40), .mv (.t 39), none, true⟩,
  ⟨(some 41), .fa 7 (.t 2), (some (40, false)), false⟩,
  ⟨(some 42), .ld false 1 (.t 41), (some (40, false)), false⟩,
  ⟨(some 43), .fa 7 (.t 3), (some (40, false)), false⟩,
  ⟨(some 44), .ld false 1 (.t 43), (some (40, false)), false⟩,
  ⟨(some 45), .bin .neq (.t 42) (.t 44), (some (40, false)), false⟩,
  ⟨(some 46), .pick (.t 40) (.c (.b true)) (.t 45), none, false⟩,
  ⟨(some 47), .mv (.t 46), none, true⟩,
  ⟨(some 48), .fa 8 (.t 2), (some (47, false)), false⟩,
  ⟨(some 49), .ld false 1 (.t 48), (some (47, false)), false⟩,
  ⟨(some 50), .fa 8 (.t 3), (some (47, false)), false⟩,
  ⟨(some 51), .ld false 1 (.t 50), (some (47, false)), false⟩,
  ⟨(some 52), .bin .neq (.t 49) (.t 51), (some (47, false)), false⟩,
  ⟨(some 53), .pick (.t 47) (.c (.b true)) (.t 52), none, false⟩,
  ⟨(some 54), .mv (.t 53), none, true⟩,
  ⟨(some 55), .fa 5 (.t 2), (some (54, false)), false⟩,
  ⟨(some 56), .ld false 1 (.t 55), (some (54, false)), false⟩,
  ⟨(some 57), .lenV (.t 56), (some (54, false)), false⟩,
  ⟨(some 58), .fa 5 (.t 3), (some (54, false)), false⟩,
  ⟨(some 59), .ld false 1 (.t 58), (some (54, false)), false⟩,
  ⟨(some 60), .lenV (.t 59), (some (54, false)), false⟩,
  ⟨(some 61), .bin .neq (.t 57) (.t 60), (some (54, false)), false⟩,
  ⟨(some 62), .pick (.t 54) (.c (.b true)) (.t 61), none, false⟩,
  ⟨(some 63), .mv (.t 62), none, true⟩,
  ⟨(some 64), .fa 6 (.t 2), (some (63, false)), false⟩,
  ⟨(some 65), .ld false 1 (.t 64), (some (63, false)), false⟩,
  ⟨(some 66), .lenV (.t 65), (some (63, false)), false⟩,
  ⟨(some 67), .fa 6 (.t 3), (some (63, false)), false⟩,
  ⟨(some 68), .ld false 1 (.t 67), (some (63, false)), false⟩,
  ⟨(some 69), .lenV (.t 68), (some (63, false)), false⟩,
  ⟨(some 70), .bin .neq (.t 66) (.t 69), (some (63, false)), false⟩,
  ⟨(some 71), .pick (.t 63) (.c (.b true)) (.t 70), none, true⟩]
abbrev i36r2 : List IOper := [
  ⟨(some 4), .mv (.c (.b false)), none, false⟩]
abbrev i36r3 : List IOper := [
  ⟨(some 5), .mv (.c (.i .i64 0)), none, false⟩]
abbrev i36r4 : List IOper := [
  ⟨(some 72), .mv (.t 5), none, false⟩,
  ⟨(some 73), .fa 5 (.t 2), none, false⟩,
  ⟨(some 74), .ld false 1 (.t 73), none, false⟩,
  ⟨(some 75), .lenV (.t 74), none, false⟩,
  ⟨(some 76), .bin .lss (.t 72) (.t 75), none, true⟩]
abbrev i36r5 : List (IOper × List Nat) := [
  (⟨(some 79), .fa 5 (.t 2), none, false⟩, []),
  (⟨(some 80), .ld false 1 (.t 79), none, false⟩, []),
  (⟨(some 81), .mv (.t 5), none, false⟩, [0, 1]),
  (⟨(some 82), .ixaV 1 (.t 80) (.t 81), none, false⟩, []),
  (⟨(some 83), .ld false 1 (.t 82), none, false⟩, []),
  (⟨(some 84), .fa 5 (.t 3), none, false⟩, [0, 1, 2, 3, 4]),
  (⟨(some 85), .ld false 1 (.t 84), none, false⟩, [0, 1, 2, 3, 4]),
  (⟨(some 86), .mv (.t 5), none, false⟩, [0, 1, 2, 3, 4, 5, 6]),
  (⟨(some 87), .ixaV 1 (.t 85) (.t 86), none, false⟩, [0, 1, 2, 3, 4]),
  (⟨(some 88), .ld false 1 (.t 87), none, false⟩, [0, 1, 2, 3, 4]),
  (⟨(some 89), .bin .neq (.t 83) (.t 88), none, true⟩, [])]
abbrev i36r6 : List IOper := [
  ⟨(some 4), .mv (.c (.b false)), none, false⟩]
abbrev i36r7 : List IOper := [
  ⟨(some 77), .mv (.t 5), none, false⟩,
  ⟨(some 78), .bin .add (.t 77) (.c (.i .i64 1)), none, false⟩,
  ⟨(some 5), .mv (.t 78), none, false⟩]
abbrev i36l8 : ICode := (.seq (.seq (.reg i36r4) (.cond (.t 76) .skip (.exit 0))) (.seq (.block 1 (.seq (.dreg i36r5) (.cond (.t 89) (.seq (.reg i36r6) .ret) .skip))) (.reg i36r7)))
abbrev i36r9 : List IOper := [
  ⟨(some 6), .mv (.c (.i .i64 0)), none, false⟩]
abbrev i36r10 : List IOper := [
  ⟨(some 90), .mv (.t 6), none, false⟩,
  ⟨(some 91), .fa 6 (.t 2), none, false⟩,
  ⟨(some 92), .ld false 1 (.t 91), none, false⟩,
  ⟨(some 93), .lenV (.t 92), none, false⟩,
  ⟨(some 94), .bin .lss (.t 90) (.t 93), none, true⟩]
abbrev i36r11 : List (IOper × List Nat) := [
  (⟨(some 97), .fa 6 (.t 2), none, false⟩, []),
  (⟨(some 98), .ld false 1 (.t 97), none, false⟩, []),
  (⟨(some 99), .mv (.t 6), none, false⟩, [0, 1]),
  (⟨(some 100), .ixaV 2 (.t 98) (.t 99), none, false⟩, []),
  (⟨(some 101), .ld true 2 (.t 100), none, false⟩, []),
  (⟨(some 102), .fa 6 (.t 3), none, false⟩, [0, 1, 2, 3, 4]),
  (⟨(some 103), .ld false 1 (.t 102), none, false⟩, [0, 1, 2, 3, 4]),
  (⟨(some 104), .mv (.t 6), none, false⟩, [0, 1, 2, 3, 4, 5, 6]),
  (⟨(some 105), .ixaV 2 (.t 103) (.t 104), none, false⟩, [0, 1, 2, 3, 4]),
  (⟨(some 106), .ld true 2 (.t 105), none, false⟩, [0, 1, 2, 3, 4]),
  (⟨(some 107), .eqk true true [.i, .s] (.t 101) (.t 106), none, true⟩, [])]
abbrev i36r12 : List IOper := [
  ⟨(some 4), .mv (.c (.b false)), none, false⟩]
abbrev i36r13 : List IOper := [
  ⟨(some 95), .mv (.t 6), none, false⟩,
  ⟨(some 96), .bin .add (.t 95) (.c (.i .i64 1)), none, false⟩,
  ⟨(some 6), .mv (.t 96), none, false⟩]
abbrev i36l14 : ICode := (.seq (.seq (.reg i36r10) (.cond (.t 94) .skip (.exit 2))) (.seq (.block 3 (.seq (.dreg i36r11) (.cond (.t 107) (.seq (.reg i36r12) .ret) .skip))) (.reg i36r13)))
abbrev i36r15 : List IOper := [
  ⟨(some 4), .mv (.c (.b true)), none, false⟩]
abbrev i36c : ICode := (.seq (.reg i36r0) (.seq (.seq (.reg i36r1) (.cond (.t 71) (.seq (.reg i36r2) .ret) .skip)) (.seq (.seq (.reg i36r3) (.block 0 (.loop i36l8))) (.seq (.seq (.reg i36r9) (.block 2 (.loop i36l14))) (.seq (.reg i36r15) .ret)))))
def i36 : IFn := { np := 2, N := 108, ct := [71, 76, 89, 94, 107], code := i36c, res := [.t 4] }
theorem i36_eq : compF Try.prog Try.f36 = some i36 := by kernel_rfl
abbrev i37r0 : List IOper := [
  ⟨(some 4), .box (.t 0), none, false⟩,
  ⟨(some 8), .new [.i .i64 0, .i .i64 0, .i .i64 0, .i .i64 0, .ns], none, false⟩,
  ⟨(some 9), .mv (.c (.ns)), none, false⟩,
  ⟨(some 10), .mv (.c (.i .i64 0)), none, false⟩]
abbrev i37r1 : List IOper := [
  ⟨(some 17), .ld true 5 (.t 4), none, false⟩,
  ⟨(some 18), .mv (.t 1), none, false⟩,
  ⟨(some 19), .call (.c (.fn 67 [])) [.t 17, .t 18], none, false⟩,
  ⟨(some 16), .mv (.t 19), none, false⟩,
  ⟨(some 20), .ext (.t 16) 0, none, false⟩,
  ⟨(some 21), .ext (.t 16) 1, none, false⟩,
  ⟨(some 11), .mv (.t 20), none, false⟩,
  ⟨(some 10), .mv (.t 21), none, false⟩]
abbrev i37r2 : List IOper := [
  ⟨(some 22), .mv (.t 10), none, false⟩,
  ⟨(some 23), .bin .neq (.t 22) (.c (.i .i64 0)), none, true⟩]
abbrev i37r3 : List IOper := [
  ⟨(some 24), .build [.i .i64 0, .i .i64 0, .i .i64 0, .i .i64 0, .ns] [], none, false⟩,
  ⟨(some 25), .mv (.t 10), none, false⟩,
  ⟨none, .st 5 (.t 8) (.t 24), none, false⟩,
  ⟨(some 9), .mv (.c (.ns)), none, false⟩,
  ⟨(some 10), .mv (.t 25), none, false⟩]
abbrev i37r4 : List IOper := [
  ⟨(some 26), .mv (.t 2), none, false⟩,
  ⟨(some 27), .call (.c (.fn 49 [])) [.c (.i .i64 1), .c (.i .i64 2000), .t 26], none, false⟩,
  ⟨(some 28), .not (.t 27), none, true⟩]
abbrev i37r5 : List IOper := [
  ⟨(some 29), .build [.i .i64 0, .i .i64 0, .i .i64 0, .i .i64 0, .ns] [], none, false⟩,
  ⟨none, .st 5 (.t 8) (.t 29), none, false⟩,
  ⟨(some 9), .mv (.c (.ns)), none, false⟩,
  ⟨(some 10), .mv (.c (.i .i64 2)), none, false⟩]
abbrev i37r6 : List IOper := [
  ⟨(some 30), .mv (.t 3), none, false⟩,
  ⟨(some 31), .lenV (.t 30), none, false⟩,
  ⟨(some 32), .bin .gtr (.t 31) (.c (.i .i64 64)), none, true⟩]
abbrev i37r7 : List IOper := [
  ⟨(some 33), .build [.i .i64 0, .i .i64 0, .i .i64 0, .i .i64 0, .ns] [], none, false⟩,
  ⟨none, .st 5 (.t 8) (.t 33), none, false⟩,
  ⟨(some 9), .mv (.c (.ns)), none, false⟩,
  ⟨(some 10), .mv (.c (.i .i64 3)), none, false⟩]
abbrev i37r8 : List IOper := [
  ⟨(some 34), .mv (.t 3), none, false⟩,
  ⟨(some 35), .call (.c (.fn 72 [])) [.t 34, .c (.fn 73 [])], none, true⟩]
abbrev i37r9 : List IOper := [
  ⟨(some 36), .build [.i .i64 0, .i .i64 0, .i .i64 0, .i .i64 0, .ns] [], none, false⟩,
  ⟨none, .st 5 (.t 8) (.t 36), none, false⟩,
  ⟨(some 9), .mv (.c (.ns)), none, false⟩,
  ⟨(some 10), .mv (.c (.i .i64 2)), none, false⟩]
abbrev i37r10 : List IOper := [
  ⟨(some 37), .mv (.t 3), none, false⟩,
  ⟨(some 38), .lenV (.t 37), none, false⟩,
  ⟨(some 39), .mv (.c (.i .i64 0)), none, false⟩]
abbrev i37r11 : List IOper := [
  ⟨(some 40), .bin .lss (.t 39) (.t 38), none, true⟩]
abbrev i37r12 : List IOper := [
  ⟨(some 41), .ixaV 1 (.t 37) (.t 39), none, false⟩,
  ⟨(some 42), .ld false 1 (.t 41), none, false⟩,
  ⟨(some 13), .new [.i .i64 0], none, false⟩,
  ⟨none, .st 1 (.t 13) (.t 42), none, false⟩]
abbrev i37r13 : List IOper := [
  ⟨(some 43), .mv (.t 11), none, false⟩,
  ⟨(some 44), .nck (.t 43), none, false⟩,
  ⟨(some 45), .fa 0 (.t 44), none, false⟩,
  ⟨(some 46), .fa 4 (.t 45), none, false⟩,
  ⟨(some 47), .ld false 1 (.t 46), none, false⟩,
  ⟨(some 48), .mkf 75 [.t 13], none, false⟩,
  ⟨(some 49), .call (.c (.fn 74 [])) [.t 47, .t 48], none, false⟩,
  ⟨(some 14), .mv (.t 49), none, false⟩]
abbrev i37r14 : List IOper := [
  ⟨(some 50), .mv (.t 14), none, false⟩,
  ⟨(some 51), .bin .lss (.t 50) (.c (.i .i64 0)), none, true⟩]
abbrev i37r15 : List IOper := [
  ⟨(some 52), .mv (.t 11), none, false⟩,
  ⟨(some 53), .nck (.t 52), none, false⟩,
  ⟨(some 54), .fa 0 (.t 53), none, false⟩,
  ⟨(some 55), .fa 4 (.t 54), none, false⟩,
  ⟨(some 56), .ld false 1 (.t 55), none, false⟩,
  ⟨(some 57), .mv (.t 14), none, false⟩,
  ⟨(some 58), .ixaV 11 (.t 56) (.t 57), none, false⟩,
  ⟨(some 15), .mv (.t 58), none, false⟩]
abbrev i37r16 : List IOper := [
  ⟨(some 59), .mv (.t 1), none, false⟩,
  ⟨(some 60), .mv (.t 15), none, false⟩,
  ⟨(some 61), .nck (.t 60), none, false⟩,
  ⟨(some 62), .fa 9 (.t 61), none, false⟩,
  ⟨(some 63), .ld false 1 (.t 62), none, false⟩,
  ⟨(some 64), .bin .sub (.t 59) (.t 63), none, false⟩,
  ⟨(some 65), .bin .leq (.t 64) (.c (.i .i64 2000)), none, false⟩,
  ⟨(some 66), .mv (.t 65), none, true⟩,
  ⟨(some 67), .mv (.t 15), (some (66, true)), false⟩,
  ⟨(some 68), .nck (.t 67), (some (66, true)), false⟩,
  ⟨(some 69), .fa 10 (.t 68), (some (66, true)), false⟩,
  ⟨(some 70), .ld false 1 (.t 69), (some (66, true)), false⟩,
  ⟨(some 71), .bin .lss (.t 70) (.c (.i .i64 0)), (some (66, true)), false⟩,
  ⟨(some 72), .mv (.t 71), (some (66, true)), true⟩,
  ⟨(some 73), .mv (.t 1), (some (72, false)), false⟩,
  ⟨(some 74), .mv (.t 15), (some (72, false)), false⟩,
  ⟨(some 75), .nck (.t 74), (some (72, false)), false⟩,
  ⟨(some 76), .fa 10 (.t 75), (some (72, false)), false⟩,
  ⟨(some 77), .ld false 1 (.t 76), (some (72, false)), false⟩,
  ⟨(some 78), .bin .sub (.t 73) (.t 77), (some (72, false)), false⟩,
  ⟨(some 79), .mv (.t 2), (some (72, false)), false⟩,
  ⟨(some 80), .bin .geq (.t 78) (.t 79), (some (72, false)), false⟩,
  ⟨(some 81), .pick (.t 72) (.c (.b true)) (.t 80), (some (66, true)), false⟩,
  ⟨(some 82), .pick (.t 66) (.t 81) (.c (.b false)), none, true⟩]
abbrev i37r17 : List IOper := [
  ⟨(some 83), .mv (.t 15), none, false⟩,
  ⟨(some 84), .mv (.t 1), none, false⟩,
  ⟨(some 85), .nck (.t 83), none, false⟩,
  ⟨(some 86), .fa 10 (.t 85), none, false⟩,
  ⟨none, .st 1 (.t 86) (.t 84), none, false⟩]
abbrev i37r18 : List IOper := [
  ⟨(some 87), .mv (.t 9), none, false⟩,
  ⟨(some 88), .mv (.t 11), none, false⟩,
  ⟨(some 89), .mv (.t 15), none, false⟩,
  ⟨(some 90), .nck (.t 89), none, false⟩,
  ⟨(some 91), .fa 0 (.t 90), none, false⟩,
  ⟨(some 92), .ld true 9 (.t 91), none, false⟩,
  ⟨(some 93), .call (.c (.fn 76 [])) [.t 88, .t 92], none, false⟩,
  ⟨(some 94), .bsl [.b false, .i .i64 0, .i .i64 0, .i .i64 0, .i .i64 0, .ns, .ns, .i .i64 0, .s []] 1 [(0, 9, .t 93)], none, false⟩,
  ⟨(some 95), .app 9 112 [.b false, .i .i64 0, .i .i64 0, .i .i64 0, .i .i64 0, .ns, .ns, .i .i64 0, .s []] (.t 87) (.t 94), none, false⟩,
  ⟨(some 9), .mv (.t 95), none, false⟩]
abbrev i37r19 : List IOper := [
  ⟨(some 96), .bin .add (.t 39) (.c (.i .i64 1)), none, false⟩,
  ⟨(some 39), .mv (.t 96), none, false⟩]
abbrev i37l20 : ICode := (.seq (.reg i37r11) (.seq (.cond (.t 40) .skip (.exit 0)) (.seq (.block 1 (.seq (.reg i37r12) (.seq (.reg i37r13) (.seq (.seq (.reg i37r14) (.cond (.t 51) (.exit 1) .skip)) (.seq (.reg i37r15) (.seq (.reg i37r16) (.cond (.t 82) (.seq (.reg i37r17) (.reg i37r18)) .skip))))))) (.reg i37r19))))
abbrev i37r21 : List IOper := [
  ⟨(some 97), .mv (.t 11), none, false⟩,
  ⟨(some 98), .nck (.t 97), none, false⟩,
  ⟨(some 99), .fa 0 (.t 98), none, false⟩,
  ⟨(some 100), .ld true 5 (.t 99), none, false⟩,
  ⟨(some 101), .mv (.t 9), none, false⟩,
  ⟨none, .st 5 (.t 8) (.t 100), none, false⟩,
  ⟨(some 9), .mv (.t 101), none, false⟩,
  ⟨(some 10), .mv (.c (.i .i64 0)), none, false⟩]
abbrev i37c : ICode := (.seq (.reg i37r0) (.seq (.reg i37r1) (.seq (.seq (.reg i37r2) (.cond (.t 23) (.seq (.reg i37r3) .ret) .skip)) (.seq (.seq (.reg i37r4) (.cond (.t 28) (.seq (.reg i37r5) .ret) .skip)) (.seq (.seq (.reg i37r6) (.cond (.t 32) (.seq (.reg i37r7) .ret) .skip)) (.seq (.seq (.reg i37r8) (.cond (.t 35) (.seq (.reg i37r9) .ret) .skip)) (.seq (.seq (.reg i37r10) (.block 0 (.loop i37l20))) (.seq (.reg i37r21) .ret))))))))
def i37 : IFn := { np := 4, N := 102, ct := [23, 28, 32, 35, 40, 51, 82], code := i37c, res := [.c 8 true 5, .t 9, .t 10] }
theorem i37_eq : compF Try.prog Try.f37 = some i37 := by kernel_rfl
abbrev i38r0 : List IOper := [
  ⟨(some 3), .box (.t 0), none, false⟩,
  ⟨(some 6), .new [.b false, .i .i64 0, .i .i64 0, .i .i64 0, .i .i64 0, .ns, .ns, .i .i64 0, .s []], none, false⟩,
  ⟨(some 7), .mv (.c (.i .i64 0)), none, false⟩]
abbrev i38r1 : List IOper := [
  ⟨(some 8), .ld true 9 (.t 3), none, false⟩,
  ⟨(some 9), .call (.c (.fn 68 [])) [.t 8], none, false⟩,
  ⟨(some 10), .bin .neq (.t 9) (.c (.i .i64 0)), none, true⟩]
abbrev i38r2 : List IOper := [
  ⟨(some 11), .build [.b false, .i .i64 0, .i .i64 0, .i .i64 0, .i .i64 0, .ns, .ns, .i .i64 0, .s []] [], none, false⟩,
  ⟨none, .st 9 (.t 6) (.t 11), none, false⟩,
  ⟨(some 7), .mv (.c (.i .i64 230)), none, false⟩]
abbrev i38r3 : List IOper := [
  ⟨(some 12), .mv (.t 1), none, false⟩,
  ⟨(some 13), .mv (.t 2), none, false⟩,
  ⟨(some 14), .call (.c (.fn 66 [])) [.t 12, .t 13, .c (.i .i64 0)], none, false⟩,
  ⟨(some 15), .not (.t 14), none, true⟩]
abbrev i38r4 : List IOper := [
  ⟨(some 16), .build [.b false, .i .i64 0, .i .i64 0, .i .i64 0, .i .i64 0, .ns, .ns, .i .i64 0, .s []] [], none, false⟩,
  ⟨none, .st 9 (.t 6) (.t 16), none, false⟩,
  ⟨(some 7), .mv (.c (.i .i64 2)), none, false⟩]
abbrev i38r5 : List IOper := [
  ⟨(some 17), .fa 8 (.t 3), none, false⟩,
  ⟨(some 18), .ld false 1 (.t 17), none, false⟩,
  ⟨(some 19), .lenS (.t 18), none, false⟩,
  ⟨(some 20), .bin .lss (.t 19) (.c (.i .i64 2)), none, true⟩]
abbrev i38r6 : List IOper := [
  ⟨(some 21), .build [.b false, .i .i64 0, .i .i64 0, .i .i64 0, .i .i64 0, .ns, .ns, .i .i64 0, .s []] [], none, false⟩,
  ⟨none, .st 9 (.t 6) (.t 21), none, false⟩,
  ⟨(some 7), .mv (.c (.i .i64 7)), none, false⟩]
abbrev i38r7 : List (IOper × List Nat) := [
  (⟨(some 22), .fa 8 (.t 3), none, false⟩, []),
  (⟨(some 23), .ld false 1 (.t 22), none, false⟩, []),
  (⟨(some 24), .ixS (.t 23) (.c (.i .i64 0)), none, false⟩, []),
  (⟨(some 25), .i2i .i64 (.t 24), none, false⟩, []),
  (⟨(some 26), .bin .shl (.t 25) (.c (.i .u64 8)), none, false⟩, []),
  (⟨(some 27), .fa 8 (.t 3), none, false⟩, [0, 1, 2, 3, 4]),
  (⟨(some 28), .ld false 1 (.t 27), none, false⟩, [0, 1, 2, 3, 4]),
  (⟨(some 29), .ixS (.t 28) (.c (.i .i64 1)), none, false⟩, [0, 1, 2, 3, 4]),
  (⟨(some 30), .i2i .i64 (.t 29), none, false⟩, [0, 1, 2, 3, 4]),
  (⟨(some 31), .bin .or (.t 26) (.t 30), none, false⟩, []),
  (⟨(some 32), .fa 8 (.t 3), none, false⟩, [0, 1, 2, 3, 4, 5, 6, 7, 8, 9]),
  (⟨(some 33), .ld false 1 (.t 32), none, false⟩, [0, 1, 2, 3, 4, 5, 6, 7, 8, 9]),
  (⟨(some 34), .slS (.t 33) (some (.c (.i .i64 2))) none, none, false⟩, [0, 1, 2, 3, 4, 5, 6, 7, 8, 9]),
  (⟨(some 35), .fa 2 (.t 3), none, false⟩, [12]),
  (⟨none, .st 1 (.t 35) (.t 31), none, false⟩, [12]),
  (⟨(some 36), .fa 8 (.t 3), none, false⟩, []),
  (⟨none, .st 1 (.t 36) (.t 34), none, false⟩, [])]
abbrev i38r8 : List IOper := [
  ⟨(some 37), .mv (.t 1), none, false⟩,
  ⟨(some 38), .mv (.t 2), none, false⟩,
  ⟨(some 39), .fa 4 (.t 3), none, false⟩,
  ⟨none, .st 1 (.t 39) (.t 37), none, false⟩,
  ⟨(some 40), .fa 1 (.t 3), none, false⟩,
  ⟨none, .st 1 (.t 40) (.t 38), none, false⟩]
abbrev i38r9 : List (IOper × List Nat) := [
  (⟨(some 41), .fa 5 (.t 3), none, false⟩, []),
  (⟨(some 42), .ld false 1 (.t 41), none, false⟩, []),
  (⟨(some 43), .call (.c (.fn 77 [])) [.t 42], none, false⟩, []),
  (⟨(some 44), .fa 6 (.t 3), none, false⟩, [0, 1, 2]),
  (⟨(some 45), .ld false 1 (.t 44), none, false⟩, [0, 1, 2]),
  (⟨(some 46), .call (.c (.fn 78 [])) [.t 45], none, false⟩, []),
  (⟨(some 47), .fa 5 (.t 3), none, false⟩, [5]),
  (⟨none, .st 1 (.t 47) (.t 43), none, false⟩, []),
  (⟨(some 48), .fa 6 (.t 3), none, false⟩, []),
  (⟨none, .st 1 (.t 48) (.t 46), none, false⟩, [])]
abbrev i38r10 : List IOper := [
  ⟨(some 49), .ld true 9 (.t 3), none, false⟩,
  ⟨none, .st 9 (.t 6) (.t 49), none, false⟩,
  ⟨(some 7), .mv (.c (.i .i64 0)), none, false⟩]
abbrev i38c : ICode := (.seq (.reg i38r0) (.seq (.seq (.reg i38r1) (.cond (.t 10) (.seq (.reg i38r2) .ret) .skip)) (.seq (.seq (.reg i38r3) (.cond (.t 15) (.seq (.reg i38r4) .ret) .skip)) (.seq (.seq (.reg i38r5) (.cond (.t 20) (.seq (.reg i38r6) .ret) .skip)) (.seq (.dreg i38r7) (.seq (.reg i38r8) (.seq (.dreg i38r9) (.seq (.reg i38r10) .ret))))))))
def i38 : IFn := { np := 3, N := 50, ct := [10, 15, 20], code := i38c, res := [.c 6 true 9, .t 7] }
theorem i38_eq : compF Try.prog Try.f38 = some i38 := by kernel_rfl
abbrev i40r0 : List IOper := [
  ⟨(some 4), .mv (.c (.b false)), none, false⟩]
abbrev i40r1 : List IOper := [
  ⟨(some 5), .mv (.t 0), none, false⟩,
  ⟨(some 6), .mv (.t 1), none, false⟩,
  ⟨(some 7), .call (.c (.fn 74 [])) [.t 5, .t 6], none, false⟩,
  ⟨(some 8), .bin .geq (.t 7) (.c (.i .i64 0)), none, false⟩,
  ⟨(some 4), .mv (.t 8), none, false⟩]
abbrev i40c : ICode := (.seq (.reg i40r0) (.seq (.reg i40r1) .ret))
def i40 : IFn := { np := 2, N := 9, ct := [], code := i40c, res := [.t 4] }
theorem i40_eq : compF Try.prog Try.f40 = some i40 := by kernel_rfl
abbrev i66r0 : List IOper := [
  ⟨(some 6), .mv (.c (.b false)), none, false⟩]
abbrev i66r1 : List IOper := [
  ⟨(some 7), .mv (.t 0), none, false⟩,
  ⟨(some 8), .call (.c (.fn 49 [])) [.c (.i .i64 0), .c (.i .i64 4294967295), .t 7], none, false⟩,
  ⟨(some 9), .mv (.t 8), none, true⟩,
  ⟨(some 10), .mv (.t 1), (some (9, true)), false⟩,
  ⟨(some 11), .call (.c (.fn 49 [])) [.c (.i .i64 0), .c (.i .i64 127), .t 10], (some (9, true)), false⟩,
  ⟨(some 12), .pick (.t 9) (.t 11) (.c (.b false)), none, false⟩,
  ⟨(some 13), .mv (.t 12), none, true⟩,
  ⟨(some 14), .mv (.t 2), (some (13, true)), false⟩,
  ⟨(some 15), .call (.c (.fn 49 [])) [.c (.i .i64 0), .c (.i .i64 65535), .t 14], (some (13, true)), false⟩,
  ⟨(some 16), .pick (.t 13) (.t 15) (.c (.b false)), none, false⟩,
  ⟨(some 6), .mv (.t 16), none, false⟩]
abbrev i66c : ICode := (.seq (.reg i66r0) (.seq (.reg i66r1) .ret))
def i66 : IFn := { np := 3, N := 17, ct := [], code := i66c, res := [.t 6] }
theorem i66_eq : compF Try.prog Try.f66 = some i66 := by kernel_rfl
abbrev i67r0 : List IOper := [
  ⟨(some 2), .box (.t 0), none, false⟩,
  ⟨(some 4), .mv (.c (.np)), none, false⟩,
  ⟨(some 5), .mv (.c (.i .i64 0)), none, false⟩]
abbrev i67r1 : List IOper := [
  ⟨(some 8), .ld true 5 (.t 2), none, false⟩,
  ⟨(some 9), .call (.c (.fn 35 [])) [.t 8], none, false⟩,
  ⟨(some 6), .mv (.t 9), none, false⟩]
abbrev i67r2 : List IOper := [
  ⟨(some 10), .mv (.t 6), none, false⟩,
  ⟨(some 11), .bin .neq (.t 10) (.c (.i .i64 0)), none, true⟩]
abbrev i67r3 : List IOper := [
  ⟨(some 12), .mv (.t 6), none, false⟩,
  ⟨(some 4), .mv (.c (.np)), none, false⟩,
  ⟨(some 5), .mv (.t 12), none, false⟩]
abbrev i67r4 : List IOper := [
  ⟨(some 13), .fa 0 (.t 2), none, false⟩,
  ⟨(some 14), .ld false 1 (.t 13), none, false⟩,
  ⟨(some 15), .mv (.t 1), none, false⟩,
  ⟨(some 16), .call (.c (.fn 49 [])) [.t 14, .c (.i .i64 1099511627776), .t 15], none, false⟩,
  ⟨(some 17), .not (.t 16), none, true⟩]
abbrev i67r5 : List IOper := [
  ⟨(some 4), .mv (.c (.np)), none, false⟩,
  ⟨(some 5), .mv (.c (.i .i64 2)), none, false⟩]
abbrev i67r6 : List IOper := [
  ⟨(some 18), .ld true 5 (.t 2), none, false⟩,
  ⟨(some 19), .build [.i .i64 0, .i .i64 0, .i .i64 0, .i .i64 0, .ns] [(0, 5, .t 18)], none, false⟩,
  ⟨(some 20), .box (.t 19), none, false⟩,
  ⟨(some 7), .mv (.t 20), none, false⟩]
abbrev i67r7 : List IOper := [
  ⟨(some 21), .mv (.t 7), none, false⟩,
  ⟨(some 22), .mv (.t 1), none, false⟩,
  ⟨(some 23), .nck (.t 21), none, false⟩,
  ⟨(some 24), .fa 0 (.t 23), none, false⟩,
  ⟨(some 25), .fa 0 (.t 24), none, false⟩,
  ⟨none, .st 1 (.t 25) (.t 22), none, false⟩]
abbrev i67r8 : List IOper := [
  ⟨(some 26), .mv (.t 7), none, false⟩,
  ⟨(some 27), .fa 4 (.t 2), none, false⟩,
  ⟨(some 28), .ld false 1 (.t 27), none, false⟩,
  ⟨(some 29), .call (.c (.fn 92 [])) [.t 28], none, false⟩,
  ⟨(some 30), .nck (.t 26), none, false⟩,
  ⟨(some 31), .fa 0 (.t 30), none, false⟩,
  ⟨(some 32), .fa 4 (.t 31), none, false⟩,
  ⟨none, .st 1 (.t 32) (.t 29), none, false⟩]
abbrev i67r9 : List IOper := [
  ⟨(some 33), .mv (.t 7), none, false⟩,
  ⟨(some 4), .mv (.t 33), none, false⟩,
  ⟨(some 5), .mv (.c (.i .i64 0)), none, false⟩]
abbrev i67c : ICode := (.seq (.reg i67r0) (.seq (.seq (.reg i67r1) (.seq (.reg i67r2) (.cond (.t 11) (.seq (.reg i67r3) .ret) .skip))) (.seq (.seq (.reg i67r4) (.cond (.t 17) (.seq (.reg i67r5) .ret) .skip)) (.seq (.reg i67r6) (.seq (.reg i67r7) (.seq (.reg i67r8) (.seq (.reg i67r9) .ret)))))))
def i67 : IFn := { np := 2, N := 34, ct := [11, 17], code := i67c, res := [.t 4, .t 5] }
theorem i67_eq : compF Try.prog Try.f67 = some i67 := by kernel_rfl
abbrev i68r0 : List IOper := [
  ⟨(some 1), .box (.t 0), none, false⟩,
  ⟨(some 2), .mv (.c (.i .i64 0)), none, false⟩]
abbrev i68r1 : List IOper := [
  ⟨(some 6), .fa 1 (.t 1), none, false⟩,
  ⟨(some 7), .ld false 1 (.t 6), none, false⟩,
  ⟨(some 8), .bsl [.i .i64 0] 1 [(0, 1, .t 7)], none, false⟩,
  ⟨(some 9), .call (.c (.fn 93 [])) [.c (.i .i64 7), .t 8], none, false⟩,
  ⟨(some 10), .mv (.t 9), none, true⟩,
  ⟨(some 11), .fa 2 (.t 1), (some (10, true)), false⟩,
  ⟨(some 12), .ld false 1 (.t 11), (some (10, true)), false⟩,
  ⟨(some 13), .bsl [.i .i64 0] 1 [(0, 1, .t 12)], (some (10, true)), false⟩,
  ⟨(some 14), .call (.c (.fn 93 [])) [.c (.i .i64 16), .t 13], (some (10, true)), false⟩,
  ⟨(some 15), .pick (.t 10) (.t 14) (.c (.b false)), none, false⟩,
  ⟨(some 16), .mv (.t 15), none, true⟩,
  ⟨(some 17), .fa 3 (.t 1), (some (16, true)), false⟩,
  ⟨(some 18), .ld false 1 (.t 17), (some (16, true)), false⟩,
  ⟨(some 19), .fa 4 (.t 1), (some (16, true)), false⟩,
  ⟨(some 20), .ld false 1 (.t 19), (some (16, true)), false⟩,
  ⟨(some 21), .bsl [.i .i64 0, .i .i64 0] 2 [(0, 1, .t 18), (1, 1, .t 20)], (some (16, true)), false⟩,
  ⟨(some 22), .call (.c (.fn 93 [])) [.c (.i .i64 32), .t 21], (some (16, true)), false⟩,
  ⟨(some 23), .pick (.t 16) (.t 22) (.c (.b false)), none, false⟩,
  ⟨(some 24), .mv (.t 23), none, true⟩,
  ⟨(some 25), .fa 5 (.t 1), (some (24, true)), false⟩,
  ⟨(some 26), .ld false 1 (.t 25), (some (24, true)), false⟩,
  ⟨(some 27), .call (.c (.fn 93 [])) [.c (.i .i64 32), .t 26], (some (24, true)), false⟩,
  ⟨(some 28), .pick (.t 24) (.t 27) (.c (.b false)), none, false⟩,
  ⟨(some 29), .mv (.t 28), none, true⟩,
  ⟨(some 30), .fa 7 (.t 1), (some (29, true)), false⟩,
  ⟨(some 31), .ld false 1 (.t 30), (some (29, true)), false⟩,
  ⟨(some 32), .bsl [.i .i64 0] 1 [(0, 1, .t 31)], (some (29, true)), false⟩,
  ⟨(some 33), .call (.c (.fn 93 [])) [.c (.i .i64 8), .t 32], (some (29, true)), false⟩,
  ⟨(some 34), .pick (.t 29) (.t 33) (.c (.b false)), none, false⟩,
  ⟨(some 35), .mv (.t 34), none, true⟩,
  ⟨(some 36), .fa 5 (.t 1), (some (35, true)), false⟩,
  ⟨(some 37), .ld false 1 (.t 36), (some (35, true)), false⟩,
  ⟨(some 38), .lenV (.t 37), (some (35, true)), false⟩,
  ⟨(some 39), .bin .leq (.t 38) (.c (.i .i64 15)), (some (35, true)), false⟩,
  ⟨(some 40), .pick (.t 35) (.t 39) (.c (.b false)), none, false⟩,
  ⟨(some 41), .mv (.t 40), none, true⟩,
  ⟨(some 42), .fa 6 (.t 1), (some (41, true)), false⟩,
  ⟨(some 43), .ld false 1 (.t 42), (some (41, true)), false⟩,
  ⟨(some 44), .lenV (.t 43), (some (41, true)), false⟩,
  ⟨(some 45), .bin .leq (.t 44) (.c (.i .i64 16)), (some (41, true)), false⟩,
  ⟨(some 46), .pick (.t 41) (.t 45) (.c (.b false)), none, false⟩,
  ⟨(some 3), .mv (.t 46), none, false⟩]
abbrev i68r2 : List IOper := [
  ⟨(some 47), .fa 6 (.t 1), none, false⟩,
  ⟨(some 48), .ld false 1 (.t 47), none, false⟩,
  ⟨(some 49), .lenV (.t 48), none, false⟩,
  ⟨(some 50), .mv (.c (.i .i64 0)), none, false⟩]
abbrev i68r3 : List IOper := [
  ⟨(some 51), .bin .lss (.t 50) (.t 49), none, true⟩]
abbrev i68r4 : List IOper := [
  ⟨(some 52), .mv (.t 50), none, false⟩,
  ⟨(some 53), .ixaV 2 (.t 48) (.t 50), none, false⟩,
  ⟨(some 54), .ld true 2 (.t 53), none, false⟩,
  ⟨(some 5), .new [.i .i64 0, .s []], none, false⟩,
  ⟨(some 4), .mv (.t 52), none, false⟩,
  ⟨none, .st 2 (.t 5) (.t 54), none, false⟩]
abbrev i68r5 : List (IOper × List Nat) := [
  (⟨(some 55), .mv (.t 3), none, false⟩, []),
  (⟨(some 56), .mv (.t 55), none, true⟩, []),
  (⟨(some 57), .fa 0 (.t 5), (some (56, true)), false⟩, []),
  (⟨(some 58), .ld false 1 (.t 57), (some (56, true)), false⟩, []),
  (⟨(some 59), .fa 1 (.t 5), (some (56, true)), false⟩, [2, 3]),
  (⟨(some 60), .ld false 1 (.t 59), (some (56, true)), false⟩, [2, 3]),
  (⟨(some 61), .lenS (.t 60), (some (56, true)), false⟩, [2, 3]),
  (⟨(some 62), .bsl [.i .i64 0, .i .i64 0] 2 [(0, 1, .t 58), (1, 1, .t 61)], (some (56, true)), false⟩, []),
  (⟨(some 63), .call (.c (.fn 93 [])) [.c (.i .i64 8), .t 62], (some (56, true)), false⟩, []),
  (⟨(some 64), .pick (.t 56) (.t 63) (.c (.b false)), none, false⟩, []),
  (⟨(some 65), .mv (.t 64), none, true⟩, []),
  (⟨(some 66), .fa 0 (.t 5), (some (65, true)), false⟩, []),
  (⟨(some 67), .ld false 1 (.t 66), (some (65, true)), false⟩, []),
  (⟨(some 68), .bin .gtr (.t 67) (.c (.i .i64 0)), (some (65, true)), false⟩, []),
  (⟨(some 69), .pick (.t 65) (.t 68) (.c (.b false)), none, false⟩, []),
  (⟨(some 70), .mv (.t 69), none, true⟩, []),
  (⟨(some 71), .mv (.t 4), (some (70, true)), false⟩, []),
  (⟨(some 72), .bin .eql (.t 71) (.c (.i .i64 0)), (some (70, true)), false⟩, []),
  (⟨(some 73), .mv (.t 72), (some (70, true)), true⟩, []),
  (⟨(some 74), .fa 0 (.t 5), (some (73, false)), false⟩, []),
  (⟨(some 75), .ld false 1 (.t 74), (some (73, false)), false⟩, []),
  (⟨(some 76), .fa 6 (.t 1), (some (73, false)), false⟩, [19, 20]),
  (⟨(some 77), .ld false 1 (.t 76), (some (73, false)), false⟩, [19, 20]),
  (⟨(some 78), .mv (.t 4), (some (73, false)), false⟩, [19, 20, 21, 22]),
  (⟨(some 79), .bin .sub (.t 78) (.c (.i .i64 1)), (some (73, false)), false⟩, [19, 20, 21, 22]),
  (⟨(some 80), .ixaV 2 (.t 77) (.t 79), (some (73, false)), false⟩, [19, 20]),
  (⟨(some 81), .fa 0 (.t 80), (some (73, false)), false⟩, [19, 20]),
  (⟨(some 82), .ld false 1 (.t 81), (some (73, false)), false⟩, [19, 20]),
  (⟨(some 83), .bin .gtr (.t 75) (.t 82), (some (73, false)), false⟩, []),
  (⟨(some 84), .pick (.t 73) (.c (.b true)) (.t 83), (some (70, true)), false⟩, []),
  (⟨(some 85), .pick (.t 70) (.t 84) (.c (.b false)), none, false⟩, []),
  (⟨(some 3), .mv (.t 85), none, false⟩, [])]
abbrev i68r6 : List IOper := [
  ⟨(some 86), .bin .add (.t 50) (.c (.i .i64 1)), none, false⟩,
  ⟨(some 50), .mv (.t 86), none, false⟩]
abbrev i68l7 : ICode := (.seq (.reg i68r3) (.seq (.cond (.t 51) .skip (.exit 0)) (.seq (.block 1 (.seq (.reg i68r4) (.dreg i68r5))) (.reg i68r6))))
abbrev i68r8 : List IOper := [
  ⟨(some 87), .mv (.t 3), none, false⟩,
  ⟨(some 88), .not (.t 87), none, true⟩]
abbrev i68r9 : List IOper := [
  ⟨(some 2), .mv (.c (.i .i64 230)), none, false⟩]
abbrev i68r10 : List IOper := [
  ⟨(some 2), .mv (.c (.i .i64 0)), none, false⟩]
abbrev i68c : ICode := (.seq (.reg i68r0) (.seq (.reg i68r1) (.seq (.seq (.reg i68r2) (.block 0 (.loop i68l7))) (.seq (.seq (.reg i68r8) (.cond (.t 88) (.seq (.reg i68r9) .ret) .skip)) (.seq (.reg i68r10) .ret)))))
def i68 : IFn := { np := 1, N := 89, ct := [51, 88], code := i68c, res := [.t 2] }
theorem i68_eq : compF Try.prog Try.f68 = some i68 := by kernel_rfl
abbrev i69r0 : List IOper := [
  ⟨(some 4), .mv (.c (.ns)), none, false⟩]
abbrev i69r1 : List IOper := [
  ⟨(some 8), .mv (.t 0), none, false⟩,
  ⟨(some 9), .mv (.t 1), none, false⟩,
  ⟨(some 10), .call (.c (.fn 74 [])) [.t 8, .t 9], none, false⟩,
  ⟨(some 5), .mv (.t 10), none, false⟩]
abbrev i69r2 : List IOper := [
  ⟨(some 11), .mv (.t 5), none, false⟩,
  ⟨(some 12), .bin .eql (.t 11) (.c (.i .i64 (-1))), none, true⟩]
abbrev i69r3 : List IOper := [
  ⟨(some 13), .mv (.t 0), none, false⟩,
  ⟨(some 4), .mv (.t 13), none, false⟩]
abbrev i69r4 : List IOper := [
  ⟨(some 14), .mv (.t 5), none, false⟩,
  ⟨(some 15), .bin .add (.t 14) (.c (.i .i64 1)), none, false⟩,
  ⟨(some 6), .mv (.t 15), none, false⟩]
abbrev i69r5 : List IOper := [
  ⟨(some 16), .mv (.t 6), none, false⟩,
  ⟨(some 17), .mv (.t 0), none, false⟩,
  ⟨(some 18), .lenV (.t 17), none, false⟩,
  ⟨(some 19), .bin .lss (.t 16) (.t 18), none, true⟩]
abbrev i69r6 : List IOper := [
  ⟨(some 22), .mv (.t 0), none, false⟩,
  ⟨(some 23), .mv (.t 6), none, false⟩,
  ⟨(some 24), .ixaV 11 (.t 22) (.t 23), none, false⟩,
  ⟨(some 25), .ld true 11 (.t 24), none, false⟩,
  ⟨(some 7), .new [.b false, .i .i64 0, .i .i64 0, .i .i64 0, .i .i64 0, .ns, .ns, .i .i64 0, .s [], .i .i64 0, .i .i64 0], none, false⟩,
  ⟨none, .st 11 (.t 7) (.t 25), none, false⟩]
abbrev i69r7 : List IOper := [
  ⟨(some 26), .mv (.t 1), none, false⟩,
  ⟨(some 27), .ld true 11 (.t 7), none, false⟩,
  ⟨(some 28), .call (.t 26) [.t 27], none, false⟩,
  ⟨(some 29), .not (.t 28), none, true⟩]
abbrev i69r8 : List IOper := [
  ⟨(some 30), .mv (.t 0), none, false⟩,
  ⟨(some 31), .mv (.t 5), none, false⟩,
  ⟨(some 32), .ld true 11 (.t 7), none, false⟩,
  ⟨(some 33), .ixaV 11 (.t 30) (.t 31), none, false⟩,
  ⟨none, .st 11 (.t 33) (.t 32), none, false⟩]
abbrev i69r9 : List IOper := [
  ⟨(some 34), .mv (.t 5), none, false⟩,
  ⟨(some 35), .bin .add (.t 34) (.c (.i .i64 1)), none, false⟩,
  ⟨(some 5), .mv (.t 35), none, false⟩]
abbrev i69r10 : List IOper := [
  ⟨(some 20), .mv (.t 6), none, false⟩,
  ⟨(some 21), .bin .add (.t 20) (.c (.i .i64 1)), none, false⟩,
  ⟨(some 6), .mv (.t 21), none, false⟩]
abbrev i69l11 : ICode := (.seq (.seq (.reg i69r5) (.cond (.t 19) .skip (.exit 0))) (.seq (.block 1 (.seq (.reg i69r6) (.seq (.reg i69r7) (.cond (.t 29) (.seq (.reg i69r8) (.reg i69r9)) .skip)))) (.reg i69r10)))
abbrev i69r12 : List IOper := [
  ⟨(some 36), .mv (.t 0), none, false⟩,
  ⟨(some 37), .mv (.t 5), none, false⟩,
  ⟨(some 38), .slV 11 (.t 36) (some (.t 37)) none none, none, false⟩,
  ⟨none, .clr 11 [.b false, .i .i64 0, .i .i64 0, .i .i64 0, .i .i64 0, .ns, .ns, .i .i64 0, .s [], .i .i64 0, .i .i64 0] (.t 38), none, false⟩]
abbrev i69r13 : List IOper := [
  ⟨(some 39), .mv (.t 0), none, false⟩,
  ⟨(some 40), .mv (.t 5), none, false⟩,
  ⟨(some 41), .slV 11 (.t 39) none (some (.t 40)) none, none, false⟩,
  ⟨(some 4), .mv (.t 41), none, false⟩]
abbrev i69c : ICode := (.seq (.reg i69r0) (.seq (.reg i69r1) (.seq (.seq (.reg i69r2) (.cond (.t 12) (.seq (.reg i69r3) .ret) .skip)) (.seq (.seq (.reg i69r4) (.block 0 (.loop i69l11))) (.seq (.reg i69r12) (.seq (.reg i69r13) .ret))))))
def i69 : IFn := { np := 2, N := 42, ct := [12, 19, 29], code := i69c, res := [.t 4] }
theorem i69_eq : compF Try.prog Try.f69 = some i69 := by kernel_rfl
abbrev i70r0 : List IOper := [
  ⟨(some 4), .box (.t 0), none, false⟩,
  ⟨(some 5), .mv (.c (.b false)), none, false⟩]
abbrev i70r1 : List (IOper × List Nat) := [
  (⟨(some 6), .ld false 1 (.t 1), none, false⟩, []),
  (⟨(some 7), .fa 9 (.t 4), none, false⟩, [0]),
  (⟨(some 8), .ld false 1 (.t 7), none, false⟩, [0]),
  (⟨(some 9), .bin .sub (.t 6) (.t 8), none, false⟩, []),
  (⟨(some 10), .bin .gtr (.t 9) (.c (.i .i64 2000)), none, false⟩, []),
  (⟨(some 11), .mv (.t 10), none, true⟩, []),
  (⟨(some 12), .fa 0 (.t 4), (some (11, false)), false⟩, []),
  (⟨(some 13), .fa 2 (.t 12), (some (11, false)), false⟩, []),
  (⟨(some 14), .ld false 1 (.t 13), (some (11, false)), false⟩, []),
  (⟨(some 15), .ld false 1 (.t 2), (some (11, false)), false⟩, [6, 7, 8]),
  (⟨(some 16), .call (.c (.fn 51 [])) [.t 14, .t 15], (some (11, false)), false⟩, []),
  (⟨(some 17), .ld false 1 (.t 3), (some (11, false)), false⟩, [6, 7, 8, 9, 10]),
  (⟨(some 18), .bin .sub (.t 16) (.t 17), (some (11, false)), false⟩, []),
  (⟨(some 19), .bin .lss (.t 18) (.c (.i .i64 (-16384))), (some (11, false)), false⟩, []),
  (⟨(some 20), .pick (.t 11) (.c (.b true)) (.t 19), none, false⟩, []),
  (⟨(some 5), .mv (.t 20), none, false⟩, [])]
abbrev i70c : ICode := (.seq (.reg i70r0) (.seq (.dreg i70r1) .ret))
def i70 : IFn := { np := 4, N := 21, ct := [], code := i70c, res := [.t 5] }
theorem i70_eq : compF Try.prog Try.f70 = some i70 := by kernel_rfl
abbrev i71r0 : List IOper := [
  ⟨(some 1), .box (.t 0), none, false⟩,
  ⟨(some 2), .mv (.c (.b false)), none, false⟩]
abbrev i71r1 : List IOper := [
  ⟨(some 3), .fa 0 (.t 1), none, false⟩,
  ⟨(some 4), .ld true 9 (.t 3), none, false⟩,
  ⟨(some 5), .call (.c (.fn 68 [])) [.t 4], none, false⟩,
  ⟨(some 6), .bin .neq (.t 5) (.c (.i .i64 0)), none, false⟩,
  ⟨(some 2), .mv (.t 6), none, false⟩]
abbrev i71c : ICode := (.seq (.reg i71r0) (.seq (.reg i71r1) .ret))
def i71 : IFn := { np := 1, N := 7, ct := [], code := i71c, res := [.t 2] }
theorem i71_eq : compF Try.prog Try.f71 = some i71 := by kernel_rfl
abbrev i72r0 : List IOper := [
  ⟨(some 4), .mv (.c (.b false)), none, false⟩]
abbrev i72r1 : List IOper := [
  ⟨(some 5), .mv (.t 0), none, false⟩,
  ⟨(some 6), .mv (.t 1), none, false⟩,
  ⟨(some 7), .call (.c (.fn 94 [])) [.t 5, .t 6], none, false⟩,
  ⟨(some 8), .bin .geq (.t 7) (.c (.i .i64 0)), none, false⟩,
  ⟨(some 4), .mv (.t 8), none, false⟩]
abbrev i72c : ICode := (.seq (.reg i72r0) (.seq (.reg i72r1) .ret))
def i72 : IFn := { np := 2, N := 9, ct := [], code := i72c, res := [.t 4] }
theorem i72_eq : compF Try.prog Try.f72 = some i72 := by kernel_rfl
abbrev i73r0 : List IOper := [
  ⟨(some 2), .mv (.c (.b false)), none, false⟩]
abbrev i73r1 : List IOper := [
  ⟨(some 3), .mv (.t 0), none, false⟩,
  ⟨(some 4), .call (.c (.fn 49 [])) [.c (.i .i64 0), .c (.i .i64 65535), .t 3], none, false⟩,
  ⟨(some 5), .not (.t 4), none, false⟩,
  ⟨(some 2), .mv (.t 5), none, false⟩]
abbrev i73c : ICode := (.seq (.reg i73r0) (.seq (.reg i73r1) .ret))
def i73 : IFn := { np := 1, N := 6, ct := [], code := i73c, res := [.t 2] }
theorem i73_eq : compF Try.prog Try.f73 = some i73 := by kernel_rfl
abbrev i74r0 : List IOper := [
  ⟨(some 4), .mv (.c (.i .i64 0)), none, false⟩]
abbrev i74r1 : List IOper := [
  ⟨(some 6), .mv (.t 0), none, false⟩,
  ⟨(some 7), .lenV (.t 6), none, false⟩,
  ⟨(some 8), .mv (.c (.i .i64 0)), none, false⟩]
abbrev i74r2 : List IOper := [
  ⟨(some 9), .bin .lss (.t 8) (.t 7), none, true⟩]
abbrev i74r3 : List IOper := [
  ⟨(some 10), .mv (.t 8), none, false⟩,
  ⟨(some 5), .mv (.t 10), none, false⟩]
abbrev i74r4 : List IOper := [
  ⟨(some 11), .mv (.t 1), none, false⟩,
  ⟨(some 12), .mv (.t 0), none, false⟩,
  ⟨(some 13), .mv (.t 5), none, false⟩,
  ⟨(some 14), .ixaV 11 (.t 12) (.t 13), none, false⟩,
  ⟨(some 15), .ld true 11 (.t 14), none, false⟩,
  ⟨(some 16), .call (.t 11) [.t 15], none, true⟩]
abbrev i74r5 : List IOper := [
  ⟨(some 17), .mv (.t 5), none, false⟩,
  ⟨(some 4), .mv (.t 17), none, false⟩]
abbrev i74r6 : List IOper := [
  ⟨(some 18), .bin .add (.t 8) (.c (.i .i64 1)), none, false⟩,
  ⟨(some 8), .mv (.t 18), none, false⟩]
abbrev i74l7 : ICode := (.seq (.reg i74r2) (.seq (.cond (.t 9) .skip (.exit 0)) (.seq (.block 1 (.seq (.reg i74r3) (.seq (.reg i74r4) (.cond (.t 16) (.seq (.reg i74r5) .ret) .skip)))) (.reg i74r6))))
abbrev i74r8 : List IOper := [
  ⟨(some 4), .mv (.c (.i .i64 (-1))), none, false⟩]
abbrev i74c : ICode := (.seq (.reg i74r0) (.seq (.seq (.reg i74r1) (.block 0 (.loop i74l7))) (.seq (.reg i74r8) .ret)))
def i74 : IFn := { np := 2, N := 19, ct := [9, 16], code := i74c, res := [.t 4] }
theorem i74_eq : compF Try.prog Try.f74 = some i74 := by kernel_rfl
abbrev i75r0 : List IOper := [
  ⟨(some 2), .box (.t 0), none, false⟩,
  ⟨(some 3), .mv (.c (.b false)), none, false⟩]
abbrev i75r1 : List IOper := [
  ⟨(some 4), .fa 0 (.t 2), none, false⟩,
  ⟨(some 5), .fa 2 (.t 4), none, false⟩,
  ⟨(some 6), .ld false 1 (.t 5), none, false⟩,
  ⟨(some 7), .ld false 1 (.t 1), none, false⟩,
  ⟨(some 8), .bin .eql (.t 6) (.t 7), none, false⟩,
  ⟨(some 3), .mv (.t 8), none, false⟩]
abbrev i75c : ICode := (.seq (.reg i75r0) (.seq (.reg i75r1) .ret))
def i75 : IFn := { np := 2, N := 9, ct := [], code := i75c, res := [.t 3] }
theorem i75_eq : compF Try.prog Try.f75 = some i75 := by kernel_rfl
abbrev i76r0 : List IOper := [
  ⟨(some 3), .box (.t 1), none, false⟩,
  ⟨(some 4), .new [.b false, .i .i64 0, .i .i64 0, .i .i64 0, .i .i64 0, .ns, .ns, .i .i64 0, .s []], none, false⟩]
abbrev i76r1 : List IOper := [
  ⟨(some 5), .fa 2 (.t 3), none, false⟩,
  ⟨(some 6), .ld false 1 (.t 5), none, false⟩,
  ⟨(some 7), .bin .shr (.t 6) (.c (.i .u64 8)), none, false⟩,
  ⟨(some 8), .i2i .u8 (.t 7), none, false⟩,
  ⟨(some 9), .fa 2 (.t 3), none, false⟩,
  ⟨(some 10), .ld false 1 (.t 9), none, false⟩,
  ⟨(some 11), .i2i .u8 (.t 10), none, false⟩,
  ⟨(some 12), .bsl [.i .u8 0, .i .u8 0] 2 [(0, 1, .t 8), (1, 1, .t 11)], none, false⟩,
  ⟨(some 13), .b2s (.t 12), none, false⟩,
  ⟨(some 14), .fa 8 (.t 3), none, false⟩,
  ⟨(some 15), .ld false 1 (.t 14), none, false⟩,
  ⟨(some 16), .bin .add (.t 13) (.t 15), none, false⟩,
  ⟨(some 17), .fa 8 (.t 3), none, false⟩,
  ⟨none, .st 1 (.t 17) (.t 16), none, false⟩]
abbrev i76r2 : List (IOper × List Nat) := [
  (⟨(some 18), .mv (.t 0), none, false⟩, []),
  (⟨(some 19), .nck (.t 18), none, false⟩, []),
  (⟨(some 20), .fa 0 (.t 19), none, false⟩, []),
  (⟨(some 21), .fa 3 (.t 20), none, false⟩, []),
  (⟨(some 22), .ld false 1 (.t 21), none, false⟩, []),
  (⟨(some 23), .mv (.t 0), none, false⟩, [0, 1, 2, 3, 4]),
  (⟨(some 24), .nck (.t 23), none, false⟩, [0, 1, 2, 3, 4]),
  (⟨(some 25), .fa 0 (.t 24), none, false⟩, [0, 1, 2, 3, 4]),
  (⟨(some 26), .fa 2 (.t 25), none, false⟩, [0, 1, 2, 3, 4]),
  (⟨(some 27), .ld false 1 (.t 26), none, false⟩, [0, 1, 2, 3, 4]),
  (⟨(some 28), .mv (.t 0), none, false⟩, [0, 1, 2, 3, 4, 5, 6, 7, 8, 9]),
  (⟨(some 29), .nck (.t 28), none, false⟩, [0, 1, 2, 3, 4, 5, 6, 7, 8, 9]),
  (⟨(some 30), .fa 0 (.t 29), none, false⟩, [0, 1, 2, 3, 4, 5, 6, 7, 8, 9]),
  (⟨(some 31), .fa 1 (.t 30), none, false⟩, [0, 1, 2, 3, 4, 5, 6, 7, 8, 9]),
  (⟨(some 32), .ld false 1 (.t 31), none, false⟩, [0, 1, 2, 3, 4, 5, 6, 7, 8, 9]),
  (⟨(some 33), .fa 2 (.t 3), none, false⟩, [5, 6, 7, 8, 9, 10, 11, 12, 13, 14]),
  (⟨none, .st 1 (.t 33) (.t 22), none, false⟩, [5, 6, 7, 8, 9, 10, 11, 12, 13, 14]),
  (⟨(some 34), .fa 1 (.t 3), none, false⟩, [10, 11, 12, 13, 14]),
  (⟨none, .st 1 (.t 34) (.t 27), none, false⟩, [10, 11, 12, 13, 14]),
  (⟨(some 35), .fa 4 (.t 3), none, false⟩, []),
  (⟨none, .st 1 (.t 35) (.t 32), none, false⟩, [])]
abbrev i76r3 : List (IOper × List Nat) := [
  (⟨(some 36), .fa 5 (.t 3), none, false⟩, []),
  (⟨(some 37), .ld false 1 (.t 36), none, false⟩, []),
  (⟨(some 38), .call (.c (.fn 77 [])) [.t 37], none, false⟩, []),
  (⟨(some 39), .fa 6 (.t 3), none, false⟩, [0, 1, 2]),
  (⟨(some 40), .ld false 1 (.t 39), none, false⟩, [0, 1, 2]),
  (⟨(some 41), .call (.c (.fn 78 [])) [.t 40], none, false⟩, []),
  (⟨(some 42), .fa 5 (.t 3), none, false⟩, [5]),
  (⟨none, .st 1 (.t 42) (.t 38), none, false⟩, []),
  (⟨(some 43), .fa 6 (.t 3), none, false⟩, []),
  (⟨none, .st 1 (.t 43) (.t 41), none, false⟩, [])]
abbrev i76r4 : List IOper := [
  ⟨(some 44), .mv (.t 0), none, false⟩,
  ⟨(some 45), .mv (.t 0), none, false⟩,
  ⟨(some 46), .nck (.t 45), none, false⟩,
  ⟨(some 47), .fa 0 (.t 46), none, false⟩,
  ⟨(some 48), .fa 3 (.t 47), none, false⟩,
  ⟨(some 49), .ld false 1 (.t 48), none, false⟩,
  ⟨(some 50), .bin .add (.t 49) (.c (.i .i64 1)), none, false⟩,
  ⟨(some 51), .bin .and (.t 50) (.c (.i .i64 65535)), none, false⟩,
  ⟨(some 52), .nck (.t 44), none, false⟩,
  ⟨(some 53), .fa 0 (.t 52), none, false⟩,
  ⟨(some 54), .fa 3 (.t 53), none, false⟩,
  ⟨none, .st 1 (.t 54) (.t 51), none, false⟩]
abbrev i76r5 : List IOper := [
  ⟨(some 55), .ld true 9 (.t 3), none, false⟩,
  ⟨none, .st 9 (.t 4) (.t 55), none, false⟩]
abbrev i76c : ICode := (.seq (.reg i76r0) (.seq (.reg i76r1) (.seq (.dreg i76r2) (.seq (.dreg i76r3) (.seq (.reg i76r4) (.seq (.reg i76r5) .ret))))))
def i76 : IFn := { np := 2, N := 56, ct := [], code := i76c, res := [.c 4 true 9] }
theorem i76_eq : compF Try.prog Try.f76 = some i76 := by kernel_rfl
abbrev i77r0 : List IOper := [
  ⟨(some 2), .mv (.c (.ns)), none, false⟩]
abbrev i77r1 : List IOper := [
  ⟨(some 3), .mv (.t 0), none, false⟩,
  ⟨(some 4), .eqn false 1 (.t 3) (.c (.ns)), none, true⟩]
abbrev i77r2 : List IOper := [
  ⟨(some 2), .mv (.c (.ns)), none, false⟩]
abbrev i77r3 : List IOper := [
  ⟨(some 5), .bsl [] 0 [], none, false⟩,
  ⟨(some 6), .mv (.t 0), none, false⟩,
  ⟨(some 7), .app 1 8 [.i .i64 0] (.t 5) (.t 6), none, false⟩,
  ⟨(some 2), .mv (.t 7), none, false⟩]
abbrev i77c : ICode := (.seq (.reg i77r0) (.seq (.seq (.reg i77r1) (.cond (.t 4) (.seq (.reg i77r2) .ret) .skip)) (.seq (.reg i77r3) .ret)))
def i77 : IFn := { np := 1, N := 8, ct := [4], code := i77c, res := [.t 2] }
theorem i77_eq : compF Try.prog Try.f77 = some i77 := by kernel_rfl
abbrev i78r0 : List IOper := [
  ⟨(some 2), .mv (.c (.ns)), none, false⟩]
abbrev i78r1 : List IOper := [
  ⟨(some 3), .mv (.t 0), none, false⟩,
  ⟨(some 4), .eqn false 1 (.t 3) (.c (.ns)), none, true⟩]
abbrev i78r2 : List IOper := [
  ⟨(some 2), .mv (.c (.ns)), none, false⟩]
abbrev i78r3 : List IOper := [
  ⟨(some 5), .bsl [] 0 [], none, false⟩,
  ⟨(some 6), .mv (.t 0), none, false⟩,
  ⟨(some 7), .app 2 24 [.i .i64 0, .s []] (.t 5) (.t 6), none, false⟩,
  ⟨(some 2), .mv (.t 7), none, false⟩]
abbrev i78c : ICode := (.seq (.reg i78r0) (.seq (.seq (.reg i78r1) (.cond (.t 4) (.seq (.reg i78r2) .ret) .skip)) (.seq (.reg i78r3) .ret)))
def i78 : IFn := { np := 1, N := 8, ct := [4], code := i78c, res := [.t 2] }
theorem i78_eq : compF Try.prog Try.f78 = some i78 := by kernel_rfl
abbrev i92r0 : List IOper := [
  ⟨(some 2), .mv (.c (.ns)), none, false⟩]
abbrev i92r1 : List IOper := [
  ⟨(some 3), .mv (.t 0), none, false⟩,
  ⟨(some 4), .eqn false 1 (.t 3) (.c (.ns)), none, true⟩]
abbrev i92r2 : List IOper := [
  ⟨(some 2), .mv (.c (.ns)), none, false⟩]
abbrev i92r3 : List IOper := [
  ⟨(some 5), .bsl [] 0 [], none, false⟩,
  ⟨(some 6), .mv (.t 0), none, false⟩,
  ⟨(some 7), .app 11 128 [.b false, .i .i64 0, .i .i64 0, .i .i64 0, .i .i64 0, .ns, .ns, .i .i64 0, .s [], .i .i64 0, .i .i64 0] (.t 5) (.t 6), none, false⟩,
  ⟨(some 2), .mv (.t 7), none, false⟩]
abbrev i92c : ICode := (.seq (.reg i92r0) (.seq (.seq (.reg i92r1) (.cond (.t 4) (.seq (.reg i92r2) .ret) .skip)) (.seq (.reg i92r3) .ret)))
def i92 : IFn := { np := 1, N := 8, ct := [4], code := i92c, res := [.t 2] }
theorem i92_eq : compF Try.prog Try.f92 = some i92 := by kernel_rfl
abbrev i93r0 : List IOper := [
  ⟨(some 2), .box (.t 0), none, false⟩,
  ⟨(some 4), .mv (.c (.b false)), none, false⟩]
abbrev i93r1 : List IOper := [
  ⟨(some 5), .mv (.t 1), none, false⟩,
  ⟨(some 6), .mkf 97 [.t 2], none, false⟩,
  ⟨(some 7), .call (.c (.fn 72 [])) [.t 5, .t 6], none, false⟩,
  ⟨(some 8), .not (.t 7), none, false⟩,
  ⟨(some 4), .mv (.t 8), none, false⟩]
abbrev i93c : ICode := (.seq (.reg i93r0) (.seq (.reg i93r1) .ret))
def i93 : IFn := { np := 2, N := 9, ct := [], code := i93c, res := [.t 4] }
theorem i93_eq : compF Try.prog Try.f93 = some i93 := by kernel_rfl
abbrev i94r0 : List IOper := [
  ⟨(some 4), .mv (.c (.i .i64 0)), none, false⟩]
abbrev i94r1 : List IOper := [
  ⟨(some 6), .mv (.t 0), none, false⟩,
  ⟨(some 7), .lenV (.t 6), none, false⟩,
  ⟨(some 8), .mv (.c (.i .i64 0)), none, false⟩]
abbrev i94r2 : List IOper := [
  ⟨(some 9), .bin .lss (.t 8) (.t 7), none, true⟩]
abbrev i94r3 : List IOper := [
  ⟨(some 10), .mv (.t 8), none, false⟩,
  ⟨(some 5), .mv (.t 10), none, false⟩]
abbrev i94r4 : List IOper := [
  ⟨(some 11), .mv (.t 1), none, false⟩,
  ⟨(some 12), .mv (.t 0), none, false⟩,
  ⟨(some 13), .mv (.t 5), none, false⟩,
  ⟨(some 14), .ixaV 1 (.t 12) (.t 13), none, false⟩,
  ⟨(some 15), .ld false 1 (.t 14), none, false⟩,
  ⟨(some 16), .call (.t 11) [.t 15], none, true⟩]
abbrev i94r5 : List IOper := [
  ⟨(some 17), .mv (.t 5), none, false⟩,
  ⟨(some 4), .mv (.t 17), none, false⟩]
abbrev i94r6 : List IOper := [
  ⟨(some 18), .bin .add (.t 8) (.c (.i .i64 1)), none, false⟩,
  ⟨(some 8), .mv (.t 18), none, false⟩]
abbrev i94l7 : ICode := (.seq (.reg i94r2) (.seq (.cond (.t 9) .skip (.exit 0)) (.seq (.block 1 (.seq (.reg i94r3) (.seq (.reg i94r4) (.cond (.t 16) (.seq (.reg i94r5) .ret) .skip)))) (.reg i94r6))))
abbrev i94r8 : List IOper := [
  ⟨(some 4), .mv (.c (.i .i64 (-1))), none, false⟩]
abbrev i94c : ICode := (.seq (.reg i94r0) (.seq (.seq (.reg i94r1) (.block 0 (.loop i94l7))) (.seq (.reg i94r8) .ret)))
def i94 : IFn := { np := 2, N := 19, ct := [9, 16], code := i94c, res := [.t 4] }
theorem i94_eq : compF Try.prog Try.f94 = some i94 := by kernel_rfl
abbrev i97r0 : List IOper := [
  ⟨(some 3), .mv (.c (.b false)), none, false⟩]
abbrev i97r1 : List IOper := [
  ⟨(some 4), .mv (.t 0), none, false⟩,
  ⟨(some 5), .bin .lss (.t 4) (.c (.i .i64 0)), none, false⟩,
  ⟨(some 6), .mv (.t 5), none, true⟩,
  ⟨(some 7), .mv (.t 0), (some (6, false)), false⟩,
  ⟨(some 8), .ld false 1 (.t 1), (some (6, false)), false⟩,
  ⟨(some 9), .bin .shr (.t 7) (.t 8), (some (6, false)), false⟩,
  ⟨(some 10), .bin .neq (.t 9) (.c (.i .i64 0)), (some (6, false)), false⟩,
  ⟨(some 11), .pick (.t 6) (.c (.b true)) (.t 10), none, false⟩,
  ⟨(some 3), .mv (.t 11), none, false⟩]
abbrev i97c : ICode := (.seq (.reg i97r0) (.seq (.reg i97r1) .ret))
def i97 : IFn := { np := 2, N := 12, ct := [], code := i97c, res := [.t 3] }
theorem i97_eq : compF Try.prog Try.f97 = some i97 := by kernel_rfl
end Go.Proofs.Res
