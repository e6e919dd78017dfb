/- The small language's text of the functions; printed by ShowI.lean. -/
import Derived.Test.YtiacdfhaopnekaaProg
import Derived.Test.YtiacdfhaopnekaaAbRuns
namespace Go.Proofs.Arr
open Go.Ab
abbrev i8r0 : List IOper := [
  ⟨(some 3), .box (.t 0), none, false⟩,
  ⟨(some 4), .box (.t 1), none, false⟩,
  ⟨(some 6), .mv (.c (.b false)), none, false⟩]
abbrev i8r1 : List IOper := [
  ⟨(some 18), .call (.c (.fn 20 [])) [], none, false⟩,
  ⟨(some 19), .not (.t 18), none, true⟩]
abbrev i8r2 : List IOper := [
  ⟨(some 6), .mv (.c (.b false)), none, false⟩]
abbrev i8r3 : List IOper := [
  ⟨(some 20), .call (.c (.fn 18 [])) [], none, false⟩,
  ⟨(some 21), .call (.c (.fn 18 [])) [], none, false⟩,
  ⟨(some 7), .new [.i .i64 0, .b false, .b false, .i .i64 0, .i .i64 0, .i .i64 0, .i .i64 0, .i .i64 0, .i .i64 0, .i .i64 0, .i .i64 0, .i .i64 0, .i .i64 0, .i .i64 0, .i .i64 0, .i .i64 0, .ns], none, false⟩,
  ⟨(some 8), .new [.i .i64 0, .b false, .b false, .i .i64 0, .i .i64 0, .i .i64 0, .i .i64 0, .i .i64 0, .i .i64 0, .i .i64 0, .i .i64 0, .i .i64 0, .i .i64 0, .i .i64 0, .i .i64 0, .i .i64 0, .ns], none, false⟩,
  ⟨none, .st 17 (.t 7) (.t 20), none, false⟩,
  ⟨none, .st 17 (.t 8) (.t 21), none, false⟩]
abbrev i8r4 : List IOper := [
  ⟨(some 23), .ld true 4 (.t 3), none, false⟩,
  ⟨(some 24), .call (.c (.fn 21 [])) [.t 23], none, false⟩,
  ⟨(some 22), .mv (.t 24), none, false⟩,
  ⟨(some 25), .ext (.t 22) 0, none, false⟩,
  ⟨(some 26), .ext (.t 22) 1, none, false⟩,
  ⟨(some 9), .mv (.t 25), none, false⟩,
  ⟨(some 10), .mv (.t 26), none, false⟩]
abbrev i8r5 : List IOper := [
  ⟨(some 27), .mv (.t 9), none, false⟩,
  ⟨(some 28), .lenV (.t 27), none, false⟩,
  ⟨(some 29), .mv (.c (.i .i64 0)), none, false⟩]
abbrev i8r6 : List IOper := [
  ⟨(some 30), .bin .lss (.t 29) (.t 28), none, true⟩]
abbrev i8r7 : List IOper := [
  ⟨(some 31), .mv (.t 29), none, false⟩,
  ⟨(some 11), .mv (.t 31), none, false⟩]
abbrev i8r8 : List (IOper × List Nat) := [
  (⟨(some 33), .ld true 17 (.t 7), none, false⟩, []),
  (⟨(some 34), .mv (.t 9), none, false⟩, [0]),
  (⟨(some 35), .mv (.t 11), none, false⟩, [0, 1]),
  (⟨(some 36), .ixaV 1 (.t 34) (.t 35), none, false⟩, [0]),
  (⟨(some 37), .ld false 1 (.t 36), none, false⟩, [0]),
  (⟨(some 38), .mv (.t 10), none, false⟩, [0, 1, 2, 3, 4]),
  (⟨(some 39), .mv (.t 11), none, false⟩, [0, 1, 2, 3, 4, 5]),
  (⟨(some 40), .ixaV 1 (.t 38) (.t 39), none, false⟩, [0, 1, 2, 3, 4]),
  (⟨(some 41), .ld false 1 (.t 40), none, false⟩, [0, 1, 2, 3, 4]),
  (⟨(some 42), .build [.i .i64 0, .i .i64 0] [(0, 1, .t 37), (1, 1, .t 41)], none, false⟩, [0]),
  (⟨(some 43), .bsl [.i .i64 0, .i .i64 0] 1 [(0, 2, .t 42)], none, false⟩, [0]),
  (⟨(some 44), .call (.c (.fn 24 [])) [.t 33, .t 43], none, false⟩, []),
  (⟨(some 32), .mv (.t 44), none, false⟩, []),
  (⟨(some 45), .ext (.t 32) 0, none, false⟩, []),
  (⟨(some 46), .ext (.t 32) 1, none, false⟩, [13]),
  (⟨(some 12), .new [.i .i64 0, .b false, .b false, .i .i64 0, .i .i64 0, .i .i64 0, .i .i64 0, .i .i64 0, .i .i64 0, .i .i64 0, .i .i64 0, .i .i64 0, .i .i64 0, .i .i64 0, .i .i64 0, .i .i64 0, .ns], none, false⟩, [0, 1, 2, 3, 4, 5, 6, 7, 8, 9, 10, 11, 12, 13, 14]),
  (⟨none, .st 17 (.t 12) (.t 45), none, false⟩, [14]),
  (⟨(some 13), .mv (.t 46), none, false⟩, [])]
abbrev i8r9 : List (IOper × List Nat) := [
  (⟨(some 48), .ld true 17 (.t 8), none, false⟩, []),
  (⟨(some 49), .mv (.t 9), none, false⟩, [0]),
  (⟨(some 50), .mv (.t 11), none, false⟩, [0, 1]),
  (⟨(some 51), .ixaV 1 (.t 49) (.t 50), none, false⟩, [0]),
  (⟨(some 52), .ld false 1 (.t 51), none, false⟩, [0]),
  (⟨(some 53), .ixaA 2 1 (.t 4) (.c (.i .i64 0)), none, false⟩, [0, 1, 2, 3, 4]),
  (⟨(some 54), .ld false 1 (.t 53), none, false⟩, [0, 1, 2, 3, 4]),
  (⟨(some 55), .i2i .i64 (.t 54), none, false⟩, [0, 1, 2, 3, 4]),
  (⟨(some 56), .bin .add (.t 52) (.t 55), none, false⟩, [0]),
  (⟨(some 57), .mv (.t 10), none, false⟩, [0, 1, 2, 3, 4, 5, 6, 7, 8]),
  (⟨(some 58), .mv (.t 11), none, false⟩, [0, 1, 2, 3, 4, 5, 6, 7, 8, 9]),
  (⟨(some 59), .ixaV 1 (.t 57) (.t 58), none, false⟩, [0, 1, 2, 3, 4, 5, 6, 7, 8]),
  (⟨(some 60), .ld false 1 (.t 59), none, false⟩, [0, 1, 2, 3, 4, 5, 6, 7, 8]),
  (⟨(some 61), .ixaA 2 1 (.t 4) (.c (.i .i64 1)), none, false⟩, [0, 1, 2, 3, 4, 5, 6, 7, 8, 9, 10, 11, 12]),
  (⟨(some 62), .ld false 1 (.t 61), none, false⟩, [0, 1, 2, 3, 4, 5, 6, 7, 8, 9, 10, 11, 12]),
  (⟨(some 63), .i2i .i64 (.t 62), none, false⟩, [0, 1, 2, 3, 4, 5, 6, 7, 8, 9, 10, 11, 12]),
  (⟨(some 64), .bin .add (.t 60) (.t 63), none, false⟩, [0, 1, 2, 3, 4, 5, 6, 7, 8]),
  (⟨(some 65), .build [.i .i64 0, .i .i64 0] [(0, 1, .t 56), (1, 1, .t 64)], none, false⟩, [0]),
  (⟨(some 66), .bsl [.i .i64 0, .i .i64 0] 1 [(0, 2, .t 65)], none, false⟩, [0]),
  (⟨(some 67), .call (.c (.fn 24 [])) [.t 48, .t 66], none, false⟩, []),
  (⟨(some 47), .mv (.t 67), none, false⟩, []),
  (⟨(some 68), .ext (.t 47) 0, none, false⟩, []),
  (⟨(some 69), .ext (.t 47) 1, none, false⟩, [21]),
  (⟨(some 14), .new [.i .i64 0, .b false, .b false, .i .i64 0, .i .i64 0, .i .i64 0, .i .i64 0, .i .i64 0, .i .i64 0, .i .i64 0, .i .i64 0, .i .i64 0, .i .i64 0, .i .i64 0, .i .i64 0, .i .i64 0, .ns], none, false⟩, [0, 1, 2, 3, 4, 5, 6, 7, 8, 9, 10, 11, 12, 13, 14, 15, 16, 17, 18, 19, 20, 21, 22]),
  (⟨none, .st 17 (.t 14) (.t 68), none, false⟩, [22]),
  (⟨(some 15), .mv (.t 69), none, false⟩, [])]
abbrev i8r10 : List IOper := [
  ⟨(some 70), .mv (.t 13), none, false⟩,
  ⟨(some 71), .not (.t 70), none, false⟩,
  ⟨(some 72), .mv (.t 71), none, true⟩,
  ⟨(some 73), .mv (.t 15), (some (72, false)), false⟩,
  ⟨(some 74), .not (.t 73), (some (72, false)), false⟩,
  ⟨(some 75), .pick (.t 72) (.c (.b true)) (.t 74), none, false⟩,
  ⟨(some 76), .mv (.t 75), none, true⟩,
  ⟨(some 77), .fa 8 (.t 12), (some (76, false)), false⟩,
  ⟨(some 78), .ld false 1 (.t 77), (some (76, false)), false⟩,
  ⟨(some 79), .fa 8 (.t 14), (some (76, false)), false⟩,
  ⟨(some 80), .ld false 1 (.t 79), (some (76, false)), false⟩,
  ⟨(some 81), .bin .neq (.t 78) (.t 80), (some (76, false)), false⟩,
  ⟨(some 82), .pick (.t 76) (.c (.b true)) (.t 81), none, false⟩,
  ⟨(some 83), .mv (.t 82), none, true⟩,
  ⟨(some 84), .fa 9 (.t 12), (some (83, false)), false⟩,
  ⟨(some 85), .ld false 1 (.t 84), (some (83, false)), false⟩,
  ⟨(some 86), .fa 9 (.t 14), (some (83, false)), false⟩,
  ⟨(some 87), .ld false 1 (.t 86), (some (83, false)), false⟩,
  ⟨(some 88), .bin .neq (.t 85) (.t 87), (some (83, false)), false⟩,
  ⟨(some 89), .pick (.t 83) (.c (.b true)) (.t 88), none, false⟩,
  ⟨(some 90), .mv (.t 89), none, true⟩,
  ⟨(some 91), .fa 10 (.t 12), (some (90, false)), false⟩,
  ⟨(some 92), .ld false 1 (.t 91), (some (90, false)), false⟩,
  ⟨(some 93), .fa 10 (.t 14), (some (90, false)), false⟩,
  ⟨(some 94), .ld false 1 (.t 93), (some (90, false)), false⟩,
  ⟨(some 95), .bin .neq (.t 92) (.t 94), (some (90, false)), false⟩,
  ⟨(some 96), .pick (.t 90) (.c (.b true)) (.t 95), none, false⟩,
  ⟨(some 97), .mv (.t 96), none, true⟩,
  ⟨(some 98), .fa 11 (.t 12), (some (97, false)), false⟩,
  ⟨(some 99), .ld false 1 (.t 98), (some (97, false)), false⟩,
  ⟨(some 100), .fa 11 (.t 14), (some (97, false)), false⟩,
  ⟨(some 101), .ld false 1 (.t 100), (some (97, false)), false⟩,
  ⟨(some 102), .bin .neq (.t 99) (.t 101), (some (97, false)), false⟩,
  ⟨(some 103), .pick (.t 97) (.c (.b true)) (.t 102), none, false⟩,
  ⟨(some 104), .mv (.t 103), none, true⟩,
  ⟨(some 105), .fa 12 (.t 12), (some (104, false)), false⟩,
  ⟨(some 106), .ld false 1 (.t 105), (some (104, false)), false⟩,
  ⟨(some 107), .fa 12 (.t 14), (some (104, false)), false⟩,
  ⟨(some 108), .ld false 1 (.t 107), (some (104, false)), false⟩,
  ⟨(some 109), .bin .neq (.t 106) (.t 108), (some (104, false)), false⟩,
  ⟨(some 110), .pick (.t 104) (.c (.b true)) (.t 109), none, false⟩,
  ⟨(some 111), .mv (.t 110), none, true⟩,
  ⟨(some 112), .fa 15 (.t 12), (some (111, false)), false⟩,
  ⟨(some 113), .ld false 1 (.t 112), (some (111, false)), false⟩,
  ⟨(some 114), .fa 15 (.t 14), (some (111, false)), false⟩,
  ⟨(some 115), .ld false 1 (.t 114), (some (111, false)), false⟩,
  ⟨(some 116), .bin .neq (.t 113) (.t 115), (some (111, false)), false⟩,
  ⟨(some 117), .pick (.t 111) (.c (.b true)) (.t 116), none, false⟩,
  ⟨(some 118), .mv (.t 117), none, true⟩,
  ⟨(some 119), .fa 14 (.t 12), (some (118, false)), false⟩,
  ⟨(some 120), .ld false 1 (.t 119), (some (118, false)), false⟩,
  ⟨(some 121), .fa 14 (.t 14), (some (118, false)), false⟩,
  ⟨(some 122), .ld false 1 (.t 121), (some (118, false)), false⟩,
  ⟨(some 123), .bin .neq (.t 120) (.t 122), (some (118, false)), false⟩,
  ⟨(some 124), .pick (.t 118) (.c (.b true)) (.t 123), none, false⟩,
  ⟨(some 125), .mv (.t 124), none, true⟩,
  ⟨(some 126), .fa 16 (.t 12), (some (125, false)), false⟩,
  ⟨(some 127), .ld false 1 (.t 126), (some (125, false)), false⟩,
  ⟨(some 128), .lenV (.t 127), (some (125, false)), false⟩,
  ⟨(some 129), .fa 16 (.t 14), (some (125, false)), false⟩,
  ⟨(some 130), .ld false 1 (.t 129), (some (125, false)), false⟩,
  ⟨(some 131), .lenV (.t 130), (some (125, false)), false⟩,
  ⟨(some 132), .bin .neq (.t 128) (.t 131), (some (125, false)), false⟩,
  ⟨(some 133), .pick (.t 125) (.c (.b true)) (.t 132), none, false⟩,
  ⟨(some 134), .mv (.t 133), none, true⟩,
  ⟨(some 135), .fa 4 (.t 12), (some (134, false)), false⟩,
  ⟨(some 136), .ld false 1 (.t 135), (some (134, false)), false⟩,
  ⟨(some 137), .fa 3 (.t 12), (some (134, false)), false⟩,
  ⟨(some 138), .ld false 1 (.t 137), (some (134, false)), false⟩,
  ⟨(some 139), .bin .sub (.t 136) (.t 138), (some (134, false)), false⟩,
  ⟨(some 140), .fa 4 (.t 14), (some (134, false)), false⟩,
  ⟨(some 141), .ld false 1 (.t 140), (some (134, false)), false⟩,
  ⟨(some 142), .fa 3 (.t 14), (some (134, false)), false⟩,
  ⟨(some 143), .ld false 1 (.t 142), (some (134, false)), false⟩,
  ⟨(some 144), .bin .sub (.t 141) (.t 143), (some (134, false)), false⟩,
  ⟨(some 145), .bin .neq (.t 139) (.t 144), (some (134, false)), false⟩,
  ⟨(some 146), .pick (.t 134) (.c (.b true)) (.t 145), none, false⟩,
  ⟨(some 147), .mv (.t 146), none, true⟩,
  ⟨(some 148), .fa 3 (.t 14), (some (147, false)), false⟩,
  ⟨(some 149), .ld false 1 (.t 148), (some (147, false)), false⟩,
  ⟨(some 150), .fa 3 (.t 12), (some (147, false)), false⟩,
  ⟨(some 151), .ld false 1 (.t 150), (some (147, false)), false⟩,
  ⟨(some 152), .bin .sub (.t 149) (.t 151), (some (147, false)), false⟩,
  ⟨(some 153), .ixaA 2 1 (.t 4) (.c (.i .i64 0)), (some (147, false)), false⟩,
  ⟨(some 154), .ld false 1 (.t 153), (some (147, false)), false⟩,
  ⟨(some 155), .i2i .i64 (.t 154), (some (147, false)), false⟩,
  ⟨(some 156), .bin .neq (.t 152) (.t 155), (some (147, false)), false⟩,
  ⟨(some 157), .pick (.t 147) (.c (.b true)) (.t 156), none, true⟩]
abbrev i8r11 : List IOper := [
  ⟨(some 6), .mv (.c (.b false)), none, false⟩]
abbrev i8r12 : List (IOper × List Nat) := [
  (⟨(some 158), .ld true 17 (.t 12), none, false⟩, []),
  (⟨(some 159), .ld true 17 (.t 14), none, false⟩, [0]),
  (⟨none, .st 17 (.t 7) (.t 158), none, false⟩, [1]),
  (⟨none, .st 17 (.t 8) (.t 159), none, false⟩, [])]
abbrev i8r13 : List IOper := [
  ⟨(some 160), .bin .add (.t 29) (.c (.i .i64 1)), none, false⟩,
  ⟨(some 29), .mv (.t 160), none, false⟩]
abbrev i8l14 : ICode := (.seq (.reg i8r6) (.seq (.cond (.t 30) .skip (.exit 0)) (.seq (.block 1 (.seq (.reg i8r7) (.seq (.dreg i8r8) (.seq (.dreg i8r9) (.seq (.seq (.reg i8r10) (.cond (.t 157) (.seq (.reg i8r11) .ret) .skip)) (.dreg i8r12)))))) (.reg i8r13))))
abbrev i8r15 : List IOper := [
  ⟨(some 161), .fa 3 (.t 7), none, false⟩,
  ⟨(some 162), .ld false 1 (.t 161), none, false⟩,
  ⟨(some 163), .bin .eql (.t 162) (.c (.i .i64 0)), none, true⟩]
abbrev i8r16 : List IOper := [
  ⟨(some 6), .mv (.c (.b true)), none, false⟩]
abbrev i8r17 : List (IOper × List Nat) := [
  (⟨(some 165), .ld true 17 (.t 7), none, false⟩, []),
  (⟨(some 166), .mv (.t 2), none, false⟩, [0]),
  (⟨(some 167), .i2i .i64 (.t 166), none, false⟩, [0]),
  (⟨(some 168), .fa 3 (.t 7), none, false⟩, [0, 1, 2]),
  (⟨(some 169), .ld false 1 (.t 168), none, false⟩, [0, 1, 2]),
  (⟨(some 170), .bin .rem (.t 167) (.t 169), none, false⟩, [0]),
  (⟨(some 171), .fa 0 (.t 7), none, false⟩, [0, 1, 2, 3, 4, 5]),
  (⟨(some 172), .ld false 1 (.t 171), none, false⟩, [0, 1, 2, 3, 4, 5]),
  (⟨(some 173), .bin .add (.t 172) (.c (.i .i64 7)), none, false⟩, [0, 1, 2, 3, 4, 5]),
  (⟨(some 174), .build [.i .i64 0, .i .i64 0] [(0, 1, .t 170), (1, 1, .t 173)], none, false⟩, [0]),
  (⟨(some 175), .bsl [.i .i64 0, .i .i64 0] 1 [(0, 2, .t 174)], none, false⟩, [0]),
  (⟨(some 176), .call (.c (.fn 24 [])) [.t 165, .t 175], none, false⟩, []),
  (⟨(some 164), .mv (.t 176), none, false⟩, []),
  (⟨(some 177), .ext (.t 164) 0, none, false⟩, []),
  (⟨(some 178), .ext (.t 164) 1, none, false⟩, [13]),
  (⟨(some 16), .new [.i .i64 0, .b false, .b false, .i .i64 0, .i .i64 0, .i .i64 0, .i .i64 0, .i .i64 0, .i .i64 0, .i .i64 0, .i .i64 0, .i .i64 0, .i .i64 0, .i .i64 0, .i .i64 0, .i .i64 0, .ns], none, false⟩, [0, 1, 2, 3, 4, 5, 6, 7, 8, 9, 10, 11, 12, 13, 14]),
  (⟨none, .st 17 (.t 16) (.t 177), none, false⟩, [14]),
  (⟨(some 17), .mv (.t 178), none, false⟩, [])]
abbrev i8r18 : List IOper := [
  ⟨(some 179), .fa 0 (.t 7), none, false⟩,
  ⟨(some 180), .ld false 1 (.t 179), none, false⟩,
  ⟨(some 181), .fa 0 (.t 16), none, false⟩,
  ⟨none, .st 1 (.t 181) (.t 180), none, false⟩]
abbrev i8r19 : List IOper := [
  ⟨(some 182), .mv (.t 17), none, false⟩,
  ⟨(some 183), .mv (.t 182), none, true⟩,
  ⟨(some 184), .ld true 17 (.t 16), (some (183, true)), false⟩,
  ⟨(some 185), .ld true 17 (.t 7), (some (183, true)), false⟩,
  ⟨(some 186), .call (.c (.fn 17 [])) [.t 184, .t 185], (some (183, true)), false⟩,
  ⟨(some 187), .pick (.t 183) (.t 186) (.c (.b false)), none, false⟩,
  ⟨(some 6), .mv (.t 187), none, false⟩]
abbrev i8c : ICode := (.seq (.reg i8r0) (.seq (.seq (.reg i8r1) (.cond (.t 19) (.seq (.reg i8r2) .ret) .skip)) (.seq (.reg i8r3) (.seq (.reg i8r4) (.seq (.seq (.reg i8r5) (.block 0 (.loop i8l14))) (.seq (.seq (.reg i8r15) (.cond (.t 163) (.seq (.reg i8r16) .ret) .skip)) (.seq (.dreg i8r17) (.seq (.reg i8r18) (.seq (.reg i8r19) .ret)))))))))
def i8 : IFn := { np := 3, N := 188, ct := [19, 30, 157, 163], code := i8c, res := [.t 6] }
theorem i8_eq : compF Try.prog Try.f8 = some i8 := by kernel_rfl
end Go.Proofs.Arr
