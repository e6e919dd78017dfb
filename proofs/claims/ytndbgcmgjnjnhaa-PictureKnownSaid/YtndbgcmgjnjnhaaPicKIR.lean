/- The small language's text of the functions; printed by ShowI.lean. -/
import Derived.Test.YtndbgcmgjnjnhaaProg
import Derived.Test.YtndbgcmgjnjnhaaAbRuns
namespace Go.Proofs.Pic
open Go.Ab
abbrev i10r0 : List IOper := [
  ⟨(some 0), .mv (.c (.b false)), none, false⟩]
abbrev i10r1 : List IOper := [
  ⟨(some 37), .build [.b false, .i .i64 0, .i .i64 0, .i .i64 0, .b false, .i .i64 0, .i .i64 0, .i .i64 0, .b false, .i .i64 0, .i .i64 0, .i .i64 0] [], none, false⟩,
  ⟨(some 38), .build [.b false, .b false, .b false, .b false, .i .i64 0, .i .i64 0, .i .i64 0, .i .i64 0] [(1, 1, .c (.b true)), (4, 1, .c (.i .i64 32767)), (5, 1, .c (.i .i64 255))], none, false⟩,
  ⟨(some 39), .build [.b false, .b false, .b false, .b false, .i .i64 0, .i .i64 0, .i .i64 0, .i .i64 0] [(4, 1, .c (.i .i64 0)), (5, 1, .c (.i .i64 0))], none, false⟩,
  ⟨(some 40), .build [.b false, .b false, .b false, .b false, .i .i64 0, .i .i64 0, .i .i64 0, .i .i64 0] [(4, 1, .c (.i .i64 16383)), (5, 1, .c (.i .i64 1))], none, false⟩,
  ⟨(some 41), .build [.b false, .b false, .b false, .b false, .i .i64 0, .i .i64 0, .i .i64 0, .i .i64 0] [(4, 1, .c (.i .i64 32767)), (5, 1, .c (.i .i64 2))], none, false⟩,
  ⟨(some 42), .build [.b false, .b false, .b false, .b false, .i .i64 0, .i .i64 0, .i .i64 0, .i .i64 0] [(4, 1, .c (.i .i64 16383)), (5, 1, .c (.i .i64 2))], none, false⟩,
  ⟨(some 43), .bsl [.b false, .b false, .b false, .b false, .i .i64 0, .i .i64 0, .i .i64 0, .i .i64 0, .b false, .b false, .b false, .b false, .i .i64 0, .i .i64 0, .i .i64 0, .i .i64 0, .b false, .b false, .b false, .b false, .i .i64 0, .i .i64 0, .i .i64 0, .i .i64 0, .b false, .b false, .b false, .b false, .i .i64 0, .i .i64 0, .i .i64 0, .i .i64 0, .b false, .b false, .b false, .b false, .i .i64 0, .i .i64 0, .i .i64 0, .i .i64 0] 5 [(0, 8, .t 38), (8, 8, .t 39), (16, 8, .t 40), (24, 8, .t 41), (32, 8, .t 42)], none, false⟩,
  ⟨(some 44), .call (.c (.fn 34 [])) [.t 37, .t 43], none, false⟩,
  ⟨(some 36), .mv (.t 44), none, false⟩,
  ⟨(some 45), .ext (.t 36) 0, none, false⟩,
  ⟨(some 46), .ext (.t 36) 1, none, false⟩,
  ⟨(some 1), .new [.b false, .i .i64 0, .i .i64 0, .i .i64 0, .b false, .i .i64 0, .i .i64 0, .i .i64 0, .b false, .i .i64 0, .i .i64 0, .i .i64 0], none, false⟩,
  ⟨none, .st 12 (.t 1) (.t 45), none, false⟩,
  ⟨(some 2), .mv (.t 46), none, false⟩]
abbrev i10r2 : List IOper := [
  ⟨(some 48), .build [.b false, .i .i64 0, .i .i64 0, .i .i64 0, .b false, .i .i64 0, .i .i64 0, .i .i64 0, .b false, .i .i64 0, .i .i64 0, .i .i64 0] [], none, false⟩,
  ⟨(some 49), .build [.b false, .b false, .b false, .b false, .i .i64 0, .i .i64 0, .i .i64 0, .i .i64 0] [(1, 1, .c (.b true)), (4, 1, .c (.i .i64 1)), (7, 1, .c (.i .i64 1))], none, false⟩,
  ⟨(some 50), .build [.b false, .b false, .b false, .b false, .i .i64 0, .i .i64 0, .i .i64 0, .i .i64 0] [(1, 1, .c (.b true)), (4, 1, .c (.i .i64 1))], none, false⟩,
  ⟨(some 51), .build [.b false, .b false, .b false, .b false, .i .i64 0, .i .i64 0, .i .i64 0, .i .i64 0] [(1, 1, .c (.b true)), (4, 1, .c (.i .i64 1)), (7, 1, .c (.i .i64 2))], none, false⟩,
  ⟨(some 52), .build [.b false, .b false, .b false, .b false, .i .i64 0, .i .i64 0, .i .i64 0, .i .i64 0] [(1, 1, .c (.b true)), (4, 1, .c (.i .i64 1)), (7, 1, .c (.i .i64 1))], none, false⟩,
  ⟨(some 53), .build [.b false, .b false, .b false, .b false, .i .i64 0, .i .i64 0, .i .i64 0, .i .i64 0] [(1, 1, .c (.b true)), (4, 1, .c (.i .i64 1)), (7, 1, .c (.i .i64 2))], none, false⟩,
  ⟨(some 54), .build [.b false, .b false, .b false, .b false, .i .i64 0, .i .i64 0, .i .i64 0, .i .i64 0] [(4, 1, .c (.i .i64 2)), (5, 1, .c (.i .i64 1))], none, false⟩,
  ⟨(some 55), .build [.b false, .b false, .b false, .b false, .i .i64 0, .i .i64 0, .i .i64 0, .i .i64 0] [(4, 1, .c (.i .i64 2)), (5, 1, .c (.i .i64 1)), (7, 1, .c (.i .i64 1))], none, false⟩,
  ⟨(some 56), .build [.b false, .b false, .b false, .b false, .i .i64 0, .i .i64 0, .i .i64 0, .i .i64 0] [(4, 1, .c (.i .i64 2)), (5, 1, .c (.i .i64 1)), (7, 1, .c (.i .i64 2))], none, false⟩,
  ⟨(some 57), .build [.b false, .b false, .b false, .b false, .i .i64 0, .i .i64 0, .i .i64 0, .i .i64 0] [(4, 1, .c (.i .i64 3)), (5, 1, .c (.i .i64 2)), (7, 1, .c (.i .i64 1))], none, false⟩,
  ⟨(some 58), .bsl [.b false, .b false, .b false, .b false, .i .i64 0, .i .i64 0, .i .i64 0, .i .i64 0, .b false, .b false, .b false, .b false, .i .i64 0, .i .i64 0, .i .i64 0, .i .i64 0, .b false, .b false, .b false, .b false, .i .i64 0, .i .i64 0, .i .i64 0, .i .i64 0, .b false, .b false, .b false, .b false, .i .i64 0, .i .i64 0, .i .i64 0, .i .i64 0, .b false, .b false, .b false, .b false, .i .i64 0, .i .i64 0, .i .i64 0, .i .i64 0, .b false, .b false, .b false, .b false, .i .i64 0, .i .i64 0, .i .i64 0, .i .i64 0, .b false, .b false, .b false, .b false, .i .i64 0, .i .i64 0, .i .i64 0, .i .i64 0, .b false, .b false, .b false, .b false, .i .i64 0, .i .i64 0, .i .i64 0, .i .i64 0, .b false, .b false, .b false, .b false, .i .i64 0, .i .i64 0, .i .i64 0, .i .i64 0] 9 [(0, 8, .t 49), (8, 8, .t 50), (16, 8, .t 51), (24, 8, .t 52), (32, 8, .t 53), (40, 8, .t 54), (48, 8, .t 55), (56, 8, .t 56), (64, 8, .t 57)], none, false⟩,
  ⟨(some 59), .call (.c (.fn 34 [])) [.t 48, .t 58], none, false⟩,
  ⟨(some 47), .mv (.t 59), none, false⟩,
  ⟨(some 60), .ext (.t 47) 0, none, false⟩,
  ⟨(some 61), .ext (.t 47) 1, none, false⟩,
  ⟨(some 3), .new [.b false, .i .i64 0, .i .i64 0, .i .i64 0, .b false, .i .i64 0, .i .i64 0, .i .i64 0, .b false, .i .i64 0, .i .i64 0, .i .i64 0], none, false⟩,
  ⟨none, .st 12 (.t 3) (.t 60), none, false⟩,
  ⟨(some 4), .mv (.t 61), none, false⟩]
abbrev i10r3 : List IOper := [
  ⟨(some 63), .build [.b false, .i .i64 0, .i .i64 0, .i .i64 0, .b false, .i .i64 0, .i .i64 0, .i .i64 0, .b false, .i .i64 0, .i .i64 0, .i .i64 0] [], none, false⟩,
  ⟨(some 64), .build [.b false, .b false, .b false, .b false, .i .i64 0, .i .i64 0, .i .i64 0, .i .i64 0] [(1, 1, .c (.b true))], none, false⟩,
  ⟨(some 65), .build [.b false, .b false, .b false, .b false, .i .i64 0, .i .i64 0, .i .i64 0, .i .i64 0] [(4, 1, .c (.i .i64 1)), (6, 1, .c (.i .i64 2)), (2, 1, .c (.b true))], none, false⟩,
  ⟨(some 66), .build [.b false, .b false, .b false, .b false, .i .i64 0, .i .i64 0, .i .i64 0, .i .i64 0] [(4, 1, .c (.i .i64 1)), (6, 1, .c (.i .i64 1)), (2, 1, .c (.b true))], none, false⟩,
  ⟨(some 67), .build [.b false, .b false, .b false, .b false, .i .i64 0, .i .i64 0, .i .i64 0, .i .i64 0] [(4, 1, .c (.i .i64 2)), (6, 1, .c (.i .i64 2)), (2, 1, .c (.b true))], none, false⟩,
  ⟨(some 68), .build [.b false, .b false, .b false, .b false, .i .i64 0, .i .i64 0, .i .i64 0, .i .i64 0] [(4, 1, .c (.i .i64 3)), (6, 1, .c (.i .i64 3))], none, false⟩,
  ⟨(some 69), .build [.b false, .b false, .b false, .b false, .i .i64 0, .i .i64 0, .i .i64 0, .i .i64 0] [(4, 1, .c (.i .i64 3)), (6, 1, .c (.i .i64 1))], none, false⟩,
  ⟨(some 70), .build [.b false, .b false, .b false, .b false, .i .i64 0, .i .i64 0, .i .i64 0, .i .i64 0] [(4, 1, .c (.i .i64 4)), (5, 1, .c (.i .i64 1))], none, false⟩,
  ⟨(some 71), .build [.b false, .b false, .b false, .b false, .i .i64 0, .i .i64 0, .i .i64 0, .i .i64 0] [(4, 1, .c (.i .i64 5)), (5, 1, .c (.i .i64 1)), (6, 1, .c (.i .i64 2))], none, false⟩,
  ⟨(some 72), .build [.b false, .b false, .b false, .b false, .i .i64 0, .i .i64 0, .i .i64 0, .i .i64 0] [(4, 1, .c (.i .i64 6)), (6, 1, .c (.i .i64 1))], none, false⟩,
  ⟨(some 73), .bsl [.b false, .b false, .b false, .b false, .i .i64 0, .i .i64 0, .i .i64 0, .i .i64 0, .b false, .b false, .b false, .b false, .i .i64 0, .i .i64 0, .i .i64 0, .i .i64 0, .b false, .b false, .b false, .b false, .i .i64 0, .i .i64 0, .i .i64 0, .i .i64 0, .b false, .b false, .b false, .b false, .i .i64 0, .i .i64 0, .i .i64 0, .i .i64 0, .b false, .b false, .b false, .b false, .i .i64 0, .i .i64 0, .i .i64 0, .i .i64 0, .b false, .b false, .b false, .b false, .i .i64 0, .i .i64 0, .i .i64 0, .i .i64 0, .b false, .b false, .b false, .b false, .i .i64 0, .i .i64 0, .i .i64 0, .i .i64 0, .b false, .b false, .b false, .b false, .i .i64 0, .i .i64 0, .i .i64 0, .i .i64 0, .b false, .b false, .b false, .b false, .i .i64 0, .i .i64 0, .i .i64 0, .i .i64 0] 9 [(0, 8, .t 64), (8, 8, .t 65), (16, 8, .t 66), (24, 8, .t 67), (32, 8, .t 68), (40, 8, .t 69), (48, 8, .t 70), (56, 8, .t 71), (64, 8, .t 72)], none, false⟩,
  ⟨(some 74), .call (.c (.fn 34 [])) [.t 63, .t 73], none, false⟩,
  ⟨(some 62), .mv (.t 74), none, false⟩,
  ⟨(some 75), .ext (.t 62) 0, none, false⟩,
  ⟨(some 76), .ext (.t 62) 1, none, false⟩,
  ⟨(some 5), .new [.b false, .i .i64 0, .i .i64 0, .i .i64 0, .b false, .i .i64 0, .i .i64 0, .i .i64 0, .b false, .i .i64 0, .i .i64 0, .i .i64 0], none, false⟩,
  ⟨none, .st 12 (.t 5) (.t 75), none, false⟩,
  ⟨(some 6), .mv (.t 76), none, false⟩]
abbrev i10r4 : List IOper := [
  ⟨(some 7), .new [.b false, .i .i64 0, .i .i64 0, .i .i64 0, .b false, .i .i64 0, .i .i64 0, .i .i64 0, .b false, .i .i64 0, .i .i64 0, .i .i64 0], none, false⟩]
abbrev i10r5 : List IOper := [
  ⟨(some 77), .fa 0 (.t 7), none, false⟩,
  ⟨(some 78), .ixaA 3 4 (.t 77) (.c (.i .i64 1)), none, false⟩,
  ⟨(some 79), .fa 0 (.t 78), none, false⟩,
  ⟨none, .st 1 (.t 79) (.c (.b true)), none, false⟩]
abbrev i10r6 : List IOper := [
  ⟨(some 80), .build [.b false, .i .i64 0, .i .i64 0, .i .i64 0, .b false, .i .i64 0, .i .i64 0, .i .i64 0, .b false, .i .i64 0, .i .i64 0, .i .i64 0] [], none, false⟩,
  ⟨(some 8), .new [.b false, .i .i64 0, .i .i64 0, .i .i64 0, .b false, .i .i64 0, .i .i64 0, .i .i64 0, .b false, .i .i64 0, .i .i64 0, .i .i64 0], none, false⟩,
  ⟨none, .st 12 (.t 8) (.t 80), none, false⟩]
abbrev i10r7 : List IOper := [
  ⟨(some 81), .fa 0 (.t 8), none, false⟩,
  ⟨(some 82), .ixaA 3 4 (.t 81) (.c (.i .i64 2)), none, false⟩,
  ⟨(some 83), .fa 1 (.t 82), none, false⟩,
  ⟨none, .st 1 (.t 83) (.c (.i .i64 1)), none, false⟩]
abbrev i10r8 : List IOper := [
  ⟨(some 85), .ld true 12 (.t 7), none, false⟩,
  ⟨(some 86), .build [.b false, .b false, .b false, .b false, .i .i64 0, .i .i64 0, .i .i64 0, .i .i64 0] [(4, 1, .c (.i .i64 (-1)))], none, false⟩,
  ⟨(some 87), .call (.c (.fn 28 [])) [.t 85, .t 86], none, false⟩,
  ⟨(some 84), .mv (.t 87), none, false⟩,
  ⟨(some 88), .ext (.t 84) 0, none, false⟩,
  ⟨(some 89), .ext (.t 84) 1, none, false⟩,
  ⟨(some 90), .ext (.t 84) 2, none, false⟩,
  ⟨(some 9), .new [.b false, .i .i64 0, .i .i64 0, .i .i64 0, .b false, .i .i64 0, .i .i64 0, .i .i64 0, .b false, .i .i64 0, .i .i64 0, .i .i64 0], none, false⟩,
  ⟨none, .st 12 (.t 9) (.t 88), none, false⟩,
  ⟨(some 10), .mv (.t 89), none, false⟩,
  ⟨(some 11), .mv (.t 90), none, false⟩]
abbrev i10r9 : List IOper := [
  ⟨(some 92), .build [.b false, .i .i64 0, .i .i64 0, .i .i64 0, .b false, .i .i64 0, .i .i64 0, .i .i64 0, .b false, .i .i64 0, .i .i64 0, .i .i64 0] [], none, false⟩,
  ⟨(some 93), .build [.b false, .b false, .b false, .b false, .i .i64 0, .i .i64 0, .i .i64 0, .i .i64 0] [(4, 1, .c (.i .i64 (-1)))], none, false⟩,
  ⟨(some 94), .call (.c (.fn 28 [])) [.t 92, .t 93], none, false⟩,
  ⟨(some 91), .mv (.t 94), none, false⟩,
  ⟨(some 95), .ext (.t 91) 0, none, false⟩,
  ⟨(some 96), .ext (.t 91) 1, none, false⟩,
  ⟨(some 97), .ext (.t 91) 2, none, false⟩,
  ⟨(some 12), .new [.b false, .i .i64 0, .i .i64 0, .i .i64 0, .b false, .i .i64 0, .i .i64 0, .i .i64 0, .b false, .i .i64 0, .i .i64 0, .i .i64 0], none, false⟩,
  ⟨none, .st 12 (.t 12) (.t 95), none, false⟩,
  ⟨(some 13), .mv (.t 96), none, false⟩,
  ⟨(some 14), .mv (.t 97), none, false⟩]
abbrev i10r10 : List IOper := [
  ⟨(some 99), .call (.c (.fn 22 [])) [.c (.s [224, 129]), .c (.i .i64 (-1)), .c (.i .i64 0)], none, false⟩,
  ⟨(some 98), .mv (.t 99), none, false⟩,
  ⟨(some 100), .ext (.t 98) 0, none, false⟩,
  ⟨(some 101), .ext (.t 98) 1, none, false⟩,
  ⟨(some 15), .mv (.t 100), none, false⟩,
  ⟨(some 16), .mv (.t 101), none, false⟩]
abbrev i10r11 : List IOper := [
  ⟨(some 103), .call (.c (.fn 22 [])) [.c (.s [224, 129, 44, 7, 0]), .c (.i .i64 32768), .c (.i .i64 0)], none, false⟩,
  ⟨(some 102), .mv (.t 103), none, false⟩,
  ⟨(some 104), .ext (.t 102) 0, none, false⟩,
  ⟨(some 105), .ext (.t 102) 1, none, false⟩,
  ⟨(some 17), .mv (.t 104), none, false⟩,
  ⟨(some 18), .mv (.t 105), none, false⟩]
abbrev i10r12 : List IOper := [
  ⟨(some 107), .call (.c (.fn 22 [])) [.c (.s [224, 129, 44, 7, 0]), .c (.i .i64 0), .c (.i .i64 256)], none, false⟩,
  ⟨(some 106), .mv (.t 107), none, false⟩,
  ⟨(some 108), .ext (.t 106) 0, none, false⟩,
  ⟨(some 109), .ext (.t 106) 1, none, false⟩,
  ⟨(some 19), .mv (.t 108), none, false⟩,
  ⟨(some 20), .mv (.t 109), none, false⟩]
abbrev i10r13 : List IOper := [
  ⟨(some 111), .call (.c (.fn 33 [])) [.c (.ns)], none, false⟩,
  ⟨(some 110), .mv (.t 111), none, false⟩,
  ⟨(some 112), .ext (.t 110) 0, none, false⟩,
  ⟨(some 113), .ext (.t 110) 1, none, false⟩,
  ⟨(some 21), .new [.i .i64 0, .b false, .b false, .b false, .b false, .i .i64 0, .i .i64 0, .i .i64 0, .i .i64 0, .s []], none, false⟩,
  ⟨none, .st 10 (.t 21) (.t 112), none, false⟩,
  ⟨(some 22), .mv (.t 113), none, false⟩]
abbrev i10r14 : List IOper := [
  ⟨(some 115), .build [.b false, .i .i64 0, .i .i64 0, .i .i64 0, .i .i64 0, .ns, .ns, .i .i64 0, .s []] [(2, 1, .c (.i .i64 (-1)))], none, false⟩,
  ⟨(some 116), .build [.b false, .i .i64 0, .i .i64 0, .i .i64 0, .i .i64 0, .ns, .ns, .i .i64 0, .s []] [], none, false⟩,
  ⟨(some 117), .bsl [.b false, .i .i64 0, .i .i64 0, .i .i64 0, .i .i64 0, .ns, .ns, .i .i64 0, .s [], .b false, .i .i64 0, .i .i64 0, .i .i64 0, .i .i64 0, .ns, .ns, .i .i64 0, .s []] 2 [(0, 9, .t 115), (9, 9, .t 116)], none, false⟩,
  ⟨(some 118), .call (.c (.fn 33 [])) [.t 117], none, false⟩,
  ⟨(some 114), .mv (.t 118), none, false⟩,
  ⟨(some 119), .ext (.t 114) 0, none, false⟩,
  ⟨(some 120), .ext (.t 114) 1, none, false⟩,
  ⟨(some 23), .new [.i .i64 0, .b false, .b false, .b false, .b false, .i .i64 0, .i .i64 0, .i .i64 0, .i .i64 0, .s []], none, false⟩,
  ⟨none, .st 10 (.t 23) (.t 119), none, false⟩,
  ⟨(some 24), .mv (.t 120), none, false⟩]
abbrev i10r15 : List IOper := [
  ⟨(some 121), .call (.c (.fn 35 [])) [.c (.s [120]), .c (.i .i64 3)], none, false⟩,
  ⟨(some 122), .bin .add (.c (.s [200, 128, 0, 0, 0])) (.t 121), none, false⟩,
  ⟨(some 123), .build [.b false, .i .i64 0, .i .i64 0, .i .i64 0, .i .i64 0, .ns, .ns, .i .i64 0, .s []] [(2, 1, .c (.i .i64 9)), (8, 1, .t 122)], none, false⟩,
  ⟨(some 25), .new [.b false, .i .i64 0, .i .i64 0, .i .i64 0, .i .i64 0, .ns, .ns, .i .i64 0, .s []], none, false⟩,
  ⟨none, .st 9 (.t 25) (.t 123), none, false⟩]
abbrev i10r16 : List IOper := [
  ⟨(some 125), .ld true 9 (.t 25), none, false⟩,
  ⟨(some 126), .bsl [.b false, .i .i64 0, .i .i64 0, .i .i64 0, .i .i64 0, .ns, .ns, .i .i64 0, .s []] 1 [(0, 9, .t 125)], none, false⟩,
  ⟨(some 127), .call (.c (.fn 33 [])) [.t 126], none, false⟩,
  ⟨(some 124), .mv (.t 127), none, false⟩,
  ⟨(some 128), .ext (.t 124) 0, none, false⟩,
  ⟨(some 129), .ext (.t 124) 1, none, false⟩,
  ⟨(some 26), .new [.i .i64 0, .b false, .b false, .b false, .b false, .i .i64 0, .i .i64 0, .i .i64 0, .i .i64 0, .s []], none, false⟩,
  ⟨none, .st 10 (.t 26) (.t 128), none, false⟩,
  ⟨(some 27), .mv (.t 129), none, false⟩]
abbrev i10r17 : List IOper := [
  ⟨(some 130), .mks 9 112 [.b false, .i .i64 0, .i .i64 0, .i .i64 0, .i .i64 0, .ns, .ns, .i .i64 0, .s []] (.c (.i .i64 65)) (.c (.i .i64 65)), none, false⟩,
  ⟨(some 28), .mv (.t 130), none, false⟩]
abbrev i10r18 : List IOper := [
  ⟨(some 131), .mv (.t 28), none, false⟩,
  ⟨(some 132), .lenV (.t 131), none, false⟩,
  ⟨(some 133), .mv (.c (.i .i64 0)), none, false⟩]
abbrev i10r19 : List IOper := [
  ⟨(some 134), .bin .lss (.t 133) (.t 132), none, true⟩]
abbrev i10r20 : List IOper := [
  ⟨(some 135), .mv (.t 133), none, false⟩,
  ⟨(some 29), .mv (.t 135), none, false⟩]
abbrev i10r21 : List IOper := [
  ⟨(some 136), .mv (.t 28), none, false⟩,
  ⟨(some 137), .mv (.t 29), none, false⟩,
  ⟨(some 138), .mv (.t 29), none, false⟩,
  ⟨(some 139), .build [.b false, .i .i64 0, .i .i64 0, .i .i64 0, .i .i64 0, .ns, .ns, .i .i64 0, .s []] [(2, 1, .t 138), (8, 1, .c (.s [128, 128, 0, 0, 0, 121]))], none, false⟩,
  ⟨(some 140), .ixaV 9 (.t 136) (.t 137), none, false⟩,
  ⟨none, .st 9 (.t 140) (.t 139), none, false⟩]
abbrev i10r22 : List IOper := [
  ⟨(some 141), .bin .add (.t 133) (.c (.i .i64 1)), none, false⟩,
  ⟨(some 133), .mv (.t 141), none, false⟩]
abbrev i10l23 : ICode := (.seq (.reg i10r19) (.seq (.cond (.t 134) .skip (.exit 0)) (.seq (.block 1 (.seq (.reg i10r20) (.reg i10r21))) (.reg i10r22))))
abbrev i10r24 : List IOper := [
  ⟨(some 142), .mv (.t 28), none, false⟩,
  ⟨(some 143), .mv (.t 28), none, false⟩,
  ⟨(some 144), .mv (.t 28), none, false⟩,
  ⟨(some 145), .ixaV 9 (.t 142) (.c (.i .i64 0)), none, false⟩,
  ⟨(some 146), .fa 8 (.t 145), none, false⟩,
  ⟨none, .st 1 (.t 146) (.c (.s [192, 128, 0, 0, 0, 121])), none, false⟩,
  ⟨(some 147), .ixaV 9 (.t 143) (.c (.i .i64 63)), none, false⟩,
  ⟨(some 148), .fa 8 (.t 147), none, false⟩,
  ⟨none, .st 1 (.t 148) (.c (.s [136, 128, 0, 0, 0, 121])), none, false⟩,
  ⟨(some 149), .ixaV 9 (.t 144) (.c (.i .i64 64)), none, false⟩,
  ⟨(some 150), .fa 8 (.t 149), none, false⟩,
  ⟨none, .st 1 (.t 150) (.c (.s [136, 128, 0, 0, 0, 121])), none, false⟩]
abbrev i10r25 : List IOper := [
  ⟨(some 152), .mv (.t 28), none, false⟩,
  ⟨(some 153), .slV 9 (.t 152) none (some (.c (.i .i64 64))) none, none, false⟩,
  ⟨(some 154), .call (.c (.fn 33 [])) [.t 153], none, false⟩,
  ⟨(some 151), .mv (.t 154), none, false⟩,
  ⟨(some 155), .ext (.t 151) 0, none, false⟩,
  ⟨(some 156), .ext (.t 151) 1, none, false⟩,
  ⟨(some 30), .new [.i .i64 0, .b false, .b false, .b false, .b false, .i .i64 0, .i .i64 0, .i .i64 0, .i .i64 0, .s []], none, false⟩,
  ⟨none, .st 10 (.t 30) (.t 155), none, false⟩,
  ⟨(some 31), .mv (.t 156), none, false⟩]
abbrev i10r26 : List IOper := [
  ⟨(some 158), .mv (.t 28), none, false⟩,
  ⟨(some 159), .call (.c (.fn 33 [])) [.t 158], none, false⟩,
  ⟨(some 157), .mv (.t 159), none, false⟩,
  ⟨(some 160), .ext (.t 157) 0, none, false⟩,
  ⟨(some 161), .ext (.t 157) 1, none, false⟩,
  ⟨(some 32), .new [.i .i64 0, .b false, .b false, .b false, .b false, .i .i64 0, .i .i64 0, .i .i64 0, .i .i64 0, .s []], none, false⟩,
  ⟨none, .st 10 (.t 32) (.t 160), none, false⟩,
  ⟨(some 33), .mv (.t 161), none, false⟩]
abbrev i10r27 : List IOper := [
  ⟨(some 34), .mv (.c (.fn 36 [])), none, false⟩]
abbrev i10r28 : List IOper := [
  ⟨(some 162), .mv (.t 2), none, false⟩,
  ⟨(some 163), .bsl [.b false, .b false, .b false, .b false, .b false] 5 [(0, 1, .c (.b true)), (1, 1, .c (.b true)), (2, 1, .c (.b true)), (3, 1, .c (.b false)), (4, 1, .c (.b false))], none, false⟩,
  ⟨(some 164), .call (.c (.fn 37 [])) [.t 162, .t 163], none, false⟩,
  ⟨(some 165), .mv (.t 164), none, true⟩,
  ⟨(some 166), .mv (.t 4), (some (165, true)), false⟩,
  ⟨(some 167), .bsl [.b false, .b false, .b false, .b false, .b false, .b false, .b false, .b false, .b false] 9 [(0, 1, .c (.b false)), (1, 1, .c (.b true)), (2, 1, .c (.b false)), (3, 1, .c (.b true)), (4, 1, .c (.b true)), (5, 1, .c (.b true)), (6, 1, .c (.b true)), (7, 1, .c (.b true)), (8, 1, .c (.b false))], (some (165, true)), false⟩,
  ⟨(some 168), .call (.c (.fn 37 [])) [.t 166, .t 167], (some (165, true)), false⟩,
  ⟨(some 169), .pick (.t 165) (.t 168) (.c (.b false)), none, false⟩,
  ⟨(some 170), .mv (.t 169), none, true⟩,
  ⟨(some 171), .fa 0 (.t 3), (some (170, true)), false⟩,
  ⟨(some 172), .ixaA 3 4 (.t 171) (.c (.i .i64 0)), (some (170, true)), false⟩,
  ⟨(some 173), .fa 1 (.t 172), (some (170, true)), false⟩,
  ⟨(some 174), .ld false 1 (.t 173), (some (170, true)), false⟩,
  ⟨(some 175), .bin .eql (.t 174) (.c (.i .i64 2)), (some (170, true)), false⟩,
  ⟨(some 176), .pick (.t 170) (.t 175) (.c (.b false)), none, false⟩,
  ⟨(some 177), .mv (.t 176), none, true⟩,
  ⟨(some 178), .fa 0 (.t 3), (some (177, true)), false⟩,
  ⟨(some 179), .ixaA 3 4 (.t 178) (.c (.i .i64 1)), (some (177, true)), false⟩,
  ⟨(some 180), .ld true 4 (.t 179), (some (177, true)), false⟩,
  ⟨(some 181), .build [.b false, .i .i64 0, .i .i64 0, .i .i64 0] [], (some (177, true)), false⟩,
  ⟨(some 182), .eqk false true [.b, .i, .i, .i] (.t 180) (.t 181), (some (177, true)), false⟩,
  ⟨(some 183), .pick (.t 177) (.t 182) (.c (.b false)), none, false⟩,
  ⟨(some 184), .mv (.t 183), none, true⟩,
  ⟨(some 185), .fa 0 (.t 3), (some (184, true)), false⟩,
  ⟨(some 186), .ixaA 3 4 (.t 185) (.c (.i .i64 2)), (some (184, true)), false⟩,
  ⟨(some 187), .ld true 4 (.t 186), (some (184, true)), false⟩,
  ⟨(some 188), .build [.b false, .i .i64 0, .i .i64 0, .i .i64 0] [], (some (184, true)), false⟩,
  ⟨(some 189), .eqk false true [.b, .i, .i, .i] (.t 187) (.t 188), (some (184, true)), false⟩,
  ⟨(some 190), .pick (.t 184) (.t 189) (.c (.b false)), none, false⟩,
  ⟨(some 191), .mv (.t 190), none, true⟩,
  ⟨(some 192), .mv (.t 6), (some (191, true)), false⟩,
  ⟨(some 193), .bsl [.b false, .b false, .b false, .b false, .b false, .b false, .b false, .b false, .b false] 9 [(0, 1, .c (.b true)), (1, 1, .c (.b false)), (2, 1, .c (.b true)), (3, 1, .c (.b true)), (4, 1, .c (.b false)), (5, 1, .c (.b true)), (6, 1, .c (.b true)), (7, 1, .c (.b true)), (8, 1, .c (.b false))], (some (191, true)), false⟩,
  ⟨(some 194), .call (.c (.fn 37 [])) [.t 192, .t 193], (some (191, true)), false⟩,
  ⟨(some 195), .pick (.t 191) (.t 194) (.c (.b false)), none, false⟩,
  ⟨(some 196), .mv (.t 195), none, true⟩,
  ⟨(some 197), .fa 0 (.t 5), (some (196, true)), false⟩,
  ⟨(some 198), .ixaA 3 4 (.t 197) (.c (.i .i64 0)), (some (196, true)), false⟩,
  ⟨(some 199), .ld true 4 (.t 198), (some (196, true)), false⟩,
  ⟨(some 200), .build [.b false, .i .i64 0, .i .i64 0, .i .i64 0] [(0, 1, .c (.b true)), (1, 1, .c (.i .i64 5)), (2, 1, .c (.i .i64 1)), (3, 1, .c (.i .i64 2))], (some (196, true)), false⟩,
  ⟨(some 201), .eqk false true [.b, .i, .i, .i] (.t 199) (.t 200), (some (196, true)), false⟩,
  ⟨(some 202), .pick (.t 196) (.t 201) (.c (.b false)), none, false⟩,
  ⟨(some 35), .mv (.t 202), none, false⟩]
abbrev i10r29 : List IOper := [
  ⟨(some 203), .mv (.t 35), none, false⟩,
  ⟨(some 204), .mv (.t 203), none, true⟩,
  ⟨(some 205), .ld true 12 (.t 7), (some (204, true)), false⟩,
  ⟨(some 206), .call (.c (.fn 26 [])) [.t 205], (some (204, true)), false⟩,
  ⟨(some 207), .bin .eql (.t 206) (.c (.i .i64 402)), (some (204, true)), false⟩,
  ⟨(some 208), .pick (.t 204) (.t 207) (.c (.b false)), none, false⟩,
  ⟨(some 209), .mv (.t 208), none, true⟩,
  ⟨(some 210), .ld true 12 (.t 8), (some (209, true)), false⟩,
  ⟨(some 211), .call (.c (.fn 26 [])) [.t 210], (some (209, true)), false⟩,
  ⟨(some 212), .bin .eql (.t 211) (.c (.i .i64 402)), (some (209, true)), false⟩,
  ⟨(some 213), .pick (.t 209) (.t 212) (.c (.b false)), none, false⟩,
  ⟨(some 214), .mv (.t 213), none, true⟩,
  ⟨(some 215), .mv (.t 11), (some (214, true)), false⟩,
  ⟨(some 216), .bin .eql (.t 215) (.c (.i .i64 402)), (some (214, true)), false⟩,
  ⟨(some 217), .pick (.t 214) (.t 216) (.c (.b false)), none, false⟩,
  ⟨(some 218), .mv (.t 217), none, true⟩,
  ⟨(some 219), .mv (.t 14), (some (218, true)), false⟩,
  ⟨(some 220), .bin .eql (.t 219) (.c (.i .i64 400)), (some (218, true)), false⟩,
  ⟨(some 221), .pick (.t 218) (.t 220) (.c (.b false)), none, false⟩,
  ⟨(some 222), .mv (.t 221), none, true⟩,
  ⟨(some 223), .mv (.t 16), (some (222, true)), false⟩,
  ⟨(some 224), .bin .eql (.t 223) (.c (.i .i64 7)), (some (222, true)), false⟩,
  ⟨(some 225), .pick (.t 222) (.t 224) (.c (.b false)), none, false⟩,
  ⟨(some 226), .mv (.t 225), none, true⟩,
  ⟨(some 227), .mv (.t 18), (some (226, true)), false⟩,
  ⟨(some 228), .bin .eql (.t 227) (.c (.i .i64 2)), (some (226, true)), false⟩,
  ⟨(some 229), .pick (.t 226) (.t 228) (.c (.b false)), none, false⟩,
  ⟨(some 230), .mv (.t 229), none, true⟩,
  ⟨(some 231), .mv (.t 20), (some (230, true)), false⟩,
  ⟨(some 232), .bin .eql (.t 231) (.c (.i .i64 2)), (some (230, true)), false⟩,
  ⟨(some 233), .pick (.t 230) (.t 232) (.c (.b false)), none, false⟩,
  ⟨(some 234), .mv (.t 233), none, true⟩,
  ⟨(some 235), .mv (.t 22), (some (234, true)), false⟩,
  ⟨(some 236), .bin .eql (.t 235) (.c (.i .i64 401)), (some (234, true)), false⟩,
  ⟨(some 237), .pick (.t 234) (.t 236) (.c (.b false)), none, false⟩,
  ⟨(some 238), .mv (.t 237), none, true⟩,
  ⟨(some 239), .mv (.t 24), (some (238, true)), false⟩,
  ⟨(some 240), .bin .eql (.t 239) (.c (.i .i64 230)), (some (238, true)), false⟩,
  ⟨(some 241), .pick (.t 238) (.t 240) (.c (.b false)), none, false⟩,
  ⟨(some 242), .mv (.t 241), none, true⟩,
  ⟨(some 243), .mv (.t 27), (some (242, true)), false⟩,
  ⟨(some 244), .bin .eql (.t 243) (.c (.i .i64 0)), (some (242, true)), false⟩,
  ⟨(some 245), .pick (.t 242) (.t 244) (.c (.b false)), none, false⟩,
  ⟨(some 246), .mv (.t 245), none, true⟩,
  ⟨(some 247), .fa 9 (.t 26), (some (246, true)), false⟩,
  ⟨(some 248), .ld false 1 (.t 247), (some (246, true)), false⟩,
  ⟨(some 249), .bin .eql (.t 248) (.c (.s [120, 120, 120])), (some (246, true)), false⟩,
  ⟨(some 250), .pick (.t 246) (.t 249) (.c (.b false)), none, false⟩,
  ⟨(some 251), .mv (.t 250), none, true⟩,
  ⟨(some 252), .mv (.t 31), (some (251, true)), false⟩,
  ⟨(some 253), .bin .eql (.t 252) (.c (.i .i64 0)), (some (251, true)), false⟩,
  ⟨(some 254), .pick (.t 251) (.t 253) (.c (.b false)), none, false⟩,
  ⟨(some 255), .mv (.t 254), none, true⟩,
  ⟨(some 256), .fa 9 (.t 30), (some (255, true)), false⟩,
  ⟨(some 257), .ld false 1 (.t 256), (some (255, true)), false⟩,
  ⟨(some 258), .lenS (.t 257), (some (255, true)), false⟩,
  ⟨(some 259), .bin .eql (.t 258) (.c (.i .i64 64)), (some (255, true)), false⟩,
  ⟨(some 260), .pick (.t 255) (.t 259) (.c (.b false)), none, false⟩,
  ⟨(some 261), .mv (.t 260), none, true⟩,
  ⟨(some 262), .mv (.t 33), (some (261, true)), false⟩,
  ⟨(some 263), .bin .eql (.t 262) (.c (.i .i64 401)), (some (261, true)), false⟩,
  ⟨(some 264), .pick (.t 261) (.t 263) (.c (.b false)), none, false⟩,
  ⟨(some 35), .mv (.t 264), none, false⟩]
abbrev i10r30 : List IOper := [
  ⟨(some 265), .mv (.c (.b true)), none, true⟩,
  ⟨(some 266), .call (.c (.fn 18 [])) [], (some (265, true)), false⟩,
  ⟨(some 267), .pick (.t 265) (.t 266) (.c (.b false)), none, false⟩,
  ⟨(some 268), .mv (.t 267), none, true⟩,
  ⟨(some 269), .mv (.t 35), (some (268, true)), false⟩,
  ⟨(some 270), .pick (.t 268) (.t 269) (.c (.b false)), none, false⟩,
  ⟨(some 271), .mv (.t 270), none, true⟩,
  ⟨(some 272), .mv (.t 34), (some (271, true)), false⟩,
  ⟨(some 273), .call (.t 272) [.c (.s [96, 128, 0, 0, 0])], (some (271, true)), false⟩,
  ⟨(some 274), .bin .eql (.t 273) (.c (.i .i64 5)), (some (271, true)), false⟩,
  ⟨(some 275), .pick (.t 271) (.t 274) (.c (.b false)), none, false⟩,
  ⟨(some 276), .mv (.t 275), none, true⟩,
  ⟨(some 277), .mv (.t 34), (some (276, true)), false⟩,
  ⟨(some 278), .call (.t 277) [.c (.s [129, 128, 0, 0, 0])], (some (276, true)), false⟩,
  ⟨(some 279), .bin .eql (.t 278) (.c (.i .i64 5)), (some (276, true)), false⟩,
  ⟨(some 280), .pick (.t 276) (.t 279) (.c (.b false)), none, false⟩,
  ⟨(some 281), .mv (.t 280), none, true⟩,
  ⟨(some 282), .mv (.t 34), (some (281, true)), false⟩,
  ⟨(some 283), .call (.t 282) [.c (.s [128, 128, 0, 0, 48])], (some (281, true)), false⟩,
  ⟨(some 284), .bin .eql (.t 283) (.c (.i .i64 5)), (some (281, true)), false⟩,
  ⟨(some 285), .pick (.t 281) (.t 284) (.c (.b false)), none, false⟩,
  ⟨(some 286), .mv (.t 285), none, true⟩,
  ⟨(some 287), .mv (.t 34), (some (286, true)), false⟩,
  ⟨(some 288), .call (.t 287) [.c (.s [128, 128, 0, 0, 1])], (some (286, true)), false⟩,
  ⟨(some 289), .bin .eql (.t 288) (.c (.i .i64 5)), (some (286, true)), false⟩,
  ⟨(some 290), .pick (.t 286) (.t 289) (.c (.b false)), none, false⟩,
  ⟨(some 291), .mv (.t 290), none, true⟩,
  ⟨(some 292), .mv (.t 34), (some (291, true)), false⟩,
  ⟨(some 293), .call (.t 292) [.c (.s [160, 128, 0, 0, 64])], (some (291, true)), false⟩,
  ⟨(some 294), .bin .eql (.t 293) (.c (.i .i64 5)), (some (291, true)), false⟩,
  ⟨(some 295), .pick (.t 291) (.t 294) (.c (.b false)), none, false⟩,
  ⟨(some 296), .mv (.t 295), none, true⟩,
  ⟨(some 297), .mv (.t 34), (some (296, true)), false⟩,
  ⟨(some 298), .call (.t 297) [.c (.s [144, 128, 0, 0, 0])], (some (296, true)), false⟩,
  ⟨(some 299), .bin .eql (.t 298) (.c (.i .i64 5)), (some (296, true)), false⟩,
  ⟨(some 300), .pick (.t 296) (.t 299) (.c (.b false)), none, false⟩,
  ⟨(some 301), .mv (.t 300), none, true⟩,
  ⟨(some 302), .mv (.t 34), (some (301, true)), false⟩,
  ⟨(some 303), .call (.t 302) [.c (.s [144, 255, 255, 255, 224])], (some (301, true)), false⟩,
  ⟨(some 304), .bin .eql (.t 303) (.c (.i .i64 0)), (some (301, true)), false⟩,
  ⟨(some 305), .pick (.t 301) (.t 304) (.c (.b false)), none, false⟩,
  ⟨(some 0), .mv (.t 305), none, false⟩]
abbrev i10c : ICode := (.seq (.reg i10r0) (.seq (.reg i10r1) (.seq (.reg i10r2) (.seq (.reg i10r3) (.seq (.reg i10r4) (.seq (.reg i10r5) (.seq (.reg i10r6) (.seq (.reg i10r7) (.seq (.reg i10r8) (.seq (.reg i10r9) (.seq (.reg i10r10) (.seq (.reg i10r11) (.seq (.reg i10r12) (.seq (.reg i10r13) (.seq (.reg i10r14) (.seq (.reg i10r15) (.seq (.reg i10r16) (.seq (.reg i10r17) (.seq (.seq (.reg i10r18) (.block 0 (.loop i10l23))) (.seq (.reg i10r24) (.seq (.reg i10r25) (.seq (.reg i10r26) (.seq (.reg i10r27) (.seq (.reg i10r28) (.seq (.reg i10r29) (.seq (.reg i10r30) .ret))))))))))))))))))))))))))
def i10 : IFn := { np := 0, N := 306, ct := [134], code := i10c, res := [.t 0] }
theorem i10_eq : compF Try.prog Try.f10 = some i10 := by kernel_rfl
abbrev i14r0 : List IOper := [
  ⟨(some 1), .box (.t 0), none, false⟩,
  ⟨(some 2), .mv (.c (.i .i64 0)), none, false⟩]
abbrev i14r1 : List IOper := [
  ⟨(some 3), .fa 4 (.t 1), none, false⟩,
  ⟨(some 4), .ld false 1 (.t 3), none, false⟩,
  ⟨(some 5), .call (.c (.fn 44 [])) [.c (.i .i64 32767), .t 4], none, false⟩,
  ⟨(some 6), .not (.t 5), none, false⟩,
  ⟨(some 7), .mv (.t 6), none, true⟩,
  ⟨(some 8), .fa 5 (.t 1), (some (7, false)), false⟩,
  ⟨(some 9), .ld false 1 (.t 8), (some (7, false)), false⟩,
  ⟨(some 10), .call (.c (.fn 44 [])) [.c (.i .i64 255), .t 9], (some (7, false)), false⟩,
  ⟨(some 11), .not (.t 10), (some (7, false)), false⟩,
  ⟨(some 12), .pick (.t 7) (.c (.b true)) (.t 11), none, false⟩,
  ⟨(some 13), .mv (.t 12), none, true⟩,
  ⟨(some 14), .fa 6 (.t 1), (some (13, false)), false⟩,
  ⟨(some 15), .ld false 1 (.t 14), (some (13, false)), false⟩,
  ⟨(some 16), .call (.c (.fn 44 [])) [.c (.i .i64 3), .t 15], (some (13, false)), false⟩,
  ⟨(some 17), .not (.t 16), (some (13, false)), false⟩,
  ⟨(some 18), .pick (.t 13) (.c (.b true)) (.t 17), none, false⟩,
  ⟨(some 19), .mv (.t 18), none, true⟩,
  ⟨(some 20), .fa 7 (.t 1), (some (19, false)), false⟩,
  ⟨(some 21), .ld false 1 (.t 20), (some (19, false)), false⟩,
  ⟨(some 22), .call (.c (.fn 44 [])) [.c (.i .i64 2), .t 21], (some (19, false)), false⟩,
  ⟨(some 23), .not (.t 22), (some (19, false)), false⟩,
  ⟨(some 24), .pick (.t 19) (.c (.b true)) (.t 23), none, false⟩,
  ⟨(some 25), .mv (.t 24), none, true⟩,
  ⟨(some 26), .fa 1 (.t 1), (some (25, false)), false⟩,
  ⟨(some 27), .ld false 1 (.t 26), (some (25, false)), false⟩,
  ⟨(some 28), .mv (.t 27), (some (25, false)), true⟩,
  ⟨(some 29), .fa 6 (.t 1), (some (28, true)), false⟩,
  ⟨(some 30), .ld false 1 (.t 29), (some (28, true)), false⟩,
  ⟨(some 31), .bin .gtr (.t 30) (.c (.i .i64 0)), (some (28, true)), false⟩,
  ⟨(some 32), .pick (.t 28) (.t 31) (.c (.b false)), (some (25, false)), false⟩,
  ⟨(some 33), .pick (.t 25) (.c (.b true)) (.t 32), none, false⟩,
  ⟨(some 34), .mv (.t 33), none, true⟩,
  ⟨(some 35), .fa 2 (.t 1), (some (34, false)), false⟩,
  ⟨(some 36), .ld false 1 (.t 35), (some (34, false)), false⟩,
  ⟨(some 37), .mv (.t 36), (some (34, false)), true⟩,
  ⟨(some 38), .fa 6 (.t 1), (some (37, true)), false⟩,
  ⟨(some 39), .ld false 1 (.t 38), (some (37, true)), false⟩,
  ⟨(some 40), .bin .eql (.t 39) (.c (.i .i64 0)), (some (37, true)), false⟩,
  ⟨(some 41), .pick (.t 37) (.t 40) (.c (.b false)), (some (34, false)), false⟩,
  ⟨(some 42), .pick (.t 34) (.c (.b true)) (.t 41), none, true⟩]
abbrev i14r2 : List IOper := [
  ⟨(some 2), .mv (.c (.i .i64 400)), none, false⟩]
abbrev i14r3 : List IOper := [
  ⟨(some 2), .mv (.c (.i .i64 0)), none, false⟩]
abbrev i14c : ICode := (.seq (.reg i14r0) (.seq (.seq (.reg i14r1) (.cond (.t 42) (.seq (.reg i14r2) .ret) .skip)) (.seq (.reg i14r3) .ret)))
def i14 : IFn := { np := 1, N := 43, ct := [42], code := i14c, res := [.t 2] }
theorem i14_eq : compF Try.prog Try.f14 = some i14 := by kernel_rfl
abbrev i15r0 : List IOper := [
  ⟨(some 1), .box (.t 0), none, false⟩,
  ⟨(some 2), .mv (.c (.s [])), none, false⟩,
  ⟨(some 3), .mv (.c (.i .i64 0)), none, false⟩]
abbrev i15r1 : List IOper := [
  ⟨(some 5), .ld true 8 (.t 1), none, false⟩,
  ⟨(some 6), .call (.c (.fn 14 [])) [.t 5], none, false⟩,
  ⟨(some 4), .mv (.t 6), none, false⟩]
abbrev i15r2 : List IOper := [
  ⟨(some 7), .mv (.t 4), none, false⟩,
  ⟨(some 8), .bin .neq (.t 7) (.c (.i .i64 0)), none, true⟩]
abbrev i15r3 : List IOper := [
  ⟨(some 9), .mv (.t 4), none, false⟩,
  ⟨(some 2), .mv (.c (.s [])), none, false⟩,
  ⟨(some 3), .mv (.t 9), none, false⟩]
abbrev i15r4 : List IOper := [
  ⟨(some 10), .ld true 8 (.t 1), none, false⟩,
  ⟨(some 11), .call (.c (.fn 45 [])) [.t 10], none, false⟩,
  ⟨(some 2), .mv (.t 11), none, false⟩,
  ⟨(some 3), .mv (.c (.i .i64 0)), none, false⟩]
abbrev i15c : ICode := (.seq (.reg i15r0) (.seq (.seq (.reg i15r1) (.seq (.reg i15r2) (.cond (.t 8) (.seq (.reg i15r3) .ret) .skip))) (.seq (.reg i15r4) .ret)))
def i15 : IFn := { np := 1, N := 12, ct := [8], code := i15c, res := [.t 2, .t 3] }
theorem i15_eq : compF Try.prog Try.f15 = some i15 := by kernel_rfl
abbrev i18r0 : List IOper := [
  ⟨(some 0), .mv (.c (.b false)), none, false⟩]
abbrev i18r1 : List IOper := [
  ⟨(some 25), .call (.c (.fn 46 [])) [], none, false⟩,
  ⟨(some 1), .new [.b false, .b false, .b false, .b false, .i .i64 0, .i .i64 0, .i .i64 0, .i .i64 0], none, false⟩,
  ⟨none, .st 8 (.t 1) (.t 25), none, false⟩]
abbrev i18r2 : List IOper := [
  ⟨(some 26), .ld true 8 (.t 1), none, false⟩,
  ⟨(some 2), .new [.b false, .b false, .b false, .b false, .i .i64 0, .i .i64 0, .i .i64 0, .i .i64 0], none, false⟩,
  ⟨none, .st 8 (.t 2) (.t 26), none, false⟩]
abbrev i18r3 : List IOper := [
  ⟨(some 27), .fa 3 (.t 2), none, false⟩,
  ⟨none, .st 1 (.t 27) (.c (.b true)), none, false⟩,
  ⟨(some 28), .fa 7 (.t 2), none, false⟩,
  ⟨none, .st 1 (.t 28) (.c (.i .i64 1)), none, false⟩]
abbrev i18r4 : List IOper := [
  ⟨(some 30), .ld true 8 (.t 1), none, false⟩,
  ⟨(some 31), .call (.c (.fn 15 [])) [.t 30], none, false⟩,
  ⟨(some 29), .mv (.t 31), none, false⟩,
  ⟨(some 32), .ext (.t 29) 0, none, false⟩,
  ⟨(some 33), .ext (.t 29) 1, none, false⟩,
  ⟨(some 3), .mv (.t 32), none, false⟩,
  ⟨(some 4), .mv (.t 33), none, false⟩]
abbrev i18r5 : List IOper := [
  ⟨(some 35), .ld true 8 (.t 2), none, false⟩,
  ⟨(some 36), .call (.c (.fn 15 [])) [.t 35], none, false⟩,
  ⟨(some 34), .mv (.t 36), none, false⟩,
  ⟨(some 37), .ext (.t 34) 0, none, false⟩,
  ⟨(some 38), .ext (.t 34) 1, none, false⟩,
  ⟨(some 5), .mv (.t 37), none, false⟩,
  ⟨(some 6), .mv (.t 38), none, false⟩]
abbrev i18r6 : List IOper := [
  ⟨(some 40), .call (.c (.fn 20 [])) [.c (.s [224, 129, 44, 7, 0, 97])], none, false⟩,
  ⟨(some 39), .mv (.t 40), none, false⟩,
  ⟨(some 41), .ext (.t 39) 0, none, false⟩,
  ⟨(some 42), .ext (.t 39) 1, none, false⟩,
  ⟨(some 43), .ext (.t 39) 2, none, false⟩,
  ⟨(some 7), .new [.b false, .b false, .b false, .b false, .i .i64 0, .i .i64 0, .i .i64 0, .i .i64 0], none, false⟩,
  ⟨none, .st 8 (.t 7) (.t 41), none, false⟩,
  ⟨(some 8), .mv (.t 42), none, false⟩,
  ⟨(some 9), .mv (.t 43), none, false⟩]
abbrev i18r7 : List IOper := [
  ⟨(some 45), .call (.c (.fn 20 [])) [.c (.s [224, 1, 44, 7, 0])], none, false⟩,
  ⟨(some 44), .mv (.t 45), none, false⟩,
  ⟨(some 46), .ext (.t 44) 0, none, false⟩,
  ⟨(some 47), .ext (.t 44) 1, none, false⟩,
  ⟨(some 48), .ext (.t 44) 2, none, false⟩,
  ⟨(some 10), .new [.b false, .b false, .b false, .b false, .i .i64 0, .i .i64 0, .i .i64 0, .i .i64 0], none, false⟩,
  ⟨none, .st 8 (.t 10) (.t 46), none, false⟩,
  ⟨(some 11), .mv (.t 47), none, false⟩,
  ⟨(some 12), .mv (.t 48), none, false⟩]
abbrev i18r8 : List IOper := [
  ⟨(some 50), .call (.c (.fn 20 [])) [.c (.s [224, 129])], none, false⟩,
  ⟨(some 49), .mv (.t 50), none, false⟩,
  ⟨(some 51), .ext (.t 49) 0, none, false⟩,
  ⟨(some 52), .ext (.t 49) 1, none, false⟩,
  ⟨(some 53), .ext (.t 49) 2, none, false⟩,
  ⟨(some 13), .new [.b false, .b false, .b false, .b false, .i .i64 0, .i .i64 0, .i .i64 0, .i .i64 0], none, false⟩,
  ⟨none, .st 8 (.t 13) (.t 51), none, false⟩,
  ⟨(some 14), .mv (.t 52), none, false⟩,
  ⟨(some 15), .mv (.t 53), none, false⟩]
abbrev i18r9 : List IOper := [
  ⟨(some 55), .call (.c (.fn 22 [])) [.c (.s [224, 129, 44, 7, 0, 97]), .c (.i .i64 1), .c (.i .i64 2)], none, false⟩,
  ⟨(some 54), .mv (.t 55), none, false⟩,
  ⟨(some 56), .ext (.t 54) 0, none, false⟩,
  ⟨(some 57), .ext (.t 54) 1, none, false⟩,
  ⟨(some 16), .mv (.t 56), none, false⟩,
  ⟨(some 17), .mv (.t 57), none, false⟩]
abbrev i18r10 : List IOper := [
  ⟨(some 59), .build [.b false, .i .i64 0, .i .i64 0, .i .i64 0, .b false, .i .i64 0, .i .i64 0, .i .i64 0, .b false, .i .i64 0, .i .i64 0, .i .i64 0] [], none, false⟩,
  ⟨(some 60), .ld true 8 (.t 1), none, false⟩,
  ⟨(some 61), .build [.b false, .b false, .b false, .b false, .i .i64 0, .i .i64 0, .i .i64 0, .i .i64 0] [(4, 1, .c (.i .i64 301)), (5, 1, .c (.i .i64 8))], none, false⟩,
  ⟨(some 62), .build [.b false, .b false, .b false, .b false, .i .i64 0, .i .i64 0, .i .i64 0, .i .i64 0] [(4, 1, .c (.i .i64 303)), (5, 1, .c (.i .i64 10))], none, false⟩,
  ⟨(some 63), .build [.b false, .b false, .b false, .b false, .i .i64 0, .i .i64 0, .i .i64 0, .i .i64 0] [(4, 1, .c (.i .i64 304)), (5, 1, .c (.i .i64 8)), (6, 1, .c (.i .i64 1))], none, false⟩,
  ⟨(some 64), .bsl [.b false, .b false, .b false, .b false, .i .i64 0, .i .i64 0, .i .i64 0, .i .i64 0, .b false, .b false, .b false, .b false, .i .i64 0, .i .i64 0, .i .i64 0, .i .i64 0, .b false, .b false, .b false, .b false, .i .i64 0, .i .i64 0, .i .i64 0, .i .i64 0, .b false, .b false, .b false, .b false, .i .i64 0, .i .i64 0, .i .i64 0, .i .i64 0] 4 [(0, 8, .t 60), (8, 8, .t 61), (16, 8, .t 62), (24, 8, .t 63)], none, false⟩,
  ⟨(some 65), .call (.c (.fn 34 [])) [.t 59, .t 64], none, false⟩,
  ⟨(some 58), .mv (.t 65), none, false⟩,
  ⟨(some 66), .ext (.t 58) 0, none, false⟩,
  ⟨(some 67), .ext (.t 58) 1, none, false⟩,
  ⟨(some 18), .new [.b false, .i .i64 0, .i .i64 0, .i .i64 0, .b false, .i .i64 0, .i .i64 0, .i .i64 0, .b false, .i .i64 0, .i .i64 0, .i .i64 0], none, false⟩,
  ⟨none, .st 12 (.t 18) (.t 66), none, false⟩,
  ⟨(some 19), .mv (.t 67), none, false⟩]
abbrev i18r11 : List IOper := [
  ⟨(some 69), .build [.b false, .i .i64 0, .i .i64 0, .i .i64 0, .b false, .i .i64 0, .i .i64 0, .i .i64 0, .b false, .i .i64 0, .i .i64 0, .i .i64 0] [], none, false⟩,
  ⟨(some 70), .ld true 8 (.t 1), none, false⟩,
  ⟨(some 71), .build [.b false, .b false, .b false, .b false, .i .i64 0, .i .i64 0, .i .i64 0, .i .i64 0] [(4, 1, .c (.i .i64 301)), (5, 1, .c (.i .i64 7)), (6, 1, .c (.i .i64 1))], none, false⟩,
  ⟨(some 72), .build [.b false, .b false, .b false, .b false, .i .i64 0, .i .i64 0, .i .i64 0, .i .i64 0] [(4, 1, .c (.i .i64 301)), (5, 1, .c (.i .i64 7)), (6, 1, .c (.i .i64 1)), (2, 1, .c (.b true))], none, false⟩,
  ⟨(some 73), .build [.b false, .b false, .b false, .b false, .i .i64 0, .i .i64 0, .i .i64 0, .i .i64 0] [(4, 1, .c (.i .i64 302)), (5, 1, .c (.i .i64 7)), (6, 1, .c (.i .i64 1))], none, false⟩,
  ⟨(some 74), .bsl [.b false, .b false, .b false, .b false, .i .i64 0, .i .i64 0, .i .i64 0, .i .i64 0, .b false, .b false, .b false, .b false, .i .i64 0, .i .i64 0, .i .i64 0, .i .i64 0, .b false, .b false, .b false, .b false, .i .i64 0, .i .i64 0, .i .i64 0, .i .i64 0, .b false, .b false, .b false, .b false, .i .i64 0, .i .i64 0, .i .i64 0, .i .i64 0] 4 [(0, 8, .t 70), (8, 8, .t 71), (16, 8, .t 72), (24, 8, .t 73)], none, false⟩,
  ⟨(some 75), .call (.c (.fn 34 [])) [.t 69, .t 74], none, false⟩,
  ⟨(some 68), .mv (.t 75), none, false⟩,
  ⟨(some 76), .ext (.t 68) 0, none, false⟩,
  ⟨(some 77), .ext (.t 68) 1, none, false⟩,
  ⟨(some 20), .new [.b false, .i .i64 0, .i .i64 0, .i .i64 0, .b false, .i .i64 0, .i .i64 0, .i .i64 0, .b false, .i .i64 0, .i .i64 0, .i .i64 0], none, false⟩,
  ⟨none, .st 12 (.t 20) (.t 76), none, false⟩,
  ⟨(some 21), .mv (.t 77), none, false⟩]
abbrev i18r12 : List IOper := [
  ⟨(some 79), .build [.b false, .i .i64 0, .i .i64 0, .i .i64 0, .b false, .i .i64 0, .i .i64 0, .i .i64 0, .b false, .i .i64 0, .i .i64 0, .i .i64 0] [], none, false⟩,
  ⟨(some 80), .ld true 8 (.t 1), none, false⟩,
  ⟨(some 81), .build [.b false, .b false, .b false, .b false, .i .i64 0, .i .i64 0, .i .i64 0, .i .i64 0] [(1, 1, .c (.b true)), (4, 1, .c (.i .i64 300)), (7, 1, .c (.i .i64 1))], none, false⟩,
  ⟨(some 82), .build [.b false, .b false, .b false, .b false, .i .i64 0, .i .i64 0, .i .i64 0, .i .i64 0] [(1, 1, .c (.b true)), (4, 1, .c (.i .i64 301)), (7, 1, .c (.i .i64 1))], none, false⟩,
  ⟨(some 83), .bsl [.b false, .b false, .b false, .b false, .i .i64 0, .i .i64 0, .i .i64 0, .i .i64 0, .b false, .b false, .b false, .b false, .i .i64 0, .i .i64 0, .i .i64 0, .i .i64 0, .b false, .b false, .b false, .b false, .i .i64 0, .i .i64 0, .i .i64 0, .i .i64 0] 3 [(0, 8, .t 80), (8, 8, .t 81), (16, 8, .t 82)], none, false⟩,
  ⟨(some 84), .call (.c (.fn 34 [])) [.t 79, .t 83], none, false⟩,
  ⟨(some 78), .mv (.t 84), none, false⟩,
  ⟨(some 85), .ext (.t 78) 0, none, false⟩,
  ⟨(some 86), .ext (.t 78) 1, none, false⟩,
  ⟨(some 22), .new [.b false, .i .i64 0, .i .i64 0, .i .i64 0, .b false, .i .i64 0, .i .i64 0, .i .i64 0, .b false, .i .i64 0, .i .i64 0, .i .i64 0], none, false⟩,
  ⟨none, .st 12 (.t 22) (.t 85), none, false⟩,
  ⟨(some 23), .mv (.t 86), none, false⟩]
abbrev i18r13 : List IOper := [
  ⟨(some 87), .mv (.t 3), none, false⟩,
  ⟨(some 88), .bin .eql (.t 87) (.c (.s [224, 129, 44, 7, 0])), none, false⟩,
  ⟨(some 89), .mv (.t 88), none, true⟩,
  ⟨(some 90), .mv (.t 4), (some (89, true)), false⟩,
  ⟨(some 91), .bin .eql (.t 90) (.c (.i .i64 0)), (some (89, true)), false⟩,
  ⟨(some 92), .pick (.t 89) (.t 91) (.c (.b false)), none, false⟩,
  ⟨(some 93), .mv (.t 92), none, true⟩,
  ⟨(some 94), .mv (.t 5), (some (93, true)), false⟩,
  ⟨(some 95), .bin .eql (.t 94) (.c (.s [232, 129, 44, 7, 16])), (some (93, true)), false⟩,
  ⟨(some 96), .pick (.t 93) (.t 95) (.c (.b false)), none, false⟩,
  ⟨(some 97), .mv (.t 96), none, true⟩,
  ⟨(some 98), .mv (.t 6), (some (97, true)), false⟩,
  ⟨(some 99), .bin .eql (.t 98) (.c (.i .i64 0)), (some (97, true)), false⟩,
  ⟨(some 100), .pick (.t 97) (.t 99) (.c (.b false)), none, false⟩,
  ⟨(some 101), .mv (.t 100), none, true⟩,
  ⟨(some 102), .ld true 8 (.t 7), (some (101, true)), false⟩,
  ⟨(some 103), .ld true 8 (.t 1), (some (101, true)), false⟩,
  ⟨(some 104), .eqk false true [.b, .b, .b, .b, .i, .i, .i, .i] (.t 102) (.t 103), (some (101, true)), false⟩,
  ⟨(some 105), .pick (.t 101) (.t 104) (.c (.b false)), none, false⟩,
  ⟨(some 106), .mv (.t 105), none, true⟩,
  ⟨(some 107), .mv (.t 8), (some (106, true)), false⟩,
  ⟨(some 108), .bin .eql (.t 107) (.c (.s [97])), (some (106, true)), false⟩,
  ⟨(some 109), .pick (.t 106) (.t 108) (.c (.b false)), none, false⟩,
  ⟨(some 110), .mv (.t 109), none, true⟩,
  ⟨(some 111), .mv (.t 9), (some (110, true)), false⟩,
  ⟨(some 112), .bin .eql (.t 111) (.c (.i .i64 0)), (some (110, true)), false⟩,
  ⟨(some 113), .pick (.t 110) (.t 112) (.c (.b false)), none, false⟩,
  ⟨(some 114), .mv (.t 113), none, true⟩,
  ⟨(some 115), .mv (.t 12), (some (114, true)), false⟩,
  ⟨(some 116), .bin .eql (.t 115) (.c (.i .i64 5)), (some (114, true)), false⟩,
  ⟨(some 117), .pick (.t 114) (.t 116) (.c (.b false)), none, false⟩,
  ⟨(some 118), .mv (.t 117), none, true⟩,
  ⟨(some 119), .mv (.t 15), (some (118, true)), false⟩,
  ⟨(some 120), .bin .eql (.t 119) (.c (.i .i64 7)), (some (118, true)), false⟩,
  ⟨(some 121), .pick (.t 118) (.t 120) (.c (.b false)), none, false⟩,
  ⟨(some 122), .mv (.t 121), none, true⟩,
  ⟨(some 123), .mv (.t 16), (some (122, true)), false⟩,
  ⟨(some 124), .bin .eql (.t 123) (.c (.s [224, 128, 1, 2, 0, 97])), (some (122, true)), false⟩,
  ⟨(some 125), .pick (.t 122) (.t 124) (.c (.b false)), none, false⟩,
  ⟨(some 126), .mv (.t 125), none, true⟩,
  ⟨(some 127), .mv (.t 17), (some (126, true)), false⟩,
  ⟨(some 128), .bin .eql (.t 127) (.c (.i .i64 0)), (some (126, true)), false⟩,
  ⟨(some 129), .pick (.t 126) (.t 128) (.c (.b false)), none, false⟩,
  ⟨(some 24), .mv (.t 129), none, false⟩]
abbrev i18r14 : List IOper := [
  ⟨(some 130), .mv (.t 24), none, false⟩,
  ⟨(some 131), .mv (.t 130), none, true⟩,
  ⟨(some 132), .call (.c (.fn 47 [])) [.c (.fn 48 [])], (some (131, true)), false⟩,
  ⟨(some 133), .pick (.t 131) (.t 132) (.c (.b false)), none, false⟩,
  ⟨(some 134), .mv (.t 133), none, true⟩,
  ⟨(some 135), .call (.c (.fn 47 [])) [.c (.fn 49 [])], (some (134, true)), false⟩,
  ⟨(some 136), .pick (.t 134) (.t 135) (.c (.b false)), none, false⟩,
  ⟨(some 137), .mv (.t 136), none, true⟩,
  ⟨(some 138), .call (.c (.fn 47 [])) [.c (.fn 50 [])], (some (137, true)), false⟩,
  ⟨(some 139), .pick (.t 137) (.t 138) (.c (.b false)), none, false⟩,
  ⟨(some 24), .mv (.t 139), none, false⟩]
abbrev i18r15 : List IOper := [
  ⟨(some 140), .mv (.t 24), none, false⟩,
  ⟨(some 141), .mv (.t 140), none, true⟩,
  ⟨(some 142), .mv (.t 19), (some (141, true)), false⟩,
  ⟨(some 143), .bsl [.b false, .b false, .b false, .b false] 4 [(0, 1, .c (.b true)), (1, 1, .c (.b true)), (2, 1, .c (.b false)), (3, 1, .c (.b false))], (some (141, true)), false⟩,
  ⟨(some 144), .call (.c (.fn 37 [])) [.t 142, .t 143], (some (141, true)), false⟩,
  ⟨(some 145), .pick (.t 141) (.t 144) (.c (.b false)), none, false⟩,
  ⟨(some 146), .mv (.t 145), none, true⟩,
  ⟨(some 147), .ld true 12 (.t 18), (some (146, true)), false⟩,
  ⟨(some 148), .build [.b false, .i .i64 0, .i .i64 0, .i .i64 0, .b false, .i .i64 0, .i .i64 0, .i .i64 0, .b false, .i .i64 0, .i .i64 0, .i .i64 0] [], (some (146, true)), false⟩,
  ⟨(some 149), .eqk false true [.b, .i, .i, .i, .b, .i, .i, .i, .b, .i, .i, .i] (.t 147) (.t 148), (some (146, true)), false⟩,
  ⟨(some 150), .pick (.t 146) (.t 149) (.c (.b false)), none, false⟩,
  ⟨(some 151), .mv (.t 150), none, true⟩,
  ⟨(some 152), .mv (.t 21), (some (151, true)), false⟩,
  ⟨(some 153), .bsl [.b false, .b false, .b false, .b false] 4 [(0, 1, .c (.b true)), (1, 1, .c (.b false)), (2, 1, .c (.b true)), (3, 1, .c (.b true))], (some (151, true)), false⟩,
  ⟨(some 154), .call (.c (.fn 37 [])) [.t 152, .t 153], (some (151, true)), false⟩,
  ⟨(some 155), .pick (.t 151) (.t 154) (.c (.b false)), none, false⟩,
  ⟨(some 156), .mv (.t 155), none, true⟩,
  ⟨(some 157), .fa 0 (.t 20), (some (156, true)), false⟩,
  ⟨(some 158), .ixaA 3 4 (.t 157) (.c (.i .i64 0)), (some (156, true)), false⟩,
  ⟨(some 159), .ld true 4 (.t 158), (some (156, true)), false⟩,
  ⟨(some 160), .build [.b false, .i .i64 0, .i .i64 0, .i .i64 0] [(0, 1, .c (.b true)), (1, 1, .c (.i .i64 302)), (2, 1, .c (.i .i64 7)), (3, 1, .c (.i .i64 1))], (some (156, true)), false⟩,
  ⟨(some 161), .eqk false true [.b, .i, .i, .i] (.t 159) (.t 160), (some (156, true)), false⟩,
  ⟨(some 162), .pick (.t 156) (.t 161) (.c (.b false)), none, false⟩,
  ⟨(some 163), .mv (.t 162), none, true⟩,
  ⟨(some 164), .mv (.t 23), (some (163, true)), false⟩,
  ⟨(some 165), .bsl [.b false, .b false, .b false] 3 [(0, 1, .c (.b true)), (1, 1, .c (.b true)), (2, 1, .c (.b false))], (some (163, true)), false⟩,
  ⟨(some 166), .call (.c (.fn 37 [])) [.t 164, .t 165], (some (163, true)), false⟩,
  ⟨(some 167), .pick (.t 163) (.t 166) (.c (.b false)), none, false⟩,
  ⟨(some 0), .mv (.t 167), none, false⟩]
abbrev i18c : ICode := (.seq (.reg i18r0) (.seq (.reg i18r1) (.seq (.reg i18r2) (.seq (.reg i18r3) (.seq (.reg i18r4) (.seq (.reg i18r5) (.seq (.reg i18r6) (.seq (.reg i18r7) (.seq (.reg i18r8) (.seq (.reg i18r9) (.seq (.reg i18r10) (.seq (.reg i18r11) (.seq (.reg i18r12) (.seq (.reg i18r13) (.seq (.reg i18r14) (.seq (.reg i18r15) .ret))))))))))))))))
def i18 : IFn := { np := 0, N := 168, ct := [], code := i18c, res := [.t 0] }
theorem i18_eq : compF Try.prog Try.f18 = some i18 := by kernel_rfl
abbrev i20r0 : List IOper := [
  ⟨(some 2), .new [.b false, .b false, .b false, .b false, .i .i64 0, .i .i64 0, .i .i64 0, .i .i64 0], none, false⟩,
  ⟨(some 3), .mv (.c (.s [])), none, false⟩,
  ⟨(some 4), .mv (.c (.i .i64 0)), none, false⟩]
abbrev i20r1 : List IOper := [
  ⟨(some 7), .mv (.t 0), none, false⟩,
  ⟨(some 8), .lenS (.t 7), none, false⟩,
  ⟨(some 9), .bin .lss (.t 8) (.c (.i .i64 5)), none, true⟩]
abbrev i20r2 : List IOper := [
  ⟨(some 10), .build [.b false, .b false, .b false, .b false, .i .i64 0, .i .i64 0, .i .i64 0, .i .i64 0] [], none, false⟩,
  ⟨none, .st 8 (.t 2) (.t 10), none, false⟩,
  ⟨(some 3), .mv (.c (.s [])), none, false⟩,
  ⟨(some 4), .mv (.c (.i .i64 7)), none, false⟩]
abbrev i20r3 : List (IOper × List Nat) := [
  (⟨(some 11), .mv (.t 0), none, false⟩, []),
  (⟨(some 12), .ixS (.t 11) (.c (.i .i64 0)), none, false⟩, []),
  (⟨(some 13), .mv (.t 0), none, false⟩, [0, 1]),
  (⟨(some 14), .ixS (.t 13) (.c (.i .i64 4)), none, false⟩, [0, 1]),
  (⟨(some 5), .mv (.t 12), none, false⟩, [2, 3]),
  (⟨(some 6), .mv (.t 14), none, false⟩, [])]
abbrev i20r4 : List (IOper × List Nat) := [
  (⟨(some 15), .mv (.t 5), none, false⟩, []),
  (⟨(some 16), .bin .and (.t 15) (.c (.i .u8 64)), none, false⟩, []),
  (⟨(some 17), .bin .neq (.t 16) (.c (.i .u8 0)), none, false⟩, []),
  (⟨(some 18), .mv (.t 5), none, false⟩, [0, 1, 2]),
  (⟨(some 19), .bin .and (.t 18) (.c (.i .u8 32)), none, false⟩, [0, 1, 2]),
  (⟨(some 20), .bin .neq (.t 19) (.c (.i .u8 0)), none, false⟩, [0, 1, 2]),
  (⟨(some 21), .mv (.t 5), none, false⟩, [0, 1, 2, 3, 4, 5]),
  (⟨(some 22), .bin .and (.t 21) (.c (.i .u8 16)), none, false⟩, [0, 1, 2, 3, 4, 5]),
  (⟨(some 23), .bin .neq (.t 22) (.c (.i .u8 0)), none, false⟩, [0, 1, 2, 3, 4, 5]),
  (⟨(some 24), .mv (.t 5), none, false⟩, [0, 1, 2, 3, 4, 5, 6, 7, 8]),
  (⟨(some 25), .bin .and (.t 24) (.c (.i .u8 8)), none, false⟩, [0, 1, 2, 3, 4, 5, 6, 7, 8]),
  (⟨(some 26), .bin .neq (.t 25) (.c (.i .u8 0)), none, false⟩, [0, 1, 2, 3, 4, 5, 6, 7, 8]),
  (⟨(some 27), .mv (.t 0), none, false⟩, [0, 1, 2, 3, 4, 5, 6, 7, 8, 9, 10, 11]),
  (⟨(some 28), .ixS (.t 27) (.c (.i .i64 1)), none, false⟩, [0, 1, 2, 3, 4, 5, 6, 7, 8, 9, 10, 11]),
  (⟨(some 29), .bin .and (.t 28) (.c (.i .u8 127)), none, false⟩, [0, 1, 2, 3, 4, 5, 6, 7, 8, 9, 10, 11]),
  (⟨(some 30), .i2i .i64 (.t 29), none, false⟩, [0, 1, 2, 3, 4, 5, 6, 7, 8, 9, 10, 11]),
  (⟨(some 31), .bin .shl (.t 30) (.c (.i .u64 8)), none, false⟩, [0, 1, 2, 3, 4, 5, 6, 7, 8, 9, 10, 11]),
  (⟨(some 32), .mv (.t 0), none, false⟩, [0, 1, 2, 3, 4, 5, 6, 7, 8, 9, 10, 11, 12, 13, 14, 15, 16]),
  (⟨(some 33), .ixS (.t 32) (.c (.i .i64 2)), none, false⟩, [0, 1, 2, 3, 4, 5, 6, 7, 8, 9, 10, 11, 12, 13, 14, 15, 16]),
  (⟨(some 34), .i2i .i64 (.t 33), none, false⟩, [0, 1, 2, 3, 4, 5, 6, 7, 8, 9, 10, 11, 12, 13, 14, 15, 16]),
  (⟨(some 35), .bin .or (.t 31) (.t 34), none, false⟩, [0, 1, 2, 3, 4, 5, 6, 7, 8, 9, 10, 11]),
  (⟨(some 36), .mv (.t 0), none, false⟩, [0, 1, 2, 3, 4, 5, 6, 7, 8, 9, 10, 11, 12, 13, 14, 15, 16, 17, 18, 19, 20]),
  (⟨(some 37), .ixS (.t 36) (.c (.i .i64 3)), none, false⟩, [0, 1, 2, 3, 4, 5, 6, 7, 8, 9, 10, 11, 12, 13, 14, 15, 16, 17, 18, 19, 20]),
  (⟨(some 38), .i2i .i64 (.t 37), none, false⟩, [0, 1, 2, 3, 4, 5, 6, 7, 8, 9, 10, 11, 12, 13, 14, 15, 16, 17, 18, 19, 20]),
  (⟨(some 39), .mv (.t 6), none, false⟩, [0, 1, 2, 3, 4, 5, 6, 7, 8, 9, 10, 11, 12, 13, 14, 15, 16, 17, 18, 19, 20, 21, 22, 23]),
  (⟨(some 40), .bin .shr (.t 39) (.c (.i .u64 6)), none, false⟩, [0, 1, 2, 3, 4, 5, 6, 7, 8, 9, 10, 11, 12, 13, 14, 15, 16, 17, 18, 19, 20, 21, 22, 23]),
  (⟨(some 41), .i2i .i64 (.t 40), none, false⟩, [0, 1, 2, 3, 4, 5, 6, 7, 8, 9, 10, 11, 12, 13, 14, 15, 16, 17, 18, 19, 20, 21, 22, 23]),
  (⟨(some 42), .mv (.t 6), none, false⟩, [0, 1, 2, 3, 4, 5, 6, 7, 8, 9, 10, 11, 12, 13, 14, 15, 16, 17, 18, 19, 20, 21, 22, 23, 24, 25, 26]),
  (⟨(some 43), .bin .shr (.t 42) (.c (.i .u64 4)), none, false⟩, [0, 1, 2, 3, 4, 5, 6, 7, 8, 9, 10, 11, 12, 13, 14, 15, 16, 17, 18, 19, 20, 21, 22, 23, 24, 25, 26]),
  (⟨(some 44), .bin .and (.t 43) (.c (.i .u8 3)), none, false⟩, [0, 1, 2, 3, 4, 5, 6, 7, 8, 9, 10, 11, 12, 13, 14, 15, 16, 17, 18, 19, 20, 21, 22, 23, 24, 25, 26]),
  (⟨(some 45), .i2i .i64 (.t 44), none, false⟩, [0, 1, 2, 3, 4, 5, 6, 7, 8, 9, 10, 11, 12, 13, 14, 15, 16, 17, 18, 19, 20, 21, 22, 23, 24, 25, 26]),
  (⟨(some 46), .build [.b false, .b false, .b false, .b false, .i .i64 0, .i .i64 0, .i .i64 0, .i .i64 0] [(0, 1, .t 17), (1, 1, .t 20), (2, 1, .t 23), (3, 1, .t 26), (4, 1, .t 35), (5, 1, .t 38), (6, 1, .t 41), (7, 1, .t 45)], none, false⟩, []),
  (⟨none, .st 8 (.t 2) (.t 46), none, false⟩, [])]
abbrev i20r5 : List IOper := [
  ⟨(some 47), .mv (.t 5), none, false⟩,
  ⟨(some 48), .bin .and (.t 47) (.c (.i .u8 135)), none, false⟩,
  ⟨(some 49), .bin .neq (.t 48) (.c (.i .u8 128)), none, false⟩,
  ⟨(some 50), .mv (.t 49), none, true⟩,
  ⟨(some 51), .mv (.t 0), (some (50, false)), false⟩,
  ⟨(some 52), .ixS (.t 51) (.c (.i .i64 1)), (some (50, false)), false⟩,
  ⟨(some 53), .bin .lss (.t 52) (.c (.i .u8 128)), (some (50, false)), false⟩,
  ⟨(some 54), .pick (.t 50) (.c (.b true)) (.t 53), none, false⟩,
  ⟨(some 55), .mv (.t 54), none, true⟩,
  ⟨(some 56), .mv (.t 6), (some (55, false)), false⟩,
  ⟨(some 57), .bin .and (.t 56) (.c (.i .u8 15)), (some (55, false)), false⟩,
  ⟨(some 58), .bin .neq (.t 57) (.c (.i .u8 0)), (some (55, false)), false⟩,
  ⟨(some 59), .pick (.t 55) (.c (.b true)) (.t 58), none, false⟩,
  ⟨(some 60), .mv (.t 59), none, true⟩,
  ⟨(some 61), .ld true 8 (.t 2), (some (60, false)), false⟩,
  ⟨(some 62), .call (.c (.fn 14 [])) [.t 61], (some (60, false)), false⟩,
  ⟨(some 63), .bin .neq (.t 62) (.c (.i .i64 0)), (some (60, false)), false⟩,
  ⟨(some 64), .pick (.t 60) (.c (.b true)) (.t 63), none, true⟩]
abbrev i20r6 : List IOper := [
  ⟨(some 65), .build [.b false, .b false, .b false, .b false, .i .i64 0, .i .i64 0, .i .i64 0, .i .i64 0] [], none, false⟩,
  ⟨none, .st 8 (.t 2) (.t 65), none, false⟩,
  ⟨(some 3), .mv (.c (.s [])), none, false⟩,
  ⟨(some 4), .mv (.c (.i .i64 5)), none, false⟩]
abbrev i20r7 : List (IOper × List Nat) := [
  (⟨(some 66), .ld true 8 (.t 2), none, false⟩, []),
  (⟨(some 67), .mv (.t 0), none, false⟩, [0]),
  (⟨(some 68), .slS (.t 67) (some (.c (.i .i64 5))) none, none, false⟩, [0]),
  (⟨none, .st 8 (.t 2) (.t 66), none, false⟩, [1, 2]),
  (⟨(some 3), .mv (.t 68), none, false⟩, []),
  (⟨(some 4), .mv (.c (.i .i64 0)), none, false⟩, [])]
abbrev i20c : ICode := (.seq (.reg i20r0) (.seq (.seq (.reg i20r1) (.cond (.t 9) (.seq (.reg i20r2) .ret) .skip)) (.seq (.dreg i20r3) (.seq (.dreg i20r4) (.seq (.seq (.reg i20r5) (.cond (.t 64) (.seq (.reg i20r6) .ret) .skip)) (.seq (.dreg i20r7) .ret))))))
def i20 : IFn := { np := 1, N := 69, ct := [9, 64], code := i20c, res := [.c 2 true 8, .t 3, .t 4] }
theorem i20_eq : compF Try.prog Try.f20 = some i20 := by kernel_rfl
abbrev i22r0 : List IOper := [
  ⟨(some 6), .mv (.c (.s [])), none, false⟩,
  ⟨(some 7), .mv (.c (.i .i64 0)), none, false⟩]
abbrev i22r1 : List IOper := [
  ⟨(some 12), .mv (.t 0), none, false⟩,
  ⟨(some 13), .call (.c (.fn 20 [])) [.t 12], none, false⟩,
  ⟨(some 11), .mv (.t 13), none, false⟩,
  ⟨(some 14), .ext (.t 11) 0, none, false⟩,
  ⟨(some 15), .ext (.t 11) 1, none, false⟩,
  ⟨(some 16), .ext (.t 11) 2, none, false⟩,
  ⟨(some 8), .new [.b false, .b false, .b false, .b false, .i .i64 0, .i .i64 0, .i .i64 0, .i .i64 0], none, false⟩,
  ⟨none, .st 8 (.t 8) (.t 14), none, false⟩,
  ⟨(some 9), .mv (.t 15), none, false⟩,
  ⟨(some 10), .mv (.t 16), none, false⟩]
abbrev i22r2 : List IOper := [
  ⟨(some 17), .mv (.t 10), none, false⟩,
  ⟨(some 18), .bin .neq (.t 17) (.c (.i .i64 0)), none, true⟩]
abbrev i22r3 : List IOper := [
  ⟨(some 19), .mv (.t 10), none, false⟩,
  ⟨(some 6), .mv (.c (.s [])), none, false⟩,
  ⟨(some 7), .mv (.t 19), none, false⟩]
abbrev i22r4 : List IOper := [
  ⟨(some 20), .mv (.t 1), none, false⟩,
  ⟨(some 21), .call (.c (.fn 44 [])) [.c (.i .i64 32767), .t 20], none, false⟩,
  ⟨(some 22), .not (.t 21), none, false⟩,
  ⟨(some 23), .mv (.t 22), none, true⟩,
  ⟨(some 24), .mv (.t 2), (some (23, false)), false⟩,
  ⟨(some 25), .call (.c (.fn 44 [])) [.c (.i .i64 255), .t 24], (some (23, false)), false⟩,
  ⟨(some 26), .not (.t 25), (some (23, false)), false⟩,
  ⟨(some 27), .pick (.t 23) (.c (.b true)) (.t 26), none, true⟩]
abbrev i22r5 : List IOper := [
  ⟨(some 6), .mv (.c (.s [])), none, false⟩,
  ⟨(some 7), .mv (.c (.i .i64 2)), none, false⟩]
abbrev i22r6 : List IOper := [
  ⟨(some 28), .mv (.t 1), none, false⟩,
  ⟨(some 29), .mv (.t 2), none, false⟩,
  ⟨(some 30), .fa 4 (.t 8), none, false⟩,
  ⟨none, .st 1 (.t 30) (.t 28), none, false⟩,
  ⟨(some 31), .fa 5 (.t 8), none, false⟩,
  ⟨none, .st 1 (.t 31) (.t 29), none, false⟩]
abbrev i22r7 : List IOper := [
  ⟨(some 32), .ld true 8 (.t 8), none, false⟩,
  ⟨(some 33), .call (.c (.fn 45 [])) [.t 32], none, false⟩,
  ⟨(some 34), .mv (.t 9), none, false⟩,
  ⟨(some 35), .bin .add (.t 33) (.t 34), none, false⟩,
  ⟨(some 6), .mv (.t 35), none, false⟩,
  ⟨(some 7), .mv (.c (.i .i64 0)), none, false⟩]
abbrev i22c : ICode := (.seq (.reg i22r0) (.seq (.reg i22r1) (.seq (.seq (.reg i22r2) (.cond (.t 18) (.seq (.reg i22r3) .ret) .skip)) (.seq (.seq (.reg i22r4) (.cond (.t 27) (.seq (.reg i22r5) .ret) .skip)) (.seq (.reg i22r6) (.seq (.reg i22r7) .ret))))))
def i22 : IFn := { np := 3, N := 36, ct := [18, 27], code := i22c, res := [.t 6, .t 7] }
theorem i22_eq : compF Try.prog Try.f22 = some i22 := by kernel_rfl
abbrev i26r0 : List IOper := [
  ⟨(some 1), .box (.t 0), none, false⟩,
  ⟨(some 2), .mv (.c (.i .i64 0)), none, false⟩]
abbrev i26r1 : List IOper := [
  ⟨(some 6), .fa 0 (.t 1), none, false⟩,
  ⟨(some 7), .ld true 12 (.t 6), none, false⟩,
  ⟨(some 8), .build [.b false, .i .i64 0, .i .i64 0, .i .i64 0, .b false, .i .i64 0, .i .i64 0, .i .i64 0, .b false, .i .i64 0, .i .i64 0, .i .i64 0] [], none, false⟩,
  ⟨(some 9), .eqk false true [.b, .i, .i, .i, .b, .i, .i, .i, .b, .i, .i, .i] (.t 7) (.t 8), none, true⟩]
abbrev i26r2 : List IOper := [
  ⟨(some 2), .mv (.c (.i .i64 0)), none, false⟩]
abbrev i26r3 : List IOper := [
  ⟨(some 10), .fa 0 (.t 1), none, false⟩,
  ⟨(some 11), .ld true 12 (.t 10), none, false⟩,
  ⟨(some 12), .mv (.c (.i .i64 0)), none, false⟩]
abbrev i26r4 : List IOper := [
  ⟨(some 13), .bin .lss (.t 12) (.c (.i .i64 3)), none, true⟩]
abbrev i26r5 : List IOper := [
  ⟨(some 14), .mv (.t 12), none, false⟩,
  ⟨(some 15), .ixA 3 4 true (.t 11) (.t 12), none, false⟩,
  ⟨(some 4), .new [.b false, .i .i64 0, .i .i64 0, .i .i64 0], none, false⟩,
  ⟨(some 3), .mv (.t 14), none, false⟩,
  ⟨none, .st 4 (.t 4) (.t 15), none, false⟩]
abbrev i26r6 : List IOper := [
  ⟨(some 16), .fa 1 (.t 4), none, false⟩,
  ⟨(some 17), .ld false 1 (.t 16), none, false⟩,
  ⟨(some 18), .call (.c (.fn 44 [])) [.c (.i .i64 32767), .t 17], none, false⟩,
  ⟨(some 19), .mv (.t 18), none, true⟩,
  ⟨(some 20), .fa 2 (.t 4), (some (19, true)), false⟩,
  ⟨(some 21), .ld false 1 (.t 20), (some (19, true)), false⟩,
  ⟨(some 22), .call (.c (.fn 44 [])) [.c (.i .i64 255), .t 21], (some (19, true)), false⟩,
  ⟨(some 23), .pick (.t 19) (.t 22) (.c (.b false)), none, false⟩,
  ⟨(some 24), .mv (.t 23), none, true⟩,
  ⟨(some 25), .fa 3 (.t 4), (some (24, true)), false⟩,
  ⟨(some 26), .ld false 1 (.t 25), (some (24, true)), false⟩,
  ⟨(some 27), .call (.c (.fn 44 [])) [.c (.i .i64 3), .t 26], (some (24, true)), false⟩,
  ⟨(some 28), .pick (.t 24) (.t 27) (.c (.b false)), none, false⟩,
  ⟨(some 29), .mv (.t 28), none, true⟩,
  ⟨(some 30), .fa 0 (.t 4), (some (29, true)), false⟩,
  ⟨(some 31), .ld false 1 (.t 30), (some (29, true)), false⟩,
  ⟨(some 32), .mv (.t 31), (some (29, true)), true⟩,
  ⟨(some 33), .ld true 4 (.t 4), (some (32, false)), false⟩,
  ⟨(some 34), .build [.b false, .i .i64 0, .i .i64 0, .i .i64 0] [], (some (32, false)), false⟩,
  ⟨(some 35), .eqk false true [.b, .i, .i, .i] (.t 33) (.t 34), (some (32, false)), false⟩,
  ⟨(some 36), .pick (.t 32) (.c (.b true)) (.t 35), (some (29, true)), false⟩,
  ⟨(some 37), .pick (.t 29) (.t 36) (.c (.b false)), none, false⟩,
  ⟨(some 5), .mv (.t 37), none, false⟩]
abbrev i26r7 : List IOper := [
  ⟨(some 38), .mv (.t 5), none, false⟩,
  ⟨(some 39), .not (.t 38), none, false⟩,
  ⟨(some 40), .mv (.t 39), none, true⟩,
  ⟨(some 41), .fa 0 (.t 4), (some (40, false)), false⟩,
  ⟨(some 42), .ld false 1 (.t 41), (some (40, false)), false⟩,
  ⟨(some 43), .mv (.t 42), (some (40, false)), true⟩,
  ⟨(some 44), .mv (.t 3), (some (43, true)), false⟩,
  ⟨(some 45), .bin .gtr (.t 44) (.c (.i .i64 0)), (some (43, true)), false⟩,
  ⟨(some 46), .pick (.t 43) (.t 45) (.c (.b false)), (some (40, false)), false⟩,
  ⟨(some 47), .mv (.t 46), (some (40, false)), true⟩,
  ⟨(some 48), .mv (.t 3), (some (47, true)), false⟩,
  ⟨(some 49), .bin .sub (.t 48) (.c (.i .i64 1)), (some (47, true)), false⟩,
  ⟨(some 50), .fa 0 (.t 1), (some (47, true)), false⟩,
  ⟨(some 51), .ixaA 3 4 (.t 50) (.t 49), (some (47, true)), false⟩,
  ⟨(some 52), .fa 0 (.t 51), (some (47, true)), false⟩,
  ⟨(some 53), .ld false 1 (.t 52), (some (47, true)), false⟩,
  ⟨(some 54), .not (.t 53), (some (47, true)), false⟩,
  ⟨(some 55), .pick (.t 47) (.t 54) (.c (.b false)), (some (40, false)), false⟩,
  ⟨(some 56), .pick (.t 40) (.c (.b true)) (.t 55), none, true⟩]
abbrev i26r8 : List IOper := [
  ⟨(some 2), .mv (.c (.i .i64 402)), none, false⟩]
abbrev i26r9 : List IOper := [
  ⟨(some 57), .bin .add (.t 12) (.c (.i .i64 1)), none, false⟩,
  ⟨(some 12), .mv (.t 57), none, false⟩]
abbrev i26l10 : ICode := (.seq (.reg i26r4) (.seq (.cond (.t 13) .skip (.exit 0)) (.seq (.block 1 (.seq (.reg i26r5) (.seq (.reg i26r6) (.seq (.reg i26r7) (.cond (.t 56) (.seq (.reg i26r8) .ret) .skip))))) (.reg i26r9))))
abbrev i26r11 : List IOper := [
  ⟨(some 2), .mv (.c (.i .i64 0)), none, false⟩]
abbrev i26c : ICode := (.seq (.reg i26r0) (.seq (.seq (.reg i26r1) (.cond (.t 9) (.seq (.reg i26r2) .ret) .skip)) (.seq (.seq (.reg i26r3) (.block 0 (.loop i26l10))) (.seq (.reg i26r11) .ret))))
def i26 : IFn := { np := 1, N := 58, ct := [9, 13, 56], code := i26c, res := [.t 2] }
theorem i26_eq : compF Try.prog Try.f26 = some i26 := by kernel_rfl
abbrev i28r0 : List IOper := [
  ⟨(some 2), .box (.t 0), none, false⟩,
  ⟨(some 3), .box (.t 1), none, false⟩,
  ⟨(some 4), .new [.b false, .i .i64 0, .i .i64 0, .i .i64 0, .b false, .i .i64 0, .i .i64 0, .i .i64 0, .b false, .i .i64 0, .i .i64 0, .i .i64 0], none, false⟩,
  ⟨(some 5), .mv (.c (.b false)), none, false⟩,
  ⟨(some 6), .mv (.c (.i .i64 0)), none, false⟩]
abbrev i28r1 : List IOper := [
  ⟨(some 10), .ld true 12 (.t 2), none, false⟩,
  ⟨(some 11), .call (.c (.fn 26 [])) [.t 10], none, false⟩,
  ⟨(some 7), .mv (.t 11), none, false⟩]
abbrev i28r2 : List IOper := [
  ⟨(some 12), .mv (.t 7), none, false⟩,
  ⟨(some 13), .bin .neq (.t 12) (.c (.i .i64 0)), none, true⟩]
abbrev i28r3 : List IOper := [
  ⟨(some 14), .build [.b false, .i .i64 0, .i .i64 0, .i .i64 0, .b false, .i .i64 0, .i .i64 0, .i .i64 0, .b false, .i .i64 0, .i .i64 0, .i .i64 0] [], none, false⟩,
  ⟨(some 15), .mv (.t 7), none, false⟩,
  ⟨none, .st 12 (.t 4) (.t 14), none, false⟩,
  ⟨(some 5), .mv (.c (.b false)), none, false⟩,
  ⟨(some 6), .mv (.t 15), none, false⟩]
abbrev i28r4 : List IOper := [
  ⟨(some 16), .ld true 8 (.t 3), none, false⟩,
  ⟨(some 17), .call (.c (.fn 14 [])) [.t 16], none, false⟩,
  ⟨(some 8), .mv (.t 17), none, false⟩]
abbrev i28r5 : List IOper := [
  ⟨(some 18), .mv (.t 8), none, false⟩,
  ⟨(some 19), .bin .neq (.t 18) (.c (.i .i64 0)), none, true⟩]
abbrev i28r6 : List IOper := [
  ⟨(some 20), .build [.b false, .i .i64 0, .i .i64 0, .i .i64 0, .b false, .i .i64 0, .i .i64 0, .i .i64 0, .b false, .i .i64 0, .i .i64 0, .i .i64 0] [], none, false⟩,
  ⟨(some 21), .mv (.t 8), none, false⟩,
  ⟨none, .st 12 (.t 4) (.t 20), none, false⟩,
  ⟨(some 5), .mv (.c (.b false)), none, false⟩,
  ⟨(some 6), .mv (.t 21), none, false⟩]
abbrev i28r7 : List IOper := [
  ⟨(some 22), .ld true 12 (.t 2), none, false⟩,
  ⟨(some 23), .ld true 8 (.t 3), none, false⟩,
  ⟨(some 24), .build [.b false, .i .i64 0, .i .i64 0, .i .i64 0, .b false, .i .i64 0, .i .i64 0, .i .i64 0, .b false, .i .i64 0, .i .i64 0, .i .i64 0, .b false, .b false, .b false, .b false, .i .i64 0, .i .i64 0, .i .i64 0, .i .i64 0] [(0, 12, .t 22), (12, 8, .t 23)], none, false⟩,
  ⟨(some 25), .box (.t 24), none, false⟩,
  ⟨(some 9), .mv (.t 25), none, false⟩]
abbrev i28r8 : List IOper := [
  ⟨(some 26), .mv (.t 9), none, false⟩,
  ⟨(some 27), .call (.c (.fn 52 [])) [.t 26], none, false⟩,
  ⟨(some 5), .mv (.t 27), none, false⟩]
abbrev i28r9 : List IOper := [
  ⟨(some 28), .mv (.t 9), none, false⟩,
  ⟨(some 29), .nck (.t 28), none, false⟩,
  ⟨(some 30), .fa 0 (.t 29), none, false⟩,
  ⟨(some 31), .ld true 12 (.t 30), none, false⟩,
  ⟨(some 32), .mv (.t 5), none, false⟩,
  ⟨none, .st 12 (.t 4) (.t 31), none, false⟩,
  ⟨(some 5), .mv (.t 32), none, false⟩,
  ⟨(some 6), .mv (.c (.i .i64 0)), none, false⟩]
abbrev i28c : ICode := (.seq (.reg i28r0) (.seq (.seq (.reg i28r1) (.seq (.reg i28r2) (.cond (.t 13) (.seq (.reg i28r3) .ret) .skip))) (.seq (.seq (.reg i28r4) (.seq (.reg i28r5) (.cond (.t 19) (.seq (.reg i28r6) .ret) .skip))) (.seq (.reg i28r7) (.seq (.reg i28r8) (.seq (.reg i28r9) .ret))))))
def i28 : IFn := { np := 2, N := 33, ct := [13, 19], code := i28c, res := [.c 4 true 12, .t 5, .t 6] }
theorem i28_eq : compF Try.prog Try.f28 = some i28 := by kernel_rfl
abbrev i33r0 : List IOper := [
  ⟨(some 2), .new [.i .i64 0, .b false, .b false, .b false, .b false, .i .i64 0, .i .i64 0, .i .i64 0, .i .i64 0, .s []], none, false⟩,
  ⟨(some 3), .mv (.c (.i .i64 0)), none, false⟩]
abbrev i33r1 : List IOper := [
  ⟨(some 12), .mv (.t 0), none, false⟩,
  ⟨(some 13), .call (.c (.fn 53 [])) [.t 12, .c (.fn 54 [])], none, true⟩]
abbrev i33r2 : List IOper := [
  ⟨(some 14), .build [.i .i64 0, .b false, .b false, .b false, .b false, .i .i64 0, .i .i64 0, .i .i64 0, .i .i64 0, .s []] [], none, false⟩,
  ⟨none, .st 10 (.t 2) (.t 14), none, false⟩,
  ⟨(some 3), .mv (.c (.i .i64 230)), none, false⟩]
abbrev i33r3 : List IOper := [
  ⟨(some 4), .new [.i .i64 0, .b false, .b false, .b false, .b false, .i .i64 0, .i .i64 0, .i .i64 0, .i .i64 0, .s []], none, false⟩]
abbrev i33r4 : List IOper := [
  ⟨(some 15), .mv (.t 0), none, false⟩,
  ⟨(some 16), .lenV (.t 15), none, false⟩,
  ⟨(some 17), .bin .geq (.t 16) (.c (.i .i64 1)), none, false⟩,
  ⟨(some 18), .mv (.t 17), none, true⟩,
  ⟨(some 19), .mv (.t 0), (some (18, true)), false⟩,
  ⟨(some 20), .lenV (.t 19), (some (18, true)), false⟩,
  ⟨(some 21), .bin .leq (.t 20) (.c (.i .i64 64)), (some (18, true)), false⟩,
  ⟨(some 22), .pick (.t 18) (.t 21) (.c (.b false)), none, false⟩,
  ⟨(some 5), .mv (.t 22), none, false⟩]
abbrev i33r5 : List IOper := [
  ⟨(some 23), .mv (.t 0), none, false⟩,
  ⟨(some 24), .lenV (.t 23), none, false⟩,
  ⟨(some 25), .mv (.c (.i .i64 0)), none, false⟩]
abbrev i33r6 : List IOper := [
  ⟨(some 26), .bin .lss (.t 25) (.t 24), none, true⟩]
abbrev i33r7 : List IOper := [
  ⟨(some 27), .mv (.t 25), none, false⟩,
  ⟨(some 28), .ixaV 9 (.t 23) (.t 25), none, false⟩,
  ⟨(some 29), .ld true 9 (.t 28), none, false⟩,
  ⟨(some 7), .new [.b false, .i .i64 0, .i .i64 0, .i .i64 0, .i .i64 0, .ns, .ns, .i .i64 0, .s []], none, false⟩,
  ⟨(some 6), .mv (.t 27), none, false⟩,
  ⟨none, .st 9 (.t 7) (.t 29), none, false⟩]
abbrev i33r8 : List IOper := [
  ⟨(some 31), .fa 8 (.t 7), none, false⟩,
  ⟨(some 32), .ld false 1 (.t 31), none, false⟩,
  ⟨(some 33), .call (.c (.fn 20 [])) [.t 32], none, false⟩,
  ⟨(some 30), .mv (.t 33), none, false⟩,
  ⟨(some 34), .ext (.t 30) 0, none, false⟩,
  ⟨(some 35), .ext (.t 30) 1, none, false⟩,
  ⟨(some 36), .ext (.t 30) 2, none, false⟩,
  ⟨(some 8), .new [.b false, .b false, .b false, .b false, .i .i64 0, .i .i64 0, .i .i64 0, .i .i64 0], none, false⟩,
  ⟨none, .st 8 (.t 8) (.t 34), none, false⟩,
  ⟨(some 9), .mv (.t 35), none, false⟩,
  ⟨(some 10), .mv (.t 36), none, false⟩]
abbrev i33r9 : List IOper := [
  ⟨(some 37), .mv (.t 5), none, false⟩,
  ⟨(some 38), .not (.t 37), none, false⟩,
  ⟨(some 39), .mv (.t 38), none, true⟩,
  ⟨(some 40), .mv (.t 10), (some (39, false)), false⟩,
  ⟨(some 41), .bin .neq (.t 40) (.c (.i .i64 0)), (some (39, false)), false⟩,
  ⟨(some 42), .pick (.t 39) (.c (.b true)) (.t 41), none, false⟩,
  ⟨(some 43), .mv (.t 42), none, true⟩,
  ⟨(some 44), .fa 0 (.t 8), (some (43, false)), false⟩,
  ⟨(some 45), .ld false 1 (.t 44), (some (43, false)), false⟩,
  ⟨(some 46), .mv (.t 6), (some (43, false)), false⟩,
  ⟨(some 47), .bin .eql (.t 46) (.c (.i .i64 0)), (some (43, false)), false⟩,
  ⟨(some 48), .eqk true false [.b] (.t 45) (.t 47), (some (43, false)), false⟩,
  ⟨(some 49), .pick (.t 43) (.c (.b true)) (.t 48), none, false⟩,
  ⟨(some 50), .mv (.t 49), none, true⟩,
  ⟨(some 51), .fa 3 (.t 8), (some (50, false)), false⟩,
  ⟨(some 52), .ld false 1 (.t 51), (some (50, false)), false⟩,
  ⟨(some 53), .mv (.t 6), (some (50, false)), false⟩,
  ⟨(some 54), .mv (.t 0), (some (50, false)), false⟩,
  ⟨(some 55), .lenV (.t 54), (some (50, false)), false⟩,
  ⟨(some 56), .bin .sub (.t 55) (.c (.i .i64 1)), (some (50, false)), false⟩,
  ⟨(some 57), .bin .eql (.t 53) (.t 56), (some (50, false)), false⟩,
  ⟨(some 58), .eqk true false [.b] (.t 52) (.t 57), (some (50, false)), false⟩,
  ⟨(some 59), .pick (.t 50) (.c (.b true)) (.t 58), none, true⟩]
abbrev i33r10 : List IOper := [
  ⟨(some 5), .mv (.c (.b false)), none, false⟩]
abbrev i33r11 : List IOper := [
  ⟨(some 60), .fa 0 (.t 8), none, false⟩,
  ⟨none, .st 1 (.t 60) (.c (.b true)), none, false⟩,
  ⟨(some 61), .fa 3 (.t 8), none, false⟩,
  ⟨none, .st 1 (.t 61) (.c (.b true)), none, false⟩]
abbrev i33r12 : List IOper := [
  ⟨(some 62), .mv (.t 6), none, false⟩,
  ⟨(some 63), .bin .eql (.t 62) (.c (.i .i64 0)), none, true⟩]
abbrev i33r13 : List (IOper × List Nat) := [
  (⟨(some 64), .fa 3 (.t 7), none, false⟩, []),
  (⟨(some 65), .ld false 1 (.t 64), none, false⟩, []),
  (⟨(some 66), .ld true 8 (.t 8), none, false⟩, [0, 1]),
  (⟨(some 67), .fa 0 (.t 4), none, false⟩, [2]),
  (⟨none, .st 1 (.t 67) (.t 65), none, false⟩, [2]),
  (⟨(some 68), .fa 1 (.t 4), none, false⟩, []),
  (⟨none, .st 8 (.t 68) (.t 66), none, false⟩, [])]
abbrev i33r14 : List IOper := [
  ⟨(some 69), .mv (.t 0), none, false⟩,
  ⟨(some 70), .mv (.t 6), none, false⟩,
  ⟨(some 71), .bin .sub (.t 70) (.c (.i .i64 1)), none, false⟩,
  ⟨(some 72), .ixaV 9 (.t 69) (.t 71), none, false⟩,
  ⟨(some 73), .ld true 9 (.t 72), none, false⟩,
  ⟨(some 11), .new [.b false, .i .i64 0, .i .i64 0, .i .i64 0, .i .i64 0, .ns, .ns, .i .i64 0, .s []], none, false⟩,
  ⟨none, .st 9 (.t 11) (.t 73), none, false⟩]
abbrev i33r15 : List IOper := [
  ⟨(some 74), .ld true 8 (.t 8), none, false⟩,
  ⟨(some 75), .fa 1 (.t 4), none, false⟩,
  ⟨(some 76), .ld true 8 (.t 75), none, false⟩,
  ⟨(some 77), .eqk false true [.b, .b, .b, .b, .i, .i, .i, .i] (.t 74) (.t 76), none, false⟩,
  ⟨(some 78), .mv (.t 77), none, true⟩,
  ⟨(some 79), .fa 3 (.t 7), (some (78, true)), false⟩,
  ⟨(some 80), .ld false 1 (.t 79), (some (78, true)), false⟩,
  ⟨(some 81), .fa 0 (.t 4), (some (78, true)), false⟩,
  ⟨(some 82), .ld false 1 (.t 81), (some (78, true)), false⟩,
  ⟨(some 83), .bin .eql (.t 80) (.t 82), (some (78, true)), false⟩,
  ⟨(some 84), .pick (.t 78) (.t 83) (.c (.b false)), none, false⟩,
  ⟨(some 85), .mv (.t 84), none, true⟩,
  ⟨(some 86), .fa 4 (.t 7), (some (85, true)), false⟩,
  ⟨(some 87), .ld false 1 (.t 86), (some (85, true)), false⟩,
  ⟨(some 88), .fa 4 (.t 11), (some (85, true)), false⟩,
  ⟨(some 89), .ld false 1 (.t 88), (some (85, true)), false⟩,
  ⟨(some 90), .bin .eql (.t 87) (.t 89), (some (85, true)), false⟩,
  ⟨(some 91), .pick (.t 85) (.t 90) (.c (.b false)), none, false⟩,
  ⟨(some 92), .mv (.t 91), none, true⟩,
  ⟨(some 93), .fa 1 (.t 7), (some (92, true)), false⟩,
  ⟨(some 94), .ld false 1 (.t 93), (some (92, true)), false⟩,
  ⟨(some 95), .fa 1 (.t 11), (some (92, true)), false⟩,
  ⟨(some 96), .ld false 1 (.t 95), (some (92, true)), false⟩,
  ⟨(some 97), .bin .eql (.t 94) (.t 96), (some (92, true)), false⟩,
  ⟨(some 98), .pick (.t 92) (.t 97) (.c (.b false)), none, false⟩,
  ⟨(some 99), .mv (.t 98), none, true⟩,
  ⟨(some 100), .fa 2 (.t 7), (some (99, true)), false⟩,
  ⟨(some 101), .ld false 1 (.t 100), (some (99, true)), false⟩,
  ⟨(some 102), .fa 2 (.t 11), (some (99, true)), false⟩,
  ⟨(some 103), .ld false 1 (.t 102), (some (99, true)), false⟩,
  ⟨(some 104), .bin .add (.t 103) (.c (.i .i64 1)), (some (99, true)), false⟩,
  ⟨(some 105), .bin .and (.t 104) (.c (.i .i64 65535)), (some (99, true)), false⟩,
  ⟨(some 106), .bin .eql (.t 101) (.t 105), (some (99, true)), false⟩,
  ⟨(some 107), .pick (.t 99) (.t 106) (.c (.b false)), none, false⟩,
  ⟨(some 5), .mv (.t 107), none, false⟩]
abbrev i33r16 : List IOper := [
  ⟨(some 108), .fa 9 (.t 4), none, false⟩,
  ⟨(some 109), .ld false 1 (.t 108), none, false⟩,
  ⟨(some 110), .mv (.t 9), none, false⟩,
  ⟨(some 111), .bin .add (.t 109) (.t 110), none, false⟩,
  ⟨(some 112), .fa 9 (.t 4), none, false⟩,
  ⟨none, .st 1 (.t 112) (.t 111), none, false⟩]
abbrev i33r17 : List IOper := [
  ⟨(some 113), .bin .add (.t 25) (.c (.i .i64 1)), none, false⟩,
  ⟨(some 25), .mv (.t 113), none, false⟩]
abbrev i33l18 : ICode := (.seq (.reg i33r6) (.seq (.cond (.t 26) .skip (.exit 0)) (.seq (.block 1 (.seq (.reg i33r7) (.seq (.reg i33r8) (.seq (.seq (.reg i33r9) (.cond (.t 59) (.seq (.reg i33r10) (.exit 0)) .skip)) (.seq (.reg i33r11) (.seq (.seq (.reg i33r12) (.cond (.t 63) (.dreg i33r13) (.seq (.reg i33r14) (.reg i33r15)))) (.reg i33r16))))))) (.reg i33r17))))
abbrev i33r19 : List IOper := [
  ⟨(some 114), .mv (.t 5), none, false⟩,
  ⟨(some 115), .not (.t 114), none, true⟩]
abbrev i33r20 : List IOper := [
  ⟨(some 116), .build [.i .i64 0, .b false, .b false, .b false, .b false, .i .i64 0, .i .i64 0, .i .i64 0, .i .i64 0, .s []] [], none, false⟩,
  ⟨none, .st 10 (.t 2) (.t 116), none, false⟩,
  ⟨(some 3), .mv (.c (.i .i64 401)), none, false⟩]
abbrev i33r21 : List IOper := [
  ⟨(some 117), .ld true 10 (.t 4), none, false⟩,
  ⟨none, .st 10 (.t 2) (.t 117), none, false⟩,
  ⟨(some 3), .mv (.c (.i .i64 0)), none, false⟩]
abbrev i33c : ICode := (.seq (.reg i33r0) (.scope (.seq (.seq (.reg i33r1) (.cond (.t 13) (.seq (.reg i33r2) .ret) .skip)) (.seq (.reg i33r3) (.seq (.reg i33r4) (.seq .skip (.seq (.seq (.reg i33r5) (.block 0 (.loop i33l18))) (.seq (.seq (.reg i33r19) (.cond (.t 115) (.seq (.reg i33r20) .ret) .skip)) (.seq (.reg i33r21) .ret)))))))))
def i33 : IFn := { np := 1, N := 118, ct := [13, 26, 59, 63, 115], code := i33c, res := [.c 2 true 10, .t 3] }
theorem i33_eq : compF Try.prog Try.f33 = some i33 := by kernel_rfl
abbrev i34r0 : List IOper := [
  ⟨(some 2), .box (.t 0), none, false⟩,
  ⟨(some 4), .new [.b false, .i .i64 0, .i .i64 0, .i .i64 0, .b false, .i .i64 0, .i .i64 0, .i .i64 0, .b false, .i .i64 0, .i .i64 0, .i .i64 0], none, false⟩,
  ⟨(some 5), .mv (.c (.ns)), none, false⟩]
abbrev i34r1 : List IOper := [
  ⟨(some 6), .mv (.c (.ns)), none, false⟩]
abbrev i34r2 : List IOper := [
  ⟨(some 12), .mv (.t 1), none, false⟩,
  ⟨(some 13), .lenV (.t 12), none, false⟩,
  ⟨(some 14), .mv (.c (.i .i64 0)), none, false⟩]
abbrev i34r3 : List IOper := [
  ⟨(some 15), .bin .lss (.t 14) (.t 13), none, true⟩]
abbrev i34r4 : List IOper := [
  ⟨(some 16), .ixaV 8 (.t 12) (.t 14), none, false⟩,
  ⟨(some 17), .ld true 8 (.t 16), none, false⟩,
  ⟨(some 8), .new [.b false, .b false, .b false, .b false, .i .i64 0, .i .i64 0, .i .i64 0, .i .i64 0], none, false⟩,
  ⟨none, .st 8 (.t 8) (.t 17), none, false⟩]
abbrev i34r5 : List IOper := [
  ⟨(some 19), .ld true 12 (.t 2), none, false⟩,
  ⟨(some 20), .ld true 8 (.t 8), none, false⟩,
  ⟨(some 21), .call (.c (.fn 28 [])) [.t 19, .t 20], none, false⟩,
  ⟨(some 18), .mv (.t 21), none, false⟩,
  ⟨(some 22), .ext (.t 18) 0, none, false⟩,
  ⟨(some 23), .ext (.t 18) 1, none, false⟩,
  ⟨(some 24), .ext (.t 18) 2, none, false⟩,
  ⟨(some 9), .new [.b false, .i .i64 0, .i .i64 0, .i .i64 0, .b false, .i .i64 0, .i .i64 0, .i .i64 0, .b false, .i .i64 0, .i .i64 0, .i .i64 0], none, false⟩,
  ⟨none, .st 12 (.t 9) (.t 22), none, false⟩,
  ⟨(some 10), .mv (.t 23), none, false⟩,
  ⟨(some 11), .mv (.t 24), none, false⟩]
abbrev i34r6 : List IOper := [
  ⟨(some 25), .mv (.t 6), none, false⟩,
  ⟨(some 26), .mv (.t 10), none, false⟩,
  ⟨(some 27), .mv (.t 26), none, true⟩,
  ⟨(some 28), .mv (.t 11), (some (27, true)), false⟩,
  ⟨(some 29), .bin .eql (.t 28) (.c (.i .i64 0)), (some (27, true)), false⟩,
  ⟨(some 30), .pick (.t 27) (.t 29) (.c (.b false)), none, false⟩,
  ⟨(some 31), .mv (.t 30), none, true⟩,
  ⟨(some 32), .ld true 12 (.t 9), (some (31, true)), false⟩,
  ⟨(some 33), .call (.c (.fn 26 [])) [.t 32], (some (31, true)), false⟩,
  ⟨(some 34), .bin .eql (.t 33) (.c (.i .i64 0)), (some (31, true)), false⟩,
  ⟨(some 35), .pick (.t 31) (.t 34) (.c (.b false)), none, false⟩,
  ⟨(some 36), .bsl [.b false] 1 [(0, 1, .t 35)], none, false⟩,
  ⟨(some 37), .app 1 1 [.b false] (.t 25) (.t 36), none, false⟩,
  ⟨(some 6), .mv (.t 37), none, false⟩]
abbrev i34r7 : List IOper := [
  ⟨(some 38), .mv (.t 11), none, false⟩,
  ⟨(some 39), .bin .eql (.t 38) (.c (.i .i64 0)), none, true⟩]
abbrev i34r8 : List IOper := [
  ⟨(some 40), .ld true 12 (.t 9), none, false⟩,
  ⟨none, .st 12 (.t 2) (.t 40), none, false⟩]
abbrev i34r9 : List IOper := [
  ⟨(some 41), .bin .add (.t 14) (.c (.i .i64 1)), none, false⟩,
  ⟨(some 14), .mv (.t 41), none, false⟩]
abbrev i34l10 : ICode := (.seq (.reg i34r3) (.seq (.cond (.t 15) .skip (.exit 0)) (.seq (.block 1 (.seq (.reg i34r4) (.seq (.reg i34r5) (.seq (.reg i34r6) (.seq (.reg i34r7) (.cond (.t 39) (.reg i34r8) .skip)))))) (.reg i34r9))))
abbrev i34r11 : List IOper := [
  ⟨(some 42), .ld true 12 (.t 2), none, false⟩,
  ⟨(some 43), .mv (.t 6), none, false⟩,
  ⟨none, .st 12 (.t 4) (.t 42), none, false⟩,
  ⟨(some 5), .mv (.t 43), none, false⟩]
abbrev i34c : ICode := (.seq (.reg i34r0) (.seq (.reg i34r1) (.seq (.seq (.reg i34r2) (.block 0 (.loop i34l10))) (.seq (.reg i34r11) .ret))))
def i34 : IFn := { np := 2, N := 44, ct := [15, 39], code := i34c, res := [.c 4 true 12, .t 5] }
theorem i34_eq : compF Try.prog Try.f34 = some i34 := by kernel_rfl
abbrev i36r0 : List IOper := [
  ⟨(some 2), .mv (.c (.i .i64 0)), none, false⟩]
abbrev i36r1 : List IOper := [
  ⟨(some 7), .mv (.t 0), none, false⟩,
  ⟨(some 8), .call (.c (.fn 20 [])) [.t 7], none, false⟩,
  ⟨(some 6), .mv (.t 8), none, false⟩,
  ⟨(some 9), .ext (.t 6) 0, none, false⟩,
  ⟨(some 10), .ext (.t 6) 1, none, false⟩,
  ⟨(some 11), .ext (.t 6) 2, none, false⟩,
  ⟨(some 3), .new [.b false, .b false, .b false, .b false, .i .i64 0, .i .i64 0, .i .i64 0, .i .i64 0], none, false⟩,
  ⟨none, .st 8 (.t 3) (.t 9), none, false⟩,
  ⟨(some 4), .mv (.t 10), none, false⟩,
  ⟨(some 5), .mv (.t 11), none, false⟩]
abbrev i36r2 : List IOper := [
  ⟨(some 12), .mv (.t 5), none, false⟩,
  ⟨(some 2), .mv (.t 12), none, false⟩]
abbrev i36c : ICode := (.seq (.reg i36r0) (.seq (.reg i36r1) (.seq (.reg i36r2) .ret)))
def i36 : IFn := { np := 1, N := 13, ct := [], code := i36c, res := [.t 2] }
theorem i36_eq : compF Try.prog Try.f36 = some i36 := by kernel_rfl
abbrev i37r0 : List IOper := [
  ⟨(some 4), .mv (.c (.b false)), none, false⟩]
abbrev i37r1 : List IOper := [
  ⟨(some 6), .mv (.t 1), none, false⟩,
  ⟨(some 7), .lenV (.t 6), none, false⟩,
  ⟨(some 8), .mv (.c (.i .i64 0)), none, false⟩]
abbrev i37r2 : List IOper := [
  ⟨(some 9), .bin .lss (.t 8) (.t 7), none, true⟩]
abbrev i37r3 : List IOper := [
  ⟨(some 10), .mv (.t 8), none, false⟩,
  ⟨(some 5), .mv (.t 10), none, false⟩]
abbrev i37r4 : List (IOper × List Nat) := [
  (⟨(some 11), .mv (.t 0), none, false⟩, []),
  (⟨(some 12), .lenV (.t 11), none, false⟩, []),
  (⟨(some 13), .mv (.t 1), none, false⟩, [0, 1]),
  (⟨(some 14), .lenV (.t 13), none, false⟩, [0, 1]),
  (⟨(some 15), .bin .neq (.t 12) (.t 14), none, false⟩, []),
  (⟨(some 16), .mv (.t 15), none, true⟩, []),
  (⟨(some 17), .mv (.t 0), (some (16, false)), false⟩, []),
  (⟨(some 18), .mv (.t 5), (some (16, false)), false⟩, [6]),
  (⟨(some 19), .ixaV 1 (.t 17) (.t 18), (some (16, false)), false⟩, []),
  (⟨(some 20), .ld false 1 (.t 19), (some (16, false)), false⟩, []),
  (⟨(some 21), .mv (.t 1), (some (16, false)), false⟩, [6, 7, 8, 9]),
  (⟨(some 22), .mv (.t 5), (some (16, false)), false⟩, [6, 7, 8, 9, 10]),
  (⟨(some 23), .ixaV 1 (.t 21) (.t 22), (some (16, false)), false⟩, [6, 7, 8, 9]),
  (⟨(some 24), .ld false 1 (.t 23), (some (16, false)), false⟩, [6, 7, 8, 9]),
  (⟨(some 25), .eqk true false [.b] (.t 20) (.t 24), (some (16, false)), false⟩, []),
  (⟨(some 26), .pick (.t 16) (.c (.b true)) (.t 25), none, true⟩, [])]
abbrev i37r5 : List IOper := [
  ⟨(some 4), .mv (.c (.b false)), none, false⟩]
abbrev i37r6 : List IOper := [
  ⟨(some 27), .bin .add (.t 8) (.c (.i .i64 1)), none, false⟩,
  ⟨(some 8), .mv (.t 27), none, false⟩]
abbrev i37l7 : ICode := (.seq (.reg i37r2) (.seq (.cond (.t 9) .skip (.exit 0)) (.seq (.block 1 (.seq (.reg i37r3) (.seq (.dreg i37r4) (.cond (.t 26) (.seq (.reg i37r5) .ret) .skip)))) (.reg i37r6))))
abbrev i37r8 : List IOper := [
  ⟨(some 4), .mv (.c (.b true)), none, false⟩]
abbrev i37c : ICode := (.seq (.reg i37r0) (.seq (.seq (.reg i37r1) (.block 0 (.loop i37l7))) (.seq (.reg i37r8) .ret)))
def i37 : IFn := { np := 2, N := 28, ct := [9, 26], code := i37c, res := [.t 4] }
theorem i37_eq : compF Try.prog Try.f37 = some i37 := by kernel_rfl
abbrev i44r0 : List IOper := [
  ⟨(some 4), .mv (.c (.b false)), none, false⟩]
abbrev i44r1 : List IOper := [
  ⟨(some 5), .mv (.t 1), none, false⟩,
  ⟨(some 6), .bin .geq (.t 5) (.c (.i .i64 0)), none, false⟩,
  ⟨(some 7), .mv (.t 6), none, true⟩,
  ⟨(some 8), .mv (.t 1), (some (7, true)), false⟩,
  ⟨(some 9), .mv (.t 0), (some (7, true)), false⟩,
  ⟨(some 10), .bin .leq (.t 8) (.t 9), (some (7, true)), false⟩,
  ⟨(some 11), .pick (.t 7) (.t 10) (.c (.b false)), none, false⟩,
  ⟨(some 4), .mv (.t 11), none, false⟩]
abbrev i44c : ICode := (.seq (.reg i44r0) (.seq (.reg i44r1) .ret))
def i44 : IFn := { np := 2, N := 12, ct := [], code := i44c, res := [.t 4] }
theorem i44_eq : compF Try.prog Try.f44 = some i44 := by kernel_rfl
abbrev i45r0 : List IOper := [
  ⟨(some 1), .box (.t 0), none, false⟩,
  ⟨(some 2), .mv (.c (.s [])), none, false⟩]
abbrev i45r1 : List (IOper × List Nat) := [
  (⟨(some 3), .fa 0 (.t 1), none, false⟩, []),
  (⟨(some 4), .ld false 1 (.t 3), none, false⟩, []),
  (⟨(some 5), .fa 1 (.t 1), none, false⟩, [0, 1]),
  (⟨(some 6), .ld false 1 (.t 5), none, false⟩, [0, 1]),
  (⟨(some 7), .fa 2 (.t 1), none, false⟩, [0, 1, 2, 3]),
  (⟨(some 8), .ld false 1 (.t 7), none, false⟩, [0, 1, 2, 3]),
  (⟨(some 9), .fa 3 (.t 1), none, false⟩, [0, 1, 2, 3, 4, 5]),
  (⟨(some 10), .ld false 1 (.t 9), none, false⟩, [0, 1, 2, 3, 4, 5]),
  (⟨(some 11), .bsl [.b false, .b false, .b false, .b false, .b false, .b false, .b false, .b false] 8 [(0, 1, .c (.b true)), (1, 1, .t 4), (2, 1, .t 6), (3, 1, .t 8), (4, 1, .t 10), (5, 1, .c (.b false)), (6, 1, .c (.b false)), (7, 1, .c (.b false))], none, false⟩, []),
  (⟨(some 12), .call (.c (.fn 66 [])) [.t 11], none, false⟩, []),
  (⟨(some 13), .fa 4 (.t 1), none, false⟩, [0, 1, 2, 3, 4, 5, 6, 7, 8, 9]),
  (⟨(some 14), .ld false 1 (.t 13), none, false⟩, [0, 1, 2, 3, 4, 5, 6, 7, 8, 9]),
  (⟨(some 15), .bin .shr (.t 14) (.c (.i .u64 8)), none, false⟩, [0, 1, 2, 3, 4, 5, 6, 7, 8, 9]),
  (⟨(some 16), .i2i .u8 (.t 15), none, false⟩, [0, 1, 2, 3, 4, 5, 6, 7, 8, 9]),
  (⟨(some 17), .bin .or (.c (.i .u8 128)) (.t 16), none, false⟩, [0, 1, 2, 3, 4, 5, 6, 7, 8, 9]),
  (⟨(some 18), .fa 4 (.t 1), none, false⟩, [0, 1, 2, 3, 4, 5, 6, 7, 8, 9, 10, 11, 12, 13, 14]),
  (⟨(some 19), .ld false 1 (.t 18), none, false⟩, [0, 1, 2, 3, 4, 5, 6, 7, 8, 9, 10, 11, 12, 13, 14]),
  (⟨(some 20), .i2i .u8 (.t 19), none, false⟩, [0, 1, 2, 3, 4, 5, 6, 7, 8, 9, 10, 11, 12, 13, 14]),
  (⟨(some 21), .fa 5 (.t 1), none, false⟩, [0, 1, 2, 3, 4, 5, 6, 7, 8, 9, 10, 11, 12, 13, 14, 15, 16, 17]),
  (⟨(some 22), .ld false 1 (.t 21), none, false⟩, [0, 1, 2, 3, 4, 5, 6, 7, 8, 9, 10, 11, 12, 13, 14, 15, 16, 17]),
  (⟨(some 23), .i2i .u8 (.t 22), none, false⟩, [0, 1, 2, 3, 4, 5, 6, 7, 8, 9, 10, 11, 12, 13, 14, 15, 16, 17]),
  (⟨(some 24), .fa 6 (.t 1), none, false⟩, [0, 1, 2, 3, 4, 5, 6, 7, 8, 9, 10, 11, 12, 13, 14, 15, 16, 17, 18, 19, 20]),
  (⟨(some 25), .ld false 1 (.t 24), none, false⟩, [0, 1, 2, 3, 4, 5, 6, 7, 8, 9, 10, 11, 12, 13, 14, 15, 16, 17, 18, 19, 20]),
  (⟨(some 26), .bin .shl (.t 25) (.c (.i .u64 6)), none, false⟩, [0, 1, 2, 3, 4, 5, 6, 7, 8, 9, 10, 11, 12, 13, 14, 15, 16, 17, 18, 19, 20]),
  (⟨(some 27), .fa 7 (.t 1), none, false⟩, [0, 1, 2, 3, 4, 5, 6, 7, 8, 9, 10, 11, 12, 13, 14, 15, 16, 17, 18, 19, 20, 21, 22, 23]),
  (⟨(some 28), .ld false 1 (.t 27), none, false⟩, [0, 1, 2, 3, 4, 5, 6, 7, 8, 9, 10, 11, 12, 13, 14, 15, 16, 17, 18, 19, 20, 21, 22, 23]),
  (⟨(some 29), .bin .shl (.t 28) (.c (.i .u64 4)), none, false⟩, [0, 1, 2, 3, 4, 5, 6, 7, 8, 9, 10, 11, 12, 13, 14, 15, 16, 17, 18, 19, 20, 21, 22, 23]),
  (⟨(some 30), .bin .or (.t 26) (.t 29), none, false⟩, [0, 1, 2, 3, 4, 5, 6, 7, 8, 9, 10, 11, 12, 13, 14, 15, 16, 17, 18, 19, 20]),
  (⟨(some 31), .i2i .u8 (.t 30), none, false⟩, [0, 1, 2, 3, 4, 5, 6, 7, 8, 9, 10, 11, 12, 13, 14, 15, 16, 17, 18, 19, 20]),
  (⟨(some 32), .bsl [.i .u8 0, .i .u8 0, .i .u8 0, .i .u8 0, .i .u8 0] 5 [(0, 1, .t 12), (1, 1, .t 17), (2, 1, .t 20), (3, 1, .t 23), (4, 1, .t 31)], none, false⟩, []),
  (⟨(some 33), .b2s (.t 32), none, false⟩, []),
  (⟨(some 2), .mv (.t 33), none, false⟩, [])]
abbrev i45c : ICode := (.seq (.reg i45r0) (.seq (.dreg i45r1) .ret))
def i45 : IFn := { np := 1, N := 34, ct := [], code := i45c, res := [.t 2] }
theorem i45_eq : compF Try.prog Try.f45 = some i45 := by kernel_rfl
abbrev i46r0 : List IOper := [
  ⟨(some 0), .new [.b false, .b false, .b false, .b false, .i .i64 0, .i .i64 0, .i .i64 0, .i .i64 0], none, false⟩]
abbrev i46r1 : List IOper := [
  ⟨(some 1), .build [.b false, .b false, .b false, .b false, .i .i64 0, .i .i64 0, .i .i64 0, .i .i64 0] [(0, 1, .c (.b true)), (1, 1, .c (.b true)), (4, 1, .c (.i .i64 300)), (5, 1, .c (.i .i64 7))], none, false⟩,
  ⟨none, .st 8 (.t 0) (.t 1), none, false⟩]
abbrev i46c : ICode := (.seq (.reg i46r0) (.seq (.reg i46r1) .ret))
def i46 : IFn := { np := 0, N := 2, ct := [], code := i46c, res := [.c 0 true 8] }
theorem i46_eq : compF Try.prog Try.f46 = some i46 := by kernel_rfl
abbrev i47r0 : List IOper := [
  ⟨(some 2), .mv (.c (.b false)), none, false⟩]
abbrev i47r1 : List IOper := [
  ⟨(some 6), .call (.c (.fn 46 [])) [], none, false⟩,
  ⟨(some 3), .new [.b false, .b false, .b false, .b false, .i .i64 0, .i .i64 0, .i .i64 0, .i .i64 0], none, false⟩,
  ⟨none, .st 8 (.t 3) (.t 6), none, false⟩]
abbrev i47r2 : List IOper := [
  ⟨(some 7), .mv (.t 0), none, false⟩,
  ⟨(some 8), .call (.t 7) [.t 3], none, false⟩]
abbrev i47r3 : List IOper := [
  ⟨(some 10), .ld true 8 (.t 3), none, false⟩,
  ⟨(some 11), .call (.c (.fn 15 [])) [.t 10], none, false⟩,
  ⟨(some 9), .mv (.t 11), none, false⟩,
  ⟨(some 12), .ext (.t 9) 0, none, false⟩,
  ⟨(some 13), .ext (.t 9) 1, none, false⟩,
  ⟨(some 4), .mv (.t 12), none, false⟩,
  ⟨(some 5), .mv (.t 13), none, false⟩]
abbrev i47r4 : List IOper := [
  ⟨(some 14), .ld true 8 (.t 3), none, false⟩,
  ⟨(some 15), .call (.c (.fn 14 [])) [.t 14], none, false⟩,
  ⟨(some 16), .bin .eql (.t 15) (.c (.i .i64 400)), none, false⟩,
  ⟨(some 17), .mv (.t 16), none, true⟩,
  ⟨(some 18), .mv (.t 5), (some (17, true)), false⟩,
  ⟨(some 19), .bin .eql (.t 18) (.c (.i .i64 400)), (some (17, true)), false⟩,
  ⟨(some 20), .pick (.t 17) (.t 19) (.c (.b false)), none, false⟩,
  ⟨(some 21), .mv (.t 20), none, true⟩,
  ⟨(some 22), .mv (.t 4), (some (21, true)), false⟩,
  ⟨(some 23), .bin .eql (.t 22) (.c (.s [])), (some (21, true)), false⟩,
  ⟨(some 24), .pick (.t 21) (.t 23) (.c (.b false)), none, false⟩,
  ⟨(some 2), .mv (.t 24), none, false⟩]
abbrev i47c : ICode := (.seq (.reg i47r0) (.seq (.reg i47r1) (.seq (.reg i47r2) (.seq (.reg i47r3) (.seq (.reg i47r4) .ret)))))
def i47 : IFn := { np := 1, N := 25, ct := [], code := i47c, res := [.t 2] }
theorem i47_eq : compF Try.prog Try.f47 = some i47 := by kernel_rfl
abbrev i48r0 : List IOper := [
  ⟨(some 2), .mv (.t 0), none, false⟩,
  ⟨(some 3), .nck (.t 2), none, false⟩,
  ⟨(some 4), .fa 2 (.t 3), none, false⟩,
  ⟨none, .st 1 (.t 4) (.c (.b true)), none, false⟩]
abbrev i48c : ICode := (.reg i48r0)
def i48 : IFn := { np := 1, N := 5, ct := [], code := i48c, res := [] }
theorem i48_eq : compF Try.prog Try.f48 = some i48 := by kernel_rfl
abbrev i49r0 : List IOper := [
  ⟨(some 2), .mv (.t 0), none, false⟩,
  ⟨(some 3), .nck (.t 2), none, false⟩,
  ⟨(some 4), .fa 6 (.t 3), none, false⟩,
  ⟨none, .st 1 (.t 4) (.c (.i .i64 1)), none, false⟩]
abbrev i49c : ICode := (.reg i49r0)
def i49 : IFn := { np := 1, N := 5, ct := [], code := i49c, res := [] }
theorem i49_eq : compF Try.prog Try.f49 = some i49 := by kernel_rfl
abbrev i50r0 : List IOper := [
  ⟨(some 2), .mv (.t 0), none, false⟩,
  ⟨(some 3), .nck (.t 2), none, false⟩,
  ⟨(some 4), .fa 4 (.t 3), none, false⟩,
  ⟨none, .st 1 (.t 4) (.c (.i .i64 32768)), none, false⟩]
abbrev i50c : ICode := (.reg i50r0)
def i50 : IFn := { np := 1, N := 5, ct := [], code := i50c, res := [] }
theorem i50_eq : compF Try.prog Try.f50 = some i50 := by kernel_rfl
abbrev i52r0 : List IOper := [
  ⟨(some 2), .mv (.c (.b false)), none, false⟩]
abbrev i52r1 : List (IOper × List Nat) := [
  (⟨(some 9), .mv (.t 0), none, false⟩, []),
  (⟨(some 10), .nck (.t 9), none, false⟩, []),
  (⟨(some 11), .fa 12 (.t 10), none, false⟩, []),
  (⟨(some 12), .ld true 8 (.t 11), none, false⟩, []),
  (⟨(some 13), .mv (.t 0), none, false⟩, [0, 1, 2, 3]),
  (⟨(some 14), .mv (.t 0), none, false⟩, [0, 1, 2, 3, 4]),
  (⟨(some 15), .nck (.t 14), none, false⟩, [0, 1, 2, 3, 4]),
  (⟨(some 16), .fa 12 (.t 15), none, false⟩, [0, 1, 2, 3, 4]),
  (⟨(some 17), .fa 7 (.t 16), none, false⟩, [0, 1, 2, 3, 4]),
  (⟨(some 18), .ld false 1 (.t 17), none, false⟩, [0, 1, 2, 3, 4]),
  (⟨(some 19), .nck (.t 13), none, false⟩, [0, 1, 2, 3, 5, 6, 7, 8, 9]),
  (⟨(some 20), .fa 0 (.t 19), none, false⟩, [0, 1, 2, 3, 5, 6, 7, 8, 9]),
  (⟨(some 21), .fa 0 (.t 20), none, false⟩, [0, 1, 2, 3, 5, 6, 7, 8, 9]),
  (⟨(some 22), .ixaA 3 4 (.t 21) (.t 18), none, false⟩, [0, 1, 2, 3]),
  (⟨(some 3), .new [.b false, .b false, .b false, .b false, .i .i64 0, .i .i64 0, .i .i64 0, .i .i64 0], none, false⟩, [0, 1, 2, 3, 4, 5, 6, 7, 8, 9, 10, 11, 12, 13]),
  (⟨none, .st 8 (.t 3) (.t 12), none, false⟩, [4, 5, 6, 7, 8, 9, 10, 11, 12, 13]),
  (⟨(some 4), .mv (.t 22), none, false⟩, [])]
abbrev i52r2 : List (IOper × List Nat) := [
  (⟨(some 24), .fa 4 (.t 3), none, false⟩, []),
  (⟨(some 25), .ld false 1 (.t 24), none, false⟩, []),
  (⟨(some 26), .mv (.t 4), none, false⟩, [0, 1]),
  (⟨(some 27), .nck (.t 26), none, false⟩, [0, 1]),
  (⟨(some 28), .fa 1 (.t 27), none, false⟩, [0, 1]),
  (⟨(some 29), .ld false 1 (.t 28), none, false⟩, [0, 1]),
  (⟨(some 30), .call (.c (.fn 69 [])) [.t 25, .t 29, .c (.i .i64 15)], none, false⟩, []),
  (⟨(some 23), .mv (.t 30), none, false⟩, []),
  (⟨(some 31), .ext (.t 23) 0, none, false⟩, []),
  (⟨(some 32), .ext (.t 23) 1, none, false⟩, [8]),
  (⟨(some 5), .mv (.t 31), none, false⟩, [9]),
  (⟨(some 6), .mv (.t 32), none, false⟩, [])]
abbrev i52r3 : List IOper := [
  ⟨(some 33), .mv (.t 4), none, false⟩,
  ⟨(some 34), .nck (.t 33), none, false⟩,
  ⟨(some 35), .fa 0 (.t 34), none, false⟩,
  ⟨(some 36), .ld false 1 (.t 35), none, false⟩,
  ⟨(some 37), .mv (.t 36), none, true⟩,
  ⟨(some 38), .mv (.t 5), (some (37, true)), false⟩,
  ⟨(some 39), .bin .gtr (.t 38) (.c (.i .i64 0)), (some (37, true)), false⟩,
  ⟨(some 40), .pick (.t 37) (.t 39) (.c (.b false)), none, false⟩,
  ⟨(some 7), .mv (.t 40), none, false⟩]
abbrev i52r4 : List IOper := [
  ⟨(some 98), .fa 1 (.t 3), none, false⟩,
  ⟨(some 99), .ld false 1 (.t 98), none, false⟩,
  ⟨(some 97), .mv (.t 99), none, true⟩]
abbrev i52r5 : List IOper := [
  ⟨(some 100), .mv (.t 0), none, false⟩,
  ⟨(some 101), .call (.c (.fn 70 [])) [.t 100], none, false⟩,
  ⟨(some 102), .not (.t 101), none, true⟩]
abbrev i52r6 : List IOper := [
  ⟨(some 2), .mv (.c (.b false)), none, false⟩]
abbrev i52r7 : List IOper := [
  ⟨(some 103), .mv (.t 0), none, false⟩,
  ⟨(some 104), .call (.c (.fn 71 [])) [.t 103], none, false⟩]
abbrev i52r8 : List IOper := [
  ⟨(some 105), .mv (.t 4), none, false⟩,
  ⟨(some 106), .fa 4 (.t 3), none, false⟩,
  ⟨(some 107), .ld false 1 (.t 106), none, false⟩,
  ⟨(some 108), .fa 5 (.t 3), none, false⟩,
  ⟨(some 109), .ld false 1 (.t 108), none, false⟩,
  ⟨(some 110), .build [.b false, .i .i64 0, .i .i64 0, .i .i64 0] [(0, 1, .c (.b true)), (1, 1, .t 107), (2, 1, .t 109)], none, false⟩,
  ⟨(some 111), .nck (.t 105), none, false⟩,
  ⟨none, .st 4 (.t 111) (.t 110), none, false⟩]
abbrev i52r9 : List IOper := [
  ⟨(some 113), .fa 6 (.t 3), none, false⟩,
  ⟨(some 114), .ld false 1 (.t 113), none, false⟩,
  ⟨(some 115), .bin .eql (.t 114) (.c (.i .i64 0)), none, false⟩,
  ⟨(some 112), .mv (.t 115), none, true⟩]
abbrev i52r10 : List IOper := [
  ⟨(some 116), .mv (.t 7), none, false⟩,
  ⟨(some 117), .not (.t 116), none, true⟩]
abbrev i52r11 : List IOper := [
  ⟨(some 2), .mv (.c (.b false)), none, false⟩]
abbrev i52r12 : List (IOper × List Nat) := [
  (⟨(some 118), .mv (.t 0), none, false⟩, []),
  (⟨(some 119), .call (.c (.fn 70 [])) [.t 118], none, false⟩, []),
  (⟨(some 120), .not (.t 119), none, false⟩, []),
  (⟨(some 121), .mv (.t 120), none, true⟩, []),
  (⟨(some 122), .fa 5 (.t 3), (some (121, false)), false⟩, []),
  (⟨(some 123), .ld false 1 (.t 122), (some (121, false)), false⟩, []),
  (⟨(some 124), .mv (.t 4), (some (121, false)), false⟩, [4, 5]),
  (⟨(some 125), .nck (.t 124), (some (121, false)), false⟩, [4, 5]),
  (⟨(some 126), .fa 2 (.t 125), (some (121, false)), false⟩, [4, 5]),
  (⟨(some 127), .ld false 1 (.t 126), (some (121, false)), false⟩, [4, 5]),
  (⟨(some 128), .bin .add (.t 127) (.c (.i .i64 1)), (some (121, false)), false⟩, [4, 5]),
  (⟨(some 129), .bin .and (.t 128) (.c (.i .i64 255)), (some (121, false)), false⟩, [4, 5]),
  (⟨(some 130), .bin .neq (.t 123) (.t 129), (some (121, false)), false⟩, []),
  (⟨(some 131), .pick (.t 121) (.c (.b true)) (.t 130), none, true⟩, [])]
abbrev i52r13 : List IOper := [
  ⟨(some 132), .mv (.t 0), none, false⟩,
  ⟨(some 133), .call (.c (.fn 71 [])) [.t 132], none, false⟩]
abbrev i52r14 : List IOper := [
  ⟨(some 2), .mv (.c (.b false)), none, false⟩]
abbrev i52r15 : List (IOper × List Nat) := [
  (⟨(some 134), .mv (.t 4), none, false⟩, []),
  (⟨(some 135), .mv (.t 4), none, false⟩, [0]),
  (⟨(some 136), .fa 4 (.t 3), none, false⟩, [0, 1]),
  (⟨(some 137), .ld false 1 (.t 136), none, false⟩, [0, 1]),
  (⟨(some 138), .fa 5 (.t 3), none, false⟩, [0, 1, 2, 3]),
  (⟨(some 139), .ld false 1 (.t 138), none, false⟩, [0, 1, 2, 3]),
  (⟨(some 140), .nck (.t 134), none, false⟩, [1, 4, 5]),
  (⟨(some 141), .fa 1 (.t 140), none, false⟩, [1, 4, 5]),
  (⟨none, .st 1 (.t 141) (.t 137), none, false⟩, [1, 4, 5]),
  (⟨(some 142), .nck (.t 135), none, false⟩, []),
  (⟨(some 143), .fa 2 (.t 142), none, false⟩, []),
  (⟨none, .st 1 (.t 143) (.t 139), none, false⟩, [])]
abbrev i52r16 : List (IOper × List Nat) := [
  (⟨(some 41), .fa 2 (.t 3), none, false⟩, []),
  (⟨(some 42), .ld false 1 (.t 41), none, false⟩, []),
  (⟨(some 43), .mv (.t 42), none, true⟩, []),
  (⟨(some 44), .fa 6 (.t 3), (some (43, true)), false⟩, []),
  (⟨(some 45), .ld false 1 (.t 44), (some (43, true)), false⟩, []),
  (⟨(some 46), .mv (.t 4), (some (43, true)), false⟩, [3, 4]),
  (⟨(some 47), .nck (.t 46), (some (43, true)), false⟩, [3, 4]),
  (⟨(some 48), .fa 3 (.t 47), (some (43, true)), false⟩, [3, 4]),
  (⟨(some 49), .ld false 1 (.t 48), (some (43, true)), false⟩, [3, 4]),
  (⟨(some 50), .bin .add (.t 49) (.c (.i .i64 1)), (some (43, true)), false⟩, [3, 4]),
  (⟨(some 51), .bin .eql (.t 45) (.t 50), (some (43, true)), false⟩, []),
  (⟨(some 52), .pick (.t 43) (.t 51) (.c (.b false)), none, false⟩, []),
  (⟨(some 8), .mv (.t 52), none, false⟩, [])]
abbrev i52r17 : List (IOper × List Nat) := [
  (⟨(some 53), .mv (.t 7), none, false⟩, []),
  (⟨(some 54), .not (.t 53), none, false⟩, []),
  (⟨(some 55), .mv (.t 54), none, true⟩, []),
  (⟨(some 56), .mv (.t 0), (some (55, false)), false⟩, []),
  (⟨(some 57), .call (.c (.fn 70 [])) [.t 56], (some (55, false)), false⟩, []),
  (⟨(some 58), .not (.t 57), (some (55, false)), false⟩, []),
  (⟨(some 59), .pick (.t 55) (.c (.b true)) (.t 58), none, false⟩, []),
  (⟨(some 60), .mv (.t 59), none, true⟩, []),
  (⟨(some 61), .fa 5 (.t 3), (some (60, false)), false⟩, []),
  (⟨(some 62), .ld false 1 (.t 61), (some (60, false)), false⟩, []),
  (⟨(some 63), .mv (.t 4), (some (60, false)), false⟩, [8, 9]),
  (⟨(some 64), .nck (.t 63), (some (60, false)), false⟩, [8, 9]),
  (⟨(some 65), .fa 2 (.t 64), (some (60, false)), false⟩, [8, 9]),
  (⟨(some 66), .ld false 1 (.t 65), (some (60, false)), false⟩, [8, 9]),
  (⟨(some 67), .bin .neq (.t 62) (.t 66), (some (60, false)), false⟩, []),
  (⟨(some 68), .pick (.t 60) (.c (.b true)) (.t 67), none, false⟩, []),
  (⟨(some 69), .mv (.t 68), none, true⟩, []),
  (⟨(some 70), .fa 6 (.t 3), (some (69, false)), false⟩, []),
  (⟨(some 71), .ld false 1 (.t 70), (some (69, false)), false⟩, []),
  (⟨(some 72), .mv (.t 4), (some (69, false)), false⟩, [17, 18]),
  (⟨(some 73), .nck (.t 72), (some (69, false)), false⟩, [17, 18]),
  (⟨(some 74), .fa 3 (.t 73), (some (69, false)), false⟩, [17, 18]),
  (⟨(some 75), .ld false 1 (.t 74), (some (69, false)), false⟩, [17, 18]),
  (⟨(some 76), .bin .gtr (.t 71) (.t 75), (some (69, false)), false⟩, []),
  (⟨(some 77), .mv (.t 76), (some (69, false)), true⟩, []),
  (⟨(some 78), .mv (.t 8), (some (77, true)), false⟩, []),
  (⟨(some 79), .not (.t 78), (some (77, true)), false⟩, []),
  (⟨(some 80), .pick (.t 77) (.t 79) (.c (.b false)), (some (69, false)), false⟩, []),
  (⟨(some 81), .pick (.t 69) (.c (.b true)) (.t 80), none, true⟩, [])]
abbrev i52r18 : List IOper := [
  ⟨(some 2), .mv (.c (.b false)), none, false⟩]
abbrev i52r19 : List (IOper × List Nat) := [
  (⟨(some 82), .mv (.t 4), none, false⟩, []),
  (⟨(some 83), .mv (.t 4), none, false⟩, [0]),
  (⟨(some 84), .fa 4 (.t 3), none, false⟩, [0, 1]),
  (⟨(some 85), .ld false 1 (.t 84), none, false⟩, [0, 1]),
  (⟨(some 86), .mv (.t 4), none, false⟩, [0, 1, 2, 3]),
  (⟨(some 87), .nck (.t 86), none, false⟩, [0, 1, 2, 3]),
  (⟨(some 88), .fa 3 (.t 87), none, false⟩, [0, 1, 2, 3]),
  (⟨(some 89), .ld false 1 (.t 88), none, false⟩, [0, 1, 2, 3]),
  (⟨(some 90), .fa 6 (.t 3), none, false⟩, [0, 1, 2, 3, 4, 5, 6, 7]),
  (⟨(some 91), .ld false 1 (.t 90), none, false⟩, [0, 1, 2, 3, 4, 5, 6, 7]),
  (⟨(some 92), .mx (.t 89) [.t 91], none, false⟩, [0, 1, 2, 3]),
  (⟨(some 93), .nck (.t 82), none, false⟩, [1, 8, 9, 10]),
  (⟨(some 94), .fa 1 (.t 93), none, false⟩, [1, 8, 9, 10]),
  (⟨none, .st 1 (.t 94) (.t 85), none, false⟩, [1, 8, 9, 10]),
  (⟨(some 95), .nck (.t 83), none, false⟩, []),
  (⟨(some 96), .fa 3 (.t 95), none, false⟩, []),
  (⟨none, .st 1 (.t 96) (.t 92), none, false⟩, [])]
abbrev i52r20 : List IOper := [
  ⟨(some 2), .mv (.c (.b true)), none, false⟩]
abbrev i52c : ICode := (.seq (.reg i52r0) (.seq (.dreg i52r1) (.seq (.dreg i52r2) (.seq (.reg i52r3) (.seq (.block 0 (.seq (.reg i52r4) (.cond (.t 97) (.seq (.seq (.reg i52r5) (.cond (.t 102) (.seq (.reg i52r6) .ret) .skip)) (.seq (.reg i52r7) (.reg i52r8))) (.seq (.reg i52r9) (.cond (.t 112) (.seq (.seq (.reg i52r10) (.cond (.t 117) (.seq (.reg i52r11) .ret) .skip)) (.seq (.seq (.dreg i52r12) (.cond (.t 131) (.seq (.reg i52r13) (.seq (.reg i52r14) .ret)) .skip)) (.dreg i52r15))) (.seq (.dreg i52r16) (.seq (.seq (.dreg i52r17) (.cond (.t 81) (.seq (.reg i52r18) .ret) .skip)) (.dreg i52r19)))))))) (.seq (.reg i52r20) .ret))))))
def i52 : IFn := { np := 1, N := 144, ct := [97, 102, 112, 117, 131, 81], code := i52c, res := [.t 2] }
theorem i52_eq : compF Try.prog Try.f52 = some i52 := by kernel_rfl
abbrev i53r0 : List IOper := [
  ⟨(some 4), .mv (.c (.b false)), none, false⟩]
abbrev i53r1 : List IOper := [
  ⟨(some 5), .mv (.t 0), none, false⟩,
  ⟨(some 6), .mv (.t 1), none, false⟩,
  ⟨(some 7), .call (.c (.fn 72 [])) [.t 5, .t 6], none, false⟩,
  ⟨(some 8), .bin .geq (.t 7) (.c (.i .i64 0)), none, false⟩,
  ⟨(some 4), .mv (.t 8), none, false⟩]
abbrev i53c : ICode := (.seq (.reg i53r0) (.seq (.reg i53r1) .ret))
def i53 : IFn := { np := 2, N := 9, ct := [], code := i53c, res := [.t 4] }
theorem i53_eq : compF Try.prog Try.f53 = some i53 := by kernel_rfl
abbrev i54r0 : List IOper := [
  ⟨(some 1), .box (.t 0), none, false⟩,
  ⟨(some 2), .mv (.c (.b false)), none, false⟩]
abbrev i54r1 : List IOper := [
  ⟨(some 3), .ld true 9 (.t 1), none, false⟩,
  ⟨(some 4), .call (.c (.fn 55 [])) [.t 3], none, false⟩,
  ⟨(some 5), .bin .neq (.t 4) (.c (.i .i64 0)), none, false⟩,
  ⟨(some 2), .mv (.t 5), none, false⟩]
abbrev i54c : ICode := (.seq (.reg i54r0) (.seq (.reg i54r1) .ret))
def i54 : IFn := { np := 1, N := 6, ct := [], code := i54c, res := [.t 2] }
theorem i54_eq : compF Try.prog Try.f54 = some i54 := by kernel_rfl
abbrev i55r0 : List IOper := [
  ⟨(some 1), .box (.t 0), none, false⟩,
  ⟨(some 2), .mv (.c (.i .i64 0)), none, false⟩]
abbrev i55r1 : List IOper := [
  ⟨(some 6), .fa 1 (.t 1), none, false⟩,
  ⟨(some 7), .ld false 1 (.t 6), none, false⟩,
  ⟨(some 8), .bsl [.i .i64 0] 1 [(0, 1, .t 7)], none, false⟩,
  ⟨(some 9), .call (.c (.fn 73 [])) [.c (.i .i64 7), .t 8], none, false⟩,
  ⟨(some 10), .mv (.t 9), none, true⟩,
  ⟨(some 11), .fa 2 (.t 1), (some (10, true)), false⟩,
  ⟨(some 12), .ld false 1 (.t 11), (some (10, true)), false⟩,
  ⟨(some 13), .bsl [.i .i64 0] 1 [(0, 1, .t 12)], (some (10, true)), false⟩,
  ⟨(some 14), .call (.c (.fn 73 [])) [.c (.i .i64 16), .t 13], (some (10, true)), false⟩,
  ⟨(some 15), .pick (.t 10) (.t 14) (.c (.b false)), none, false⟩,
  ⟨(some 16), .mv (.t 15), none, true⟩,
  ⟨(some 17), .fa 3 (.t 1), (some (16, true)), false⟩,
  ⟨(some 18), .ld false 1 (.t 17), (some (16, true)), false⟩,
  ⟨(some 19), .fa 4 (.t 1), (some (16, true)), false⟩,
  ⟨(some 20), .ld false 1 (.t 19), (some (16, true)), false⟩,
  ⟨(some 21), .bsl [.i .i64 0, .i .i64 0] 2 [(0, 1, .t 18), (1, 1, .t 20)], (some (16, true)), false⟩,
  ⟨(some 22), .call (.c (.fn 73 [])) [.c (.i .i64 32), .t 21], (some (16, true)), false⟩,
  ⟨(some 23), .pick (.t 16) (.t 22) (.c (.b false)), none, false⟩,
  ⟨(some 24), .mv (.t 23), none, true⟩,
  ⟨(some 25), .fa 5 (.t 1), (some (24, true)), false⟩,
  ⟨(some 26), .ld false 1 (.t 25), (some (24, true)), false⟩,
  ⟨(some 27), .call (.c (.fn 73 [])) [.c (.i .i64 32), .t 26], (some (24, true)), false⟩,
  ⟨(some 28), .pick (.t 24) (.t 27) (.c (.b false)), none, false⟩,
  ⟨(some 29), .mv (.t 28), none, true⟩,
  ⟨(some 30), .fa 7 (.t 1), (some (29, true)), false⟩,
  ⟨(some 31), .ld false 1 (.t 30), (some (29, true)), false⟩,
  ⟨(some 32), .bsl [.i .i64 0] 1 [(0, 1, .t 31)], (some (29, true)), false⟩,
  ⟨(some 33), .call (.c (.fn 73 [])) [.c (.i .i64 8), .t 32], (some (29, true)), false⟩,
  ⟨(some 34), .pick (.t 29) (.t 33) (.c (.b false)), none, false⟩,
  ⟨(some 35), .mv (.t 34), none, true⟩,
  ⟨(some 36), .fa 5 (.t 1), (some (35, true)), false⟩,
  ⟨(some 37), .ld false 1 (.t 36), (some (35, true)), false⟩,
  ⟨(some 38), .lenV (.t 37), (some (35, true)), false⟩,
  ⟨(some 39), .bin .leq (.t 38) (.c (.i .i64 15)), (some (35, true)), false⟩,
  ⟨(some 40), .pick (.t 35) (.t 39) (.c (.b false)), none, false⟩,
  ⟨(some 41), .mv (.t 40), none, true⟩,
  ⟨(some 42), .fa 6 (.t 1), (some (41, true)), false⟩,
  ⟨(some 43), .ld false 1 (.t 42), (some (41, true)), false⟩,
  ⟨(some 44), .lenV (.t 43), (some (41, true)), false⟩,
  ⟨(some 45), .bin .leq (.t 44) (.c (.i .i64 16)), (some (41, true)), false⟩,
  ⟨(some 46), .pick (.t 41) (.t 45) (.c (.b false)), none, false⟩,
  ⟨(some 3), .mv (.t 46), none, false⟩]
abbrev i55r2 : List IOper := [
  ⟨(some 47), .fa 6 (.t 1), none, false⟩,
  ⟨(some 48), .ld false 1 (.t 47), none, false⟩,
  ⟨(some 49), .lenV (.t 48), none, false⟩,
  ⟨(some 50), .mv (.c (.i .i64 0)), none, false⟩]
abbrev i55r3 : List IOper := [
  ⟨(some 51), .bin .lss (.t 50) (.t 49), none, true⟩]
abbrev i55r4 : List IOper := [
  ⟨(some 52), .mv (.t 50), none, false⟩,
  ⟨(some 53), .ixaV 2 (.t 48) (.t 50), none, false⟩,
  ⟨(some 54), .ld true 2 (.t 53), none, false⟩,
  ⟨(some 5), .new [.i .i64 0, .s []], none, false⟩,
  ⟨(some 4), .mv (.t 52), none, false⟩,
  ⟨none, .st 2 (.t 5) (.t 54), none, false⟩]
abbrev i55r5 : List (IOper × List Nat) := [
  (⟨(some 55), .mv (.t 3), none, false⟩, []),
  (⟨(some 56), .mv (.t 55), none, true⟩, []),
  (⟨(some 57), .fa 0 (.t 5), (some (56, true)), false⟩, []),
  (⟨(some 58), .ld false 1 (.t 57), (some (56, true)), false⟩, []),
  (⟨(some 59), .fa 1 (.t 5), (some (56, true)), false⟩, [2, 3]),
  (⟨(some 60), .ld false 1 (.t 59), (some (56, true)), false⟩, [2, 3]),
  (⟨(some 61), .lenS (.t 60), (some (56, true)), false⟩, [2, 3]),
  (⟨(some 62), .bsl [.i .i64 0, .i .i64 0] 2 [(0, 1, .t 58), (1, 1, .t 61)], (some (56, true)), false⟩, []),
  (⟨(some 63), .call (.c (.fn 73 [])) [.c (.i .i64 8), .t 62], (some (56, true)), false⟩, []),
  (⟨(some 64), .pick (.t 56) (.t 63) (.c (.b false)), none, false⟩, []),
  (⟨(some 65), .mv (.t 64), none, true⟩, []),
  (⟨(some 66), .fa 0 (.t 5), (some (65, true)), false⟩, []),
  (⟨(some 67), .ld false 1 (.t 66), (some (65, true)), false⟩, []),
  (⟨(some 68), .bin .gtr (.t 67) (.c (.i .i64 0)), (some (65, true)), false⟩, []),
  (⟨(some 69), .pick (.t 65) (.t 68) (.c (.b false)), none, false⟩, []),
  (⟨(some 70), .mv (.t 69), none, true⟩, []),
  (⟨(some 71), .mv (.t 4), (some (70, true)), false⟩, []),
  (⟨(some 72), .bin .eql (.t 71) (.c (.i .i64 0)), (some (70, true)), false⟩, []),
  (⟨(some 73), .mv (.t 72), (some (70, true)), true⟩, []),
  (⟨(some 74), .fa 0 (.t 5), (some (73, false)), false⟩, []),
  (⟨(some 75), .ld false 1 (.t 74), (some (73, false)), false⟩, []),
  (⟨(some 76), .fa 6 (.t 1), (some (73, false)), false⟩, [19, 20]),
  (⟨(some 77), .ld false 1 (.t 76), (some (73, false)), false⟩, [19, 20]),
  (⟨(some 78), .mv (.t 4), (some (73, false)), false⟩, [19, 20, 21, 22]),
  (⟨(some 79), .bin .sub (.t 78) (.c (.i .i64 1)), (some (73, false)), false⟩, [19, 20, 21, 22]),
  (⟨(some 80), .ixaV 2 (.t 77) (.t 79), (some (73, false)), false⟩, [19, 20]),
  (⟨(some 81), .fa 0 (.t 80), (some (73, false)), false⟩, [19, 20]),
  (⟨(some 82), .ld false 1 (.t 81), (some (73, false)), false⟩, [19, 20]),
  (⟨(some 83), .bin .gtr (.t 75) (.t 82), (some (73, false)), false⟩, []),
  (⟨(some 84), .pick (.t 73) (.c (.b true)) (.t 83), (some (70, true)), false⟩, []),
  (⟨(some 85), .pick (.t 70) (.t 84) (.c (.b false)), none, false⟩, []),
  (⟨(some 3), .mv (.t 85), none, false⟩, [])]
abbrev i55r6 : List IOper := [
  ⟨(some 86), .bin .add (.t 50) (.c (.i .i64 1)), none, false⟩,
  ⟨(some 50), .mv (.t 86), none, false⟩]
abbrev i55l7 : ICode := (.seq (.reg i55r3) (.seq (.cond (.t 51) .skip (.exit 0)) (.seq (.block 1 (.seq (.reg i55r4) (.dreg i55r5))) (.reg i55r6))))
abbrev i55r8 : List IOper := [
  ⟨(some 87), .mv (.t 3), none, false⟩,
  ⟨(some 88), .not (.t 87), none, true⟩]
abbrev i55r9 : List IOper := [
  ⟨(some 2), .mv (.c (.i .i64 230)), none, false⟩]
abbrev i55r10 : List IOper := [
  ⟨(some 2), .mv (.c (.i .i64 0)), none, false⟩]
abbrev i55c : ICode := (.seq (.reg i55r0) (.seq (.reg i55r1) (.seq (.seq (.reg i55r2) (.block 0 (.loop i55l7))) (.seq (.seq (.reg i55r8) (.cond (.t 88) (.seq (.reg i55r9) .ret) .skip)) (.seq (.reg i55r10) .ret)))))
def i55 : IFn := { np := 1, N := 89, ct := [51, 88], code := i55c, res := [.t 2] }
theorem i55_eq : compF Try.prog Try.f55 = some i55 := by kernel_rfl
abbrev i66r0 : List IOper := [
  ⟨(some 2), .mv (.c (.i .u8 0)), none, false⟩]
abbrev i66r1 : List IOper := [
  ⟨(some 3), .mv (.c (.i .u8 0)), none, false⟩]
abbrev i66r2 : List IOper := [
  ⟨(some 6), .mv (.t 0), none, false⟩,
  ⟨(some 7), .lenV (.t 6), none, false⟩,
  ⟨(some 8), .mv (.c (.i .i64 0)), none, false⟩]
abbrev i66r3 : List IOper := [
  ⟨(some 9), .bin .lss (.t 8) (.t 7), none, true⟩]
abbrev i66r4 : List IOper := [
  ⟨(some 10), .ixaV 1 (.t 6) (.t 8), none, false⟩,
  ⟨(some 11), .ld false 1 (.t 10), none, false⟩,
  ⟨(some 5), .mv (.t 11), none, false⟩]
abbrev i66r5 : List IOper := [
  ⟨(some 12), .mv (.t 3), none, false⟩,
  ⟨(some 13), .bin .shl (.t 12) (.c (.i .u64 1)), none, false⟩,
  ⟨(some 3), .mv (.t 13), none, false⟩]
abbrev i66r6 : List IOper := [
  ⟨(some 14), .mv (.t 5), none, true⟩]
abbrev i66r7 : List IOper := [
  ⟨(some 15), .mv (.t 3), none, false⟩,
  ⟨(some 16), .bin .or (.t 15) (.c (.i .u8 1)), none, false⟩,
  ⟨(some 3), .mv (.t 16), none, false⟩]
abbrev i66r8 : List IOper := [
  ⟨(some 17), .bin .add (.t 8) (.c (.i .i64 1)), none, false⟩,
  ⟨(some 8), .mv (.t 17), none, false⟩]
abbrev i66l9 : ICode := (.seq (.reg i66r3) (.seq (.cond (.t 9) .skip (.exit 0)) (.seq (.block 1 (.seq (.reg i66r4) (.seq (.reg i66r5) (.seq (.reg i66r6) (.cond (.t 14) (.reg i66r7) .skip))))) (.reg i66r8))))
abbrev i66r10 : List IOper := [
  ⟨(some 18), .mv (.t 3), none, false⟩,
  ⟨(some 2), .mv (.t 18), none, false⟩]
abbrev i66c : ICode := (.seq (.reg i66r0) (.seq (.reg i66r1) (.seq (.seq (.reg i66r2) (.block 0 (.loop i66l9))) (.seq (.reg i66r10) .ret))))
def i66 : IFn := { np := 1, N := 19, ct := [9, 14], code := i66c, res := [.t 2] }
theorem i66_eq : compF Try.prog Try.f66 = some i66 := by kernel_rfl
abbrev i69r0 : List IOper := [
  ⟨(some 6), .mv (.c (.i .i64 0)), none, false⟩,
  ⟨(some 7), .mv (.c (.i .i64 0)), none, false⟩]
abbrev i69r1 : List IOper := [
  ⟨(some 9), .mv (.t 2), none, false⟩,
  ⟨(some 10), .bin .lss (.t 9) (.c (.i .i64 1)), none, false⟩,
  ⟨(some 11), .mv (.t 10), none, true⟩,
  ⟨(some 12), .mv (.t 2), (some (11, false)), false⟩,
  ⟨(some 13), .bin .gtr (.t 12) (.c (.i .i64 32)), (some (11, false)), false⟩,
  ⟨(some 14), .pick (.t 11) (.c (.b true)) (.t 13), none, false⟩,
  ⟨(some 15), .mv (.t 14), none, true⟩,
  ⟨(some 16), .mv (.t 0), (some (15, false)), false⟩,
  ⟨(some 17), .bin .lss (.t 16) (.c (.i .i64 0)), (some (15, false)), false⟩,
  ⟨(some 18), .pick (.t 15) (.c (.b true)) (.t 17), none, false⟩,
  ⟨(some 19), .mv (.t 18), none, true⟩,
  ⟨(some 20), .mv (.t 0), (some (19, false)), false⟩,
  ⟨(some 21), .mv (.t 2), (some (19, false)), false⟩,
  ⟨(some 22), .bin .shr (.t 20) (.t 21), (some (19, false)), false⟩,
  ⟨(some 23), .bin .neq (.t 22) (.c (.i .i64 0)), (some (19, false)), false⟩,
  ⟨(some 24), .pick (.t 19) (.c (.b true)) (.t 23), none, false⟩,
  ⟨(some 25), .mv (.t 24), none, true⟩,
  ⟨(some 26), .mv (.t 1), (some (25, false)), false⟩,
  ⟨(some 27), .bin .lss (.t 26) (.c (.i .i64 0)), (some (25, false)), false⟩,
  ⟨(some 28), .pick (.t 25) (.c (.b true)) (.t 27), none, false⟩,
  ⟨(some 29), .mv (.t 28), none, true⟩,
  ⟨(some 30), .mv (.t 1), (some (29, false)), false⟩,
  ⟨(some 31), .mv (.t 2), (some (29, false)), false⟩,
  ⟨(some 32), .bin .shr (.t 30) (.t 31), (some (29, false)), false⟩,
  ⟨(some 33), .bin .neq (.t 32) (.c (.i .i64 0)), (some (29, false)), false⟩,
  ⟨(some 34), .pick (.t 29) (.c (.b true)) (.t 33), none, true⟩]
abbrev i69r2 : List IOper := [
  ⟨(some 6), .mv (.c (.i .i64 0)), none, false⟩,
  ⟨(some 7), .mv (.c (.i .i64 2)), none, false⟩]
abbrev i69r3 : List IOper := [
  ⟨(some 35), .mv (.t 0), none, false⟩,
  ⟨(some 36), .mv (.t 1), none, false⟩,
  ⟨(some 37), .bin .sub (.t 35) (.t 36), none, false⟩,
  ⟨(some 38), .mv (.t 2), none, false⟩,
  ⟨(some 39), .bin .shl (.c (.i .i64 1)) (.t 38), none, false⟩,
  ⟨(some 40), .bin .sub (.t 39) (.c (.i .i64 1)), none, false⟩,
  ⟨(some 41), .bin .and (.t 37) (.t 40), none, false⟩,
  ⟨(some 8), .mv (.t 41), none, false⟩]
abbrev i69r4 : List IOper := [
  ⟨(some 42), .mv (.t 8), none, false⟩,
  ⟨(some 43), .mv (.t 2), none, false⟩,
  ⟨(some 44), .bin .sub (.t 43) (.c (.i .i64 1)), none, false⟩,
  ⟨(some 45), .bin .shr (.t 42) (.t 44), none, false⟩,
  ⟨(some 46), .bin .eql (.t 45) (.c (.i .i64 1)), none, true⟩]
abbrev i69r5 : List IOper := [
  ⟨(some 47), .mv (.t 8), none, false⟩,
  ⟨(some 48), .mv (.t 2), none, false⟩,
  ⟨(some 49), .bin .shl (.c (.i .i64 1)) (.t 48), none, false⟩,
  ⟨(some 50), .bin .sub (.t 47) (.t 49), none, false⟩,
  ⟨(some 8), .mv (.t 50), none, false⟩]
abbrev i69r6 : List IOper := [
  ⟨(some 51), .mv (.t 8), none, false⟩,
  ⟨(some 6), .mv (.t 51), none, false⟩,
  ⟨(some 7), .mv (.c (.i .i64 0)), none, false⟩]
abbrev i69c : ICode := (.seq (.reg i69r0) (.seq (.seq (.reg i69r1) (.cond (.t 34) (.seq (.reg i69r2) .ret) .skip)) (.seq (.reg i69r3) (.seq (.seq (.reg i69r4) (.cond (.t 46) (.reg i69r5) .skip)) (.seq (.reg i69r6) .ret)))))
def i69 : IFn := { np := 3, N := 52, ct := [34, 46], code := i69c, res := [.t 6, .t 7] }
theorem i69_eq : compF Try.prog Try.f69 = some i69 := by kernel_rfl
abbrev i70r0 : List IOper := [
  ⟨(some 2), .mv (.c (.b false)), none, false⟩]
abbrev i70r1 : List IOper := [
  ⟨(some 4), .mv (.t 0), none, false⟩,
  ⟨(some 5), .nck (.t 4), none, false⟩,
  ⟨(some 6), .fa 12 (.t 5), none, false⟩,
  ⟨(some 7), .fa 7 (.t 6), none, false⟩,
  ⟨(some 8), .ld false 1 (.t 7), none, false⟩,
  ⟨(some 9), .bin .eql (.t 8) (.c (.i .i64 0)), none, true⟩]
abbrev i70r2 : List IOper := [
  ⟨(some 2), .mv (.c (.b true)), none, false⟩]
abbrev i70r3 : List (IOper × List Nat) := [
  (⟨(some 10), .mv (.t 0), none, false⟩, []),
  (⟨(some 11), .mv (.t 0), none, false⟩, [0]),
  (⟨(some 12), .nck (.t 11), none, false⟩, [0]),
  (⟨(some 13), .fa 12 (.t 12), none, false⟩, [0]),
  (⟨(some 14), .fa 7 (.t 13), none, false⟩, [0]),
  (⟨(some 15), .ld false 1 (.t 14), none, false⟩, [0]),
  (⟨(some 16), .bin .sub (.t 15) (.c (.i .i64 1)), none, false⟩, [0]),
  (⟨(some 17), .nck (.t 10), none, false⟩, [1, 2, 3, 4, 5, 6]),
  (⟨(some 18), .fa 0 (.t 17), none, false⟩, [1, 2, 3, 4, 5, 6]),
  (⟨(some 19), .fa 0 (.t 18), none, false⟩, [1, 2, 3, 4, 5, 6]),
  (⟨(some 20), .ixaA 3 4 (.t 19) (.t 16), none, false⟩, []),
  (⟨(some 21), .ld true 4 (.t 20), none, false⟩, []),
  (⟨(some 3), .new [.b false, .i .i64 0, .i .i64 0, .i .i64 0], none, false⟩, [0, 1, 2, 3, 4, 5, 6, 7, 8, 9, 10, 11]),
  (⟨none, .st 4 (.t 3) (.t 21), none, false⟩, [])]
abbrev i70r4 : List (IOper × List Nat) := [
  (⟨(some 22), .fa 0 (.t 3), none, false⟩, []),
  (⟨(some 23), .ld false 1 (.t 22), none, false⟩, []),
  (⟨(some 24), .mv (.t 23), none, true⟩, []),
  (⟨(some 25), .fa 1 (.t 3), (some (24, true)), false⟩, []),
  (⟨(some 26), .ld false 1 (.t 25), (some (24, true)), false⟩, []),
  (⟨(some 27), .mv (.t 0), (some (24, true)), false⟩, [3, 4]),
  (⟨(some 28), .nck (.t 27), (some (24, true)), false⟩, [3, 4]),
  (⟨(some 29), .fa 12 (.t 28), (some (24, true)), false⟩, [3, 4]),
  (⟨(some 30), .fa 4 (.t 29), (some (24, true)), false⟩, [3, 4]),
  (⟨(some 31), .ld false 1 (.t 30), (some (24, true)), false⟩, [3, 4]),
  (⟨(some 32), .bin .eql (.t 26) (.t 31), (some (24, true)), false⟩, []),
  (⟨(some 33), .pick (.t 24) (.t 32) (.c (.b false)), none, false⟩, []),
  (⟨(some 2), .mv (.t 33), none, false⟩, [])]
abbrev i70c : ICode := (.seq (.reg i70r0) (.seq (.seq (.reg i70r1) (.cond (.t 9) (.seq (.reg i70r2) .ret) .skip)) (.seq (.dreg i70r3) (.seq (.dreg i70r4) .ret))))
def i70 : IFn := { np := 1, N := 34, ct := [9], code := i70c, res := [.t 2] }
theorem i70_eq : compF Try.prog Try.f70 = some i70 := by kernel_rfl
abbrev i71r0 : List (IOper × List Nat) := [
  (⟨(some 2), .mv (.t 0), none, false⟩, []),
  (⟨(some 3), .nck (.t 2), none, false⟩, []),
  (⟨(some 4), .fa 0 (.t 3), none, false⟩, []),
  (⟨(some 5), .fa 0 (.t 4), none, false⟩, []),
  (⟨(some 6), .mv (.t 0), none, false⟩, [0, 1, 2, 3]),
  (⟨(some 7), .nck (.t 6), none, false⟩, [0, 1, 2, 3]),
  (⟨(some 8), .fa 12 (.t 7), none, false⟩, [0, 1, 2, 3]),
  (⟨(some 9), .fa 7 (.t 8), none, false⟩, [0, 1, 2, 3]),
  (⟨(some 10), .ld false 1 (.t 9), none, false⟩, [0, 1, 2, 3]),
  (⟨(some 11), .slA 3 4 (.t 5) (some (.t 10)) none none, none, false⟩, []),
  (⟨none, .clr 4 [.b false, .i .i64 0, .i .i64 0, .i .i64 0] (.t 11), none, false⟩, [])]
abbrev i71c : ICode := (.dreg i71r0)
def i71 : IFn := { np := 1, N := 12, ct := [], code := i71c, res := [] }
theorem i71_eq : compF Try.prog Try.f71 = some i71 := by kernel_rfl
abbrev i72r0 : List IOper := [
  ⟨(some 4), .mv (.c (.i .i64 0)), none, false⟩]
abbrev i72r1 : List IOper := [
  ⟨(some 6), .mv (.t 0), none, false⟩,
  ⟨(some 7), .lenV (.t 6), none, false⟩,
  ⟨(some 8), .mv (.c (.i .i64 0)), none, false⟩]
abbrev i72r2 : List IOper := [
  ⟨(some 9), .bin .lss (.t 8) (.t 7), none, true⟩]
abbrev i72r3 : List IOper := [
  ⟨(some 10), .mv (.t 8), none, false⟩,
  ⟨(some 5), .mv (.t 10), none, false⟩]
abbrev i72r4 : List IOper := [
  ⟨(some 11), .mv (.t 1), none, false⟩,
  ⟨(some 12), .mv (.t 0), none, false⟩,
  ⟨(some 13), .mv (.t 5), none, false⟩,
  ⟨(some 14), .ixaV 9 (.t 12) (.t 13), none, false⟩,
  ⟨(some 15), .ld true 9 (.t 14), none, false⟩,
  ⟨(some 16), .call (.t 11) [.t 15], none, true⟩]
abbrev i72r5 : List IOper := [
  ⟨(some 17), .mv (.t 5), none, false⟩,
  ⟨(some 4), .mv (.t 17), none, false⟩]
abbrev i72r6 : List IOper := [
  ⟨(some 18), .bin .add (.t 8) (.c (.i .i64 1)), none, false⟩,
  ⟨(some 8), .mv (.t 18), none, false⟩]
abbrev i72l7 : ICode := (.seq (.reg i72r2) (.seq (.cond (.t 9) .skip (.exit 0)) (.seq (.block 1 (.seq (.reg i72r3) (.seq (.reg i72r4) (.cond (.t 16) (.seq (.reg i72r5) .ret) .skip)))) (.reg i72r6))))
abbrev i72r8 : List IOper := [
  ⟨(some 4), .mv (.c (.i .i64 (-1))), none, false⟩]
abbrev i72c : ICode := (.seq (.reg i72r0) (.seq (.seq (.reg i72r1) (.block 0 (.loop i72l7))) (.seq (.reg i72r8) .ret)))
def i72 : IFn := { np := 2, N := 19, ct := [9, 16], code := i72c, res := [.t 4] }
theorem i72_eq : compF Try.prog Try.f72 = some i72 := by kernel_rfl
abbrev i73r0 : List IOper := [
  ⟨(some 2), .box (.t 0), none, false⟩,
  ⟨(some 4), .mv (.c (.b false)), none, false⟩]
abbrev i73r1 : List IOper := [
  ⟨(some 5), .mv (.t 1), none, false⟩,
  ⟨(some 6), .mkf 82 [.t 2], none, false⟩,
  ⟨(some 7), .call (.c (.fn 81 [])) [.t 5, .t 6], none, false⟩,
  ⟨(some 8), .not (.t 7), none, false⟩,
  ⟨(some 4), .mv (.t 8), none, false⟩]
abbrev i73c : ICode := (.seq (.reg i73r0) (.seq (.reg i73r1) .ret))
def i73 : IFn := { np := 2, N := 9, ct := [], code := i73c, res := [.t 4] }
theorem i73_eq : compF Try.prog Try.f73 = some i73 := by kernel_rfl
abbrev i81r0 : List IOper := [
  ⟨(some 4), .mv (.c (.b false)), none, false⟩]
abbrev i81r1 : List IOper := [
  ⟨(some 5), .mv (.t 0), none, false⟩,
  ⟨(some 6), .mv (.t 1), none, false⟩,
  ⟨(some 7), .call (.c (.fn 86 [])) [.t 5, .t 6], none, false⟩,
  ⟨(some 8), .bin .geq (.t 7) (.c (.i .i64 0)), none, false⟩,
  ⟨(some 4), .mv (.t 8), none, false⟩]
abbrev i81c : ICode := (.seq (.reg i81r0) (.seq (.reg i81r1) .ret))
def i81 : IFn := { np := 2, N := 9, ct := [], code := i81c, res := [.t 4] }
theorem i81_eq : compF Try.prog Try.f81 = some i81 := by kernel_rfl
abbrev i82r0 : List IOper := [
  ⟨(some 3), .mv (.c (.b false)), none, false⟩]
abbrev i82r1 : List IOper := [
  ⟨(some 4), .mv (.t 0), none, false⟩,
  ⟨(some 5), .bin .lss (.t 4) (.c (.i .i64 0)), none, false⟩,
  ⟨(some 6), .mv (.t 5), none, true⟩,
  ⟨(some 7), .mv (.t 0), (some (6, false)), false⟩,
  ⟨(some 8), .ld false 1 (.t 1), (some (6, false)), false⟩,
  ⟨(some 9), .bin .shr (.t 7) (.t 8), (some (6, false)), false⟩,
  ⟨(some 10), .bin .neq (.t 9) (.c (.i .i64 0)), (some (6, false)), false⟩,
  ⟨(some 11), .pick (.t 6) (.c (.b true)) (.t 10), none, false⟩,
  ⟨(some 3), .mv (.t 11), none, false⟩]
abbrev i82c : ICode := (.seq (.reg i82r0) (.seq (.reg i82r1) .ret))
def i82 : IFn := { np := 2, N := 12, ct := [], code := i82c, res := [.t 3] }
theorem i82_eq : compF Try.prog Try.f82 = some i82 := by kernel_rfl
abbrev i86r0 : List IOper := [
  ⟨(some 4), .mv (.c (.i .i64 0)), none, false⟩]
abbrev i86r1 : List IOper := [
  ⟨(some 6), .mv (.t 0), none, false⟩,
  ⟨(some 7), .lenV (.t 6), none, false⟩,
  ⟨(some 8), .mv (.c (.i .i64 0)), none, false⟩]
abbrev i86r2 : List IOper := [
  ⟨(some 9), .bin .lss (.t 8) (.t 7), none, true⟩]
abbrev i86r3 : List IOper := [
  ⟨(some 10), .mv (.t 8), none, false⟩,
  ⟨(some 5), .mv (.t 10), none, false⟩]
abbrev i86r4 : List IOper := [
  ⟨(some 11), .mv (.t 1), none, false⟩,
  ⟨(some 12), .mv (.t 0), none, false⟩,
  ⟨(some 13), .mv (.t 5), none, false⟩,
  ⟨(some 14), .ixaV 1 (.t 12) (.t 13), none, false⟩,
  ⟨(some 15), .ld false 1 (.t 14), none, false⟩,
  ⟨(some 16), .call (.t 11) [.t 15], none, true⟩]
abbrev i86r5 : List IOper := [
  ⟨(some 17), .mv (.t 5), none, false⟩,
  ⟨(some 4), .mv (.t 17), none, false⟩]
abbrev i86r6 : List IOper := [
  ⟨(some 18), .bin .add (.t 8) (.c (.i .i64 1)), none, false⟩,
  ⟨(some 8), .mv (.t 18), none, false⟩]
abbrev i86l7 : ICode := (.seq (.reg i86r2) (.seq (.cond (.t 9) .skip (.exit 0)) (.seq (.block 1 (.seq (.reg i86r3) (.seq (.reg i86r4) (.cond (.t 16) (.seq (.reg i86r5) .ret) .skip)))) (.reg i86r6))))
abbrev i86r8 : List IOper := [
  ⟨(some 4), .mv (.c (.i .i64 (-1))), none, false⟩]
abbrev i86c : ICode := (.seq (.reg i86r0) (.seq (.seq (.reg i86r1) (.block 0 (.loop i86l7))) (.seq (.reg i86r8) .ret)))
def i86 : IFn := { np := 2, N := 19, ct := [9, 16], code := i86c, res := [.t 4] }
theorem i86_eq : compF Try.prog Try.f86 = some i86 := by kernel_rfl
end Go.Proofs.Pic
