/- The small language's text of the functions; printed by ShowI.lean. -/
import Derived.Test.YtndbgcmgjnjnhaaProg
import Derived.Test.YtndbgcmgjnjnhaaAbRuns
namespace Go.Proofs.Pic
open Go.Ab
abbrev i4r0 : List IOper := [
  ⟨(some 6), .box (.t 0), none, false⟩,
  ⟨(some 8), .box (.t 2), none, false⟩,
  ⟨(some 9), .box (.t 3), none, false⟩,
  ⟨(some 11), .box (.t 5), none, false⟩,
  ⟨(some 12), .mv (.c (.b false)), none, false⟩]
abbrev i4r1 : List (IOper × List Nat) := [
  (⟨(some 28), .ld true 5 (.t 6), none, false⟩, []),
  (⟨(some 29), .call (.c (.fn 12 [])) [.t 28], none, false⟩, []),
  (⟨(some 30), .call (.c (.fn 17 [])) [.t 29], none, false⟩, []),
  (⟨(some 31), .mv (.t 1), none, false⟩, [0, 1, 2]),
  (⟨(some 32), .mv (.t 1), none, false⟩, [0, 1, 2, 3]),
  (⟨(some 33), .lenS (.t 32), none, false⟩, [0, 1, 2, 3]),
  (⟨(some 34), .mn (.t 33) [.c (.i .i64 40)], none, false⟩, [0, 1, 2, 3]),
  (⟨(some 35), .slS (.t 31) none (some (.t 34)), none, false⟩, [0, 1, 2]),
  (⟨(some 36), .bin .add (.t 30) (.t 35), none, false⟩, []),
  (⟨(some 13), .mv (.t 36), none, false⟩, [])]
abbrev i4r2 : List (IOper × List Nat) := [
  (⟨(some 37), .mv (.t 13), none, false⟩, []),
  (⟨(some 38), .ld true 3 (.t 8), none, false⟩, [0]),
  (⟨(some 39), .mv (.t 13), none, false⟩, [0, 1]),
  (⟨(some 40), .call (.c (.fn 19 [])) [.t 38, .t 39], none, false⟩, [0]),
  (⟨(some 41), .ld true 3 (.t 9), none, false⟩, [0, 1, 2, 3]),
  (⟨(some 42), .ld true 3 (.t 8), none, false⟩, [0, 1, 2, 3, 4]),
  (⟨(some 43), .mv (.t 13), none, false⟩, [0, 1, 2, 3, 4, 5]),
  (⟨(some 44), .call (.c (.fn 19 [])) [.t 42, .t 43], none, false⟩, [0, 4]),
  (⟨(some 45), .call (.c (.fn 19 [])) [.t 41, .t 44], none, false⟩, [0]),
  (⟨(some 46), .mv (.t 4), none, false⟩, [0, 1, 2, 3, 4, 5, 6, 7, 8]),
  (⟨(some 47), .mv (.t 4), none, false⟩, [0, 1, 2, 3, 4, 5, 6, 7, 8, 9]),
  (⟨(some 48), .lenS (.t 47), none, false⟩, [0, 1, 2, 3, 4, 5, 6, 7, 8, 9]),
  (⟨(some 49), .mn (.t 48) [.c (.i .i64 40)], none, false⟩, [0, 1, 2, 3, 4, 5, 6, 7, 8, 9]),
  (⟨(some 50), .slS (.t 46) none (some (.t 49)), none, false⟩, [0, 1, 2, 3, 4, 5, 6, 7, 8]),
  (⟨(some 51), .build [.s [], .s [], .s [], .s []] [(0, 1, .t 37), (1, 1, .t 40), (2, 1, .t 45), (3, 1, .t 50)], none, false⟩, []),
  (⟨(some 52), .mv (.c (.i .i64 0)), none, false⟩, [0, 1, 2, 3, 4, 5, 6, 7, 8, 9, 10, 11, 12, 13, 14])]
abbrev i4r3 : List IOper := [
  ⟨(some 53), .bin .lss (.t 52) (.c (.i .i64 4)), none, true⟩]
abbrev i4r4 : List IOper := [
  ⟨(some 54), .ixA 4 1 false (.t 51) (.t 52), none, false⟩,
  ⟨(some 15), .mv (.t 54), none, false⟩]
abbrev i4r5 : List IOper := [
  ⟨(some 56), .mv (.t 15), none, false⟩,
  ⟨(some 57), .call (.c (.fn 20 [])) [.t 56], none, false⟩,
  ⟨(some 55), .mv (.t 57), none, false⟩,
  ⟨(some 58), .ext (.t 55) 0, none, false⟩,
  ⟨(some 59), .ext (.t 55) 1, none, false⟩,
  ⟨(some 60), .ext (.t 55) 2, none, false⟩,
  ⟨(some 16), .new [.b false, .b false, .b false, .b false, .i .i64 0, .i .i64 0, .i .i64 0, .i .i64 0], none, false⟩,
  ⟨none, .st 8 (.t 16) (.t 58), none, false⟩,
  ⟨(some 17), .mv (.t 59), none, false⟩,
  ⟨(some 18), .mv (.t 60), none, false⟩]
abbrev i4r6 : List IOper := [
  ⟨(some 62), .mv (.t 15), none, false⟩,
  ⟨(some 63), .call (.c (.fn 21 [])) [.t 62], none, false⟩,
  ⟨(some 61), .mv (.t 63), none, false⟩,
  ⟨(some 64), .ext (.t 61) 0, none, false⟩,
  ⟨(some 65), .ext (.t 61) 1, none, false⟩,
  ⟨(some 66), .ext (.t 61) 2, none, false⟩,
  ⟨(some 19), .new [.b false, .b false, .b false, .b false, .i .i64 0, .i .i64 0, .i .i64 0, .i .i64 0], none, false⟩,
  ⟨none, .st 8 (.t 19) (.t 64), none, false⟩,
  ⟨(some 20), .mv (.t 65), none, false⟩,
  ⟨(some 21), .mv (.t 66), none, false⟩]
abbrev i4r7 : List IOper := [
  ⟨(some 67), .ld true 8 (.t 16), none, false⟩,
  ⟨(some 68), .ld true 8 (.t 19), none, false⟩,
  ⟨(some 69), .eqk true true [.b, .b, .b, .b, .i, .i, .i, .i] (.t 67) (.t 68), none, false⟩,
  ⟨(some 70), .mv (.t 69), none, true⟩,
  ⟨(some 71), .mv (.t 17), (some (70, false)), false⟩,
  ⟨(some 72), .mv (.t 20), (some (70, false)), false⟩,
  ⟨(some 73), .bin .neq (.t 71) (.t 72), (some (70, false)), false⟩,
  ⟨(some 74), .pick (.t 70) (.c (.b true)) (.t 73), none, false⟩,
  ⟨(some 75), .mv (.t 74), none, true⟩,
  ⟨(some 76), .mv (.t 18), (some (75, false)), false⟩,
  ⟨(some 77), .mv (.t 21), (some (75, false)), false⟩,
  ⟨(some 78), .bin .neq (.t 76) (.t 77), (some (75, false)), false⟩,
  ⟨(some 79), .pick (.t 75) (.c (.b true)) (.t 78), none, true⟩]
abbrev i4r8 : List IOper := [
  ⟨(some 12), .mv (.c (.b false)), none, false⟩]
abbrev i4r9 : List IOper := [
  ⟨(some 80), .ld true 2 (.t 11), none, false⟩,
  ⟨(some 81), .fa 1 (.t 6), none, false⟩,
  ⟨(some 82), .ld false 1 (.t 81), none, false⟩,
  ⟨(some 83), .i2i .i64 (.t 82), none, false⟩,
  ⟨(some 84), .fa 2 (.t 6), none, false⟩,
  ⟨(some 85), .ld false 1 (.t 84), none, false⟩,
  ⟨(some 86), .i2i .i64 (.t 85), none, false⟩,
  ⟨(some 87), .build [.i .i64 0, .i .i64 0] [(0, 1, .t 83), (1, 1, .t 86)], none, false⟩,
  ⟨(some 88), .build [.i .i64 0, .i .i64 0, .i .i64 0, .i .i64 0] [(0, 2, .t 80), (2, 2, .t 87)], none, false⟩,
  ⟨(some 89), .mv (.c (.i .i64 0)), none, false⟩]
abbrev i4r10 : List IOper := [
  ⟨(some 90), .bin .lss (.t 89) (.c (.i .i64 2)), none, true⟩]
abbrev i4r11 : List IOper := [
  ⟨(some 91), .ixA 2 2 true (.t 88) (.t 89), none, false⟩,
  ⟨(some 23), .new [.i .i64 0, .i .i64 0], none, false⟩,
  ⟨none, .st 2 (.t 23) (.t 91), none, false⟩]
abbrev i4r12 : List IOper := [
  ⟨(some 93), .mv (.t 15), none, false⟩,
  ⟨(some 94), .ixaA 2 1 (.t 23) (.c (.i .i64 0)), none, false⟩,
  ⟨(some 95), .ld false 1 (.t 94), none, false⟩,
  ⟨(some 96), .ixaA 2 1 (.t 23) (.c (.i .i64 1)), none, false⟩,
  ⟨(some 97), .ld false 1 (.t 96), none, false⟩,
  ⟨(some 98), .call (.c (.fn 22 [])) [.t 93, .t 95, .t 97], none, false⟩,
  ⟨(some 92), .mv (.t 98), none, false⟩,
  ⟨(some 99), .ext (.t 92) 0, none, false⟩,
  ⟨(some 100), .ext (.t 92) 1, none, false⟩,
  ⟨(some 24), .mv (.t 99), none, false⟩,
  ⟨(some 25), .mv (.t 100), none, false⟩]
abbrev i4r13 : List IOper := [
  ⟨(some 102), .mv (.t 15), none, false⟩,
  ⟨(some 103), .ixaA 2 1 (.t 23) (.c (.i .i64 0)), none, false⟩,
  ⟨(some 104), .ld false 1 (.t 103), none, false⟩,
  ⟨(some 105), .ixaA 2 1 (.t 23) (.c (.i .i64 1)), none, false⟩,
  ⟨(some 106), .ld false 1 (.t 105), none, false⟩,
  ⟨(some 107), .call (.c (.fn 23 [])) [.t 102, .t 104, .t 106], none, false⟩,
  ⟨(some 101), .mv (.t 107), none, false⟩,
  ⟨(some 108), .ext (.t 101) 0, none, false⟩,
  ⟨(some 109), .ext (.t 101) 1, none, false⟩,
  ⟨(some 26), .mv (.t 108), none, false⟩,
  ⟨(some 27), .mv (.t 109), none, false⟩]
abbrev i4r14 : List IOper := [
  ⟨(some 110), .mv (.t 24), none, false⟩,
  ⟨(some 111), .mv (.t 26), none, false⟩,
  ⟨(some 112), .bin .neq (.t 110) (.t 111), none, false⟩,
  ⟨(some 113), .mv (.t 112), none, true⟩,
  ⟨(some 114), .mv (.t 25), (some (113, false)), false⟩,
  ⟨(some 115), .mv (.t 27), (some (113, false)), false⟩,
  ⟨(some 116), .bin .neq (.t 114) (.t 115), (some (113, false)), false⟩,
  ⟨(some 117), .pick (.t 113) (.c (.b true)) (.t 116), none, true⟩]
abbrev i4r15 : List IOper := [
  ⟨(some 12), .mv (.c (.b false)), none, false⟩]
abbrev i4r16 : List IOper := [
  ⟨(some 118), .bin .add (.t 89) (.c (.i .i64 1)), none, false⟩,
  ⟨(some 89), .mv (.t 118), none, false⟩]
abbrev i4l17 : ICode := (.seq (.reg i4r10) (.seq (.cond (.t 90) .skip (.exit 2)) (.seq (.block 3 (.seq (.reg i4r11) (.seq (.reg i4r12) (.seq (.reg i4r13) (.seq (.reg i4r14) (.cond (.t 117) (.seq (.reg i4r15) .ret) .skip)))))) (.reg i4r16))))
abbrev i4r18 : List IOper := [
  ⟨(some 119), .bin .add (.t 52) (.c (.i .i64 1)), none, false⟩,
  ⟨(some 52), .mv (.t 119), none, false⟩]
abbrev i4l19 : ICode := (.seq (.reg i4r3) (.seq (.cond (.t 53) .skip (.exit 0)) (.seq (.block 1 (.seq (.reg i4r4) (.seq (.reg i4r5) (.seq (.reg i4r6) (.seq (.seq (.reg i4r7) (.cond (.t 79) (.seq (.reg i4r8) .ret) .skip)) (.seq (.reg i4r9) (.block 2 (.loop i4l17)))))))) (.reg i4r18))))
abbrev i4r20 : List IOper := [
  ⟨(some 120), .call (.c (.fn 18 [])) [], none, false⟩,
  ⟨(some 12), .mv (.t 120), none, false⟩]
abbrev i4c : ICode := (.seq (.reg i4r0) (.seq (.dreg i4r1) (.seq (.seq (.dreg i4r2) (.block 0 (.loop i4l19))) (.seq (.reg i4r20) .ret))))
def i4 : IFn := { np := 6, N := 121, ct := [53, 79, 90, 117], code := i4c, res := [.t 12] }
theorem i4_eq : compF Try.prog Try.f4 = some i4 := by kernel_rfl
abbrev i5r0 : List IOper := [
  ⟨(some 5), .box (.t 1), none, false⟩,
  ⟨(some 6), .box (.t 2), none, false⟩,
  ⟨(some 7), .box (.t 3), none, false⟩,
  ⟨(some 8), .mv (.c (.b false)), none, false⟩]
abbrev i5r1 : List IOper := [
  ⟨(some 26), .mv (.t 0), none, false⟩,
  ⟨(some 27), .call (.c (.fn 24 [])) [.t 26], none, false⟩,
  ⟨(some 9), .new [.b false, .i .i64 0, .i .i64 0, .i .i64 0, .b false, .i .i64 0, .i .i64 0, .i .i64 0, .b false, .i .i64 0, .i .i64 0, .i .i64 0], none, false⟩,
  ⟨none, .st 12 (.t 9) (.t 27), none, false⟩]
abbrev i5r2 : List IOper := [
  ⟨(some 28), .ixaA 2 3 (.t 6) (.c (.i .i64 0)), none, false⟩,
  ⟨(some 29), .ld true 3 (.t 28), none, false⟩,
  ⟨(some 30), .ld true 12 (.t 9), none, false⟩,
  ⟨(some 31), .call (.c (.fn 25 [])) [.t 29, .t 30], none, false⟩,
  ⟨(some 10), .new [.b false, .i .i64 0, .i .i64 0, .i .i64 0, .b false, .i .i64 0, .i .i64 0, .i .i64 0, .b false, .i .i64 0, .i .i64 0, .i .i64 0], none, false⟩,
  ⟨none, .st 12 (.t 10) (.t 31), none, false⟩]
abbrev i5r3 : List (IOper × List Nat) := [
  (⟨(some 32), .ld true 12 (.t 9), none, false⟩, []),
  (⟨(some 33), .ld true 12 (.t 10), none, false⟩, [0]),
  (⟨(some 34), .ixaA 2 3 (.t 6) (.c (.i .i64 1)), none, false⟩, [0, 1]),
  (⟨(some 35), .ld true 3 (.t 34), none, false⟩, [0, 1]),
  (⟨(some 36), .ld true 12 (.t 10), none, false⟩, [0, 1, 2, 3]),
  (⟨(some 37), .call (.c (.fn 25 [])) [.t 35, .t 36], none, false⟩, [0, 1]),
  (⟨(some 38), .build [.b false, .i .i64 0, .i .i64 0, .i .i64 0, .b false, .i .i64 0, .i .i64 0, .i .i64 0, .b false, .i .i64 0, .i .i64 0, .i .i64 0, .b false, .i .i64 0, .i .i64 0, .i .i64 0, .b false, .i .i64 0, .i .i64 0, .i .i64 0, .b false, .i .i64 0, .i .i64 0, .i .i64 0, .b false, .i .i64 0, .i .i64 0, .i .i64 0, .b false, .i .i64 0, .i .i64 0, .i .i64 0, .b false, .i .i64 0, .i .i64 0, .i .i64 0] [(0, 12, .t 32), (12, 12, .t 33), (24, 12, .t 37)], none, false⟩, []),
  (⟨(some 39), .mv (.c (.i .i64 0)), none, false⟩, [0, 1, 2, 3, 4, 5, 6])]
abbrev i5r4 : List IOper := [
  ⟨(some 40), .bin .lss (.t 39) (.c (.i .i64 3)), none, true⟩]
abbrev i5r5 : List IOper := [
  ⟨(some 41), .ixA 3 12 true (.t 38) (.t 39), none, false⟩,
  ⟨(some 12), .new [.b false, .i .i64 0, .i .i64 0, .i .i64 0, .b false, .i .i64 0, .i .i64 0, .i .i64 0, .b false, .i .i64 0, .i .i64 0, .i .i64 0], none, false⟩,
  ⟨none, .st 12 (.t 12) (.t 41), none, false⟩]
abbrev i5r6 : List IOper := [
  ⟨(some 42), .ld true 12 (.t 12), none, false⟩,
  ⟨(some 43), .call (.c (.fn 26 [])) [.t 42], none, false⟩,
  ⟨(some 13), .mv (.t 43), none, false⟩]
abbrev i5r7 : List IOper := [
  ⟨(some 44), .ld true 12 (.t 12), none, false⟩,
  ⟨(some 45), .call (.c (.fn 27 [])) [.t 44], none, false⟩,
  ⟨(some 46), .mv (.t 13), none, false⟩,
  ⟨(some 47), .bin .eql (.t 46) (.c (.i .i64 0)), none, false⟩,
  ⟨(some 48), .eqk true false [.b] (.t 45) (.t 47), none, false⟩,
  ⟨(some 49), .mv (.t 48), none, true⟩,
  ⟨(some 50), .mv (.t 13), (some (49, false)), false⟩,
  ⟨(some 51), .bin .neq (.t 50) (.c (.i .i64 0)), (some (49, false)), false⟩,
  ⟨(some 52), .mv (.t 51), (some (49, false)), true⟩,
  ⟨(some 53), .mv (.t 13), (some (52, true)), false⟩,
  ⟨(some 54), .bin .neq (.t 53) (.c (.i .i64 402)), (some (52, true)), false⟩,
  ⟨(some 55), .pick (.t 52) (.t 54) (.c (.b false)), (some (49, false)), false⟩,
  ⟨(some 56), .pick (.t 49) (.c (.b true)) (.t 55), none, true⟩]
abbrev i5r8 : List IOper := [
  ⟨(some 8), .mv (.c (.b false)), none, false⟩]
abbrev i5r9 : List IOper := [
  ⟨(some 57), .ld true 5 (.t 5), none, false⟩,
  ⟨(some 58), .call (.c (.fn 12 [])) [.t 57], none, false⟩,
  ⟨(some 14), .new [.b false, .b false, .b false, .b false, .i .i64 0, .i .i64 0, .i .i64 0, .i .i64 0], none, false⟩,
  ⟨none, .st 8 (.t 14) (.t 58), none, false⟩]
abbrev i5r10 : List (IOper × List Nat) := [
  (⟨(some 59), .ld true 8 (.t 14), none, false⟩, []),
  (⟨(some 60), .ld true 8 (.t 14), none, false⟩, [0]),
  (⟨(some 15), .new [.b false, .b false, .b false, .b false, .i .i64 0, .i .i64 0, .i .i64 0, .i .i64 0], none, false⟩, [0, 1]),
  (⟨(some 16), .new [.b false, .b false, .b false, .b false, .i .i64 0, .i .i64 0, .i .i64 0, .i .i64 0], none, false⟩, [0, 1, 2]),
  (⟨none, .st 8 (.t 15) (.t 59), none, false⟩, [1]),
  (⟨none, .st 8 (.t 16) (.t 60), none, false⟩, [])]
abbrev i5r11 : List IOper := [
  ⟨(some 61), .fa 7 (.t 14), none, false⟩,
  ⟨(some 62), .ld false 1 (.t 61), none, false⟩,
  ⟨(some 63), .fa 0 (.t 12), none, false⟩,
  ⟨(some 64), .ixaA 3 4 (.t 63) (.t 62), none, false⟩,
  ⟨(some 65), .ld true 4 (.t 64), none, false⟩,
  ⟨(some 17), .new [.b false, .i .i64 0, .i .i64 0, .i .i64 0], none, false⟩,
  ⟨none, .st 4 (.t 17) (.t 65), none, false⟩]
abbrev i5r12 : List (IOper × List Nat) := [
  (⟨(some 66), .fa 1 (.t 17), none, false⟩, []),
  (⟨(some 67), .ld false 1 (.t 66), none, false⟩, []),
  (⟨(some 68), .bin .add (.t 67) (.c (.i .i64 1)), none, false⟩, []),
  (⟨(some 69), .bin .and (.t 68) (.c (.i .i64 32767)), none, false⟩, []),
  (⟨(some 70), .fa 2 (.t 17), none, false⟩, [0, 1, 2, 3]),
  (⟨(some 71), .ld false 1 (.t 70), none, false⟩, [0, 1, 2, 3]),
  (⟨(some 72), .fa 4 (.t 15), none, false⟩, [4, 5]),
  (⟨none, .st 1 (.t 72) (.t 69), none, false⟩, [4, 5]),
  (⟨(some 73), .fa 5 (.t 15), none, false⟩, []),
  (⟨none, .st 1 (.t 73) (.t 71), none, false⟩, [])]
abbrev i5r13 : List IOper := [
  ⟨(some 74), .fa 6 (.t 15), none, false⟩,
  ⟨(some 75), .ld false 1 (.t 74), none, false⟩,
  ⟨(some 76), .bin .eql (.t 75) (.c (.i .i64 0)), none, true⟩]
abbrev i5r14 : List IOper := [
  ⟨(some 77), .fa 2 (.t 17), none, false⟩,
  ⟨(some 78), .ld false 1 (.t 77), none, false⟩,
  ⟨(some 79), .bin .add (.t 78) (.c (.i .i64 1)), none, false⟩,
  ⟨(some 80), .bin .and (.t 79) (.c (.i .i64 255)), none, false⟩,
  ⟨(some 81), .fa 5 (.t 15), none, false⟩,
  ⟨none, .st 1 (.t 81) (.t 80), none, false⟩]
abbrev i5r15 : List IOper := [
  ⟨(some 82), .fa 7 (.t 14), none, false⟩,
  ⟨(some 83), .ld false 1 (.t 82), none, false⟩,
  ⟨(some 84), .bin .gtr (.t 83) (.c (.i .i64 0)), none, true⟩]
abbrev i5r16 : List IOper := [
  ⟨(some 85), .fa 7 (.t 14), none, false⟩,
  ⟨(some 86), .ld false 1 (.t 85), none, false⟩,
  ⟨(some 87), .bin .sub (.t 86) (.c (.i .i64 1)), none, false⟩,
  ⟨(some 88), .fa 0 (.t 12), none, false⟩,
  ⟨(some 89), .ixaA 3 4 (.t 88) (.t 87), none, false⟩,
  ⟨(some 90), .fa 1 (.t 89), none, false⟩,
  ⟨(some 91), .ld false 1 (.t 90), none, false⟩,
  ⟨(some 92), .fa 4 (.t 16), none, false⟩,
  ⟨none, .st 1 (.t 92) (.t 91), none, false⟩]
abbrev i5r17 : List (IOper × List Nat) := [
  (⟨(some 93), .ld true 8 (.t 14), none, false⟩, []),
  (⟨(some 94), .ld true 8 (.t 15), none, false⟩, [0]),
  (⟨(some 95), .ld true 8 (.t 16), none, false⟩, [0, 1]),
  (⟨(some 96), .ld true 3 (.t 7), none, false⟩, [0, 1, 2]),
  (⟨(some 97), .ld true 8 (.t 15), none, false⟩, [0, 1, 2, 3]),
  (⟨(some 98), .call (.c (.fn 13 [])) [.t 96, .t 97], none, false⟩, [0, 1, 2]),
  (⟨(some 99), .build [.b false, .b false, .b false, .b false, .i .i64 0, .i .i64 0, .i .i64 0, .i .i64 0, .b false, .b false, .b false, .b false, .i .i64 0, .i .i64 0, .i .i64 0, .i .i64 0, .b false, .b false, .b false, .b false, .i .i64 0, .i .i64 0, .i .i64 0, .i .i64 0, .b false, .b false, .b false, .b false, .i .i64 0, .i .i64 0, .i .i64 0, .i .i64 0] [(0, 8, .t 93), (8, 8, .t 94), (16, 8, .t 95), (24, 8, .t 98)], none, false⟩, []),
  (⟨(some 100), .mv (.c (.i .i64 0)), none, false⟩, [0, 1, 2, 3, 4, 5, 6])]
abbrev i5r18 : List IOper := [
  ⟨(some 101), .bin .lss (.t 100) (.c (.i .i64 4)), none, true⟩]
abbrev i5r19 : List IOper := [
  ⟨(some 102), .ixA 4 8 true (.t 99) (.t 100), none, false⟩,
  ⟨(some 19), .new [.b false, .b false, .b false, .b false, .i .i64 0, .i .i64 0, .i .i64 0, .i .i64 0], none, false⟩,
  ⟨none, .st 8 (.t 19) (.t 102), none, false⟩]
abbrev i5r20 : List IOper := [
  ⟨(some 104), .ld true 12 (.t 12), none, false⟩,
  ⟨(some 105), .ld true 8 (.t 19), none, false⟩,
  ⟨(some 106), .call (.c (.fn 28 [])) [.t 104, .t 105], none, false⟩,
  ⟨(some 103), .mv (.t 106), none, false⟩,
  ⟨(some 107), .ext (.t 103) 0, none, false⟩,
  ⟨(some 108), .ext (.t 103) 1, none, false⟩,
  ⟨(some 109), .ext (.t 103) 2, none, false⟩,
  ⟨(some 20), .new [.b false, .i .i64 0, .i .i64 0, .i .i64 0, .b false, .i .i64 0, .i .i64 0, .i .i64 0, .b false, .i .i64 0, .i .i64 0, .i .i64 0], none, false⟩,
  ⟨none, .st 12 (.t 20) (.t 107), none, false⟩,
  ⟨(some 21), .mv (.t 108), none, false⟩,
  ⟨(some 22), .mv (.t 109), none, false⟩]
abbrev i5r21 : List IOper := [
  ⟨(some 111), .ld true 12 (.t 12), none, false⟩,
  ⟨(some 112), .ld true 8 (.t 19), none, false⟩,
  ⟨(some 113), .call (.c (.fn 29 [])) [.t 111, .t 112], none, false⟩,
  ⟨(some 110), .mv (.t 113), none, false⟩,
  ⟨(some 114), .ext (.t 110) 0, none, false⟩,
  ⟨(some 115), .ext (.t 110) 1, none, false⟩,
  ⟨(some 116), .ext (.t 110) 2, none, false⟩,
  ⟨(some 23), .new [.b false, .i .i64 0, .i .i64 0, .i .i64 0, .b false, .i .i64 0, .i .i64 0, .i .i64 0, .b false, .i .i64 0, .i .i64 0, .i .i64 0], none, false⟩,
  ⟨none, .st 12 (.t 23) (.t 114), none, false⟩,
  ⟨(some 24), .mv (.t 115), none, false⟩,
  ⟨(some 25), .mv (.t 116), none, false⟩]
abbrev i5r22 : List IOper := [
  ⟨(some 117), .ld true 12 (.t 20), none, false⟩,
  ⟨(some 118), .ld true 12 (.t 23), none, false⟩,
  ⟨(some 119), .eqk true true [.b, .i, .i, .i, .b, .i, .i, .i, .b, .i, .i, .i] (.t 117) (.t 118), none, false⟩,
  ⟨(some 120), .mv (.t 119), none, true⟩,
  ⟨(some 121), .mv (.t 21), (some (120, false)), false⟩,
  ⟨(some 122), .mv (.t 24), (some (120, false)), false⟩,
  ⟨(some 123), .eqk true false [.b] (.t 121) (.t 122), (some (120, false)), false⟩,
  ⟨(some 124), .pick (.t 120) (.c (.b true)) (.t 123), none, false⟩,
  ⟨(some 125), .mv (.t 124), none, true⟩,
  ⟨(some 126), .mv (.t 22), (some (125, false)), false⟩,
  ⟨(some 127), .mv (.t 25), (some (125, false)), false⟩,
  ⟨(some 128), .bin .neq (.t 126) (.t 127), (some (125, false)), false⟩,
  ⟨(some 129), .pick (.t 125) (.c (.b true)) (.t 128), none, true⟩]
abbrev i5r23 : List IOper := [
  ⟨(some 8), .mv (.c (.b false)), none, false⟩]
abbrev i5r24 : List IOper := [
  ⟨(some 130), .bin .add (.t 100) (.c (.i .i64 1)), none, false⟩,
  ⟨(some 100), .mv (.t 130), none, false⟩]
abbrev i5l25 : ICode := (.seq (.reg i5r18) (.seq (.cond (.t 101) .skip (.exit 2)) (.seq (.block 3 (.seq (.reg i5r19) (.seq (.reg i5r20) (.seq (.reg i5r21) (.seq (.reg i5r22) (.cond (.t 129) (.seq (.reg i5r23) .ret) .skip)))))) (.reg i5r24))))
abbrev i5r26 : List IOper := [
  ⟨(some 131), .bin .add (.t 39) (.c (.i .i64 1)), none, false⟩,
  ⟨(some 39), .mv (.t 131), none, false⟩]
abbrev i5l27 : ICode := (.seq (.reg i5r4) (.seq (.cond (.t 40) .skip (.exit 0)) (.seq (.block 1 (.seq (.reg i5r5) (.seq (.seq (.reg i5r6) (.seq (.reg i5r7) (.cond (.t 56) (.seq (.reg i5r8) .ret) .skip))) (.seq (.reg i5r9) (.seq (.dreg i5r10) (.seq (.reg i5r11) (.seq (.dreg i5r12) (.seq (.seq (.reg i5r13) (.cond (.t 76) (.reg i5r14) .skip)) (.seq (.seq (.reg i5r15) (.cond (.t 84) (.reg i5r16) .skip)) (.seq (.dreg i5r17) (.block 2 (.loop i5l25)))))))))))) (.reg i5r26))))
abbrev i5r28 : List IOper := [
  ⟨(some 132), .call (.c (.fn 18 [])) [], none, false⟩,
  ⟨(some 8), .mv (.t 132), none, false⟩]
abbrev i5c : ICode := (.seq (.reg i5r0) (.seq (.reg i5r1) (.seq (.reg i5r2) (.seq (.seq (.dreg i5r3) (.block 0 (.loop i5l27))) (.seq (.reg i5r28) .ret)))))
def i5 : IFn := { np := 4, N := 133, ct := [40, 56, 76, 84, 101, 129], code := i5c, res := [.t 8] }
theorem i5_eq : compF Try.prog Try.f5 = some i5 := by kernel_rfl
abbrev i6r0 : List IOper := [
  ⟨(some 6), .mv (.c (.b false)), none, false⟩]
abbrev i6r1 : List IOper := [
  ⟨(some 26), .call (.c (.fn 18 [])) [], none, false⟩,
  ⟨(some 27), .not (.t 26), none, true⟩]
abbrev i6r2 : List IOper := [
  ⟨(some 6), .mv (.c (.b false)), none, false⟩]
abbrev i6r3 : List IOper := [
  ⟨(some 28), .mv (.t 0), none, false⟩,
  ⟨(some 29), .mv (.t 1), none, false⟩,
  ⟨(some 30), .call (.c (.fn 30 [])) [.t 28, .t 29], none, false⟩,
  ⟨(some 7), .mv (.t 30), none, false⟩]
abbrev i6r4 : List IOper := [
  ⟨(some 31), .mv (.c (.i .i64 0)), none, false⟩]
abbrev i6r5 : List IOper := [
  ⟨(some 32), .bin .lss (.t 31) (.c (.i .i64 3)), none, true⟩]
abbrev i6r6 : List IOper := [
  ⟨(some 33), .mv (.t 31), none, false⟩,
  ⟨(some 8), .mv (.t 33), none, false⟩]
abbrev i6r7 : List IOper := [
  ⟨(some 9), .new [.b false, .i .i64 0, .i .i64 0, .i .i64 0, .b false, .i .i64 0, .i .i64 0, .i .i64 0, .b false, .i .i64 0, .i .i64 0, .i .i64 0], none, false⟩]
abbrev i6r8 : List IOper := [
  ⟨(some 34), .mv (.t 7), none, false⟩,
  ⟨(some 35), .lenV (.t 34), none, false⟩,
  ⟨(some 36), .mv (.c (.i .i64 0)), none, false⟩]
abbrev i6r9 : List IOper := [
  ⟨(some 37), .bin .lss (.t 36) (.t 35), none, true⟩]
abbrev i6r10 : List IOper := [
  ⟨(some 38), .ixaV 8 (.t 34) (.t 36), none, false⟩,
  ⟨(some 39), .ld true 8 (.t 38), none, false⟩,
  ⟨(some 11), .new [.b false, .b false, .b false, .b false, .i .i64 0, .i .i64 0, .i .i64 0, .i .i64 0], none, false⟩,
  ⟨none, .st 8 (.t 11) (.t 39), none, false⟩]
abbrev i6r11 : List IOper := [
  ⟨(some 40), .fa 6 (.t 11), none, false⟩,
  ⟨(some 41), .ld false 1 (.t 40), none, false⟩,
  ⟨(some 42), .mv (.t 8), none, false⟩,
  ⟨(some 43), .bin .gtr (.t 41) (.t 42), none, true⟩]
abbrev i6r12 : List IOper := [
  ⟨(some 45), .ld true 12 (.t 9), none, false⟩,
  ⟨(some 46), .ld true 8 (.t 11), none, false⟩,
  ⟨(some 47), .call (.c (.fn 28 [])) [.t 45, .t 46], none, false⟩,
  ⟨(some 44), .mv (.t 47), none, false⟩,
  ⟨(some 48), .ext (.t 44) 0, none, false⟩,
  ⟨(some 49), .ext (.t 44) 1, none, false⟩,
  ⟨(some 50), .ext (.t 44) 2, none, false⟩,
  ⟨(some 12), .new [.b false, .i .i64 0, .i .i64 0, .i .i64 0, .b false, .i .i64 0, .i .i64 0, .i .i64 0, .b false, .i .i64 0, .i .i64 0, .i .i64 0], none, false⟩,
  ⟨none, .st 12 (.t 12) (.t 48), none, false⟩,
  ⟨(some 13), .mv (.t 49), none, false⟩,
  ⟨(some 14), .mv (.t 50), none, false⟩]
abbrev i6r13 : List IOper := [
  ⟨(some 51), .mv (.t 13), none, false⟩,
  ⟨(some 52), .not (.t 51), none, false⟩,
  ⟨(some 53), .mv (.t 52), none, true⟩,
  ⟨(some 54), .mv (.t 14), (some (53, false)), false⟩,
  ⟨(some 55), .bin .neq (.t 54) (.c (.i .i64 0)), (some (53, false)), false⟩,
  ⟨(some 56), .pick (.t 53) (.c (.b true)) (.t 55), none, false⟩,
  ⟨(some 57), .mv (.t 56), none, true⟩,
  ⟨(some 58), .ld true 12 (.t 12), (some (57, false)), false⟩,
  ⟨(some 59), .call (.c (.fn 26 [])) [.t 58], (some (57, false)), false⟩,
  ⟨(some 60), .bin .neq (.t 59) (.c (.i .i64 0)), (some (57, false)), false⟩,
  ⟨(some 61), .pick (.t 57) (.c (.b true)) (.t 60), none, false⟩,
  ⟨(some 62), .mv (.t 61), none, true⟩,
  ⟨(some 63), .fa 0 (.t 12), (some (62, false)), false⟩,
  ⟨(some 64), .ixaA 3 4 (.t 63) (.c (.i .i64 0)), (some (62, false)), false⟩,
  ⟨(some 65), .fa 1 (.t 64), (some (62, false)), false⟩,
  ⟨(some 66), .ld false 1 (.t 65), (some (62, false)), false⟩,
  ⟨(some 67), .fa 4 (.t 11), (some (62, false)), false⟩,
  ⟨(some 68), .ld false 1 (.t 67), (some (62, false)), false⟩,
  ⟨(some 69), .bin .neq (.t 66) (.t 68), (some (62, false)), false⟩,
  ⟨(some 70), .pick (.t 62) (.c (.b true)) (.t 69), none, false⟩,
  ⟨(some 71), .mv (.t 70), none, true⟩,
  ⟨(some 72), .fa 0 (.t 12), (some (71, false)), false⟩,
  ⟨(some 73), .ixaA 3 4 (.t 72) (.c (.i .i64 0)), (some (71, false)), false⟩,
  ⟨(some 74), .fa 2 (.t 73), (some (71, false)), false⟩,
  ⟨(some 75), .ld false 1 (.t 74), (some (71, false)), false⟩,
  ⟨(some 76), .fa 5 (.t 11), (some (71, false)), false⟩,
  ⟨(some 77), .ld false 1 (.t 76), (some (71, false)), false⟩,
  ⟨(some 78), .bin .neq (.t 75) (.t 77), (some (71, false)), false⟩,
  ⟨(some 79), .pick (.t 71) (.c (.b true)) (.t 78), none, true⟩]
abbrev i6r14 : List IOper := [
  ⟨(some 6), .mv (.c (.b false)), none, false⟩]
abbrev i6r15 : List IOper := [
  ⟨(some 81), .ld true 12 (.t 12), none, false⟩,
  ⟨(some 82), .ld true 8 (.t 11), none, false⟩,
  ⟨(some 83), .call (.c (.fn 28 [])) [.t 81, .t 82], none, false⟩,
  ⟨(some 80), .mv (.t 83), none, false⟩,
  ⟨(some 84), .ext (.t 80) 0, none, false⟩,
  ⟨(some 85), .ext (.t 80) 1, none, false⟩,
  ⟨(some 86), .ext (.t 80) 2, none, false⟩,
  ⟨(some 15), .new [.b false, .i .i64 0, .i .i64 0, .i .i64 0, .b false, .i .i64 0, .i .i64 0, .i .i64 0, .b false, .i .i64 0, .i .i64 0, .i .i64 0], none, false⟩,
  ⟨none, .st 12 (.t 15) (.t 84), none, false⟩,
  ⟨(some 16), .mv (.t 85), none, false⟩,
  ⟨(some 17), .mv (.t 86), none, false⟩]
abbrev i6r16 : List IOper := [
  ⟨(some 87), .mv (.t 16), none, false⟩,
  ⟨(some 88), .fa 1 (.t 11), none, false⟩,
  ⟨(some 89), .ld false 1 (.t 88), none, false⟩,
  ⟨(some 90), .eqk true false [.b] (.t 87) (.t 89), none, false⟩,
  ⟨(some 91), .mv (.t 90), none, true⟩,
  ⟨(some 92), .mv (.t 17), (some (91, false)), false⟩,
  ⟨(some 93), .bin .neq (.t 92) (.c (.i .i64 0)), (some (91, false)), false⟩,
  ⟨(some 94), .pick (.t 91) (.c (.b true)) (.t 93), none, true⟩]
abbrev i6r17 : List IOper := [
  ⟨(some 6), .mv (.c (.b false)), none, false⟩]
abbrev i6r18 : List IOper := [
  ⟨(some 95), .ld true 12 (.t 12), none, false⟩,
  ⟨none, .st 12 (.t 9) (.t 95), none, false⟩]
abbrev i6r19 : List IOper := [
  ⟨(some 96), .bin .add (.t 36) (.c (.i .i64 1)), none, false⟩,
  ⟨(some 36), .mv (.t 96), none, false⟩]
abbrev i6l20 : ICode := (.seq (.reg i6r9) (.seq (.cond (.t 37) .skip (.exit 2)) (.seq (.block 3 (.seq (.reg i6r10) (.seq (.seq (.reg i6r11) (.cond (.t 43) (.exit 3) .skip)) (.seq (.reg i6r12) (.seq (.seq (.reg i6r13) (.cond (.t 79) (.seq (.reg i6r14) .ret) .skip)) (.seq (.seq (.reg i6r15) (.seq (.reg i6r16) (.cond (.t 94) (.seq (.reg i6r17) .ret) .skip))) (.reg i6r18))))))) (.reg i6r19))))
abbrev i6r21 : List IOper := [
  ⟨(some 97), .bin .add (.t 31) (.c (.i .i64 1)), none, false⟩,
  ⟨(some 31), .mv (.t 97), none, false⟩]
abbrev i6l22 : ICode := (.seq (.reg i6r5) (.seq (.cond (.t 32) .skip (.exit 0)) (.seq (.block 1 (.seq (.reg i6r6) (.seq (.reg i6r7) (.seq (.reg i6r8) (.block 2 (.loop i6l20)))))) (.reg i6r21))))
abbrev i6r23 : List IOper := [
  ⟨(some 98), .mv (.t 7), none, false⟩,
  ⟨(some 99), .lenV (.t 98), none, false⟩,
  ⟨(some 100), .bin .eql (.t 99) (.c (.i .i64 0)), none, true⟩]
abbrev i6r24 : List IOper := [
  ⟨(some 6), .mv (.c (.b true)), none, false⟩]
abbrev i6r25 : List IOper := [
  ⟨(some 101), .mv (.t 2), none, false⟩,
  ⟨(some 102), .i2i .i64 (.t 101), none, false⟩,
  ⟨(some 103), .mv (.t 7), none, false⟩,
  ⟨(some 104), .lenV (.t 103), none, false⟩,
  ⟨(some 105), .bin .rem (.t 102) (.t 104), none, false⟩,
  ⟨(some 18), .mv (.t 105), none, false⟩]
abbrev i6r26 : List IOper := [
  ⟨(some 19), .new [.b false, .i .i64 0, .i .i64 0, .i .i64 0, .b false, .i .i64 0, .i .i64 0, .i .i64 0, .b false, .i .i64 0, .i .i64 0, .i .i64 0], none, false⟩]
abbrev i6r27 : List IOper := [
  ⟨(some 20), .mv (.c (.b true)), none, false⟩]
abbrev i6r28 : List IOper := [
  ⟨(some 106), .mv (.t 7), none, false⟩,
  ⟨(some 107), .lenV (.t 106), none, false⟩,
  ⟨(some 108), .mv (.c (.i .i64 0)), none, false⟩]
abbrev i6r29 : List IOper := [
  ⟨(some 109), .bin .lss (.t 108) (.t 107), none, true⟩]
abbrev i6r30 : List IOper := [
  ⟨(some 110), .mv (.t 108), none, false⟩,
  ⟨(some 111), .ixaV 8 (.t 106) (.t 108), none, false⟩,
  ⟨(some 112), .ld true 8 (.t 111), none, false⟩,
  ⟨(some 22), .new [.b false, .b false, .b false, .b false, .i .i64 0, .i .i64 0, .i .i64 0, .i .i64 0], none, false⟩,
  ⟨(some 21), .mv (.t 110), none, false⟩,
  ⟨none, .st 8 (.t 22) (.t 112), none, false⟩]
abbrev i6r31 : List IOper := [
  ⟨(some 113), .mv (.t 21), none, false⟩,
  ⟨(some 114), .mv (.t 18), none, false⟩,
  ⟨(some 115), .bin .eql (.t 113) (.t 114), none, true⟩]
abbrev i6r32 : List IOper := [
  ⟨(some 116), .mv (.t 20), none, false⟩,
  ⟨(some 117), .mv (.t 116), none, true⟩,
  ⟨(some 118), .fa 6 (.t 22), (some (117, true)), false⟩,
  ⟨(some 119), .ld false 1 (.t 118), (some (117, true)), false⟩,
  ⟨(some 120), .bin .gtr (.t 119) (.c (.i .i64 0)), (some (117, true)), false⟩,
  ⟨(some 121), .pick (.t 117) (.t 120) (.c (.b false)), none, false⟩,
  ⟨(some 20), .mv (.t 121), none, false⟩]
abbrev i6r33 : List IOper := [
  ⟨(some 122), .fa 1 (.t 22), none, false⟩,
  ⟨(some 123), .ld false 1 (.t 122), none, true⟩]
abbrev i6r34 : List IOper := [
  ⟨(some 20), .mv (.c (.b true)), none, false⟩]
abbrev i6r35 : List IOper := [
  ⟨(some 125), .ld true 12 (.t 19), none, false⟩,
  ⟨(some 126), .ld true 8 (.t 22), none, false⟩,
  ⟨(some 127), .call (.c (.fn 28 [])) [.t 125, .t 126], none, false⟩,
  ⟨(some 124), .mv (.t 127), none, false⟩,
  ⟨(some 128), .ext (.t 124) 0, none, false⟩,
  ⟨(some 129), .ext (.t 124) 1, none, false⟩,
  ⟨(some 130), .ext (.t 124) 2, none, false⟩,
  ⟨(some 23), .new [.b false, .i .i64 0, .i .i64 0, .i .i64 0, .b false, .i .i64 0, .i .i64 0, .i .i64 0, .b false, .i .i64 0, .i .i64 0, .i .i64 0], none, false⟩,
  ⟨none, .st 12 (.t 23) (.t 128), none, false⟩,
  ⟨(some 24), .mv (.t 129), none, false⟩,
  ⟨(some 25), .mv (.t 130), none, false⟩]
abbrev i6r36 : List IOper := [
  ⟨(some 131), .mv (.t 25), none, false⟩,
  ⟨(some 132), .bin .neq (.t 131) (.c (.i .i64 0)), none, false⟩,
  ⟨(some 133), .mv (.t 132), none, true⟩,
  ⟨(some 134), .mv (.t 7), (some (133, false)), false⟩,
  ⟨(some 135), .mv (.t 18), (some (133, false)), false⟩,
  ⟨(some 136), .ixaV 8 (.t 134) (.t 135), (some (133, false)), false⟩,
  ⟨(some 137), .fa 6 (.t 136), (some (133, false)), false⟩,
  ⟨(some 138), .ld false 1 (.t 137), (some (133, false)), false⟩,
  ⟨(some 139), .bin .eql (.t 138) (.c (.i .i64 0)), (some (133, false)), false⟩,
  ⟨(some 140), .mv (.t 139), (some (133, false)), true⟩,
  ⟨(some 141), .mv (.t 24), (some (140, true)), false⟩,
  ⟨(some 142), .mv (.t 20), (some (140, true)), false⟩,
  ⟨(some 143), .eqk true false [.b] (.t 141) (.t 142), (some (140, true)), false⟩,
  ⟨(some 144), .pick (.t 140) (.t 143) (.c (.b false)), (some (133, false)), false⟩,
  ⟨(some 145), .pick (.t 133) (.c (.b true)) (.t 144), none, false⟩,
  ⟨(some 146), .mv (.t 145), none, true⟩,
  ⟨(some 147), .fa 6 (.t 22), (some (146, false)), false⟩,
  ⟨(some 148), .ld false 1 (.t 147), (some (146, false)), false⟩,
  ⟨(some 149), .bin .eql (.t 148) (.c (.i .i64 0)), (some (146, false)), false⟩,
  ⟨(some 150), .mv (.t 149), (some (146, false)), true⟩,
  ⟨(some 151), .mv (.t 24), (some (150, true)), false⟩,
  ⟨(some 152), .mv (.t 20), (some (150, true)), false⟩,
  ⟨(some 153), .eqk true false [.b] (.t 151) (.t 152), (some (150, true)), false⟩,
  ⟨(some 154), .pick (.t 150) (.t 153) (.c (.b false)), (some (146, false)), false⟩,
  ⟨(some 155), .pick (.t 146) (.c (.b true)) (.t 154), none, true⟩]
abbrev i6r37 : List IOper := [
  ⟨(some 6), .mv (.c (.b false)), none, false⟩]
abbrev i6r38 : List IOper := [
  ⟨(some 156), .ld true 12 (.t 23), none, false⟩,
  ⟨none, .st 12 (.t 19) (.t 156), none, false⟩]
abbrev i6r39 : List IOper := [
  ⟨(some 157), .bin .add (.t 108) (.c (.i .i64 1)), none, false⟩,
  ⟨(some 108), .mv (.t 157), none, false⟩]
abbrev i6l40 : ICode := (.seq (.reg i6r29) (.seq (.cond (.t 109) .skip (.exit 4)) (.seq (.block 5 (.seq (.reg i6r30) (.seq (.seq (.reg i6r31) (.cond (.t 115) (.seq (.reg i6r32) (.exit 5)) .skip)) (.seq (.seq (.reg i6r33) (.cond (.t 123) (.reg i6r34) .skip)) (.seq (.reg i6r35) (.seq (.seq (.reg i6r36) (.cond (.t 155) (.seq (.reg i6r37) .ret) .skip)) (.reg i6r38))))))) (.reg i6r39))))
abbrev i6r41 : List IOper := [
  ⟨(some 6), .mv (.c (.b true)), none, false⟩]
abbrev i6c : ICode := (.seq (.reg i6r0) (.seq (.seq (.reg i6r1) (.cond (.t 27) (.seq (.reg i6r2) .ret) .skip)) (.seq (.reg i6r3) (.seq (.seq (.reg i6r4) (.block 0 (.loop i6l22))) (.seq (.seq (.reg i6r23) (.cond (.t 100) (.seq (.reg i6r24) .ret) .skip)) (.seq (.reg i6r25) (.seq (.reg i6r26) (.seq (.reg i6r27) (.seq (.seq (.reg i6r28) (.block 4 (.loop i6l40))) (.seq (.reg i6r41) .ret))))))))))
def i6 : IFn := { np := 3, N := 158, ct := [27, 32, 37, 43, 79, 94, 100, 109, 115, 123, 155], code := i6c, res := [.t 6] }
theorem i6_eq : compF Try.prog Try.f6 = some i6 := by kernel_rfl
abbrev i7r0 : List IOper := [
  ⟨(some 5), .box (.t 0), none, false⟩,
  ⟨(some 7), .box (.t 2), none, false⟩,
  ⟨(some 10), .mv (.c (.b false)), none, false⟩]
abbrev i7r1 : List IOper := [
  ⟨(some 27), .call (.c (.fn 18 [])) [], none, false⟩,
  ⟨(some 28), .not (.t 27), none, true⟩]
abbrev i7r2 : List IOper := [
  ⟨(some 10), .mv (.c (.b false)), none, false⟩]
abbrev i7r3 : List IOper := [
  ⟨(some 29), .ld true 5 (.t 5), none, false⟩,
  ⟨(some 30), .call (.c (.fn 12 [])) [.t 29], none, false⟩,
  ⟨(some 11), .new [.b false, .b false, .b false, .b false, .i .i64 0, .i .i64 0, .i .i64 0, .i .i64 0], none, false⟩,
  ⟨none, .st 8 (.t 11) (.t 30), none, false⟩]
abbrev i7r4 : List IOper := [
  ⟨(some 31), .mv (.t 1), none, false⟩,
  ⟨(some 32), .mv (.t 1), none, false⟩,
  ⟨(some 33), .lenS (.t 32), none, false⟩,
  ⟨(some 34), .mn (.t 33) [.c (.i .i64 40)], none, false⟩,
  ⟨(some 35), .slS (.t 31) none (some (.t 34)), none, false⟩,
  ⟨(some 1), .mv (.t 35), none, false⟩]
abbrev i7r5 : List IOper := [
  ⟨(some 37), .ld true 8 (.t 11), none, false⟩,
  ⟨(some 38), .call (.c (.fn 15 [])) [.t 37], none, false⟩,
  ⟨(some 36), .mv (.t 38), none, false⟩,
  ⟨(some 39), .ext (.t 36) 0, none, false⟩,
  ⟨(some 40), .ext (.t 36) 1, none, false⟩,
  ⟨(some 12), .mv (.t 39), none, false⟩,
  ⟨(some 13), .mv (.t 40), none, false⟩]
abbrev i7r6 : List IOper := [
  ⟨(some 42), .mv (.t 12), none, false⟩,
  ⟨(some 43), .mv (.t 1), none, false⟩,
  ⟨(some 44), .bin .add (.t 42) (.t 43), none, false⟩,
  ⟨(some 45), .call (.c (.fn 20 [])) [.t 44], none, false⟩,
  ⟨(some 41), .mv (.t 45), none, false⟩,
  ⟨(some 46), .ext (.t 41) 0, none, false⟩,
  ⟨(some 47), .ext (.t 41) 1, none, false⟩,
  ⟨(some 48), .ext (.t 41) 2, none, false⟩,
  ⟨(some 14), .new [.b false, .b false, .b false, .b false, .i .i64 0, .i .i64 0, .i .i64 0, .i .i64 0], none, false⟩,
  ⟨none, .st 8 (.t 14) (.t 46), none, false⟩,
  ⟨(some 15), .mv (.t 47), none, false⟩,
  ⟨(some 16), .mv (.t 48), none, false⟩]
abbrev i7r7 : List IOper := [
  ⟨(some 49), .mv (.t 13), none, false⟩,
  ⟨(some 50), .bin .neq (.t 49) (.c (.i .i64 0)), none, false⟩,
  ⟨(some 51), .mv (.t 50), none, true⟩,
  ⟨(some 52), .mv (.t 16), (some (51, false)), false⟩,
  ⟨(some 53), .bin .neq (.t 52) (.c (.i .i64 0)), (some (51, false)), false⟩,
  ⟨(some 54), .pick (.t 51) (.c (.b true)) (.t 53), none, false⟩,
  ⟨(some 55), .mv (.t 54), none, true⟩,
  ⟨(some 56), .ld true 8 (.t 14), (some (55, false)), false⟩,
  ⟨(some 57), .ld true 8 (.t 11), (some (55, false)), false⟩,
  ⟨(some 58), .eqk true true [.b, .b, .b, .b, .i, .i, .i, .i] (.t 56) (.t 57), (some (55, false)), false⟩,
  ⟨(some 59), .pick (.t 55) (.c (.b true)) (.t 58), none, false⟩,
  ⟨(some 60), .mv (.t 59), none, true⟩,
  ⟨(some 61), .mv (.t 15), (some (60, false)), false⟩,
  ⟨(some 62), .mv (.t 1), (some (60, false)), false⟩,
  ⟨(some 63), .bin .neq (.t 61) (.t 62), (some (60, false)), false⟩,
  ⟨(some 64), .pick (.t 60) (.c (.b true)) (.t 63), none, false⟩,
  ⟨(some 65), .mv (.t 64), none, true⟩,
  ⟨(some 66), .mv (.t 12), (some (65, false)), false⟩,
  ⟨(some 67), .lenS (.t 66), (some (65, false)), false⟩,
  ⟨(some 68), .bin .neq (.t 67) (.c (.i .i64 5)), (some (65, false)), false⟩,
  ⟨(some 69), .pick (.t 65) (.c (.b true)) (.t 68), none, true⟩]
abbrev i7r8 : List IOper := [
  ⟨(some 10), .mv (.c (.b false)), none, false⟩]
abbrev i7r9 : List IOper := [
  ⟨(some 71), .mv (.t 12), none, false⟩,
  ⟨(some 72), .mv (.t 1), none, false⟩,
  ⟨(some 73), .bin .add (.t 71) (.t 72), none, false⟩,
  ⟨(some 74), .mv (.t 3), none, false⟩,
  ⟨(some 75), .bin .rem (.t 74) (.c (.i .u16 32768)), none, false⟩,
  ⟨(some 76), .i2i .i64 (.t 75), none, false⟩,
  ⟨(some 77), .mv (.t 4), none, false⟩,
  ⟨(some 78), .i2i .i64 (.t 77), none, false⟩,
  ⟨(some 79), .call (.c (.fn 22 [])) [.t 73, .t 76, .t 78], none, false⟩,
  ⟨(some 70), .mv (.t 79), none, false⟩,
  ⟨(some 80), .ext (.t 70) 0, none, false⟩,
  ⟨(some 81), .ext (.t 70) 1, none, false⟩,
  ⟨(some 17), .mv (.t 80), none, false⟩,
  ⟨(some 18), .mv (.t 81), none, false⟩]
abbrev i7r10 : List IOper := [
  ⟨(some 83), .mv (.t 17), none, false⟩,
  ⟨(some 84), .call (.c (.fn 20 [])) [.t 83], none, false⟩,
  ⟨(some 82), .mv (.t 84), none, false⟩,
  ⟨(some 85), .ext (.t 82) 0, none, false⟩,
  ⟨(some 86), .ext (.t 82) 1, none, false⟩,
  ⟨(some 87), .ext (.t 82) 2, none, false⟩,
  ⟨(some 19), .new [.b false, .b false, .b false, .b false, .i .i64 0, .i .i64 0, .i .i64 0, .i .i64 0], none, false⟩,
  ⟨none, .st 8 (.t 19) (.t 85), none, false⟩,
  ⟨(some 20), .mv (.t 86), none, false⟩,
  ⟨(some 21), .mv (.t 87), none, false⟩]
abbrev i7r11 : List (IOper × List Nat) := [
  (⟨(some 88), .fa 4 (.t 11), none, false⟩, []),
  (⟨(some 89), .ld false 1 (.t 88), none, false⟩, []),
  (⟨(some 90), .fa 5 (.t 11), none, false⟩, [0, 1]),
  (⟨(some 91), .ld false 1 (.t 90), none, false⟩, [0, 1]),
  (⟨(some 92), .fa 4 (.t 19), none, false⟩, [2, 3]),
  (⟨none, .st 1 (.t 92) (.t 89), none, false⟩, [2, 3]),
  (⟨(some 93), .fa 5 (.t 19), none, false⟩, []),
  (⟨none, .st 1 (.t 93) (.t 91), none, false⟩, [])]
abbrev i7r12 : List IOper := [
  ⟨(some 94), .mv (.t 18), none, false⟩,
  ⟨(some 95), .bin .neq (.t 94) (.c (.i .i64 0)), none, false⟩,
  ⟨(some 96), .mv (.t 95), none, true⟩,
  ⟨(some 97), .mv (.t 21), (some (96, false)), false⟩,
  ⟨(some 98), .bin .neq (.t 97) (.c (.i .i64 0)), (some (96, false)), false⟩,
  ⟨(some 99), .pick (.t 96) (.c (.b true)) (.t 98), none, false⟩,
  ⟨(some 100), .mv (.t 99), none, true⟩,
  ⟨(some 101), .ld true 8 (.t 19), (some (100, false)), false⟩,
  ⟨(some 102), .ld true 8 (.t 11), (some (100, false)), false⟩,
  ⟨(some 103), .eqk true true [.b, .b, .b, .b, .i, .i, .i, .i] (.t 101) (.t 102), (some (100, false)), false⟩,
  ⟨(some 104), .pick (.t 100) (.c (.b true)) (.t 103), none, false⟩,
  ⟨(some 105), .mv (.t 104), none, true⟩,
  ⟨(some 106), .mv (.t 20), (some (105, false)), false⟩,
  ⟨(some 107), .mv (.t 1), (some (105, false)), false⟩,
  ⟨(some 108), .bin .neq (.t 106) (.t 107), (some (105, false)), false⟩,
  ⟨(some 109), .pick (.t 105) (.c (.b true)) (.t 108), none, false⟩,
  ⟨(some 110), .mv (.t 109), none, true⟩,
  ⟨(some 111), .mv (.t 17), (some (110, false)), false⟩,
  ⟨(some 112), .lenS (.t 111), (some (110, false)), false⟩,
  ⟨(some 113), .mv (.t 12), (some (110, false)), false⟩,
  ⟨(some 114), .lenS (.t 113), (some (110, false)), false⟩,
  ⟨(some 115), .mv (.t 1), (some (110, false)), false⟩,
  ⟨(some 116), .lenS (.t 115), (some (110, false)), false⟩,
  ⟨(some 117), .bin .add (.t 114) (.t 116), (some (110, false)), false⟩,
  ⟨(some 118), .bin .neq (.t 112) (.t 117), (some (110, false)), false⟩,
  ⟨(some 119), .pick (.t 110) (.c (.b true)) (.t 118), none, true⟩]
abbrev i7r13 : List IOper := [
  ⟨(some 10), .mv (.c (.b false)), none, false⟩]
abbrev i7r14 : List IOper := [
  ⟨(some 120), .ld true 3 (.t 7), none, false⟩,
  ⟨(some 121), .mv (.t 12), none, false⟩,
  ⟨(some 122), .mv (.t 1), none, false⟩,
  ⟨(some 123), .bin .add (.t 121) (.t 122), none, false⟩,
  ⟨(some 124), .call (.c (.fn 19 [])) [.t 120, .t 123], none, false⟩,
  ⟨(some 22), .mv (.t 124), none, false⟩]
abbrev i7r15 : List IOper := [
  ⟨(some 126), .mv (.t 22), none, false⟩,
  ⟨(some 127), .call (.c (.fn 20 [])) [.t 126], none, false⟩,
  ⟨(some 125), .mv (.t 127), none, false⟩,
  ⟨(some 128), .ext (.t 125) 0, none, false⟩,
  ⟨(some 129), .ext (.t 125) 1, none, false⟩,
  ⟨(some 130), .ext (.t 125) 2, none, false⟩,
  ⟨(some 23), .new [.b false, .b false, .b false, .b false, .i .i64 0, .i .i64 0, .i .i64 0, .i .i64 0], none, false⟩,
  ⟨none, .st 8 (.t 23) (.t 128), none, false⟩,
  ⟨(some 15), .mv (.t 129), none, false⟩,
  ⟨(some 24), .mv (.t 130), none, false⟩]
abbrev i7r16 : List IOper := [
  ⟨(some 131), .mv (.t 24), none, false⟩,
  ⟨(some 132), .bin .neq (.t 131) (.c (.i .i64 0)), none, true⟩]
abbrev i7r17 : List IOper := [
  ⟨(some 133), .mv (.t 24), none, false⟩,
  ⟨(some 134), .bin .eql (.t 133) (.c (.i .i64 7)), none, false⟩,
  ⟨(some 135), .mv (.t 134), none, true⟩,
  ⟨(some 136), .mv (.t 24), (some (135, false)), false⟩,
  ⟨(some 137), .bin .eql (.t 136) (.c (.i .i64 5)), (some (135, false)), false⟩,
  ⟨(some 138), .pick (.t 135) (.c (.b true)) (.t 137), none, false⟩,
  ⟨(some 139), .mv (.t 138), none, true⟩,
  ⟨(some 140), .ld true 8 (.t 23), (some (139, true)), false⟩,
  ⟨(some 141), .build [.b false, .b false, .b false, .b false, .i .i64 0, .i .i64 0, .i .i64 0, .i .i64 0] [], (some (139, true)), false⟩,
  ⟨(some 142), .eqk false true [.b, .b, .b, .b, .i, .i, .i, .i] (.t 140) (.t 141), (some (139, true)), false⟩,
  ⟨(some 143), .pick (.t 139) (.t 142) (.c (.b false)), none, false⟩,
  ⟨(some 144), .mv (.t 143), none, true⟩,
  ⟨(some 145), .mv (.t 15), (some (144, true)), false⟩,
  ⟨(some 146), .bin .eql (.t 145) (.c (.s [])), (some (144, true)), false⟩,
  ⟨(some 147), .pick (.t 144) (.t 146) (.c (.b false)), none, false⟩,
  ⟨(some 10), .mv (.t 147), none, false⟩]
abbrev i7r18 : List IOper := [
  ⟨(some 149), .ld true 8 (.t 23), none, false⟩,
  ⟨(some 150), .call (.c (.fn 15 [])) [.t 149], none, false⟩,
  ⟨(some 148), .mv (.t 150), none, false⟩,
  ⟨(some 151), .ext (.t 148) 0, none, false⟩,
  ⟨(some 152), .ext (.t 148) 1, none, false⟩,
  ⟨(some 25), .mv (.t 151), none, false⟩,
  ⟨(some 26), .mv (.t 152), none, false⟩]
abbrev i7r19 : List IOper := [
  ⟨(some 153), .mv (.t 26), none, false⟩,
  ⟨(some 154), .bin .eql (.t 153) (.c (.i .i64 0)), none, false⟩,
  ⟨(some 155), .mv (.t 154), none, true⟩,
  ⟨(some 156), .mv (.t 25), (some (155, true)), false⟩,
  ⟨(some 157), .mv (.t 15), (some (155, true)), false⟩,
  ⟨(some 158), .bin .add (.t 156) (.t 157), (some (155, true)), false⟩,
  ⟨(some 159), .mv (.t 22), (some (155, true)), false⟩,
  ⟨(some 160), .bin .eql (.t 158) (.t 159), (some (155, true)), false⟩,
  ⟨(some 161), .pick (.t 155) (.t 160) (.c (.b false)), none, false⟩,
  ⟨(some 10), .mv (.t 161), none, false⟩]
abbrev i7c : ICode := (.seq (.reg i7r0) (.seq (.seq (.reg i7r1) (.cond (.t 28) (.seq (.reg i7r2) .ret) .skip)) (.seq (.reg i7r3) (.seq (.reg i7r4) (.seq (.reg i7r5) (.seq (.reg i7r6) (.seq (.seq (.reg i7r7) (.cond (.t 69) (.seq (.reg i7r8) .ret) .skip)) (.seq (.reg i7r9) (.seq (.reg i7r10) (.seq (.dreg i7r11) (.seq (.seq (.reg i7r12) (.cond (.t 119) (.seq (.reg i7r13) .ret) .skip)) (.seq (.reg i7r14) (.seq (.reg i7r15) (.seq (.seq (.reg i7r16) (.cond (.t 132) (.seq (.reg i7r17) .ret) .skip)) (.seq (.reg i7r18) (.seq (.reg i7r19) .ret))))))))))))))))
def i7 : IFn := { np := 5, N := 162, ct := [28, 69, 119, 132], code := i7c, res := [.t 10] }
theorem i7_eq : compF Try.prog Try.f7 = some i7 := by kernel_rfl
abbrev i8r0 : List IOper := [
  ⟨(some 2), .mv (.c (.b false)), none, false⟩]
abbrev i8r1 : List IOper := [
  ⟨(some 16), .call (.c (.fn 18 [])) [], none, false⟩,
  ⟨(some 17), .not (.t 16), none, true⟩]
abbrev i8r2 : List IOper := [
  ⟨(some 2), .mv (.c (.b false)), none, false⟩]
abbrev i8r3 : List IOper := [
  ⟨(some 3), .new [.b false, .i .i64 0, .i .i64 0, .i .i64 0, .b false, .i .i64 0, .i .i64 0, .i .i64 0, .b false, .i .i64 0, .i .i64 0, .i .i64 0], none, false⟩]
abbrev i8r4 : List IOper := [
  ⟨(some 18), .mv (.t 0), none, false⟩,
  ⟨(some 19), .mv (.t 0), none, false⟩,
  ⟨(some 20), .lenV (.t 19), none, false⟩,
  ⟨(some 21), .mn (.t 20) [.c (.i .i64 40)], none, false⟩,
  ⟨(some 22), .slV 5 (.t 18) none (some (.t 21)) none, none, false⟩,
  ⟨(some 23), .lenV (.t 22), none, false⟩,
  ⟨(some 24), .mv (.c (.i .i64 0)), none, false⟩]
abbrev i8r5 : List IOper := [
  ⟨(some 25), .bin .lss (.t 24) (.t 23), none, true⟩]
abbrev i8r6 : List IOper := [
  ⟨(some 26), .ixaV 5 (.t 22) (.t 24), none, false⟩,
  ⟨(some 27), .ld true 5 (.t 26), none, false⟩,
  ⟨(some 5), .new [.i .u8 0, .i .u16 0, .i .u8 0, .i .u8 0, .i .u8 0], none, false⟩,
  ⟨none, .st 5 (.t 5) (.t 27), none, false⟩]
abbrev i8r7 : List IOper := [
  ⟨(some 28), .ld true 5 (.t 5), none, false⟩,
  ⟨(some 29), .call (.c (.fn 12 [])) [.t 28], none, false⟩,
  ⟨(some 6), .new [.b false, .b false, .b false, .b false, .i .i64 0, .i .i64 0, .i .i64 0, .i .i64 0], none, false⟩,
  ⟨none, .st 8 (.t 6) (.t 29), none, false⟩]
abbrev i8r8 : List IOper := [
  ⟨(some 31), .ld true 12 (.t 3), none, false⟩,
  ⟨(some 32), .ld true 8 (.t 6), none, false⟩,
  ⟨(some 33), .call (.c (.fn 28 [])) [.t 31, .t 32], none, false⟩,
  ⟨(some 30), .mv (.t 33), none, false⟩,
  ⟨(some 34), .ext (.t 30) 0, none, false⟩,
  ⟨(some 35), .ext (.t 30) 1, none, false⟩,
  ⟨(some 36), .ext (.t 30) 2, none, false⟩,
  ⟨(some 7), .new [.b false, .i .i64 0, .i .i64 0, .i .i64 0, .b false, .i .i64 0, .i .i64 0, .i .i64 0, .b false, .i .i64 0, .i .i64 0, .i .i64 0], none, false⟩,
  ⟨none, .st 12 (.t 7) (.t 34), none, false⟩,
  ⟨(some 8), .mv (.t 35), none, false⟩,
  ⟨(some 9), .mv (.t 36), none, false⟩]
abbrev i8r9 : List IOper := [
  ⟨(some 37), .mv (.t 9), none, false⟩,
  ⟨(some 38), .bin .neq (.t 37) (.c (.i .i64 0)), none, false⟩,
  ⟨(some 39), .mv (.t 38), none, true⟩,
  ⟨(some 40), .ld true 12 (.t 7), (some (39, false)), false⟩,
  ⟨(some 41), .call (.c (.fn 26 [])) [.t 40], (some (39, false)), false⟩,
  ⟨(some 42), .bin .neq (.t 41) (.c (.i .i64 0)), (some (39, false)), false⟩,
  ⟨(some 43), .pick (.t 39) (.c (.b true)) (.t 42), none, false⟩,
  ⟨(some 44), .mv (.t 43), none, true⟩,
  ⟨(some 45), .fa 1 (.t 6), (some (44, false)), false⟩,
  ⟨(some 46), .ld false 1 (.t 45), (some (44, false)), false⟩,
  ⟨(some 47), .mv (.t 46), (some (44, false)), true⟩,
  ⟨(some 48), .fa 7 (.t 6), (some (47, true)), false⟩,
  ⟨(some 49), .ld false 1 (.t 48), (some (47, true)), false⟩,
  ⟨(some 50), .bin .eql (.t 49) (.c (.i .i64 0)), (some (47, true)), false⟩,
  ⟨(some 51), .pick (.t 47) (.t 50) (.c (.b false)), (some (44, false)), false⟩,
  ⟨(some 52), .mv (.t 51), (some (44, false)), true⟩,
  ⟨(some 53), .mv (.t 8), (some (52, true)), false⟩,
  ⟨(some 54), .not (.t 53), (some (52, true)), false⟩,
  ⟨(some 55), .pick (.t 52) (.t 54) (.c (.b false)), (some (44, false)), false⟩,
  ⟨(some 56), .pick (.t 44) (.c (.b true)) (.t 55), none, true⟩]
abbrev i8r10 : List IOper := [
  ⟨(some 2), .mv (.c (.b false)), none, false⟩]
abbrev i8r11 : List IOper := [
  ⟨(some 57), .mv (.t 8), none, true⟩]
abbrev i8r12 : List IOper := [
  ⟨(some 58), .fa 7 (.t 6), none, false⟩,
  ⟨(some 59), .ld false 1 (.t 58), none, false⟩,
  ⟨(some 60), .fa 0 (.t 7), none, false⟩,
  ⟨(some 61), .ixaA 3 4 (.t 60) (.t 59), none, false⟩,
  ⟨(some 62), .ld true 4 (.t 61), none, false⟩,
  ⟨(some 10), .new [.b false, .i .i64 0, .i .i64 0, .i .i64 0], none, false⟩,
  ⟨none, .st 4 (.t 10) (.t 62), none, false⟩]
abbrev i8r13 : List IOper := [
  ⟨(some 64), .ld true 12 (.t 7), none, false⟩,
  ⟨(some 65), .ld true 8 (.t 6), none, false⟩,
  ⟨(some 66), .call (.c (.fn 28 [])) [.t 64, .t 65], none, false⟩,
  ⟨(some 63), .mv (.t 66), none, false⟩,
  ⟨(some 67), .ext (.t 63) 0, none, false⟩,
  ⟨(some 68), .ext (.t 63) 1, none, false⟩,
  ⟨(some 69), .ext (.t 63) 2, none, false⟩,
  ⟨(some 11), .new [.b false, .i .i64 0, .i .i64 0, .i .i64 0, .b false, .i .i64 0, .i .i64 0, .i .i64 0, .b false, .i .i64 0, .i .i64 0, .i .i64 0], none, false⟩,
  ⟨none, .st 12 (.t 11) (.t 67), none, false⟩,
  ⟨(some 12), .mv (.t 68), none, false⟩,
  ⟨(some 13), .mv (.t 69), none, false⟩]
abbrev i8r14 : List IOper := [
  ⟨(some 70), .fa 0 (.t 10), none, false⟩,
  ⟨(some 71), .ld false 1 (.t 70), none, false⟩,
  ⟨(some 72), .not (.t 71), none, false⟩,
  ⟨(some 73), .mv (.t 72), none, true⟩,
  ⟨(some 74), .fa 1 (.t 10), (some (73, false)), false⟩,
  ⟨(some 75), .ld false 1 (.t 74), (some (73, false)), false⟩,
  ⟨(some 76), .fa 4 (.t 6), (some (73, false)), false⟩,
  ⟨(some 77), .ld false 1 (.t 76), (some (73, false)), false⟩,
  ⟨(some 78), .bin .neq (.t 75) (.t 77), (some (73, false)), false⟩,
  ⟨(some 79), .pick (.t 73) (.c (.b true)) (.t 78), none, false⟩,
  ⟨(some 80), .mv (.t 79), none, true⟩,
  ⟨(some 81), .fa 2 (.t 10), (some (80, false)), false⟩,
  ⟨(some 82), .ld false 1 (.t 81), (some (80, false)), false⟩,
  ⟨(some 83), .fa 5 (.t 6), (some (80, false)), false⟩,
  ⟨(some 84), .ld false 1 (.t 83), (some (80, false)), false⟩,
  ⟨(some 85), .bin .neq (.t 82) (.t 84), (some (80, false)), false⟩,
  ⟨(some 86), .pick (.t 80) (.c (.b true)) (.t 85), none, false⟩,
  ⟨(some 87), .mv (.t 86), none, true⟩,
  ⟨(some 88), .fa 3 (.t 10), (some (87, false)), false⟩,
  ⟨(some 89), .ld false 1 (.t 88), (some (87, false)), false⟩,
  ⟨(some 90), .fa 6 (.t 6), (some (87, false)), false⟩,
  ⟨(some 91), .ld false 1 (.t 90), (some (87, false)), false⟩,
  ⟨(some 92), .bin .lss (.t 89) (.t 91), (some (87, false)), false⟩,
  ⟨(some 93), .pick (.t 87) (.c (.b true)) (.t 92), none, false⟩,
  ⟨(some 94), .mv (.t 93), none, true⟩,
  ⟨(some 95), .mv (.t 12), (some (94, false)), false⟩,
  ⟨(some 96), .fa 1 (.t 6), (some (94, false)), false⟩,
  ⟨(some 97), .ld false 1 (.t 96), (some (94, false)), false⟩,
  ⟨(some 98), .eqk true false [.b] (.t 95) (.t 97), (some (94, false)), false⟩,
  ⟨(some 99), .pick (.t 94) (.c (.b true)) (.t 98), none, false⟩,
  ⟨(some 100), .mv (.t 99), none, true⟩,
  ⟨(some 101), .mv (.t 13), (some (100, false)), false⟩,
  ⟨(some 102), .bin .neq (.t 101) (.c (.i .i64 0)), (some (100, false)), false⟩,
  ⟨(some 103), .pick (.t 100) (.c (.b true)) (.t 102), none, true⟩]
abbrev i8r15 : List IOper := [
  ⟨(some 2), .mv (.c (.b false)), none, false⟩]
abbrev i8r16 : List IOper := [
  ⟨(some 104), .fa 0 (.t 7), none, false⟩,
  ⟨(some 105), .ld true 12 (.t 104), none, false⟩,
  ⟨(some 106), .mv (.c (.i .i64 0)), none, false⟩]
abbrev i8r17 : List IOper := [
  ⟨(some 107), .bin .lss (.t 106) (.c (.i .i64 3)), none, true⟩]
abbrev i8r18 : List IOper := [
  ⟨(some 108), .mv (.t 106), none, false⟩,
  ⟨(some 109), .ixA 3 4 true (.t 105) (.t 106), none, false⟩,
  ⟨(some 15), .new [.b false, .i .i64 0, .i .i64 0, .i .i64 0], none, false⟩,
  ⟨(some 14), .mv (.t 108), none, false⟩,
  ⟨none, .st 4 (.t 15) (.t 109), none, false⟩]
abbrev i8r19 : List (IOper × List Nat) := [
  (⟨(some 110), .mv (.t 8), none, false⟩, []),
  (⟨(some 111), .not (.t 110), none, false⟩, []),
  (⟨(some 112), .mv (.t 111), none, true⟩, []),
  (⟨(some 113), .ld true 4 (.t 15), (some (112, true)), false⟩, []),
  (⟨(some 114), .mv (.t 14), (some (112, true)), false⟩, [3]),
  (⟨(some 115), .fa 0 (.t 3), (some (112, true)), false⟩, [3, 4]),
  (⟨(some 116), .ixaA 3 4 (.t 115) (.t 114), (some (112, true)), false⟩, [3]),
  (⟨(some 117), .ld true 4 (.t 116), (some (112, true)), false⟩, [3]),
  (⟨(some 118), .eqk true true [.b, .i, .i, .i] (.t 113) (.t 117), (some (112, true)), false⟩, []),
  (⟨(some 119), .pick (.t 112) (.t 118) (.c (.b false)), none, false⟩, []),
  (⟨(some 120), .mv (.t 119), none, true⟩, []),
  (⟨(some 121), .ld true 4 (.t 15), (some (120, true)), false⟩, []),
  (⟨(some 122), .build [.b false, .i .i64 0, .i .i64 0, .i .i64 0] [], (some (120, true)), false⟩, [11]),
  (⟨(some 123), .eqk true true [.b, .i, .i, .i] (.t 121) (.t 122), (some (120, true)), false⟩, []),
  (⟨(some 124), .pick (.t 120) (.t 123) (.c (.b false)), none, false⟩, []),
  (⟨(some 125), .mv (.t 124), none, true⟩, []),
  (⟨(some 126), .mv (.t 8), (some (125, false)), false⟩, []),
  (⟨(some 127), .mv (.t 126), (some (125, false)), true⟩, []),
  (⟨(some 128), .mv (.t 14), (some (127, true)), false⟩, []),
  (⟨(some 129), .fa 7 (.t 6), (some (127, true)), false⟩, [18]),
  (⟨(some 130), .ld false 1 (.t 129), (some (127, true)), false⟩, [18]),
  (⟨(some 131), .bin .lss (.t 128) (.t 130), (some (127, true)), false⟩, []),
  (⟨(some 132), .pick (.t 127) (.t 131) (.c (.b false)), (some (125, false)), false⟩, []),
  (⟨(some 133), .mv (.t 132), (some (125, false)), true⟩, []),
  (⟨(some 134), .ld true 4 (.t 15), (some (133, true)), false⟩, []),
  (⟨(some 135), .mv (.t 14), (some (133, true)), false⟩, [24]),
  (⟨(some 136), .fa 0 (.t 3), (some (133, true)), false⟩, [24, 25]),
  (⟨(some 137), .ixaA 3 4 (.t 136) (.t 135), (some (133, true)), false⟩, [24]),
  (⟨(some 138), .ld true 4 (.t 137), (some (133, true)), false⟩, [24]),
  (⟨(some 139), .eqk true true [.b, .i, .i, .i] (.t 134) (.t 138), (some (133, true)), false⟩, []),
  (⟨(some 140), .pick (.t 133) (.t 139) (.c (.b false)), (some (125, false)), false⟩, []),
  (⟨(some 141), .pick (.t 125) (.c (.b true)) (.t 140), none, true⟩, [])]
abbrev i8r20 : List IOper := [
  ⟨(some 2), .mv (.c (.b false)), none, false⟩]
abbrev i8r21 : List IOper := [
  ⟨(some 142), .bin .add (.t 106) (.c (.i .i64 1)), none, false⟩,
  ⟨(some 106), .mv (.t 142), none, false⟩]
abbrev i8l22 : ICode := (.seq (.reg i8r17) (.seq (.cond (.t 107) .skip (.exit 2)) (.seq (.block 3 (.seq (.reg i8r18) (.seq (.dreg i8r19) (.cond (.t 141) (.seq (.reg i8r20) .ret) .skip)))) (.reg i8r21))))
abbrev i8r23 : List IOper := [
  ⟨(some 143), .ld true 12 (.t 7), none, false⟩,
  ⟨none, .st 12 (.t 3) (.t 143), none, false⟩]
abbrev i8r24 : List IOper := [
  ⟨(some 144), .bin .add (.t 24) (.c (.i .i64 1)), none, false⟩,
  ⟨(some 24), .mv (.t 144), none, false⟩]
abbrev i8l25 : ICode := (.seq (.reg i8r5) (.seq (.cond (.t 25) .skip (.exit 0)) (.seq (.block 1 (.seq (.reg i8r6) (.seq (.reg i8r7) (.seq (.reg i8r8) (.seq (.seq (.reg i8r9) (.cond (.t 56) (.seq (.reg i8r10) .ret) .skip)) (.seq (.seq (.reg i8r11) (.cond (.t 57) (.seq (.reg i8r12) (.seq (.reg i8r13) (.seq (.reg i8r14) (.cond (.t 103) (.seq (.reg i8r15) .ret) .skip)))) .skip)) (.seq (.seq (.reg i8r16) (.block 2 (.loop i8l22))) (.reg i8r23)))))))) (.reg i8r24))))
abbrev i8r26 : List IOper := [
  ⟨(some 2), .mv (.c (.b true)), none, false⟩]
abbrev i8c : ICode := (.seq (.reg i8r0) (.seq (.seq (.reg i8r1) (.cond (.t 17) (.seq (.reg i8r2) .ret) .skip)) (.seq (.reg i8r3) (.seq (.seq (.reg i8r4) (.block 0 (.loop i8l25))) (.seq (.reg i8r26) .ret)))))
def i8 : IFn := { np := 1, N := 145, ct := [17, 25, 56, 57, 103, 107, 141], code := i8c, res := [.t 2] }
theorem i8_eq : compF Try.prog Try.f8 = some i8 := by kernel_rfl
end Go.Proofs.Pic
