/- The small language's text of the functions; printed by ShowI.lean. -/
import Derived.Test.YtiacdfhaopnekaaProg
import Derived.Test.YtiacdfhaopnekaaAbRuns
namespace Go.Proofs.Arr
open Go.Ab
abbrev i4r0 : List IOper := [
  ⟨(some 1), .box (.t 0), none, false⟩,
  ⟨(some 2), .mv (.c (.b false)), none, false⟩]
abbrev i4r1 : List IOper := [
  ⟨(some 10), .call (.c (.fn 18 [])) [], none, false⟩,
  ⟨(some 11), .call (.c (.fn 19 [])) [], none, false⟩,
  ⟨(some 3), .new [.i .i64 0, .b false, .b false, .i .i64 0, .i .i64 0, .i .i64 0, .i .i64 0, .i .i64 0, .i .i64 0, .i .i64 0, .i .i64 0, .i .i64 0, .i .i64 0, .i .i64 0, .i .i64 0, .i .i64 0, .ns], none, false⟩,
  ⟨(some 4), .new [.i .i64 0, .b false, .b false, .i .i64 0, .i .i64 0, .i .i64 0, .i .i64 0, .i .i64 0, .i .i64 0, .i .i64 0, .i .i64 0, .i .i64 0, .i .i64 0, .i .i64 0, .i .i64 0, .i .i64 0, .ns], none, false⟩,
  ⟨none, .st 17 (.t 3) (.t 10), none, false⟩,
  ⟨none, .st 17 (.t 4) (.t 11), none, false⟩]
abbrev i4r2 : List IOper := [
  ⟨(some 13), .ld true 4 (.t 1), none, false⟩,
  ⟨(some 14), .call (.c (.fn 21 [])) [.t 13], none, false⟩,
  ⟨(some 12), .mv (.t 14), none, false⟩,
  ⟨(some 15), .ext (.t 12) 0, none, false⟩,
  ⟨(some 16), .ext (.t 12) 1, none, false⟩,
  ⟨(some 5), .mv (.t 15), none, false⟩,
  ⟨(some 6), .mv (.t 16), none, false⟩]
abbrev i4r3 : List IOper := [
  ⟨(some 17), .mv (.t 5), none, false⟩,
  ⟨(some 18), .lenV (.t 17), none, false⟩,
  ⟨(some 19), .mv (.c (.i .i64 0)), none, false⟩]
abbrev i4r4 : List IOper := [
  ⟨(some 20), .bin .lss (.t 19) (.t 18), none, true⟩]
abbrev i4r5 : List IOper := [
  ⟨(some 21), .mv (.t 19), none, false⟩,
  ⟨(some 7), .mv (.t 21), none, false⟩]
abbrev i4r6 : List IOper := [
  ⟨(some 8), .mv (.c (.i .i64 0)), none, false⟩,
  ⟨(some 9), .mv (.c (.i .i64 0)), none, false⟩]
abbrev i4r7 : List (IOper × List Nat) := [
  (⟨(some 23), .ld true 17 (.t 3), none, false⟩, []),
  (⟨(some 24), .mv (.t 5), none, false⟩, [0]),
  (⟨(some 25), .mv (.t 7), none, false⟩, [0, 1]),
  (⟨(some 26), .ixaV 1 (.t 24) (.t 25), none, false⟩, [0]),
  (⟨(some 27), .ld false 1 (.t 26), none, false⟩, [0]),
  (⟨(some 28), .mv (.t 6), none, false⟩, [0, 1, 2, 3, 4]),
  (⟨(some 29), .mv (.t 7), none, false⟩, [0, 1, 2, 3, 4, 5]),
  (⟨(some 30), .ixaV 1 (.t 28) (.t 29), none, false⟩, [0, 1, 2, 3, 4]),
  (⟨(some 31), .ld false 1 (.t 30), none, false⟩, [0, 1, 2, 3, 4]),
  (⟨(some 32), .call (.c (.fn 15 [])) [.t 23, .t 27, .t 31], none, false⟩, []),
  (⟨(some 22), .mv (.t 32), none, false⟩, []),
  (⟨(some 33), .ext (.t 22) 0, none, false⟩, []),
  (⟨(some 34), .ext (.t 22) 1, none, false⟩, [11]),
  (⟨none, .st 17 (.t 3) (.t 33), none, false⟩, [12]),
  (⟨(some 8), .mv (.t 34), none, false⟩, [])]
abbrev i4r8 : List (IOper × List Nat) := [
  (⟨(some 36), .ld true 17 (.t 4), none, false⟩, []),
  (⟨(some 37), .mv (.t 5), none, false⟩, [0]),
  (⟨(some 38), .mv (.t 7), none, false⟩, [0, 1]),
  (⟨(some 39), .ixaV 1 (.t 37) (.t 38), none, false⟩, [0]),
  (⟨(some 40), .ld false 1 (.t 39), none, false⟩, [0]),
  (⟨(some 41), .mv (.t 6), none, false⟩, [0, 1, 2, 3, 4]),
  (⟨(some 42), .mv (.t 7), none, false⟩, [0, 1, 2, 3, 4, 5]),
  (⟨(some 43), .ixaV 1 (.t 41) (.t 42), none, false⟩, [0, 1, 2, 3, 4]),
  (⟨(some 44), .ld false 1 (.t 43), none, false⟩, [0, 1, 2, 3, 4]),
  (⟨(some 45), .call (.c (.fn 16 [])) [.t 36, .t 40, .t 44], none, false⟩, []),
  (⟨(some 35), .mv (.t 45), none, false⟩, []),
  (⟨(some 46), .ext (.t 35) 0, none, false⟩, []),
  (⟨(some 47), .ext (.t 35) 1, none, false⟩, [11]),
  (⟨none, .st 17 (.t 4) (.t 46), none, false⟩, [12]),
  (⟨(some 9), .mv (.t 47), none, false⟩, [])]
abbrev i4r9 : List IOper := [
  ⟨(some 48), .mv (.t 8), none, false⟩,
  ⟨(some 49), .mv (.t 9), none, false⟩,
  ⟨(some 50), .bin .neq (.t 48) (.t 49), none, false⟩,
  ⟨(some 51), .mv (.t 50), none, true⟩,
  ⟨(some 52), .ld true 17 (.t 3), (some (51, false)), false⟩,
  ⟨(some 53), .ld true 17 (.t 4), (some (51, false)), false⟩,
  ⟨(some 54), .call (.c (.fn 17 [])) [.t 52, .t 53], (some (51, false)), false⟩,
  ⟨(some 55), .not (.t 54), (some (51, false)), false⟩,
  ⟨(some 56), .pick (.t 51) (.c (.b true)) (.t 55), none, true⟩]
abbrev i4r10 : List IOper := [
  ⟨(some 2), .mv (.c (.b false)), none, false⟩]
abbrev i4r11 : List IOper := [
  ⟨(some 57), .bin .add (.t 19) (.c (.i .i64 1)), none, false⟩,
  ⟨(some 19), .mv (.t 57), none, false⟩]
abbrev i4l12 : ICode := (.seq (.reg i4r4) (.seq (.cond (.t 20) .skip (.exit 0)) (.seq (.block 1 (.seq (.reg i4r5) (.seq (.reg i4r6) (.seq (.dreg i4r7) (.seq (.dreg i4r8) (.seq (.reg i4r9) (.cond (.t 56) (.seq (.reg i4r10) .ret) .skip))))))) (.reg i4r11))))
abbrev i4r13 : List IOper := [
  ⟨(some 58), .call (.c (.fn 20 [])) [], none, false⟩,
  ⟨(some 2), .mv (.t 58), none, false⟩]
abbrev i4c : ICode := (.seq (.reg i4r0) (.seq (.reg i4r1) (.seq (.reg i4r2) (.seq (.seq (.reg i4r3) (.block 0 (.loop i4l12))) (.seq (.reg i4r13) .ret)))))
def i4 : IFn := { np := 1, N := 59, ct := [20, 56], code := i4c, res := [.t 2] }
theorem i4_eq : compF Try.prog Try.f4 = some i4 := by kernel_rfl
abbrev i14r0 : List IOper := [
  ⟨(some 1), .box (.t 0), none, false⟩,
  ⟨(some 2), .mv (.c (.b false)), none, false⟩]
abbrev i14r1 : List IOper := [
  ⟨(some 3), .fa 0 (.t 1), none, false⟩,
  ⟨(some 4), .ld false 1 (.t 3), none, false⟩,
  ⟨(some 5), .call (.c (.fn 29 [])) [.t 4], none, false⟩,
  ⟨(some 6), .not (.t 5), none, false⟩,
  ⟨(some 7), .mv (.t 6), none, true⟩,
  ⟨(some 8), .fa 11 (.t 1), (some (7, false)), false⟩,
  ⟨(some 9), .ld false 1 (.t 8), (some (7, false)), false⟩,
  ⟨(some 10), .bin .lss (.t 9) (.c (.i .i64 6144)), (some (7, false)), false⟩,
  ⟨(some 11), .pick (.t 7) (.c (.b true)) (.t 10), none, false⟩,
  ⟨(some 12), .mv (.t 11), none, true⟩,
  ⟨(some 13), .fa 11 (.t 1), (some (12, false)), false⟩,
  ⟨(some 14), .ld false 1 (.t 13), (some (12, false)), false⟩,
  ⟨(some 15), .bin .gtr (.t 14) (.c (.i .i64 614400)), (some (12, false)), false⟩,
  ⟨(some 16), .pick (.t 12) (.c (.b true)) (.t 15), none, false⟩,
  ⟨(some 17), .mv (.t 16), none, true⟩,
  ⟨(some 18), .fa 15 (.t 1), (some (17, false)), false⟩,
  ⟨(some 19), .ld false 1 (.t 18), (some (17, false)), false⟩,
  ⟨(some 20), .bin .lss (.t 19) (.c (.i .i64 0)), (some (17, false)), false⟩,
  ⟨(some 21), .pick (.t 17) (.c (.b true)) (.t 20), none, false⟩,
  ⟨(some 22), .mv (.t 21), none, true⟩,
  ⟨(some 23), .fa 15 (.t 1), (some (22, false)), false⟩,
  ⟨(some 24), .ld false 1 (.t 23), (some (22, false)), false⟩,
  ⟨(some 25), .bin .gtr (.t 24) (.c (.i .i64 2)), (some (22, false)), false⟩,
  ⟨(some 26), .pick (.t 22) (.c (.b true)) (.t 25), none, false⟩,
  ⟨(some 27), .mv (.t 26), none, true⟩,
  ⟨(some 28), .fa 12 (.t 1), (some (27, false)), false⟩,
  ⟨(some 29), .ld false 1 (.t 28), (some (27, false)), false⟩,
  ⟨(some 30), .bin .lss (.t 29) (.c (.i .i64 0)), (some (27, false)), false⟩,
  ⟨(some 31), .pick (.t 27) (.c (.b true)) (.t 30), none, false⟩,
  ⟨(some 32), .mv (.t 31), none, true⟩,
  ⟨(some 33), .fa 12 (.t 1), (some (32, false)), false⟩,
  ⟨(some 34), .ld false 1 (.t 33), (some (32, false)), false⟩,
  ⟨(some 35), .bin .gtr (.t 34) (.c (.i .i64 20000)), (some (32, false)), false⟩,
  ⟨(some 36), .pick (.t 32) (.c (.b true)) (.t 35), none, false⟩,
  ⟨(some 37), .mv (.t 36), none, true⟩,
  ⟨(some 38), .fa 13 (.t 1), (some (37, false)), false⟩,
  ⟨(some 39), .ld false 1 (.t 38), (some (37, false)), false⟩,
  ⟨(some 40), .bin .lss (.t 39) (.c (.i .i64 0)), (some (37, false)), false⟩,
  ⟨(some 41), .pick (.t 37) (.c (.b true)) (.t 40), none, false⟩,
  ⟨(some 42), .mv (.t 41), none, true⟩,
  ⟨(some 43), .fa 13 (.t 1), (some (42, false)), false⟩,
  ⟨(some 44), .ld false 1 (.t 43), (some (42, false)), false⟩,
  ⟨(some 45), .bin .gtr (.t 44) (.c (.i .i64 20000)), (some (42, false)), false⟩,
  ⟨(some 46), .pick (.t 42) (.c (.b true)) (.t 45), none, false⟩,
  ⟨(some 47), .mv (.t 46), none, true⟩,
  ⟨(some 48), .fa 8 (.t 1), (some (47, false)), false⟩,
  ⟨(some 49), .ld false 1 (.t 48), (some (47, false)), false⟩,
  ⟨(some 50), .bin .lss (.t 49) (.c (.i .i64 0)), (some (47, false)), false⟩,
  ⟨(some 51), .pick (.t 47) (.c (.b true)) (.t 50), none, false⟩,
  ⟨(some 52), .mv (.t 51), none, true⟩,
  ⟨(some 53), .fa 8 (.t 1), (some (52, false)), false⟩,
  ⟨(some 54), .ld false 1 (.t 53), (some (52, false)), false⟩,
  ⟨(some 55), .bin .gtr (.t 54) (.c (.i .i64 60)), (some (52, false)), false⟩,
  ⟨(some 56), .pick (.t 52) (.c (.b true)) (.t 55), none, false⟩,
  ⟨(some 57), .mv (.t 56), none, true⟩,
  ⟨(some 58), .fa 14 (.t 1), (some (57, false)), false⟩,
  ⟨(some 59), .ld false 1 (.t 58), (some (57, false)), false⟩,
  ⟨(some 60), .call (.c (.fn 30 [])) [.t 59], (some (57, false)), false⟩,
  ⟨(some 61), .pick (.t 57) (.c (.b true)) (.t 60), none, false⟩,
  ⟨(some 62), .mv (.t 61), none, true⟩,
  ⟨(some 63), .fa 9 (.t 1), (some (62, false)), false⟩,
  ⟨(some 64), .ld false 1 (.t 63), (some (62, false)), false⟩,
  ⟨(some 65), .call (.c (.fn 30 [])) [.t 64], (some (62, false)), false⟩,
  ⟨(some 66), .pick (.t 62) (.c (.b true)) (.t 65), none, false⟩,
  ⟨(some 67), .mv (.t 66), none, true⟩,
  ⟨(some 68), .fa 10 (.t 1), (some (67, false)), false⟩,
  ⟨(some 69), .ld false 1 (.t 68), (some (67, false)), false⟩,
  ⟨(some 70), .call (.c (.fn 30 [])) [.t 69], (some (67, false)), false⟩,
  ⟨(some 71), .pick (.t 67) (.c (.b true)) (.t 70), none, true⟩]
abbrev i14r2 : List IOper := [
  ⟨(some 2), .mv (.c (.b false)), none, false⟩]
abbrev i14r3 : List IOper := [
  ⟨(some 72), .fa 3 (.t 1), none, false⟩,
  ⟨(some 73), .ld false 1 (.t 72), none, false⟩,
  ⟨(some 74), .call (.c (.fn 29 [])) [.t 73], none, false⟩,
  ⟨(some 75), .not (.t 74), none, false⟩,
  ⟨(some 76), .mv (.t 75), none, true⟩,
  ⟨(some 77), .fa 4 (.t 1), (some (76, false)), false⟩,
  ⟨(some 78), .ld false 1 (.t 77), (some (76, false)), false⟩,
  ⟨(some 79), .call (.c (.fn 29 [])) [.t 78], (some (76, false)), false⟩,
  ⟨(some 80), .not (.t 79), (some (76, false)), false⟩,
  ⟨(some 81), .pick (.t 76) (.c (.b true)) (.t 80), none, false⟩,
  ⟨(some 82), .mv (.t 81), none, true⟩,
  ⟨(some 83), .fa 5 (.t 1), (some (82, false)), false⟩,
  ⟨(some 84), .ld false 1 (.t 83), (some (82, false)), false⟩,
  ⟨(some 85), .call (.c (.fn 29 [])) [.t 84], (some (82, false)), false⟩,
  ⟨(some 86), .not (.t 85), (some (82, false)), false⟩,
  ⟨(some 87), .pick (.t 82) (.c (.b true)) (.t 86), none, false⟩,
  ⟨(some 88), .mv (.t 87), none, true⟩,
  ⟨(some 89), .fa 6 (.t 1), (some (88, false)), false⟩,
  ⟨(some 90), .ld false 1 (.t 89), (some (88, false)), false⟩,
  ⟨(some 91), .call (.c (.fn 29 [])) [.t 90], (some (88, false)), false⟩,
  ⟨(some 92), .not (.t 91), (some (88, false)), false⟩,
  ⟨(some 93), .pick (.t 88) (.c (.b true)) (.t 92), none, false⟩,
  ⟨(some 94), .mv (.t 93), none, true⟩,
  ⟨(some 95), .fa 7 (.t 1), (some (94, false)), false⟩,
  ⟨(some 96), .ld false 1 (.t 95), (some (94, false)), false⟩,
  ⟨(some 97), .call (.c (.fn 29 [])) [.t 96], (some (94, false)), false⟩,
  ⟨(some 98), .not (.t 97), (some (94, false)), false⟩,
  ⟨(some 99), .pick (.t 94) (.c (.b true)) (.t 98), none, false⟩,
  ⟨(some 100), .mv (.t 99), none, true⟩,
  ⟨(some 101), .fa 16 (.t 1), (some (100, false)), false⟩,
  ⟨(some 102), .ld false 1 (.t 101), (some (100, false)), false⟩,
  ⟨(some 103), .call (.c (.fn 31 [])) [.t 102], (some (100, false)), false⟩,
  ⟨(some 104), .not (.t 103), (some (100, false)), false⟩,
  ⟨(some 105), .pick (.t 100) (.c (.b true)) (.t 104), none, true⟩]
abbrev i14r4 : List IOper := [
  ⟨(some 2), .mv (.c (.b false)), none, false⟩]
abbrev i14r5 : List IOper := [
  ⟨(some 106), .fa 1 (.t 1), none, false⟩,
  ⟨(some 107), .ld false 1 (.t 106), none, false⟩,
  ⟨(some 108), .not (.t 107), none, false⟩,
  ⟨(some 109), .mv (.t 108), none, true⟩,
  ⟨(some 110), .fa 2 (.t 1), (some (109, true)), false⟩,
  ⟨(some 111), .ld false 1 (.t 110), (some (109, true)), false⟩,
  ⟨(some 112), .mv (.t 111), (some (109, true)), true⟩,
  ⟨(some 113), .fa 3 (.t 1), (some (112, false)), false⟩,
  ⟨(some 114), .ld false 1 (.t 113), (some (112, false)), false⟩,
  ⟨(some 115), .bin .neq (.t 114) (.c (.i .i64 0)), (some (112, false)), false⟩,
  ⟨(some 116), .pick (.t 112) (.c (.b true)) (.t 115), (some (109, true)), false⟩,
  ⟨(some 117), .mv (.t 116), (some (109, true)), true⟩,
  ⟨(some 118), .fa 4 (.t 1), (some (117, false)), false⟩,
  ⟨(some 119), .ld false 1 (.t 118), (some (117, false)), false⟩,
  ⟨(some 120), .bin .neq (.t 119) (.c (.i .i64 0)), (some (117, false)), false⟩,
  ⟨(some 121), .pick (.t 117) (.c (.b true)) (.t 120), (some (109, true)), false⟩,
  ⟨(some 122), .mv (.t 121), (some (109, true)), true⟩,
  ⟨(some 123), .fa 5 (.t 1), (some (122, false)), false⟩,
  ⟨(some 124), .ld false 1 (.t 123), (some (122, false)), false⟩,
  ⟨(some 125), .bin .neq (.t 124) (.c (.i .i64 0)), (some (122, false)), false⟩,
  ⟨(some 126), .pick (.t 122) (.c (.b true)) (.t 125), (some (109, true)), false⟩,
  ⟨(some 127), .pick (.t 109) (.t 126) (.c (.b false)), none, true⟩]
abbrev i14r6 : List IOper := [
  ⟨(some 2), .mv (.c (.b false)), none, false⟩]
abbrev i14r7 : List IOper := [
  ⟨(some 128), .fa 1 (.t 1), none, false⟩,
  ⟨(some 129), .ld false 1 (.t 128), none, false⟩,
  ⟨(some 130), .mv (.t 129), none, true⟩,
  ⟨(some 131), .fa 3 (.t 1), (some (130, true)), false⟩,
  ⟨(some 132), .ld false 1 (.t 131), (some (130, true)), false⟩,
  ⟨(some 133), .fa 4 (.t 1), (some (130, true)), false⟩,
  ⟨(some 134), .ld false 1 (.t 133), (some (130, true)), false⟩,
  ⟨(some 135), .bin .gtr (.t 132) (.t 134), (some (130, true)), false⟩,
  ⟨(some 136), .mv (.t 135), (some (130, true)), true⟩,
  ⟨(some 137), .fa 4 (.t 1), (some (136, false)), false⟩,
  ⟨(some 138), .ld false 1 (.t 137), (some (136, false)), false⟩,
  ⟨(some 139), .fa 3 (.t 1), (some (136, false)), false⟩,
  ⟨(some 140), .ld false 1 (.t 139), (some (136, false)), false⟩,
  ⟨(some 141), .bin .add (.t 140) (.c (.i .i64 4)), (some (136, false)), false⟩,
  ⟨(some 142), .bin .gtr (.t 138) (.t 141), (some (136, false)), false⟩,
  ⟨(some 143), .pick (.t 136) (.c (.b true)) (.t 142), (some (130, true)), false⟩,
  ⟨(some 144), .mv (.t 143), (some (130, true)), true⟩,
  ⟨(some 145), .fa 5 (.t 1), (some (144, false)), false⟩,
  ⟨(some 146), .ld false 1 (.t 145), (some (144, false)), false⟩,
  ⟨(some 147), .fa 0 (.t 1), (some (144, false)), false⟩,
  ⟨(some 148), .ld false 1 (.t 147), (some (144, false)), false⟩,
  ⟨(some 149), .bin .gtr (.t 146) (.t 148), (some (144, false)), false⟩,
  ⟨(some 150), .pick (.t 144) (.c (.b true)) (.t 149), (some (130, true)), false⟩,
  ⟨(some 151), .pick (.t 130) (.t 150) (.c (.b false)), none, true⟩]
abbrev i14r8 : List IOper := [
  ⟨(some 2), .mv (.c (.b false)), none, false⟩]
abbrev i14r9 : List IOper := [
  ⟨(some 152), .fa 2 (.t 1), none, false⟩,
  ⟨(some 153), .ld false 1 (.t 152), none, true⟩]
abbrev i14r10 : List IOper := [
  ⟨(some 154), .fa 6 (.t 1), none, false⟩,
  ⟨(some 155), .ld false 1 (.t 154), none, false⟩,
  ⟨(some 156), .fa 3 (.t 1), none, false⟩,
  ⟨(some 157), .ld false 1 (.t 156), none, false⟩,
  ⟨(some 158), .bin .lss (.t 155) (.t 157), none, false⟩,
  ⟨(some 159), .mv (.t 158), none, true⟩,
  ⟨(some 160), .fa 7 (.t 1), (some (159, true)), false⟩,
  ⟨(some 161), .ld false 1 (.t 160), (some (159, true)), false⟩,
  ⟨(some 162), .fa 5 (.t 1), (some (159, true)), false⟩,
  ⟨(some 163), .ld false 1 (.t 162), (some (159, true)), false⟩,
  ⟨(some 164), .bin .leq (.t 161) (.t 163), (some (159, true)), false⟩,
  ⟨(some 165), .pick (.t 159) (.t 164) (.c (.b false)), none, false⟩,
  ⟨(some 166), .mv (.t 165), none, true⟩,
  ⟨(some 167), .fa 16 (.t 1), (some (166, true)), false⟩,
  ⟨(some 168), .ld false 1 (.t 167), (some (166, true)), false⟩,
  ⟨(some 169), .fa 7 (.t 1), (some (166, true)), false⟩,
  ⟨(some 170), .ld false 1 (.t 169), (some (166, true)), false⟩,
  ⟨(some 171), .call (.c (.fn 32 [])) [.t 168, .t 170], (some (166, true)), false⟩,
  ⟨(some 172), .pick (.t 166) (.t 171) (.c (.b false)), none, false⟩,
  ⟨(some 2), .mv (.t 172), none, false⟩]
abbrev i14r11 : List IOper := [
  ⟨(some 173), .fa 6 (.t 1), none, false⟩,
  ⟨(some 174), .ld false 1 (.t 173), none, false⟩,
  ⟨(some 175), .bin .eql (.t 174) (.c (.i .i64 0)), none, false⟩,
  ⟨(some 176), .mv (.t 175), none, true⟩,
  ⟨(some 177), .fa 7 (.t 1), (some (176, true)), false⟩,
  ⟨(some 178), .ld false 1 (.t 177), (some (176, true)), false⟩,
  ⟨(some 179), .bin .eql (.t 178) (.c (.i .i64 0)), (some (176, true)), false⟩,
  ⟨(some 180), .pick (.t 176) (.t 179) (.c (.b false)), none, false⟩,
  ⟨(some 181), .mv (.t 180), none, true⟩,
  ⟨(some 182), .fa 8 (.t 1), (some (181, true)), false⟩,
  ⟨(some 183), .ld false 1 (.t 182), (some (181, true)), false⟩,
  ⟨(some 184), .bin .eql (.t 183) (.c (.i .i64 0)), (some (181, true)), false⟩,
  ⟨(some 185), .pick (.t 181) (.t 184) (.c (.b false)), none, false⟩,
  ⟨(some 186), .mv (.t 185), none, true⟩,
  ⟨(some 187), .fa 9 (.t 1), (some (186, true)), false⟩,
  ⟨(some 188), .ld false 1 (.t 187), (some (186, true)), false⟩,
  ⟨(some 189), .bin .eql (.t 188) (.c (.i .i64 0)), (some (186, true)), false⟩,
  ⟨(some 190), .pick (.t 186) (.t 189) (.c (.b false)), none, false⟩,
  ⟨(some 191), .mv (.t 190), none, true⟩,
  ⟨(some 192), .fa 10 (.t 1), (some (191, true)), false⟩,
  ⟨(some 193), .ld false 1 (.t 192), (some (191, true)), false⟩,
  ⟨(some 194), .bin .eql (.t 193) (.c (.i .i64 0)), (some (191, true)), false⟩,
  ⟨(some 195), .pick (.t 191) (.t 194) (.c (.b false)), none, false⟩,
  ⟨(some 196), .mv (.t 195), none, true⟩,
  ⟨(some 197), .fa 12 (.t 1), (some (196, true)), false⟩,
  ⟨(some 198), .ld false 1 (.t 197), (some (196, true)), false⟩,
  ⟨(some 199), .bin .eql (.t 198) (.c (.i .i64 0)), (some (196, true)), false⟩,
  ⟨(some 200), .pick (.t 196) (.t 199) (.c (.b false)), none, false⟩,
  ⟨(some 201), .mv (.t 200), none, true⟩,
  ⟨(some 202), .fa 13 (.t 1), (some (201, true)), false⟩,
  ⟨(some 203), .ld false 1 (.t 202), (some (201, true)), false⟩,
  ⟨(some 204), .bin .eql (.t 203) (.c (.i .i64 0)), (some (201, true)), false⟩,
  ⟨(some 205), .pick (.t 201) (.t 204) (.c (.b false)), none, false⟩,
  ⟨(some 206), .mv (.t 205), none, true⟩,
  ⟨(some 207), .fa 14 (.t 1), (some (206, true)), false⟩,
  ⟨(some 208), .ld false 1 (.t 207), (some (206, true)), false⟩,
  ⟨(some 209), .bin .eql (.t 208) (.c (.i .i64 0)), (some (206, true)), false⟩,
  ⟨(some 210), .pick (.t 206) (.t 209) (.c (.b false)), none, false⟩,
  ⟨(some 211), .mv (.t 210), none, true⟩,
  ⟨(some 212), .fa 15 (.t 1), (some (211, true)), false⟩,
  ⟨(some 213), .ld false 1 (.t 212), (some (211, true)), false⟩,
  ⟨(some 214), .bin .eql (.t 213) (.c (.i .i64 0)), (some (211, true)), false⟩,
  ⟨(some 215), .pick (.t 211) (.t 214) (.c (.b false)), none, false⟩,
  ⟨(some 216), .mv (.t 215), none, true⟩,
  ⟨(some 217), .fa 16 (.t 1), (some (216, true)), false⟩,
  ⟨(some 218), .ld false 1 (.t 217), (some (216, true)), false⟩,
  ⟨(some 219), .lenV (.t 218), (some (216, true)), false⟩,
  ⟨(some 220), .bin .eql (.t 219) (.c (.i .i64 0)), (some (216, true)), false⟩,
  ⟨(some 221), .pick (.t 216) (.t 220) (.c (.b false)), none, false⟩,
  ⟨(some 2), .mv (.t 221), none, false⟩]
abbrev i14c : ICode := (.seq (.reg i14r0) (.seq (.seq (.reg i14r1) (.cond (.t 71) (.seq (.reg i14r2) .ret) .skip)) (.seq (.seq (.reg i14r3) (.cond (.t 105) (.seq (.reg i14r4) .ret) .skip)) (.seq (.seq (.reg i14r5) (.cond (.t 127) (.seq (.reg i14r6) .ret) .skip)) (.seq (.seq (.reg i14r7) (.cond (.t 151) (.seq (.reg i14r8) .ret) .skip)) (.seq (.seq (.reg i14r9) (.cond (.t 153) (.seq (.reg i14r10) .ret) .skip)) (.seq (.reg i14r11) .ret)))))))
def i14 : IFn := { np := 1, N := 222, ct := [71, 105, 127, 151, 153], code := i14c, res := [.t 2] }
theorem i14_eq : compF Try.prog Try.f14 = some i14 := by kernel_rfl
abbrev i16r0 : List IOper := [
  ⟨(some 3), .box (.t 0), none, false⟩,
  ⟨(some 6), .new [.i .i64 0, .b false, .b false, .i .i64 0, .i .i64 0, .i .i64 0, .i .i64 0, .i .i64 0, .i .i64 0, .i .i64 0, .i .i64 0, .i .i64 0, .i .i64 0, .i .i64 0, .i .i64 0, .i .i64 0, .ns], none, false⟩,
  ⟨(some 7), .mv (.c (.i .i64 0)), none, false⟩]
abbrev i16r1 : List IOper := [
  ⟨(some 10), .ld true 17 (.t 3), none, false⟩,
  ⟨(some 11), .call (.c (.fn 14 [])) [.t 10], none, false⟩,
  ⟨(some 12), .not (.t 11), none, true⟩]
abbrev i16r2 : List IOper := [
  ⟨(some 13), .build [.i .i64 0, .b false, .b false, .i .i64 0, .i .i64 0, .i .i64 0, .i .i64 0, .i .i64 0, .i .i64 0, .i .i64 0, .i .i64 0, .i .i64 0, .i .i64 0, .i .i64 0, .i .i64 0, .i .i64 0, .ns] [], none, false⟩,
  ⟨none, .st 17 (.t 6) (.t 13), none, false⟩,
  ⟨(some 7), .mv (.c (.i .i64 290)), none, false⟩]
abbrev i16r3 : List IOper := [
  ⟨(some 14), .mv (.t 1), none, false⟩,
  ⟨(some 15), .call (.c (.fn 29 [])) [.t 14], none, false⟩,
  ⟨(some 16), .not (.t 15), none, false⟩,
  ⟨(some 17), .mv (.t 16), none, true⟩,
  ⟨(some 18), .mv (.t 2), (some (17, false)), false⟩,
  ⟨(some 19), .call (.c (.fn 29 [])) [.t 18], (some (17, false)), false⟩,
  ⟨(some 20), .not (.t 19), (some (17, false)), false⟩,
  ⟨(some 21), .pick (.t 17) (.c (.b true)) (.t 20), none, false⟩,
  ⟨(some 22), .mv (.t 21), none, true⟩,
  ⟨(some 23), .mv (.t 2), (some (22, false)), false⟩,
  ⟨(some 24), .fa 0 (.t 3), (some (22, false)), false⟩,
  ⟨(some 25), .ld false 1 (.t 24), (some (22, false)), false⟩,
  ⟨(some 26), .bin .lss (.t 23) (.t 25), (some (22, false)), false⟩,
  ⟨(some 27), .pick (.t 22) (.c (.b true)) (.t 26), none, true⟩]
abbrev i16r4 : List IOper := [
  ⟨(some 28), .build [.i .i64 0, .b false, .b false, .i .i64 0, .i .i64 0, .i .i64 0, .i .i64 0, .i .i64 0, .i .i64 0, .i .i64 0, .i .i64 0, .i .i64 0, .i .i64 0, .i .i64 0, .i .i64 0, .i .i64 0, .ns] [], none, false⟩,
  ⟨none, .st 17 (.t 6) (.t 28), none, false⟩,
  ⟨(some 7), .mv (.c (.i .i64 2)), none, false⟩]
abbrev i16r5 : List IOper := [
  ⟨(some 29), .bsl [] 0 [], none, false⟩,
  ⟨(some 30), .fa 16 (.t 3), none, false⟩,
  ⟨(some 31), .ld false 1 (.t 30), none, false⟩,
  ⟨(some 32), .app 2 16 [.i .i64 0, .i .i64 0] (.t 29) (.t 31), none, false⟩,
  ⟨(some 33), .fa 16 (.t 3), none, false⟩,
  ⟨none, .st 1 (.t 33) (.t 32), none, false⟩]
abbrev i16r6 : List IOper := [
  ⟨(some 34), .mv (.t 2), none, false⟩,
  ⟨(some 35), .fa 0 (.t 3), none, false⟩,
  ⟨none, .st 1 (.t 35) (.t 34), none, false⟩]
abbrev i16r7 : List IOper := [
  ⟨(some 36), .fa 1 (.t 3), none, false⟩,
  ⟨(some 37), .ld false 1 (.t 36), none, false⟩,
  ⟨(some 38), .not (.t 37), none, true⟩]
abbrev i16r8 : List IOper := [
  ⟨(some 39), .fa 1 (.t 3), none, false⟩,
  ⟨none, .st 1 (.t 39) (.c (.b true)), none, false⟩]
abbrev i16r9 : List IOper := [
  ⟨(some 40), .mv (.t 1), none, false⟩,
  ⟨(some 41), .fa 3 (.t 3), none, false⟩,
  ⟨none, .st 1 (.t 41) (.t 40), none, false⟩]
abbrev i16r10 : List IOper := [
  ⟨(some 42), .mv (.t 1), none, false⟩,
  ⟨(some 43), .fa 4 (.t 3), none, false⟩,
  ⟨none, .st 1 (.t 43) (.t 42), none, false⟩]
abbrev i16r11 : List IOper := [
  ⟨(some 44), .mv (.t 2), none, false⟩,
  ⟨(some 45), .fa 5 (.t 3), none, false⟩,
  ⟨none, .st 1 (.t 45) (.t 44), none, false⟩]
abbrev i16r12 : List IOper := [
  ⟨(some 46), .ld true 17 (.t 3), none, false⟩,
  ⟨none, .st 17 (.t 6) (.t 46), none, false⟩,
  ⟨(some 7), .mv (.c (.i .i64 0)), none, false⟩]
abbrev i16r13 : List IOper := [
  ⟨(some 47), .mv (.t 1), none, false⟩,
  ⟨(some 48), .fa 3 (.t 3), none, false⟩,
  ⟨(some 49), .ld false 1 (.t 48), none, false⟩,
  ⟨(some 50), .bin .lss (.t 47) (.t 49), none, true⟩]
abbrev i16r14 : List IOper := [
  ⟨(some 51), .ld true 17 (.t 3), none, false⟩,
  ⟨none, .st 17 (.t 6) (.t 51), none, false⟩,
  ⟨(some 7), .mv (.c (.i .i64 0)), none, false⟩]
abbrev i16r15 : List IOper := [
  ⟨(some 52), .mv (.t 1), none, false⟩,
  ⟨(some 53), .fa 3 (.t 3), none, false⟩,
  ⟨(some 54), .ld false 1 (.t 53), none, false⟩,
  ⟨(some 55), .bin .add (.t 54) (.c (.i .i64 4)), none, false⟩,
  ⟨(some 56), .bin .leq (.t 52) (.t 55), none, true⟩]
abbrev i16r16 : List IOper := [
  ⟨(some 57), .fa 4 (.t 3), none, false⟩,
  ⟨(some 58), .ld false 1 (.t 57), none, false⟩,
  ⟨(some 59), .mv (.t 1), none, false⟩,
  ⟨(some 60), .mx (.t 58) [.t 59], none, false⟩,
  ⟨(some 61), .fa 4 (.t 3), none, false⟩,
  ⟨none, .st 1 (.t 61) (.t 60), none, false⟩]
abbrev i16r17 : List IOper := [
  ⟨(some 62), .mv (.t 2), none, false⟩,
  ⟨(some 63), .fa 5 (.t 3), none, false⟩,
  ⟨none, .st 1 (.t 63) (.t 62), none, false⟩]
abbrev i16r18 : List IOper := [
  ⟨(some 64), .ld true 17 (.t 3), none, false⟩,
  ⟨none, .st 17 (.t 6) (.t 64), none, false⟩,
  ⟨(some 7), .mv (.c (.i .i64 0)), none, false⟩]
abbrev i16r19 : List IOper := [
  ⟨(some 65), .fa 2 (.t 3), none, false⟩,
  ⟨(some 66), .ld false 1 (.t 65), none, false⟩,
  ⟨(some 67), .not (.t 66), none, true⟩]
abbrev i16r20 : List IOper := [
  ⟨(some 68), .fa 2 (.t 3), none, false⟩,
  ⟨none, .st 1 (.t 68) (.c (.b true)), none, false⟩]
abbrev i16r21 : List (IOper × List Nat) := [
  (⟨(some 69), .fa 4 (.t 3), none, false⟩, []),
  (⟨(some 70), .ld false 1 (.t 69), none, false⟩, []),
  (⟨(some 71), .fa 6 (.t 3), none, false⟩, [0, 1]),
  (⟨(some 72), .ld false 1 (.t 71), none, false⟩, [0, 1]),
  (⟨(some 73), .bin .sub (.t 70) (.t 72), none, false⟩, []),
  (⟨(some 74), .fa 5 (.t 3), none, false⟩, [0, 1, 2, 3, 4]),
  (⟨(some 75), .ld false 1 (.t 74), none, false⟩, [0, 1, 2, 3, 4]),
  (⟨(some 76), .fa 7 (.t 3), none, false⟩, [0, 1, 2, 3, 4, 5, 6]),
  (⟨(some 77), .ld false 1 (.t 76), none, false⟩, [0, 1, 2, 3, 4, 5, 6]),
  (⟨(some 78), .bin .sub (.t 75) (.t 77), none, false⟩, [0, 1, 2, 3, 4]),
  (⟨(some 8), .mv (.t 73), none, false⟩, [5, 6, 7, 8, 9]),
  (⟨(some 9), .mv (.t 78), none, false⟩, [])]
abbrev i16r22 : List IOper := [
  ⟨(some 79), .mv (.t 8), none, false⟩,
  ⟨(some 80), .bin .gtr (.t 79) (.c (.i .i64 2000)), none, false⟩,
  ⟨(some 81), .mv (.t 80), none, true⟩,
  ⟨(some 82), .mv (.t 9), (some (81, false)), false⟩,
  ⟨(some 83), .bin .gtr (.t 82) (.c (.i .i64 2000)), (some (81, false)), false⟩,
  ⟨(some 84), .pick (.t 81) (.c (.b true)) (.t 83), none, true⟩]
abbrev i16r23 : List IOper := [
  ⟨(some 85), .ld true 17 (.t 3), none, false⟩,
  ⟨(some 86), .call (.c (.fn 36 [])) [.t 85], none, false⟩,
  ⟨none, .st 17 (.t 3) (.t 86), none, false⟩]
abbrev i16r24 : List IOper := [
  ⟨(some 87), .ld true 17 (.t 3), none, false⟩,
  ⟨(some 88), .mv (.t 8), none, false⟩,
  ⟨(some 89), .mv (.t 9), none, false⟩,
  ⟨(some 90), .call (.c (.fn 37 [])) [.t 87, .t 88, .t 89], none, false⟩,
  ⟨none, .st 17 (.t 3) (.t 90), none, false⟩]
abbrev i16r25 : List IOper := [
  ⟨(some 91), .fa 4 (.t 3), none, false⟩,
  ⟨(some 92), .ld false 1 (.t 91), none, false⟩,
  ⟨(some 93), .fa 6 (.t 3), none, false⟩,
  ⟨none, .st 1 (.t 93) (.t 92), none, false⟩]
abbrev i16r26 : List IOper := [
  ⟨(some 94), .fa 5 (.t 3), none, false⟩,
  ⟨(some 95), .ld false 1 (.t 94), none, false⟩,
  ⟨(some 96), .fa 7 (.t 3), none, false⟩,
  ⟨none, .st 1 (.t 96) (.t 95), none, false⟩]
abbrev i16r27 : List IOper := [
  ⟨(some 97), .mv (.t 1), none, false⟩,
  ⟨(some 98), .fa 3 (.t 3), none, false⟩,
  ⟨none, .st 1 (.t 98) (.t 97), none, false⟩]
abbrev i16r28 : List IOper := [
  ⟨(some 99), .mv (.t 1), none, false⟩,
  ⟨(some 100), .fa 4 (.t 3), none, false⟩,
  ⟨none, .st 1 (.t 100) (.t 99), none, false⟩]
abbrev i16r29 : List IOper := [
  ⟨(some 101), .mv (.t 2), none, false⟩,
  ⟨(some 102), .fa 5 (.t 3), none, false⟩,
  ⟨none, .st 1 (.t 102) (.t 101), none, false⟩]
abbrev i16r30 : List IOper := [
  ⟨(some 103), .ld true 17 (.t 3), none, false⟩,
  ⟨none, .st 17 (.t 6) (.t 103), none, false⟩,
  ⟨(some 7), .mv (.c (.i .i64 0)), none, false⟩]
abbrev i16c : ICode := (.seq (.reg i16r0) (.seq (.seq (.reg i16r1) (.cond (.t 12) (.seq (.reg i16r2) .ret) .skip)) (.seq (.seq (.reg i16r3) (.cond (.t 27) (.seq (.reg i16r4) .ret) .skip)) (.seq (.reg i16r5) (.seq (.reg i16r6) (.seq (.seq (.reg i16r7) (.cond (.t 38) (.seq (.reg i16r8) (.seq (.reg i16r9) (.seq (.reg i16r10) (.seq (.reg i16r11) (.seq (.reg i16r12) .ret))))) .skip)) (.seq (.seq (.reg i16r13) (.cond (.t 50) (.seq (.reg i16r14) .ret) .skip)) (.seq (.seq (.reg i16r15) (.cond (.t 56) (.seq (.reg i16r16) (.seq (.reg i16r17) (.seq (.reg i16r18) .ret))) .skip)) (.seq (.seq (.reg i16r19) (.cond (.t 67) (.reg i16r20) (.seq (.dreg i16r21) (.seq (.reg i16r22) (.cond (.t 84) (.reg i16r23) (.reg i16r24)))))) (.seq (.reg i16r25) (.seq (.reg i16r26) (.seq (.reg i16r27) (.seq (.reg i16r28) (.seq (.reg i16r29) (.seq (.reg i16r30) .ret)))))))))))))))
def i16 : IFn := { np := 3, N := 104, ct := [12, 27, 38, 50, 56, 67, 84], code := i16c, res := [.c 6 true 17, .t 7] }
theorem i16_eq : compF Try.prog Try.f16 = some i16 := by kernel_rfl
abbrev i17r0 : List IOper := [
  ⟨(some 2), .box (.t 0), none, false⟩,
  ⟨(some 3), .box (.t 1), none, false⟩,
  ⟨(some 4), .mv (.c (.b false)), none, false⟩]
abbrev i17r1 : List IOper := [
  ⟨(some 6), .fa 0 (.t 2), none, false⟩,
  ⟨(some 7), .ld false 1 (.t 6), none, false⟩,
  ⟨(some 8), .fa 0 (.t 3), none, false⟩,
  ⟨(some 9), .ld false 1 (.t 8), none, false⟩,
  ⟨(some 10), .bin .neq (.t 7) (.t 9), none, false⟩,
  ⟨(some 11), .mv (.t 10), none, true⟩,
  ⟨(some 12), .fa 1 (.t 2), (some (11, false)), false⟩,
  ⟨(some 13), .ld false 1 (.t 12), (some (11, false)), false⟩,
  ⟨(some 14), .fa 1 (.t 3), (some (11, false)), false⟩,
  ⟨(some 15), .ld false 1 (.t 14), (some (11, false)), false⟩,
  ⟨(some 16), .eqk true false [.b] (.t 13) (.t 15), (some (11, false)), false⟩,
  ⟨(some 17), .pick (.t 11) (.c (.b true)) (.t 16), none, false⟩,
  ⟨(some 18), .mv (.t 17), none, true⟩,
  ⟨(some 19), .fa 2 (.t 2), (some (18, false)), false⟩,
  ⟨(some 20), .ld false 1 (.t 19), (some (18, false)), false⟩,
  ⟨(some 21), .fa 2 (.t 3), (some (18, false)), false⟩,
  ⟨(some 22), .ld false 1 (.t 21), (some (18, false)), false⟩,
  ⟨(some 23), .eqk true false [.b] (.t 20) (.t 22), (some (18, false)), false⟩,
  ⟨(some 24), .pick (.t 18) (.c (.b true)) (.t 23), none, false⟩,
  ⟨(some 25), .mv (.t 24), none, true⟩,
  ⟨(some 26), .fa 3 (.t 2), (some (25, false)), false⟩,
  ⟨(some 27), .ld false 1 (.t 26), (some (25, false)), false⟩,
  ⟨(some 28), .fa 3 (.t 3), (some (25, false)), false⟩,
  ⟨(some 29), .ld false 1 (.t 28), (some (25, false)), false⟩,
  ⟨(some 30), .bin .neq (.t 27) (.t 29), (some (25, false)), false⟩,
  ⟨(some 31), .pick (.t 25) (.c (.b true)) (.t 30), none, false⟩,
  ⟨(some 32), .mv (.t 31), none, true⟩,
  ⟨(some 33), .fa 4 (.t 2), (some (32, false)), false⟩,
  ⟨(some 34), .ld false 1 (.t 33), (some (32, false)), false⟩,
  ⟨(some 35), .fa 4 (.t 3), (some (32, false)), false⟩,
  ⟨(some 36), .ld false 1 (.t 35), (some (32, false)), false⟩,
  ⟨(some 37), .bin .neq (.t 34) (.t 36), (some (32, false)), false⟩,
  ⟨(some 38), .pick (.t 32) (.c (.b true)) (.t 37), none, false⟩,
  ⟨(some 39), .mv (.t 38), none, true⟩,
  ⟨(some 40), .fa 5 (.t 2), (some (39, false)), false⟩,
  ⟨(some 41), .ld false 1 (.t 40), (some (39, false)), false⟩,
  ⟨(some 42), .fa 5 (.t 3), (some (39, false)), false⟩,
  ⟨(some 43), .ld false 1 (.t 42), (some (39, false)), false⟩,
  ⟨(some 44), .bin .neq (.t 41) (.t 43), (some (39, false)), false⟩,
  ⟨(some 45), .pick (.t 39) (.c (.b true)) (.t 44), none, false⟩,
  ⟨(some 46), .mv (.t 45), none, true⟩,
  ⟨(some 47), .fa 6 (.t 2), (some (46, false)), false⟩,
  ⟨(some 48), .ld false 1 (.t 47), (some (46, false)), false⟩,
  ⟨(some 49), .fa 6 (.t 3), (some (46, false)), false⟩,
  ⟨(some 50), .ld false 1 (.t 49), (some (46, false)), false⟩,
  ⟨(some 51), .bin .neq (.t 48) (.t 50), (some (46, false)), false⟩,
  ⟨(some 52), .pick (.t 46) (.c (.b true)) (.t 51), none, false⟩,
  ⟨(some 53), .mv (.t 52), none, true⟩,
  ⟨(some 54), .fa 7 (.t 2), (some (53, false)), false⟩,
  ⟨(some 55), .ld false 1 (.t 54), (some (53, false)), false⟩,
  ⟨(some 56), .fa 7 (.t 3), (some (53, false)), false⟩,
  ⟨(some 57), .ld false 1 (.t 56), (some (53, false)), false⟩,
  ⟨(some 58), .bin .neq (.t 55) (.t 57), (some (53, false)), false⟩,
  ⟨(some 59), .pick (.t 53) (.c (.b true)) (.t 58), none, false⟩,
  ⟨(some 60), .mv (.t 59), none, true⟩,
  ⟨(some 61), .fa 8 (.t 2), (some (60, false)), false⟩,
  ⟨(some 62), .ld false 1 (.t 61), (some (60, false)), false⟩,
  ⟨(some 63), .fa 8 (.t 3), (some (60, false)), false⟩,
  ⟨(some 64), .ld false 1 (.t 63), (some (60, false)), false⟩,
  ⟨(some 65), .bin .neq (.t 62) (.t 64), (some (60, false)), false⟩,
  ⟨(some 66), .pick (.t 60) (.c (.b true)) (.t 65), none, false⟩,
  ⟨(some 67), .mv (.t 66), none, true⟩,
  ⟨(some 68), .fa 9 (.t 2), (some (67, false)), false⟩,
  ⟨(some 69), .ld false 1 (.t 68), (some (67, false)), false⟩,
  ⟨(some 70), .fa 9 (.t 3), (some (67, false)), false⟩,
  ⟨(some 71), .ld false 1 (.t 70), (some (67, false)), false⟩,
  ⟨(some 72), .bin .neq (.t 69) (.t 71), (some (67, false)), false⟩,
  ⟨(some 73), .pick (.t 67) (.c (.b true)) (.t 72), none, false⟩,
  ⟨(some 74), .mv (.t 73), none, true⟩,
  ⟨(some 75), .fa 10 (.t 2), (some (74, false)), false⟩,
  ⟨(some 76), .ld false 1 (.t 75), (some (74, false)), false⟩,
  ⟨(some 77), .fa 10 (.t 3), (some (74, false)), false⟩,
  ⟨(some 78), .ld false 1 (.t 77), (some (74, false)), false⟩,
  ⟨(some 79), .bin .neq (.t 76) (.t 78), (some (74, false)), false⟩,
  ⟨(some 80), .pick (.t 74) (.c (.b true)) (.t 79), none, false⟩,
  ⟨(some 81), .mv (.t 80), none, true⟩,
  ⟨(some 82), .fa 11 (.t 2), (some (81, false)), false⟩,
  ⟨(some 83), .ld false 1 (.t 82), (some (81, false)), false⟩,
  ⟨(some 84), .fa 11 (.t 3), (some (81, false)), false⟩,
  ⟨(some 85), .ld false 1 (.t 84), (some (81, false)), false⟩,
  ⟨(some 86), .bin .neq (.t 83) (.t 85), (some (81, false)), false⟩,
  ⟨(some 87), .pick (.t 81) (.c (.b true)) (.t 86), none, false⟩,
  ⟨(some 88), .mv (.t 87), none, true⟩,
  ⟨(some 89), .fa 12 (.t 2), (some (88, false)), false⟩,
  ⟨(some 90), .ld false 1 (.t 89), (some (88, false)), false⟩,
  ⟨(some 91), .fa 12 (.t 3), (some (88, false)), false⟩,
  ⟨(some 92), .ld false 1 (.t 91), (some (88, false)), false⟩,
  ⟨(some 93), .bin .neq (.t 90) (.t 92), (some (88, false)), false⟩,
  ⟨(some 94), .pick (.t 88) (.c (.b true)) (.t 93), none, false⟩,
  ⟨(some 95), .mv (.t 94), none, true⟩,
  ⟨(some 96), .fa 13 (.t 2), (some (95, false)), false⟩,
  ⟨(some 97), .ld false 1 (.t 96), (some (95, false)), false⟩,
  ⟨(some 98), .fa 13 (.t 3), (some (95, false)), false⟩,
  ⟨(some 99), .ld false 1 (.t 98), (some (95, false)), false⟩,
  ⟨(some 100), .bin .neq (.t 97) (.t 99), (some (95, false)), false⟩,
  ⟨(some 101), .pick (.t 95) (.c (.b true)) (.t 100), none, false⟩,
  ⟨(some 102), .mv (.t 101), none, true⟩,
  ⟨(some 103), .fa 14 (.t 2), (some (102, false)), false⟩,
  ⟨(some 104), .ld false 1 (.t 103), (some (102, false)), false⟩,
  ⟨(some 105), .fa 14 (.t 3), (some (102, false)), false⟩,
  ⟨(some 106), .ld false 1 (.t 105), (some (102, false)), false⟩,
  ⟨(some 107), .bin .neq (.t 104) (.t 106), (some (102, false)), false⟩,
  ⟨(some 108), .pick (.t 102) (.c (.b true)) (.t 107), none, false⟩,
  ⟨(some 109), .mv (.t 108), none, true⟩,
  ⟨(some 110), .fa 15 (.t 2), (some (109, false)), false⟩,
  ⟨(some 111), .ld false 1 (.t 110), (some (109, false)), false⟩,
  ⟨(some 112), .fa 15 (.t 3), (some (109, false)), false⟩,
  ⟨(some 113), .ld false 1 (.t 112), (some (109, false)), false⟩,
  ⟨(some 114), .bin .neq (.t 111) (.t 113), (some (109, false)), false⟩,
  ⟨(some 115), .pick (.t 109) (.c (.b true)) (.t 114), none, false⟩,
  ⟨(some 116), .mv (.t 115), none, true⟩,
  ⟨(some 117), .fa 16 (.t 2), (some (116, false)), false⟩,
  ⟨(some 118), .ld false 1 (.t 117), (some (116, false)), false⟩,
  ⟨(some 119), .lenV (.t 118), (some (116, false)), false⟩,
  ⟨(some 120), .fa 16 (.t 3), (some (116, false)), false⟩,
  ⟨(some 121), .ld false 1 (.t 120), (some (116, false)), false⟩,
  ⟨(some 122), .lenV (.t 121), (some (116, false)), false⟩,
  ⟨(some 123), .bin .neq (.t 119) (.t 122), (some (116, false)), false⟩,
  ⟨(some 124), .pick (.t 116) (.c (.b true)) (.t 123), none, true⟩]
abbrev i17r2 : List IOper := [
  ⟨(some 4), .mv (.c (.b false)), none, false⟩]
abbrev i17r3 : List IOper := [
  ⟨(some 5), .mv (.c (.i .i64 0)), none, false⟩]
abbrev i17r4 : List IOper := [
  ⟨(some 125), .mv (.t 5), none, false⟩,
  ⟨(some 126), .fa 16 (.t 2), none, false⟩,
  ⟨(some 127), .ld false 1 (.t 126), none, false⟩,
  ⟨(some 128), .lenV (.t 127), none, false⟩,
  ⟨(some 129), .bin .lss (.t 125) (.t 128), none, true⟩]
abbrev i17r5 : List (IOper × List Nat) := [
  (⟨(some 132), .fa 16 (.t 2), none, false⟩, []),
  (⟨(some 133), .ld false 1 (.t 132), none, false⟩, []),
  (⟨(some 134), .mv (.t 5), none, false⟩, [0, 1]),
  (⟨(some 135), .ixaV 2 (.t 133) (.t 134), none, false⟩, []),
  (⟨(some 136), .ld true 2 (.t 135), none, false⟩, []),
  (⟨(some 137), .fa 16 (.t 3), none, false⟩, [0, 1, 2, 3, 4]),
  (⟨(some 138), .ld false 1 (.t 137), none, false⟩, [0, 1, 2, 3, 4]),
  (⟨(some 139), .mv (.t 5), none, false⟩, [0, 1, 2, 3, 4, 5, 6]),
  (⟨(some 140), .ixaV 2 (.t 138) (.t 139), none, false⟩, [0, 1, 2, 3, 4]),
  (⟨(some 141), .ld true 2 (.t 140), none, false⟩, [0, 1, 2, 3, 4]),
  (⟨(some 142), .eqk true true [.i, .i] (.t 136) (.t 141), none, true⟩, [])]
abbrev i17r6 : List IOper := [
  ⟨(some 4), .mv (.c (.b false)), none, false⟩]
abbrev i17r7 : List IOper := [
  ⟨(some 130), .mv (.t 5), none, false⟩,
  ⟨(some 131), .bin .add (.t 130) (.c (.i .i64 1)), none, false⟩,
  ⟨(some 5), .mv (.t 131), none, false⟩]
abbrev i17l8 : ICode := (.seq (.seq (.reg i17r4) (.cond (.t 129) .skip (.exit 0))) (.seq (.block 1 (.seq (.dreg i17r5) (.cond (.t 142) (.seq (.reg i17r6) .ret) .skip))) (.reg i17r7)))
abbrev i17r9 : List IOper := [
  ⟨(some 4), .mv (.c (.b true)), none, false⟩]
abbrev i17c : ICode := (.seq (.reg i17r0) (.seq (.seq (.reg i17r1) (.cond (.t 124) (.seq (.reg i17r2) .ret) .skip)) (.seq (.seq (.reg i17r3) (.block 0 (.loop i17l8))) (.seq (.reg i17r9) .ret))))
def i17 : IFn := { np := 2, N := 143, ct := [124, 129, 142], code := i17c, res := [.t 4] }
theorem i17_eq : compF Try.prog Try.f17 = some i17 := by kernel_rfl
abbrev i19r0 : List IOper := [
  ⟨(some 0), .new [.i .i64 0, .b false, .b false, .i .i64 0, .i .i64 0, .i .i64 0, .i .i64 0, .i .i64 0, .i .i64 0, .i .i64 0, .i .i64 0, .i .i64 0, .i .i64 0, .i .i64 0, .i .i64 0, .i .i64 0, .ns], none, false⟩]
abbrev i19r1 : List IOper := [
  ⟨(some 1), .build [.i .i64 0, .b false, .b false, .i .i64 0, .i .i64 0, .i .i64 0, .i .i64 0, .i .i64 0, .i .i64 0, .i .i64 0, .i .i64 0, .i .i64 0, .i .i64 0, .i .i64 0, .i .i64 0, .i .i64 0, .ns] [(11, 1, .c (.i .i64 12800))], none, false⟩,
  ⟨none, .st 17 (.t 0) (.t 1), none, false⟩]
abbrev i19c : ICode := (.seq (.reg i19r0) (.seq (.reg i19r1) .ret))
def i19 : IFn := { np := 0, N := 2, ct := [], code := i19c, res := [.c 0 true 17] }
theorem i19_eq : compF Try.prog Try.f19 = some i19 := by kernel_rfl
abbrev i21r0 : List IOper := [
  ⟨(some 1), .box (.t 0), none, false⟩,
  ⟨(some 2), .mv (.c (.ns)), none, false⟩,
  ⟨(some 3), .mv (.c (.ns)), none, false⟩]
abbrev i21r1 : List IOper := [
  ⟨(some 4), .mv (.c (.ns)), none, false⟩,
  ⟨(some 5), .mv (.c (.ns)), none, false⟩]
abbrev i21r2 : List (IOper × List Nat) := [
  (⟨(some 9), .fa 0 (.t 1), none, false⟩, []),
  (⟨(some 10), .ld false 1 (.t 9), none, false⟩, []),
  (⟨(some 11), .i2i .i64 (.t 10), none, false⟩, []),
  (⟨(some 12), .bin .add (.c (.i .i64 1000)) (.t 11), none, false⟩, []),
  (⟨(some 13), .fa 0 (.t 1), none, false⟩, [0, 1, 2, 3]),
  (⟨(some 14), .ld false 1 (.t 13), none, false⟩, [0, 1, 2, 3]),
  (⟨(some 15), .i2i .i64 (.t 14), none, false⟩, [0, 1, 2, 3]),
  (⟨(some 16), .bin .add (.c (.i .i64 2000)) (.t 15), none, false⟩, [0, 1, 2, 3]),
  (⟨(some 6), .mv (.t 12), none, false⟩, [4, 5, 6, 7]),
  (⟨(some 7), .mv (.t 16), none, false⟩, [])]
abbrev i21r3 : List IOper := [
  ⟨(some 8), .mv (.c (.i .i64 0)), none, false⟩]
abbrev i21r4 : List IOper := [
  ⟨(some 17), .mv (.t 8), none, false⟩,
  ⟨(some 18), .fa 3 (.t 1), none, false⟩,
  ⟨(some 19), .ld false 1 (.t 18), none, false⟩,
  ⟨(some 20), .lenV (.t 19), none, false⟩,
  ⟨(some 21), .bin .lss (.t 17) (.t 20), none, false⟩,
  ⟨(some 22), .mv (.t 21), none, true⟩,
  ⟨(some 23), .mv (.t 8), (some (22, true)), false⟩,
  ⟨(some 24), .bin .lss (.t 23) (.c (.i .i64 60)), (some (22, true)), false⟩,
  ⟨(some 25), .pick (.t 22) (.t 24) (.c (.b false)), none, true⟩]
abbrev i21r5 : List (IOper × List Nat) := [
  (⟨(some 28), .mv (.t 6), none, false⟩, []),
  (⟨(some 29), .fa 1 (.t 1), none, false⟩, [0]),
  (⟨(some 30), .ld false 1 (.t 29), none, false⟩, [0]),
  (⟨(some 31), .bin .rem (.t 30) (.c (.i .u8 40)), none, false⟩, [0]),
  (⟨(some 32), .i2i .i64 (.t 31), none, false⟩, [0]),
  (⟨(some 33), .bin .add (.t 28) (.t 32), none, false⟩, []),
  (⟨(some 34), .fa 3 (.t 1), none, false⟩, [0, 1, 2, 3, 4, 5]),
  (⟨(some 35), .ld false 1 (.t 34), none, false⟩, [0, 1, 2, 3, 4, 5]),
  (⟨(some 36), .mv (.t 8), none, false⟩, [0, 1, 2, 3, 4, 5, 6, 7]),
  (⟨(some 37), .ixaV 2 (.t 35) (.t 36), none, false⟩, [0, 1, 2, 3, 4, 5]),
  (⟨(some 38), .fa 0 (.t 37), none, false⟩, [0, 1, 2, 3, 4, 5]),
  (⟨(some 39), .ld false 1 (.t 38), none, false⟩, [0, 1, 2, 3, 4, 5]),
  (⟨(some 40), .i2i .i64 (.t 39), none, false⟩, [0, 1, 2, 3, 4, 5]),
  (⟨(some 41), .bin .add (.t 33) (.t 40), none, false⟩, []),
  (⟨(some 42), .mx (.c (.i .i64 0)) [.t 41], none, false⟩, []),
  (⟨(some 6), .mv (.t 42), none, false⟩, [])]
abbrev i21r6 : List (IOper × List Nat) := [
  (⟨(some 43), .mv (.t 7), none, false⟩, []),
  (⟨(some 44), .fa 1 (.t 1), none, false⟩, [0]),
  (⟨(some 45), .ld false 1 (.t 44), none, false⟩, [0]),
  (⟨(some 46), .bin .rem (.t 45) (.c (.i .u8 40)), none, false⟩, [0]),
  (⟨(some 47), .i2i .i64 (.t 46), none, false⟩, [0]),
  (⟨(some 48), .bin .add (.t 43) (.t 47), none, false⟩, []),
  (⟨(some 49), .fa 2 (.t 1), none, false⟩, [0, 1, 2, 3, 4, 5]),
  (⟨(some 50), .ld false 1 (.t 49), none, false⟩, [0, 1, 2, 3, 4, 5]),
  (⟨(some 51), .bin .rem (.t 50) (.c (.i .u8 20)), none, false⟩, [0, 1, 2, 3, 4, 5]),
  (⟨(some 52), .i2i .i64 (.t 51), none, false⟩, [0, 1, 2, 3, 4, 5]),
  (⟨(some 53), .bin .add (.t 48) (.t 52), none, false⟩, []),
  (⟨(some 54), .fa 3 (.t 1), none, false⟩, [0, 1, 2, 3, 4, 5, 6, 7, 8, 9, 10]),
  (⟨(some 55), .ld false 1 (.t 54), none, false⟩, [0, 1, 2, 3, 4, 5, 6, 7, 8, 9, 10]),
  (⟨(some 56), .mv (.t 8), none, false⟩, [0, 1, 2, 3, 4, 5, 6, 7, 8, 9, 10, 11, 12]),
  (⟨(some 57), .ixaV 2 (.t 55) (.t 56), none, false⟩, [0, 1, 2, 3, 4, 5, 6, 7, 8, 9, 10]),
  (⟨(some 58), .fa 1 (.t 57), none, false⟩, [0, 1, 2, 3, 4, 5, 6, 7, 8, 9, 10]),
  (⟨(some 59), .ld false 1 (.t 58), none, false⟩, [0, 1, 2, 3, 4, 5, 6, 7, 8, 9, 10]),
  (⟨(some 60), .i2i .i64 (.t 59), none, false⟩, [0, 1, 2, 3, 4, 5, 6, 7, 8, 9, 10]),
  (⟨(some 61), .bin .add (.t 53) (.t 60), none, false⟩, []),
  (⟨(some 7), .mv (.t 61), none, false⟩, [])]
abbrev i21r7 : List IOper := [
  ⟨(some 62), .mv (.t 4), none, false⟩,
  ⟨(some 63), .mv (.t 6), none, false⟩,
  ⟨(some 64), .bsl [.i .i64 0] 1 [(0, 1, .t 63)], none, false⟩,
  ⟨(some 65), .app 1 8 [.i .i64 0] (.t 62) (.t 64), none, false⟩,
  ⟨(some 4), .mv (.t 65), none, false⟩]
abbrev i21r8 : List IOper := [
  ⟨(some 66), .mv (.t 5), none, false⟩,
  ⟨(some 67), .mv (.t 7), none, false⟩,
  ⟨(some 68), .bsl [.i .i64 0] 1 [(0, 1, .t 67)], none, false⟩,
  ⟨(some 69), .app 1 8 [.i .i64 0] (.t 66) (.t 68), none, false⟩,
  ⟨(some 5), .mv (.t 69), none, false⟩]
abbrev i21r9 : List IOper := [
  ⟨(some 26), .mv (.t 8), none, false⟩,
  ⟨(some 27), .bin .add (.t 26) (.c (.i .i64 1)), none, false⟩,
  ⟨(some 8), .mv (.t 27), none, false⟩]
abbrev i21l10 : ICode := (.seq (.seq (.reg i21r4) (.cond (.t 25) .skip (.exit 0))) (.seq (.block 1 (.seq (.dreg i21r5) (.seq (.dreg i21r6) (.seq (.reg i21r7) (.reg i21r8))))) (.reg i21r9)))
abbrev i21r11 : List IOper := [
  ⟨(some 70), .mv (.t 4), none, false⟩,
  ⟨(some 71), .mv (.t 5), none, false⟩,
  ⟨(some 2), .mv (.t 70), none, false⟩,
  ⟨(some 3), .mv (.t 71), none, false⟩]
abbrev i21c : ICode := (.seq (.reg i21r0) (.seq (.reg i21r1) (.seq (.dreg i21r2) (.seq (.seq (.reg i21r3) (.block 0 (.loop i21l10))) (.seq (.reg i21r11) .ret)))))
def i21 : IFn := { np := 1, N := 72, ct := [25], code := i21c, res := [.t 2, .t 3] }
theorem i21_eq : compF Try.prog Try.f21 = some i21 := by kernel_rfl
abbrev i29r0 : List IOper := [
  ⟨(some 2), .mv (.c (.b false)), none, false⟩]
abbrev i29r1 : List IOper := [
  ⟨(some 3), .mv (.t 0), none, false⟩,
  ⟨(some 4), .bin .geq (.t 3) (.c (.i .i64 0)), none, false⟩,
  ⟨(some 5), .mv (.t 4), none, true⟩,
  ⟨(some 6), .mv (.t 0), (some (5, true)), false⟩,
  ⟨(some 7), .bin .leq (.t 6) (.c (.i .i64 1099511627776)), (some (5, true)), false⟩,
  ⟨(some 8), .pick (.t 5) (.t 7) (.c (.b false)), none, false⟩,
  ⟨(some 2), .mv (.t 8), none, false⟩]
abbrev i29c : ICode := (.seq (.reg i29r0) (.seq (.reg i29r1) .ret))
def i29 : IFn := { np := 1, N := 9, ct := [], code := i29c, res := [.t 2] }
theorem i29_eq : compF Try.prog Try.f29 = some i29 := by kernel_rfl
abbrev i30r0 : List IOper := [
  ⟨(some 2), .mv (.c (.b false)), none, false⟩]
abbrev i30r1 : List IOper := [
  ⟨(some 3), .mv (.t 0), none, false⟩,
  ⟨(some 4), .bin .lss (.t 3) (.c (.i .i64 (-1099511627776))), none, false⟩,
  ⟨(some 5), .mv (.t 4), none, true⟩,
  ⟨(some 6), .mv (.t 0), (some (5, false)), false⟩,
  ⟨(some 7), .bin .gtr (.t 6) (.c (.i .i64 1099511627776)), (some (5, false)), false⟩,
  ⟨(some 8), .pick (.t 5) (.c (.b true)) (.t 7), none, false⟩,
  ⟨(some 2), .mv (.t 8), none, false⟩]
abbrev i30c : ICode := (.seq (.reg i30r0) (.seq (.reg i30r1) .ret))
def i30 : IFn := { np := 1, N := 9, ct := [], code := i30c, res := [.t 2] }
theorem i30_eq : compF Try.prog Try.f30 = some i30 := by kernel_rfl
abbrev i31r0 : List IOper := [
  ⟨(some 2), .mv (.c (.b false)), none, false⟩]
abbrev i31r1 : List IOper := [
  ⟨(some 5), .mv (.t 0), none, false⟩,
  ⟨(some 6), .lenV (.t 5), none, false⟩,
  ⟨(some 7), .bin .gtr (.t 6) (.c (.i .i64 20)), none, true⟩]
abbrev i31r2 : List IOper := [
  ⟨(some 2), .mv (.c (.b false)), none, false⟩]
abbrev i31r3 : List IOper := [
  ⟨(some 3), .mv (.c (.i .i64 0)), none, false⟩]
abbrev i31r4 : List IOper := [
  ⟨(some 8), .mv (.t 3), none, false⟩,
  ⟨(some 9), .mv (.t 0), none, false⟩,
  ⟨(some 10), .lenV (.t 9), none, false⟩,
  ⟨(some 11), .bin .lss (.t 8) (.t 10), none, true⟩]
abbrev i31r5 : List (IOper × List Nat) := [
  (⟨(some 14), .mv (.t 0), none, false⟩, []),
  (⟨(some 15), .mv (.t 3), none, false⟩, [0]),
  (⟨(some 16), .ixaV 2 (.t 14) (.t 15), none, false⟩, []),
  (⟨(some 17), .fa 0 (.t 16), none, false⟩, []),
  (⟨(some 18), .ld false 1 (.t 17), none, false⟩, []),
  (⟨(some 19), .call (.c (.fn 29 [])) [.t 18], none, false⟩, []),
  (⟨(some 20), .not (.t 19), none, false⟩, []),
  (⟨(some 21), .mv (.t 20), none, true⟩, []),
  (⟨(some 22), .mv (.t 0), (some (21, false)), false⟩, []),
  (⟨(some 23), .mv (.t 3), (some (21, false)), false⟩, [8]),
  (⟨(some 24), .ixaV 2 (.t 22) (.t 23), (some (21, false)), false⟩, []),
  (⟨(some 25), .fa 1 (.t 24), (some (21, false)), false⟩, []),
  (⟨(some 26), .ld false 1 (.t 25), (some (21, false)), false⟩, []),
  (⟨(some 27), .call (.c (.fn 30 [])) [.t 26], (some (21, false)), false⟩, []),
  (⟨(some 28), .pick (.t 21) (.c (.b true)) (.t 27), none, false⟩, []),
  (⟨(some 29), .mv (.t 28), none, true⟩, []),
  (⟨(some 30), .mv (.t 3), (some (29, false)), false⟩, []),
  (⟨(some 31), .bin .gtr (.t 30) (.c (.i .i64 0)), (some (29, false)), false⟩, []),
  (⟨(some 32), .mv (.t 31), (some (29, false)), true⟩, []),
  (⟨(some 33), .mv (.t 0), (some (32, true)), false⟩, []),
  (⟨(some 34), .mv (.t 3), (some (32, true)), false⟩, [19]),
  (⟨(some 35), .ixaV 2 (.t 33) (.t 34), (some (32, true)), false⟩, []),
  (⟨(some 36), .fa 0 (.t 35), (some (32, true)), false⟩, []),
  (⟨(some 37), .ld false 1 (.t 36), (some (32, true)), false⟩, []),
  (⟨(some 38), .mv (.t 0), (some (32, true)), false⟩, [19, 20, 21, 22, 23]),
  (⟨(some 39), .mv (.t 3), (some (32, true)), false⟩, [19, 20, 21, 22, 23, 24]),
  (⟨(some 40), .bin .sub (.t 39) (.c (.i .i64 1)), (some (32, true)), false⟩, [19, 20, 21, 22, 23, 24]),
  (⟨(some 41), .ixaV 2 (.t 38) (.t 40), (some (32, true)), false⟩, [19, 20, 21, 22, 23]),
  (⟨(some 42), .fa 0 (.t 41), (some (32, true)), false⟩, [19, 20, 21, 22, 23]),
  (⟨(some 43), .ld false 1 (.t 42), (some (32, true)), false⟩, [19, 20, 21, 22, 23]),
  (⟨(some 44), .bin .lss (.t 37) (.t 43), (some (32, true)), false⟩, []),
  (⟨(some 45), .pick (.t 32) (.t 44) (.c (.b false)), (some (29, false)), false⟩, []),
  (⟨(some 46), .pick (.t 29) (.c (.b true)) (.t 45), none, false⟩, []),
  (⟨(some 47), .mv (.t 46), none, true⟩, []),
  (⟨(some 48), .mv (.t 0), (some (47, false)), false⟩, []),
  (⟨(some 49), .mv (.t 3), (some (47, false)), false⟩, [34]),
  (⟨(some 50), .ixaV 2 (.t 48) (.t 49), (some (47, false)), false⟩, []),
  (⟨(some 51), .fa 0 (.t 50), (some (47, false)), false⟩, []),
  (⟨(some 52), .ld false 1 (.t 51), (some (47, false)), false⟩, []),
  (⟨(some 53), .mv (.t 0), (some (47, false)), false⟩, [34, 35, 36, 37, 38]),
  (⟨(some 54), .ixaV 2 (.t 53) (.c (.i .i64 0)), (some (47, false)), false⟩, [34, 35, 36, 37, 38]),
  (⟨(some 55), .fa 0 (.t 54), (some (47, false)), false⟩, [34, 35, 36, 37, 38]),
  (⟨(some 56), .ld false 1 (.t 55), (some (47, false)), false⟩, [34, 35, 36, 37, 38]),
  (⟨(some 57), .bin .sub (.t 52) (.t 56), (some (47, false)), false⟩, []),
  (⟨(some 58), .bin .gtr (.t 57) (.c (.i .i64 40000)), (some (47, false)), false⟩, []),
  (⟨(some 59), .pick (.t 47) (.c (.b true)) (.t 58), none, true⟩, [])]
abbrev i31r6 : List IOper := [
  ⟨(some 2), .mv (.c (.b false)), none, false⟩]
abbrev i31r7 : List (IOper × List Nat) := [
  (⟨(some 60), .mv (.t 0), none, false⟩, []),
  (⟨(some 61), .mv (.t 3), none, false⟩, [0]),
  (⟨(some 62), .ixaV 2 (.t 60) (.t 61), none, false⟩, []),
  (⟨(some 63), .fa 1 (.t 62), none, false⟩, []),
  (⟨(some 64), .ld false 1 (.t 63), none, false⟩, []),
  (⟨(some 65), .mv (.t 0), none, false⟩, [0, 1, 2, 3, 4]),
  (⟨(some 66), .ixaV 2 (.t 65) (.c (.i .i64 0)), none, false⟩, [0, 1, 2, 3, 4]),
  (⟨(some 67), .fa 1 (.t 66), none, false⟩, [0, 1, 2, 3, 4]),
  (⟨(some 68), .ld false 1 (.t 67), none, false⟩, [0, 1, 2, 3, 4]),
  (⟨(some 69), .bin .sub (.t 64) (.t 68), none, false⟩, []),
  (⟨(some 4), .mv (.t 69), none, false⟩, [])]
abbrev i31r8 : List IOper := [
  ⟨(some 70), .mv (.t 4), none, false⟩,
  ⟨(some 71), .bin .gtr (.t 70) (.c (.i .i64 67108864)), none, false⟩,
  ⟨(some 72), .mv (.t 71), none, true⟩,
  ⟨(some 73), .mv (.t 4), (some (72, false)), false⟩,
  ⟨(some 74), .bin .lss (.t 73) (.c (.i .i64 (-67108864))), (some (72, false)), false⟩,
  ⟨(some 75), .pick (.t 72) (.c (.b true)) (.t 74), none, true⟩]
abbrev i31r9 : List IOper := [
  ⟨(some 2), .mv (.c (.b false)), none, false⟩]
abbrev i31r10 : List IOper := [
  ⟨(some 12), .mv (.t 3), none, false⟩,
  ⟨(some 13), .bin .add (.t 12) (.c (.i .i64 1)), none, false⟩,
  ⟨(some 3), .mv (.t 13), none, false⟩]
abbrev i31l11 : ICode := (.seq (.seq (.reg i31r4) (.cond (.t 11) .skip (.exit 0))) (.seq (.block 1 (.seq (.seq (.dreg i31r5) (.cond (.t 59) (.seq (.reg i31r6) .ret) .skip)) (.seq (.dreg i31r7) (.seq (.reg i31r8) (.cond (.t 75) (.seq (.reg i31r9) .ret) .skip))))) (.reg i31r10)))
abbrev i31r12 : List IOper := [
  ⟨(some 2), .mv (.c (.b true)), none, false⟩]
abbrev i31c : ICode := (.seq (.reg i31r0) (.seq (.seq (.reg i31r1) (.cond (.t 7) (.seq (.reg i31r2) .ret) .skip)) (.seq (.seq (.reg i31r3) (.block 0 (.loop i31l11))) (.seq (.reg i31r12) .ret))))
def i31 : IFn := { np := 1, N := 76, ct := [7, 11, 59, 75], code := i31c, res := [.t 2] }
theorem i31_eq : compF Try.prog Try.f31 = some i31 := by kernel_rfl
abbrev i32r0 : List IOper := [
  ⟨(some 4), .mv (.c (.b false)), none, false⟩]
abbrev i32r1 : List IOper := [
  ⟨(some 5), .mv (.c (.i .i64 0)), none, false⟩]
abbrev i32r2 : List IOper := [
  ⟨(some 6), .mv (.t 5), none, false⟩,
  ⟨(some 7), .mv (.t 0), none, false⟩,
  ⟨(some 8), .lenV (.t 7), none, false⟩,
  ⟨(some 9), .bin .lss (.t 6) (.t 8), none, true⟩]
abbrev i32r3 : List (IOper × List Nat) := [
  (⟨(some 12), .mv (.t 5), none, false⟩, []),
  (⟨(some 13), .bin .gtr (.t 12) (.c (.i .i64 0)), none, false⟩, []),
  (⟨(some 14), .mv (.t 13), none, true⟩, []),
  (⟨(some 15), .mv (.t 0), (some (14, true)), false⟩, []),
  (⟨(some 16), .mv (.t 5), (some (14, true)), false⟩, [3]),
  (⟨(some 17), .ixaV 2 (.t 15) (.t 16), (some (14, true)), false⟩, []),
  (⟨(some 18), .fa 0 (.t 17), (some (14, true)), false⟩, []),
  (⟨(some 19), .ld false 1 (.t 18), (some (14, true)), false⟩, []),
  (⟨(some 20), .mv (.t 0), (some (14, true)), false⟩, [3, 4, 5, 6, 7]),
  (⟨(some 21), .mv (.t 5), (some (14, true)), false⟩, [3, 4, 5, 6, 7, 8]),
  (⟨(some 22), .bin .sub (.t 21) (.c (.i .i64 1)), (some (14, true)), false⟩, [3, 4, 5, 6, 7, 8]),
  (⟨(some 23), .ixaV 2 (.t 20) (.t 22), (some (14, true)), false⟩, [3, 4, 5, 6, 7]),
  (⟨(some 24), .fa 0 (.t 23), (some (14, true)), false⟩, [3, 4, 5, 6, 7]),
  (⟨(some 25), .ld false 1 (.t 24), (some (14, true)), false⟩, [3, 4, 5, 6, 7]),
  (⟨(some 26), .bin .sub (.t 19) (.t 25), (some (14, true)), false⟩, []),
  (⟨(some 27), .bin .gtr (.t 26) (.c (.i .i64 2000)), (some (14, true)), false⟩, []),
  (⟨(some 28), .pick (.t 14) (.t 27) (.c (.b false)), none, false⟩, []),
  (⟨(some 29), .mv (.t 28), none, true⟩, []),
  (⟨(some 30), .mv (.t 5), (some (29, false)), false⟩, []),
  (⟨(some 31), .mv (.t 0), (some (29, false)), false⟩, [18]),
  (⟨(some 32), .lenV (.t 31), (some (29, false)), false⟩, [18]),
  (⟨(some 33), .bin .sub (.t 32) (.c (.i .i64 1)), (some (29, false)), false⟩, [18]),
  (⟨(some 34), .bin .eql (.t 30) (.t 33), (some (29, false)), false⟩, []),
  (⟨(some 35), .mv (.t 34), (some (29, false)), true⟩, []),
  (⟨(some 36), .mv (.t 0), (some (35, true)), false⟩, []),
  (⟨(some 37), .mv (.t 5), (some (35, true)), false⟩, [24]),
  (⟨(some 38), .ixaV 2 (.t 36) (.t 37), (some (35, true)), false⟩, []),
  (⟨(some 39), .fa 0 (.t 38), (some (35, true)), false⟩, []),
  (⟨(some 40), .ld false 1 (.t 39), (some (35, true)), false⟩, []),
  (⟨(some 41), .mv (.t 1), (some (35, true)), false⟩, [24, 25, 26, 27, 28]),
  (⟨(some 42), .bin .neq (.t 40) (.t 41), (some (35, true)), false⟩, []),
  (⟨(some 43), .pick (.t 35) (.t 42) (.c (.b false)), (some (29, false)), false⟩, []),
  (⟨(some 44), .pick (.t 29) (.c (.b true)) (.t 43), none, true⟩, [])]
abbrev i32r4 : List IOper := [
  ⟨(some 4), .mv (.c (.b false)), none, false⟩]
abbrev i32r5 : List IOper := [
  ⟨(some 10), .mv (.t 5), none, false⟩,
  ⟨(some 11), .bin .add (.t 10) (.c (.i .i64 1)), none, false⟩,
  ⟨(some 5), .mv (.t 11), none, false⟩]
abbrev i32l6 : ICode := (.seq (.seq (.reg i32r2) (.cond (.t 9) .skip (.exit 0))) (.seq (.block 1 (.seq (.dreg i32r3) (.cond (.t 44) (.seq (.reg i32r4) .ret) .skip))) (.reg i32r5)))
abbrev i32r7 : List IOper := [
  ⟨(some 4), .mv (.c (.b true)), none, false⟩]
abbrev i32c : ICode := (.seq (.reg i32r0) (.seq (.seq (.reg i32r1) (.block 0 (.loop i32l6))) (.seq (.reg i32r7) .ret)))
def i32 : IFn := { np := 2, N := 45, ct := [9, 44], code := i32c, res := [.t 4] }
theorem i32_eq : compF Try.prog Try.f32 = some i32 := by kernel_rfl
abbrev i36r0 : List IOper := [
  ⟨(some 1), .box (.t 0), none, false⟩,
  ⟨(some 2), .new [.i .i64 0, .b false, .b false, .i .i64 0, .i .i64 0, .i .i64 0, .i .i64 0, .i .i64 0, .i .i64 0, .i .i64 0, .i .i64 0, .i .i64 0, .i .i64 0, .i .i64 0, .i .i64 0, .i .i64 0, .ns], none, false⟩]
abbrev i36r1 : List IOper := [
  ⟨(some 3), .fa 16 (.t 1), none, false⟩,
  ⟨none, .st 1 (.t 3) (.c (.ns)), none, false⟩]
abbrev i36r2 : List IOper := [
  ⟨(some 4), .fa 8 (.t 1), none, false⟩,
  ⟨none, .st 1 (.t 4) (.c (.i .i64 0)), none, false⟩]
abbrev i36r3 : List IOper := [
  ⟨(some 5), .fa 9 (.t 1), none, false⟩,
  ⟨none, .st 1 (.t 5) (.c (.i .i64 0)), none, false⟩]
abbrev i36r4 : List IOper := [
  ⟨(some 6), .fa 10 (.t 1), none, false⟩,
  ⟨none, .st 1 (.t 6) (.c (.i .i64 0)), none, false⟩]
abbrev i36r5 : List IOper := [
  ⟨(some 7), .fa 12 (.t 1), none, false⟩,
  ⟨none, .st 1 (.t 7) (.c (.i .i64 0)), none, false⟩]
abbrev i36r6 : List IOper := [
  ⟨(some 8), .fa 13 (.t 1), none, false⟩,
  ⟨none, .st 1 (.t 8) (.c (.i .i64 0)), none, false⟩]
abbrev i36r7 : List IOper := [
  ⟨(some 9), .fa 14 (.t 1), none, false⟩,
  ⟨none, .st 1 (.t 9) (.c (.i .i64 0)), none, false⟩]
abbrev i36r8 : List IOper := [
  ⟨(some 10), .fa 15 (.t 1), none, false⟩,
  ⟨none, .st 1 (.t 10) (.c (.i .i64 0)), none, false⟩]
abbrev i36r9 : List IOper := [
  ⟨(some 11), .ld true 17 (.t 1), none, false⟩,
  ⟨none, .st 17 (.t 2) (.t 11), none, false⟩]
abbrev i36c : ICode := (.seq (.reg i36r0) (.seq (.reg i36r1) (.seq (.reg i36r2) (.seq (.reg i36r3) (.seq (.reg i36r4) (.seq (.reg i36r5) (.seq (.reg i36r6) (.seq (.reg i36r7) (.seq (.reg i36r8) (.seq (.reg i36r9) .ret))))))))))
def i36 : IFn := { np := 1, N := 12, ct := [], code := i36c, res := [.c 2 true 17] }
theorem i36_eq : compF Try.prog Try.f36 = some i36 := by kernel_rfl
abbrev i37r0 : List IOper := [
  ⟨(some 3), .box (.t 0), none, false⟩,
  ⟨(some 6), .new [.i .i64 0, .b false, .b false, .i .i64 0, .i .i64 0, .i .i64 0, .i .i64 0, .i .i64 0, .i .i64 0, .i .i64 0, .i .i64 0, .i .i64 0, .i .i64 0, .i .i64 0, .i .i64 0, .i .i64 0, .ns], none, false⟩]
abbrev i37r1 : List IOper := [
  ⟨(some 11), .fa 9 (.t 3), none, false⟩,
  ⟨(some 12), .ld false 1 (.t 11), none, false⟩,
  ⟨(some 13), .mv (.t 2), none, false⟩,
  ⟨(some 14), .bin .add (.t 12) (.t 13), none, false⟩,
  ⟨(some 15), .mv (.t 1), none, false⟩,
  ⟨(some 16), .bin .sub (.t 14) (.t 15), none, false⟩,
  ⟨(some 17), .fa 9 (.t 3), none, false⟩,
  ⟨none, .st 1 (.t 17) (.t 16), none, false⟩]
abbrev i37r2 : List IOper := [
  ⟨(some 18), .fa 10 (.t 3), none, false⟩,
  ⟨(some 19), .ld false 1 (.t 18), none, false⟩,
  ⟨(some 20), .bin .mul (.c (.i .i64 9)) (.t 19), none, false⟩,
  ⟨(some 21), .fa 9 (.t 3), none, false⟩,
  ⟨(some 22), .ld false 1 (.t 21), none, false⟩,
  ⟨(some 23), .bin .mul (.c (.i .i64 1024)) (.t 22), none, false⟩,
  ⟨(some 24), .bin .add (.t 20) (.t 23), none, false⟩,
  ⟨(some 25), .call (.c (.fn 47 [])) [.t 24, .c (.i .i64 10)], none, false⟩,
  ⟨(some 26), .fa 10 (.t 3), none, false⟩,
  ⟨none, .st 1 (.t 26) (.t 25), none, false⟩]
abbrev i37r3 : List IOper := [
  ⟨(some 27), .fa 8 (.t 3), none, false⟩,
  ⟨(some 28), .ld false 1 (.t 27), none, false⟩,
  ⟨(some 29), .bin .add (.t 28) (.c (.i .i64 1)), none, false⟩,
  ⟨(some 30), .mn (.t 29) [.c (.i .i64 60)], none, false⟩,
  ⟨(some 31), .fa 8 (.t 3), none, false⟩,
  ⟨none, .st 1 (.t 31) (.t 30), none, false⟩]
abbrev i37r4 : List IOper := [
  ⟨(some 7), .mv (.c (.ns)), none, false⟩]
abbrev i37r5 : List IOper := [
  ⟨(some 32), .mv (.t 7), none, false⟩,
  ⟨(some 33), .fa 16 (.t 3), none, false⟩,
  ⟨(some 34), .ld false 1 (.t 33), none, false⟩,
  ⟨(some 35), .app 2 16 [.i .i64 0, .i .i64 0] (.t 32) (.t 34), none, false⟩,
  ⟨(some 7), .mv (.t 35), none, false⟩]
abbrev i37r6 : List IOper := [
  ⟨(some 36), .mv (.t 7), none, false⟩,
  ⟨(some 37), .fa 5 (.t 3), none, false⟩,
  ⟨(some 38), .ld false 1 (.t 37), none, false⟩,
  ⟨(some 39), .fa 10 (.t 3), none, false⟩,
  ⟨(some 40), .ld false 1 (.t 39), none, false⟩,
  ⟨(some 41), .build [.i .i64 0, .i .i64 0] [(0, 1, .t 38), (1, 1, .t 40)], none, false⟩,
  ⟨(some 42), .bsl [.i .i64 0, .i .i64 0] 1 [(0, 2, .t 41)], none, false⟩,
  ⟨(some 43), .app 2 16 [.i .i64 0, .i .i64 0] (.t 36) (.t 42), none, false⟩,
  ⟨(some 7), .mv (.t 43), none, false⟩]
abbrev i37r7 : List IOper := [
  ⟨(some 44), .mv (.t 7), none, false⟩,
  ⟨(some 45), .lenV (.t 44), none, false⟩,
  ⟨(some 46), .bin .gtr (.t 45) (.c (.i .i64 20)), none, true⟩]
abbrev i37r8 : List IOper := [
  ⟨(some 47), .mv (.t 7), none, false⟩,
  ⟨(some 48), .slV 2 (.t 47) (some (.c (.i .i64 1))) none none, none, false⟩,
  ⟨(some 7), .mv (.t 48), none, false⟩]
abbrev i37r9 : List IOper := [
  ⟨(some 49), .mv (.t 7), none, false⟩,
  ⟨(some 50), .fa 16 (.t 3), none, false⟩,
  ⟨none, .st 1 (.t 50) (.t 49), none, false⟩]
abbrev i37r10 : List IOper := [
  ⟨(some 51), .ld true 17 (.t 3), none, false⟩,
  ⟨(some 52), .call (.c (.fn 48 [])) [.t 51], none, false⟩,
  ⟨(some 53), .not (.t 52), none, true⟩]
abbrev i37r11 : List IOper := [
  ⟨(some 54), .ld true 17 (.t 3), none, false⟩,
  ⟨(some 55), .call (.c (.fn 36 [])) [.t 54], none, false⟩,
  ⟨none, .st 17 (.t 6) (.t 55), none, false⟩]
abbrev i37r12 : List IOper := [
  ⟨(some 8), .mv (.c (.i .i64 0)), none, false⟩]
abbrev i37r13 : List (IOper × List Nat) := [
  (⟨(some 56), .mv (.t 7), none, false⟩, []),
  (⟨(some 57), .ixaV 2 (.t 56) (.c (.i .i64 0)), none, false⟩, []),
  (⟨(some 58), .fa 0 (.t 57), none, false⟩, []),
  (⟨(some 59), .ld false 1 (.t 58), none, false⟩, []),
  (⟨(some 60), .mv (.t 7), none, false⟩, [0, 1, 2, 3]),
  (⟨(some 61), .mv (.t 7), none, false⟩, [0, 1, 2, 3, 4]),
  (⟨(some 62), .lenV (.t 61), none, false⟩, [0, 1, 2, 3, 4]),
  (⟨(some 63), .bin .sub (.t 62) (.c (.i .i64 1)), none, false⟩, [0, 1, 2, 3, 4]),
  (⟨(some 64), .ixaV 2 (.t 60) (.t 63), none, false⟩, [0, 1, 2, 3]),
  (⟨(some 65), .fa 0 (.t 64), none, false⟩, [0, 1, 2, 3]),
  (⟨(some 66), .ld false 1 (.t 65), none, false⟩, [0, 1, 2, 3]),
  (⟨(some 67), .bin .neq (.t 59) (.t 66), none, true⟩, [])]
abbrev i37r14 : List IOper := [
  ⟨(some 69), .mv (.t 7), none, false⟩,
  ⟨(some 70), .call (.c (.fn 39 [])) [.t 69], none, false⟩,
  ⟨(some 68), .mv (.t 70), none, false⟩,
  ⟨(some 71), .ext (.t 68) 0, none, false⟩,
  ⟨(some 72), .ext (.t 68) 1, none, false⟩,
  ⟨(some 9), .mv (.t 71), none, false⟩,
  ⟨(some 10), .mv (.t 72), none, false⟩]
abbrev i37r15 : List IOper := [
  ⟨(some 73), .fa 8 (.t 3), none, false⟩,
  ⟨(some 74), .ld false 1 (.t 73), none, false⟩,
  ⟨(some 75), .bin .mul (.c (.i .i64 4)) (.t 74), none, false⟩,
  ⟨(some 76), .mv (.t 9), none, false⟩,
  ⟨(some 77), .bin .mul (.t 75) (.t 76), none, false⟩,
  ⟨(some 78), .mv (.t 10), none, false⟩,
  ⟨(some 79), .call (.c (.fn 47 [])) [.t 77, .t 78], none, false⟩,
  ⟨(some 8), .mv (.t 79), none, false⟩]
abbrev i37r16 : List IOper := [
  ⟨(some 80), .ld true 17 (.t 3), none, false⟩,
  ⟨(some 81), .mv (.t 8), none, false⟩,
  ⟨(some 82), .mv (.t 1), none, false⟩,
  ⟨(some 83), .mv (.t 2), none, false⟩,
  ⟨(some 84), .call (.c (.fn 49 [])) [.t 80, .t 81, .t 82, .t 83], none, false⟩,
  ⟨none, .st 17 (.t 6) (.t 84), none, false⟩]
abbrev i37c : ICode := (.seq (.reg i37r0) (.seq (.reg i37r1) (.seq (.reg i37r2) (.seq (.reg i37r3) (.seq (.reg i37r4) (.seq (.reg i37r5) (.seq (.reg i37r6) (.seq (.seq (.reg i37r7) (.cond (.t 46) (.reg i37r8) .skip)) (.seq (.reg i37r9) (.seq (.seq (.reg i37r10) (.cond (.t 53) (.seq (.reg i37r11) .ret) .skip)) (.seq (.reg i37r12) (.seq (.seq (.dreg i37r13) (.cond (.t 67) (.seq (.reg i37r14) (.reg i37r15)) .skip)) (.seq (.reg i37r16) .ret)))))))))))))
def i37 : IFn := { np := 3, N := 85, ct := [46, 53, 67], code := i37c, res := [.c 6 true 17] }
theorem i37_eq : compF Try.prog Try.f37 = some i37 := by kernel_rfl
abbrev i39r0 : List IOper := [
  ⟨(some 2), .mv (.c (.i .i64 0)), none, false⟩,
  ⟨(some 3), .mv (.c (.i .i64 0)), none, false⟩]
abbrev i39r1 : List IOper := [
  ⟨(some 4), .mv (.c (.i .i64 0)), none, false⟩,
  ⟨(some 5), .mv (.c (.i .i64 0)), none, false⟩,
  ⟨(some 6), .mv (.c (.i .i64 0)), none, false⟩,
  ⟨(some 7), .mv (.c (.i .i64 0)), none, false⟩]
abbrev i39r2 : List IOper := [
  ⟨(some 8), .mv (.c (.i .i64 0)), none, false⟩]
abbrev i39r3 : List IOper := [
  ⟨(some 11), .mv (.t 8), none, false⟩,
  ⟨(some 12), .mv (.t 0), none, false⟩,
  ⟨(some 13), .lenV (.t 12), none, false⟩,
  ⟨(some 14), .bin .lss (.t 11) (.t 13), none, true⟩]
abbrev i39r4 : List (IOper × List Nat) := [
  (⟨(some 17), .mv (.t 0), none, false⟩, []),
  (⟨(some 18), .mv (.t 8), none, false⟩, [0]),
  (⟨(some 19), .ixaV 2 (.t 17) (.t 18), none, false⟩, []),
  (⟨(some 20), .fa 0 (.t 19), none, false⟩, []),
  (⟨(some 21), .ld false 1 (.t 20), none, false⟩, []),
  (⟨(some 22), .mv (.t 0), none, false⟩, [0, 1, 2, 3, 4]),
  (⟨(some 23), .ixaV 2 (.t 22) (.c (.i .i64 0)), none, false⟩, [0, 1, 2, 3, 4]),
  (⟨(some 24), .fa 0 (.t 23), none, false⟩, [0, 1, 2, 3, 4]),
  (⟨(some 25), .ld false 1 (.t 24), none, false⟩, [0, 1, 2, 3, 4]),
  (⟨(some 26), .bin .sub (.t 21) (.t 25), none, false⟩, []),
  (⟨(some 27), .mv (.t 0), none, false⟩, [0, 1, 2, 3, 4, 5, 6, 7, 8, 9]),
  (⟨(some 28), .mv (.t 8), none, false⟩, [0, 1, 2, 3, 4, 5, 6, 7, 8, 9, 10]),
  (⟨(some 29), .ixaV 2 (.t 27) (.t 28), none, false⟩, [0, 1, 2, 3, 4, 5, 6, 7, 8, 9]),
  (⟨(some 30), .fa 1 (.t 29), none, false⟩, [0, 1, 2, 3, 4, 5, 6, 7, 8, 9]),
  (⟨(some 31), .ld false 1 (.t 30), none, false⟩, [0, 1, 2, 3, 4, 5, 6, 7, 8, 9]),
  (⟨(some 32), .mv (.t 0), none, false⟩, [0, 1, 2, 3, 4, 5, 6, 7, 8, 9, 10, 11, 12, 13, 14]),
  (⟨(some 33), .ixaV 2 (.t 32) (.c (.i .i64 0)), none, false⟩, [0, 1, 2, 3, 4, 5, 6, 7, 8, 9, 10, 11, 12, 13, 14]),
  (⟨(some 34), .fa 1 (.t 33), none, false⟩, [0, 1, 2, 3, 4, 5, 6, 7, 8, 9, 10, 11, 12, 13, 14]),
  (⟨(some 35), .ld false 1 (.t 34), none, false⟩, [0, 1, 2, 3, 4, 5, 6, 7, 8, 9, 10, 11, 12, 13, 14]),
  (⟨(some 36), .bin .sub (.t 31) (.t 35), none, false⟩, [0, 1, 2, 3, 4, 5, 6, 7, 8, 9]),
  (⟨(some 9), .mv (.t 26), none, false⟩, [10, 11, 12, 13, 14, 15, 16, 17, 18, 19]),
  (⟨(some 10), .mv (.t 36), none, false⟩, [])]
abbrev i39r5 : List IOper := [
  ⟨(some 37), .mv (.t 4), none, false⟩,
  ⟨(some 38), .mv (.t 9), none, false⟩,
  ⟨(some 39), .bin .add (.t 37) (.t 38), none, false⟩,
  ⟨(some 4), .mv (.t 39), none, false⟩]
abbrev i39r6 : List IOper := [
  ⟨(some 40), .mv (.t 5), none, false⟩,
  ⟨(some 41), .mv (.t 10), none, false⟩,
  ⟨(some 42), .bin .add (.t 40) (.t 41), none, false⟩,
  ⟨(some 5), .mv (.t 42), none, false⟩]
abbrev i39r7 : List IOper := [
  ⟨(some 43), .mv (.t 6), none, false⟩,
  ⟨(some 44), .mv (.t 9), none, false⟩,
  ⟨(some 45), .mv (.t 9), none, false⟩,
  ⟨(some 46), .bin .mul (.t 44) (.t 45), none, false⟩,
  ⟨(some 47), .bin .add (.t 43) (.t 46), none, false⟩,
  ⟨(some 6), .mv (.t 47), none, false⟩]
abbrev i39r8 : List IOper := [
  ⟨(some 48), .mv (.t 7), none, false⟩,
  ⟨(some 49), .mv (.t 9), none, false⟩,
  ⟨(some 50), .mv (.t 10), none, false⟩,
  ⟨(some 51), .bin .mul (.t 49) (.t 50), none, false⟩,
  ⟨(some 52), .bin .add (.t 48) (.t 51), none, false⟩,
  ⟨(some 7), .mv (.t 52), none, false⟩]
abbrev i39r9 : List IOper := [
  ⟨(some 15), .mv (.t 8), none, false⟩,
  ⟨(some 16), .bin .add (.t 15) (.c (.i .i64 1)), none, false⟩,
  ⟨(some 8), .mv (.t 16), none, false⟩]
abbrev i39l10 : ICode := (.seq (.seq (.reg i39r3) (.cond (.t 14) .skip (.exit 0))) (.seq (.block 1 (.seq (.dreg i39r4) (.seq (.reg i39r5) (.seq (.reg i39r6) (.seq (.reg i39r7) (.reg i39r8)))))) (.reg i39r9)))
abbrev i39r11 : List IOper := [
  ⟨(some 53), .mv (.t 0), none, false⟩,
  ⟨(some 54), .lenV (.t 53), none, false⟩,
  ⟨(some 55), .mv (.t 7), none, false⟩,
  ⟨(some 56), .bin .mul (.t 54) (.t 55), none, false⟩,
  ⟨(some 57), .mv (.t 4), none, false⟩,
  ⟨(some 58), .mv (.t 5), none, false⟩,
  ⟨(some 59), .bin .mul (.t 57) (.t 58), none, false⟩,
  ⟨(some 60), .bin .sub (.t 56) (.t 59), none, false⟩,
  ⟨(some 61), .mv (.t 0), none, false⟩,
  ⟨(some 62), .lenV (.t 61), none, false⟩,
  ⟨(some 63), .mv (.t 6), none, false⟩,
  ⟨(some 64), .bin .mul (.t 62) (.t 63), none, false⟩,
  ⟨(some 65), .mv (.t 4), none, false⟩,
  ⟨(some 66), .mv (.t 4), none, false⟩,
  ⟨(some 67), .bin .mul (.t 65) (.t 66), none, false⟩,
  ⟨(some 68), .bin .sub (.t 64) (.t 67), none, false⟩,
  ⟨(some 2), .mv (.t 60), none, false⟩,
  ⟨(some 3), .mv (.t 68), none, false⟩]
abbrev i39c : ICode := (.seq (.reg i39r0) (.seq (.reg i39r1) (.seq (.seq (.reg i39r2) (.block 0 (.loop i39l10))) (.seq (.reg i39r11) .ret))))
def i39 : IFn := { np := 1, N := 69, ct := [14], code := i39c, res := [.t 2, .t 3] }
theorem i39_eq : compF Try.prog Try.f39 = some i39 := by kernel_rfl
abbrev i47r0 : List IOper := [
  ⟨(some 4), .mv (.c (.i .i64 0)), none, false⟩]
abbrev i47r1 : List IOper := [
  ⟨(some 6), .mv (.t 0), none, false⟩,
  ⟨(some 7), .mv (.t 1), none, false⟩,
  ⟨(some 8), .bin .quo (.t 6) (.t 7), none, false⟩,
  ⟨(some 5), .mv (.t 8), none, false⟩]
abbrev i47r2 : List IOper := [
  ⟨(some 9), .mv (.t 5), none, false⟩,
  ⟨(some 10), .mv (.t 1), none, false⟩,
  ⟨(some 11), .bin .mul (.t 9) (.t 10), none, false⟩,
  ⟨(some 12), .mv (.t 0), none, false⟩,
  ⟨(some 13), .bin .gtr (.t 11) (.t 12), none, true⟩]
abbrev i47r3 : List IOper := [
  ⟨(some 14), .mv (.t 5), none, false⟩,
  ⟨(some 15), .bin .sub (.t 14) (.c (.i .i64 1)), none, false⟩,
  ⟨(some 5), .mv (.t 15), none, false⟩]
abbrev i47r4 : List IOper := [
  ⟨(some 16), .mv (.t 5), none, false⟩,
  ⟨(some 4), .mv (.t 16), none, false⟩]
abbrev i47c : ICode := (.seq (.reg i47r0) (.seq (.reg i47r1) (.seq (.seq (.reg i47r2) (.cond (.t 13) (.reg i47r3) .skip)) (.seq (.reg i47r4) .ret))))
def i47 : IFn := { np := 2, N := 17, ct := [13], code := i47c, res := [.t 4] }
theorem i47_eq : compF Try.prog Try.f47 = some i47 := by kernel_rfl
abbrev i48r0 : List IOper := [
  ⟨(some 1), .box (.t 0), none, false⟩,
  ⟨(some 2), .mv (.c (.b false)), none, false⟩]
abbrev i48r1 : List IOper := [
  ⟨(some 3), .fa 9 (.t 1), none, false⟩,
  ⟨(some 4), .ld false 1 (.t 3), none, false⟩,
  ⟨(some 5), .bin .geq (.t 4) (.c (.i .i64 (-1048576))), none, false⟩,
  ⟨(some 6), .mv (.t 5), none, true⟩,
  ⟨(some 7), .fa 9 (.t 1), (some (6, true)), false⟩,
  ⟨(some 8), .ld false 1 (.t 7), (some (6, true)), false⟩,
  ⟨(some 9), .bin .leq (.t 8) (.c (.i .i64 1048576)), (some (6, true)), false⟩,
  ⟨(some 10), .pick (.t 6) (.t 9) (.c (.b false)), none, false⟩,
  ⟨(some 11), .mv (.t 10), none, true⟩,
  ⟨(some 12), .fa 16 (.t 1), (some (11, true)), false⟩,
  ⟨(some 13), .ld false 1 (.t 12), (some (11, true)), false⟩,
  ⟨(some 14), .call (.c (.fn 31 [])) [.t 13], (some (11, true)), false⟩,
  ⟨(some 15), .pick (.t 11) (.t 14) (.c (.b false)), none, false⟩,
  ⟨(some 2), .mv (.t 15), none, false⟩]
abbrev i48c : ICode := (.seq (.reg i48r0) (.seq (.reg i48r1) .ret))
def i48 : IFn := { np := 1, N := 16, ct := [], code := i48c, res := [.t 2] }
theorem i48_eq : compF Try.prog Try.f48 = some i48 := by kernel_rfl
abbrev i49r0 : List IOper := [
  ⟨(some 4), .box (.t 0), none, false⟩,
  ⟨(some 8), .new [.i .i64 0, .b false, .b false, .i .i64 0, .i .i64 0, .i .i64 0, .i .i64 0, .i .i64 0, .i .i64 0, .i .i64 0, .i .i64 0, .i .i64 0, .i .i64 0, .i .i64 0, .i .i64 0, .i .i64 0, .ns], none, false⟩]
abbrev i49r1 : List IOper := [
  ⟨(some 11), .mv (.t 1), none, false⟩,
  ⟨(some 12), .fa 11 (.t 4), none, false⟩,
  ⟨(some 13), .ld false 1 (.t 12), none, false⟩,
  ⟨(some 14), .bin .gtr (.t 11) (.t 13), none, true⟩]
abbrev i49r2 : List IOper := [
  ⟨(some 15), .fa 13 (.t 4), none, false⟩,
  ⟨(some 16), .ld false 1 (.t 15), none, false⟩,
  ⟨(some 17), .bin .eql (.t 16) (.c (.i .i64 0)), none, true⟩]
abbrev i49r3 : List IOper := [
  ⟨(some 18), .mv (.t 2), none, false⟩,
  ⟨(some 19), .bin .quo (.t 18) (.c (.i .i64 2)), none, false⟩,
  ⟨(some 20), .fa 12 (.t 4), none, false⟩,
  ⟨none, .st 1 (.t 20) (.t 19), none, false⟩]
abbrev i49r4 : List IOper := [
  ⟨(some 21), .fa 12 (.t 4), none, false⟩,
  ⟨(some 22), .ld false 1 (.t 21), none, false⟩,
  ⟨(some 23), .mv (.t 2), none, false⟩,
  ⟨(some 24), .bin .add (.t 22) (.t 23), none, false⟩,
  ⟨(some 25), .mn (.t 24) [.c (.i .i64 20000)], none, false⟩,
  ⟨(some 26), .fa 12 (.t 4), none, false⟩,
  ⟨none, .st 1 (.t 26) (.t 25), none, false⟩]
abbrev i49r5 : List IOper := [
  ⟨(some 27), .fa 13 (.t 4), none, false⟩,
  ⟨(some 28), .ld false 1 (.t 27), none, false⟩,
  ⟨(some 29), .bin .add (.t 28) (.c (.i .i64 1)), none, false⟩,
  ⟨(some 30), .mn (.t 29) [.c (.i .i64 20000)], none, false⟩,
  ⟨(some 31), .fa 13 (.t 4), none, false⟩,
  ⟨none, .st 1 (.t 31) (.t 30), none, false⟩]
abbrev i49r6 : List IOper := [
  ⟨(some 32), .fa 12 (.t 4), none, false⟩,
  ⟨(some 33), .ld false 1 (.t 32), none, false⟩,
  ⟨(some 34), .bin .gtr (.t 33) (.c (.i .i64 10)), none, false⟩,
  ⟨(some 35), .mv (.t 34), none, true⟩,
  ⟨(some 36), .fa 13 (.t 4), (some (35, true)), false⟩,
  ⟨(some 37), .ld false 1 (.t 36), (some (35, true)), false⟩,
  ⟨(some 38), .bin .gtr (.t 37) (.c (.i .i64 1)), (some (35, true)), false⟩,
  ⟨(some 39), .pick (.t 35) (.t 38) (.c (.b false)), none, false⟩,
  ⟨(some 40), .mv (.t 39), none, true⟩,
  ⟨(some 41), .mv (.t 1), (some (40, true)), false⟩,
  ⟨(some 42), .fa 14 (.t 4), (some (40, true)), false⟩,
  ⟨(some 43), .ld false 1 (.t 42), (some (40, true)), false⟩,
  ⟨(some 44), .bin .geq (.t 41) (.t 43), (some (40, true)), false⟩,
  ⟨(some 45), .pick (.t 40) (.t 44) (.c (.b false)), none, true⟩]
abbrev i49r7 : List IOper := [
  ⟨(some 46), .fa 15 (.t 4), none, false⟩,
  ⟨none, .st 1 (.t 46) (.c (.i .i64 1)), none, false⟩]
abbrev i49r8 : List IOper := [
  ⟨(some 47), .fa 12 (.t 4), none, false⟩,
  ⟨none, .st 1 (.t 47) (.c (.i .i64 0)), none, false⟩]
abbrev i49r9 : List IOper := [
  ⟨(some 48), .fa 13 (.t 4), none, false⟩,
  ⟨none, .st 1 (.t 48) (.c (.i .i64 0)), none, false⟩]
abbrev i49r10 : List IOper := [
  ⟨(some 49), .fa 12 (.t 4), none, false⟩,
  ⟨none, .st 1 (.t 49) (.c (.i .i64 0)), none, false⟩]
abbrev i49r11 : List IOper := [
  ⟨(some 50), .fa 13 (.t 4), none, false⟩,
  ⟨none, .st 1 (.t 50) (.c (.i .i64 0)), none, false⟩]
abbrev i49r12 : List IOper := [
  ⟨(some 51), .fa 15 (.t 4), none, false⟩,
  ⟨none, .st 1 (.t 51) (.c (.i .i64 0)), none, false⟩]
abbrev i49r13 : List IOper := [
  ⟨(some 52), .mv (.t 1), none, false⟩,
  ⟨(some 53), .fa 11 (.t 4), none, false⟩,
  ⟨(some 54), .ld false 1 (.t 53), none, false⟩,
  ⟨(some 55), .neg (.t 54), none, false⟩,
  ⟨(some 56), .bin .lss (.t 52) (.t 55), none, true⟩]
abbrev i49r14 : List IOper := [
  ⟨(some 57), .fa 15 (.t 4), none, false⟩,
  ⟨none, .st 1 (.t 57) (.c (.i .i64 2)), none, false⟩]
abbrev i49r15 : List IOper := [
  ⟨(some 58), .mv (.t 1), none, false⟩,
  ⟨(some 59), .mn (.t 58) [.c (.i .i64 1099511627776)], none, false⟩,
  ⟨(some 60), .mx (.c (.i .i64 (-1099511627776))) [.t 59], none, false⟩,
  ⟨(some 61), .fa 14 (.t 4), none, false⟩,
  ⟨none, .st 1 (.t 61) (.t 60), none, false⟩]
abbrev i49r16 : List IOper := [
  ⟨(some 62), .mv (.t 1), none, false⟩,
  ⟨(some 63), .mv (.t 1), none, false⟩,
  ⟨(some 64), .neg (.t 63), none, false⟩,
  ⟨(some 65), .mx (.t 62) [.t 64], none, false⟩,
  ⟨(some 9), .mv (.t 65), none, false⟩]
abbrev i49r17 : List IOper := [
  ⟨(some 66), .mv (.t 9), none, false⟩,
  ⟨(some 67), .fa 11 (.t 4), none, false⟩,
  ⟨(some 68), .ld false 1 (.t 67), none, false⟩,
  ⟨(some 69), .bin .add (.t 68) (.c (.i .i64 15360)), none, false⟩,
  ⟨(some 70), .bin .leq (.t 66) (.t 69), none, true⟩]
abbrev i49r18 : List IOper := [
  ⟨(some 10), .mv (.c (.i .i64 390)), none, false⟩]
abbrev i49r19 : List IOper := [
  ⟨(some 71), .mv (.t 9), none, false⟩,
  ⟨(some 72), .fa 11 (.t 4), none, false⟩,
  ⟨(some 73), .ld false 1 (.t 72), none, false⟩,
  ⟨(some 74), .bin .gtr (.t 71) (.t 73), none, true⟩]
abbrev i49r20 : List IOper := [
  ⟨(some 10), .mv (.c (.i .i64 87)), none, false⟩]
abbrev i49r21 : List (IOper × List Nat) := [
  (⟨(some 75), .fa 11 (.t 4), none, false⟩, []),
  (⟨(some 76), .ld false 1 (.t 75), none, false⟩, []),
  (⟨(some 77), .mv (.t 9), none, false⟩, [0, 1]),
  (⟨(some 78), .fa 11 (.t 4), none, false⟩, [0, 1, 2]),
  (⟨(some 79), .ld false 1 (.t 78), none, false⟩, [0, 1, 2]),
  (⟨(some 80), .bin .sub (.t 77) (.t 79), none, false⟩, [0, 1]),
  (⟨(some 81), .mv (.t 10), none, false⟩, [0, 1, 2, 3, 4, 5]),
  (⟨(some 82), .bin .mul (.t 80) (.t 81), none, false⟩, [0, 1]),
  (⟨(some 83), .mv (.t 3), none, false⟩, [0, 1, 2, 3, 4, 5, 6, 7]),
  (⟨(some 84), .mn (.t 83) [.c (.i .i64 100)], none, false⟩, [0, 1, 2, 3, 4, 5, 6, 7]),
  (⟨(some 85), .bin .mul (.t 82) (.t 84), none, false⟩, [0, 1]),
  (⟨(some 86), .call (.c (.fn 47 [])) [.t 85, .c (.i .i64 10000)], none, false⟩, [0, 1]),
  (⟨(some 87), .bin .add (.t 76) (.t 86), none, false⟩, []),
  (⟨(some 88), .fa 11 (.t 4), none, false⟩, []),
  (⟨none, .st 1 (.t 88) (.t 87), none, false⟩, [])]
abbrev i49r22 : List IOper := [
  ⟨(some 89), .fa 11 (.t 4), none, false⟩,
  ⟨(some 90), .ld false 1 (.t 89), none, false⟩,
  ⟨(some 91), .mn (.t 90) [.c (.i .i64 614400)], none, false⟩,
  ⟨(some 92), .mx (.c (.i .i64 6144)) [.t 91], none, false⟩,
  ⟨(some 93), .fa 11 (.t 4), none, false⟩,
  ⟨none, .st 1 (.t 93) (.t 92), none, false⟩]
abbrev i49r23 : List IOper := [
  ⟨(some 94), .ld true 17 (.t 4), none, false⟩,
  ⟨none, .st 17 (.t 8) (.t 94), none, false⟩]
abbrev i49c : ICode := (.seq (.reg i49r0) (.seq (.seq (.reg i49r1) (.cond (.t 14) (.seq (.seq (.reg i49r2) (.cond (.t 17) (.reg i49r3) (.reg i49r4))) (.seq (.reg i49r5) (.seq (.reg i49r6) (.cond (.t 45) (.seq (.reg i49r7) (.seq (.reg i49r8) (.reg i49r9))) .skip)))) (.seq (.reg i49r10) (.seq (.reg i49r11) (.seq (.reg i49r12) (.seq (.reg i49r13) (.cond (.t 56) (.reg i49r14) .skip))))))) (.seq (.reg i49r15) (.seq (.reg i49r16) (.seq (.seq (.reg i49r17) (.cond (.t 70) (.seq (.reg i49r18) (.seq (.seq (.reg i49r19) (.cond (.t 74) (.reg i49r20) .skip)) (.seq (.dreg i49r21) (.reg i49r22)))) .skip)) (.seq (.reg i49r23) .ret))))))
def i49 : IFn := { np := 4, N := 95, ct := [14, 17, 45, 56, 70, 74], code := i49c, res := [.c 8 true 17] }
theorem i49_eq : compF Try.prog Try.f49 = some i49 := by kernel_rfl
end Go.Proofs.Arr
