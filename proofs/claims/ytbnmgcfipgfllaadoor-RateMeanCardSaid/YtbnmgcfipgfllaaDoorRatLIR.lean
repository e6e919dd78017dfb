/- The small language's text of the functions; printed by ShowI.lean. -/
import Derived.Test.YtbnmgcfipgfllaaDoorRatKIR
import Derived.Test.YtbnmgcfipgfllaaDoorAbRuns
namespace Go.Proofs.Rate
open Go.Ab
abbrev i3r0 : List IOper := [
  ⟨(some 5), .box (.t 0), none, false⟩,
  ⟨(some 6), .box (.t 1), none, false⟩,
  ⟨(some 7), .box (.t 2), none, false⟩,
  ⟨(some 8), .box (.t 3), none, false⟩,
  ⟨(some 10), .mv (.c (.b false)), none, false⟩]
abbrev i3r1 : List IOper := [
  ⟨(some 29), .ld true 4 (.t 5), none, false⟩,
  ⟨(some 30), .ld true 4 (.t 6), none, false⟩,
  ⟨(some 31), .ld true 8 (.t 7), none, false⟩,
  ⟨(some 32), .call (.c (.fn 10 [])) [.t 29, .t 30, .t 31], none, false⟩,
  ⟨(some 33), .mv (.c (.i .i64 0)), none, false⟩]
abbrev i3r2 : List IOper := [
  ⟨(some 34), .bin .lss (.t 33) (.c (.i .i64 4)), none, true⟩]
abbrev i3r3 : List IOper := [
  ⟨(some 35), .ixA 4 8 true (.t 32) (.t 33), none, false⟩,
  ⟨(some 12), .new [.i .i64 0, .i .i64 0, .i .i64 0, .i .i64 0, .i .i64 0, .i .i64 0, .i .i64 0, .i .i64 0], none, false⟩,
  ⟨none, .st 8 (.t 12) (.t 35), none, false⟩]
abbrev i3r4 : List IOper := [
  ⟨(some 36), .ld true 8 (.t 12), none, false⟩,
  ⟨(some 37), .call (.c (.fn 11 [])) [.t 36], none, false⟩,
  ⟨(some 13), .mv (.t 37), none, false⟩]
abbrev i3r5 : List IOper := [
  ⟨(some 38), .ld true 8 (.t 12), none, false⟩,
  ⟨(some 39), .call (.c (.fn 12 [])) [.t 38], none, false⟩,
  ⟨(some 40), .mv (.t 13), none, false⟩,
  ⟨(some 41), .bin .eql (.t 40) (.c (.i .i64 0)), none, false⟩,
  ⟨(some 42), .eqk true false [.b] (.t 39) (.t 41), none, false⟩,
  ⟨(some 43), .mv (.t 42), none, true⟩,
  ⟨(some 44), .mv (.t 13), (some (43, false)), false⟩,
  ⟨(some 45), .bin .neq (.t 44) (.c (.i .i64 0)), (some (43, false)), false⟩,
  ⟨(some 46), .mv (.t 45), (some (43, false)), true⟩,
  ⟨(some 47), .mv (.t 13), (some (46, true)), false⟩,
  ⟨(some 48), .bin .neq (.t 47) (.c (.i .i64 300)), (some (46, true)), false⟩,
  ⟨(some 49), .pick (.t 46) (.t 48) (.c (.b false)), (some (43, false)), false⟩,
  ⟨(some 50), .pick (.t 43) (.c (.b true)) (.t 49), none, true⟩]
abbrev i3r6 : List IOper := [
  ⟨(some 10), .mv (.c (.b false)), none, false⟩]
abbrev i3r7 : List IOper := [
  ⟨(some 51), .ixaA 3 1 (.t 8) (.c (.i .i64 0)), none, false⟩,
  ⟨(some 52), .ld false 1 (.t 51), none, false⟩,
  ⟨(some 53), .fa 5 (.t 12), none, false⟩,
  ⟨(some 54), .ld false 1 (.t 53), none, false⟩,
  ⟨(some 55), .mv (.t 4), none, false⟩,
  ⟨(some 56), .i2i .i64 (.t 55), none, false⟩,
  ⟨(some 57), .bin .add (.t 54) (.t 56), none, false⟩,
  ⟨(some 58), .build [.i .i64 0, .i .i64 0] [(0, 1, .t 52), (1, 1, .t 57)], none, false⟩,
  ⟨(some 59), .mv (.c (.i .i64 0)), none, false⟩]
abbrev i3r8 : List IOper := [
  ⟨(some 60), .bin .lss (.t 59) (.c (.i .i64 2)), none, true⟩]
abbrev i3r9 : List IOper := [
  ⟨(some 61), .ixA 2 1 false (.t 58) (.t 59), none, false⟩,
  ⟨(some 15), .mv (.t 61), none, false⟩]
abbrev i3r10 : List IOper := [
  ⟨(some 63), .ld true 8 (.t 12), none, false⟩,
  ⟨(some 64), .mv (.t 15), none, false⟩,
  ⟨(some 65), .ixaA 3 1 (.t 8) (.c (.i .i64 1)), none, false⟩,
  ⟨(some 66), .ld false 1 (.t 65), none, false⟩,
  ⟨(some 67), .ixaA 3 1 (.t 8) (.c (.i .i64 2)), none, false⟩,
  ⟨(some 68), .ld false 1 (.t 67), none, false⟩,
  ⟨(some 69), .call (.c (.fn 13 [])) [.t 63, .t 64, .t 66, .t 68], none, false⟩,
  ⟨(some 62), .mv (.t 69), none, false⟩,
  ⟨(some 70), .ext (.t 62) 0, none, false⟩,
  ⟨(some 71), .ext (.t 62) 1, none, false⟩,
  ⟨(some 16), .new [.i .i64 0, .i .i64 0, .i .i64 0, .i .i64 0, .i .i64 0, .i .i64 0, .i .i64 0, .i .i64 0], none, false⟩,
  ⟨none, .st 8 (.t 16) (.t 70), none, false⟩,
  ⟨(some 17), .mv (.t 71), none, false⟩]
abbrev i3r11 : List IOper := [
  ⟨(some 73), .ld true 8 (.t 12), none, false⟩,
  ⟨(some 74), .mv (.t 15), none, false⟩,
  ⟨(some 75), .ixaA 3 1 (.t 8) (.c (.i .i64 1)), none, false⟩,
  ⟨(some 76), .ld false 1 (.t 75), none, false⟩,
  ⟨(some 77), .ixaA 3 1 (.t 8) (.c (.i .i64 2)), none, false⟩,
  ⟨(some 78), .ld false 1 (.t 77), none, false⟩,
  ⟨(some 79), .call (.c (.fn 14 [])) [.t 73, .t 74, .t 76, .t 78], none, false⟩,
  ⟨(some 72), .mv (.t 79), none, false⟩,
  ⟨(some 80), .ext (.t 72) 0, none, false⟩,
  ⟨(some 81), .ext (.t 72) 1, none, false⟩,
  ⟨(some 18), .new [.i .i64 0, .i .i64 0, .i .i64 0, .i .i64 0, .i .i64 0, .i .i64 0, .i .i64 0, .i .i64 0], none, false⟩,
  ⟨none, .st 8 (.t 18) (.t 80), none, false⟩,
  ⟨(some 19), .mv (.t 81), none, false⟩]
abbrev i3r12 : List IOper := [
  ⟨(some 82), .ld true 8 (.t 16), none, false⟩,
  ⟨(some 83), .ld true 8 (.t 18), none, false⟩,
  ⟨(some 84), .eqk true true [.i, .i, .i, .i, .i, .i, .i, .i] (.t 82) (.t 83), none, false⟩,
  ⟨(some 85), .mv (.t 84), none, true⟩,
  ⟨(some 86), .mv (.t 17), (some (85, false)), false⟩,
  ⟨(some 87), .mv (.t 19), (some (85, false)), false⟩,
  ⟨(some 88), .bin .neq (.t 86) (.t 87), (some (85, false)), false⟩,
  ⟨(some 89), .pick (.t 85) (.c (.b true)) (.t 88), none, true⟩]
abbrev i3r13 : List IOper := [
  ⟨(some 10), .mv (.c (.b false)), none, false⟩]
abbrev i3r14 : List IOper := [
  ⟨(some 90), .bin .add (.t 59) (.c (.i .i64 1)), none, false⟩,
  ⟨(some 59), .mv (.t 90), none, false⟩]
abbrev i3l15 : ICode := (.seq (.reg i3r8) (.seq (.cond (.t 60) .skip (.exit 2)) (.seq (.block 3 (.seq (.reg i3r9) (.seq (.reg i3r10) (.seq (.reg i3r11) (.seq (.reg i3r12) (.cond (.t 89) (.seq (.reg i3r13) .ret) .skip)))))) (.reg i3r14))))
abbrev i3r16 : List IOper := [
  ⟨(some 91), .bin .add (.t 33) (.c (.i .i64 1)), none, false⟩,
  ⟨(some 33), .mv (.t 91), none, false⟩]
abbrev i3l17 : ICode := (.seq (.reg i3r2) (.seq (.cond (.t 34) .skip (.exit 0)) (.seq (.block 1 (.seq (.reg i3r3) (.seq (.seq (.reg i3r4) (.seq (.reg i3r5) (.cond (.t 50) (.seq (.reg i3r6) .ret) .skip))) (.seq (.reg i3r7) (.block 2 (.loop i3l15)))))) (.reg i3r16))))
abbrev i3r18 : List IOper := [
  ⟨(some 93), .ld true 4 (.t 5), none, false⟩,
  ⟨(some 94), .call (.c (.fn 15 [])) [.t 93], none, false⟩,
  ⟨(some 92), .mv (.t 94), none, false⟩,
  ⟨(some 95), .ext (.t 92) 0, none, false⟩,
  ⟨(some 96), .ext (.t 92) 1, none, false⟩,
  ⟨(some 97), .ext (.t 92) 2, none, false⟩,
  ⟨(some 20), .mv (.t 95), none, false⟩,
  ⟨(some 21), .mv (.t 96), none, false⟩,
  ⟨(some 22), .mv (.t 97), none, false⟩]
abbrev i3r19 : List IOper := [
  ⟨(some 98), .ld true 3 (.t 8), none, false⟩,
  ⟨(some 99), .mv (.t 20), none, false⟩,
  ⟨(some 100), .mv (.t 21), none, false⟩,
  ⟨(some 101), .mv (.t 22), none, false⟩,
  ⟨(some 102), .build [.i .i64 0, .i .i64 0, .i .i64 0] [(0, 1, .t 99), (1, 1, .t 100), (2, 1, .t 101)], none, false⟩,
  ⟨(some 103), .mv (.t 21), none, false⟩,
  ⟨(some 104), .mv (.t 20), none, false⟩,
  ⟨(some 105), .ixaA 3 1 (.t 8) (.c (.i .i64 2)), none, false⟩,
  ⟨(some 106), .ld false 1 (.t 105), none, false⟩,
  ⟨(some 107), .build [.i .i64 0, .i .i64 0, .i .i64 0] [(0, 1, .t 103), (1, 1, .t 104), (2, 1, .t 106)], none, false⟩,
  ⟨(some 108), .build [.i .i64 0, .i .i64 0, .i .i64 0, .i .i64 0, .i .i64 0, .i .i64 0, .i .i64 0, .i .i64 0, .i .i64 0] [(0, 3, .t 98), (3, 3, .t 102), (6, 3, .t 107)], none, false⟩,
  ⟨(some 109), .mv (.c (.i .i64 0)), none, false⟩]
abbrev i3r20 : List IOper := [
  ⟨(some 110), .bin .lss (.t 109) (.c (.i .i64 3)), none, true⟩]
abbrev i3r21 : List IOper := [
  ⟨(some 111), .ixA 3 3 true (.t 108) (.t 109), none, false⟩,
  ⟨(some 24), .new [.i .i64 0, .i .i64 0, .i .i64 0], none, false⟩,
  ⟨none, .st 3 (.t 24) (.t 111), none, false⟩]
abbrev i3r22 : List IOper := [
  ⟨(some 113), .ixaA 3 1 (.t 24) (.c (.i .i64 0)), none, false⟩,
  ⟨(some 114), .ld false 1 (.t 113), none, false⟩,
  ⟨(some 115), .ixaA 3 1 (.t 24) (.c (.i .i64 1)), none, false⟩,
  ⟨(some 116), .ld false 1 (.t 115), none, false⟩,
  ⟨(some 117), .ixaA 3 1 (.t 24) (.c (.i .i64 2)), none, false⟩,
  ⟨(some 118), .ld false 1 (.t 117), none, false⟩,
  ⟨(some 119), .call (.c (.fn 16 [])) [.t 114, .t 116, .t 118], none, false⟩,
  ⟨(some 112), .mv (.t 119), none, false⟩,
  ⟨(some 120), .ext (.t 112) 0, none, false⟩,
  ⟨(some 121), .ext (.t 112) 1, none, false⟩,
  ⟨(some 25), .new [.i .i64 0, .i .i64 0, .i .i64 0, .i .i64 0, .i .i64 0, .i .i64 0, .i .i64 0, .i .i64 0], none, false⟩,
  ⟨none, .st 8 (.t 25) (.t 120), none, false⟩,
  ⟨(some 26), .mv (.t 121), none, false⟩]
abbrev i3r23 : List IOper := [
  ⟨(some 123), .ixaA 3 1 (.t 24) (.c (.i .i64 0)), none, false⟩,
  ⟨(some 124), .ld false 1 (.t 123), none, false⟩,
  ⟨(some 125), .ixaA 3 1 (.t 24) (.c (.i .i64 1)), none, false⟩,
  ⟨(some 126), .ld false 1 (.t 125), none, false⟩,
  ⟨(some 127), .ixaA 3 1 (.t 24) (.c (.i .i64 2)), none, false⟩,
  ⟨(some 128), .ld false 1 (.t 127), none, false⟩,
  ⟨(some 129), .call (.c (.fn 17 [])) [.t 124, .t 126, .t 128], none, false⟩,
  ⟨(some 122), .mv (.t 129), none, false⟩,
  ⟨(some 130), .ext (.t 122) 0, none, false⟩,
  ⟨(some 131), .ext (.t 122) 1, none, false⟩,
  ⟨(some 27), .new [.i .i64 0, .i .i64 0, .i .i64 0, .i .i64 0, .i .i64 0, .i .i64 0, .i .i64 0, .i .i64 0], none, false⟩,
  ⟨none, .st 8 (.t 27) (.t 130), none, false⟩,
  ⟨(some 28), .mv (.t 131), none, false⟩]
abbrev i3r24 : List IOper := [
  ⟨(some 132), .ld true 8 (.t 25), none, false⟩,
  ⟨(some 133), .ld true 8 (.t 27), none, false⟩,
  ⟨(some 134), .eqk true true [.i, .i, .i, .i, .i, .i, .i, .i] (.t 132) (.t 133), none, false⟩,
  ⟨(some 135), .mv (.t 134), none, true⟩,
  ⟨(some 136), .mv (.t 26), (some (135, false)), false⟩,
  ⟨(some 137), .mv (.t 28), (some (135, false)), false⟩,
  ⟨(some 138), .bin .neq (.t 136) (.t 137), (some (135, false)), false⟩,
  ⟨(some 139), .pick (.t 135) (.c (.b true)) (.t 138), none, true⟩]
abbrev i3r25 : List IOper := [
  ⟨(some 10), .mv (.c (.b false)), none, false⟩]
abbrev i3r26 : List IOper := [
  ⟨(some 140), .bin .add (.t 109) (.c (.i .i64 1)), none, false⟩,
  ⟨(some 109), .mv (.t 140), none, false⟩]
abbrev i3l27 : ICode := (.seq (.reg i3r20) (.seq (.cond (.t 110) .skip (.exit 4)) (.seq (.block 5 (.seq (.reg i3r21) (.seq (.reg i3r22) (.seq (.reg i3r23) (.seq (.reg i3r24) (.cond (.t 139) (.seq (.reg i3r25) .ret) .skip)))))) (.reg i3r26))))
abbrev i3r28 : List IOper := [
  ⟨(some 141), .call (.c (.fn 18 [])) [], none, false⟩,
  ⟨(some 10), .mv (.t 141), none, false⟩]
abbrev i3c : ICode := (.seq (.reg i3r0) (.seq (.seq (.reg i3r1) (.block 0 (.loop i3l17))) (.seq (.reg i3r18) (.seq (.seq (.reg i3r19) (.block 4 (.loop i3l27))) (.seq (.reg i3r28) .ret)))))
def i3 : IFn := { np := 5, N := 142, ct := [34, 50, 60, 89, 110, 139], code := i3c, res := [.t 10] }
theorem i3_eq : compF Tryd.prog Tryd.f3 = some i3 := by kernel_rfl
abbrev i4r0 : List IOper := [
  ⟨(some 5), .box (.t 0), none, false⟩,
  ⟨(some 6), .box (.t 1), none, false⟩,
  ⟨(some 7), .box (.t 2), none, false⟩,
  ⟨(some 8), .box (.t 3), none, false⟩,
  ⟨(some 9), .box (.t 4), none, false⟩,
  ⟨(some 10), .mv (.c (.b false)), none, false⟩]
abbrev i4r1 : List IOper := [
  ⟨(some 19), .ld true 4 (.t 5), none, false⟩,
  ⟨(some 20), .ld true 4 (.t 6), none, false⟩,
  ⟨(some 21), .ld true 8 (.t 7), none, false⟩,
  ⟨(some 22), .call (.c (.fn 10 [])) [.t 19, .t 20, .t 21], none, false⟩,
  ⟨(some 23), .mv (.c (.i .i64 0)), none, false⟩]
abbrev i4r2 : List IOper := [
  ⟨(some 24), .bin .lss (.t 23) (.c (.i .i64 4)), none, true⟩]
abbrev i4r3 : List IOper := [
  ⟨(some 25), .ixA 4 8 true (.t 22) (.t 23), none, false⟩,
  ⟨(some 12), .new [.i .i64 0, .i .i64 0, .i .i64 0, .i .i64 0, .i .i64 0, .i .i64 0, .i .i64 0, .i .i64 0], none, false⟩,
  ⟨none, .st 8 (.t 12) (.t 25), none, false⟩]
abbrev i4r4 : List IOper := [
  ⟨(some 26), .ld true 3 (.t 8), none, false⟩,
  ⟨(some 27), .fa 5 (.t 12), none, false⟩,
  ⟨(some 28), .ld false 1 (.t 27), none, false⟩,
  ⟨(some 29), .fa 2 (.t 9), none, false⟩,
  ⟨(some 30), .ld false 1 (.t 29), none, false⟩,
  ⟨(some 31), .i2i .i64 (.t 30), none, false⟩,
  ⟨(some 32), .bin .add (.t 28) (.t 31), none, false⟩,
  ⟨(some 33), .ixaA 3 1 (.t 8) (.c (.i .i64 1)), none, false⟩,
  ⟨(some 34), .ld false 1 (.t 33), none, false⟩,
  ⟨(some 35), .fa 3 (.t 9), none, false⟩,
  ⟨(some 36), .ld false 1 (.t 35), none, false⟩,
  ⟨(some 37), .i2i .i64 (.t 36), none, false⟩,
  ⟨(some 38), .build [.i .i64 0, .i .i64 0, .i .i64 0] [(0, 1, .t 32), (1, 1, .t 34), (2, 1, .t 37)], none, false⟩,
  ⟨(some 39), .fa 5 (.t 12), none, false⟩,
  ⟨(some 40), .ld false 1 (.t 39), none, false⟩,
  ⟨(some 41), .fa 2 (.t 9), none, false⟩,
  ⟨(some 42), .ld false 1 (.t 41), none, false⟩,
  ⟨(some 43), .i2i .i64 (.t 42), none, false⟩,
  ⟨(some 44), .bin .add (.t 40) (.t 43), none, false⟩,
  ⟨(some 45), .fa 1 (.t 9), none, false⟩,
  ⟨(some 46), .ld false 1 (.t 45), none, false⟩,
  ⟨(some 47), .bin .rem (.t 46) (.c (.i .u8 3)), none, false⟩,
  ⟨(some 48), .i2i .i64 (.t 47), none, false⟩,
  ⟨(some 49), .fa 0 (.t 12), none, false⟩,
  ⟨(some 50), .ld false 1 (.t 49), none, false⟩,
  ⟨(some 51), .fa 1 (.t 9), none, false⟩,
  ⟨(some 52), .ld false 1 (.t 51), none, false⟩,
  ⟨(some 53), .i2i .i64 (.t 52), none, false⟩,
  ⟨(some 54), .bin .mul (.t 50) (.t 53), none, false⟩,
  ⟨(some 55), .bin .quo (.t 54) (.c (.i .i64 128)), none, false⟩,
  ⟨(some 56), .build [.i .i64 0, .i .i64 0, .i .i64 0] [(0, 1, .t 44), (1, 1, .t 48), (2, 1, .t 55)], none, false⟩,
  ⟨(some 57), .build [.i .i64 0, .i .i64 0, .i .i64 0, .i .i64 0, .i .i64 0, .i .i64 0, .i .i64 0, .i .i64 0, .i .i64 0] [(0, 3, .t 26), (3, 3, .t 38), (6, 3, .t 56)], none, false⟩,
  ⟨(some 58), .mv (.c (.i .i64 0)), none, false⟩]
abbrev i4r5 : List IOper := [
  ⟨(some 59), .bin .lss (.t 58) (.c (.i .i64 3)), none, true⟩]
abbrev i4r6 : List IOper := [
  ⟨(some 60), .ixA 3 3 true (.t 57) (.t 58), none, false⟩,
  ⟨(some 14), .new [.i .i64 0, .i .i64 0, .i .i64 0], none, false⟩,
  ⟨none, .st 3 (.t 14) (.t 60), none, false⟩]
abbrev i4r7 : List IOper := [
  ⟨(some 62), .ld true 8 (.t 12), none, false⟩,
  ⟨(some 63), .ixaA 3 1 (.t 14) (.c (.i .i64 0)), none, false⟩,
  ⟨(some 64), .ld false 1 (.t 63), none, false⟩,
  ⟨(some 65), .ixaA 3 1 (.t 14) (.c (.i .i64 1)), none, false⟩,
  ⟨(some 66), .ld false 1 (.t 65), none, false⟩,
  ⟨(some 67), .ixaA 3 1 (.t 14) (.c (.i .i64 2)), none, false⟩,
  ⟨(some 68), .ld false 1 (.t 67), none, false⟩,
  ⟨(some 69), .call (.c (.fn 19 [])) [.t 62, .t 64, .t 66, .t 68], none, false⟩,
  ⟨(some 61), .mv (.t 69), none, false⟩,
  ⟨(some 70), .ext (.t 61) 0, none, false⟩,
  ⟨(some 71), .ext (.t 61) 1, none, false⟩,
  ⟨(some 15), .new [.i .i64 0, .i .i64 0, .i .i64 0, .i .i64 0, .i .i64 0, .i .i64 0, .i .i64 0, .i .i64 0], none, false⟩,
  ⟨none, .st 8 (.t 15) (.t 70), none, false⟩,
  ⟨(some 16), .mv (.t 71), none, false⟩]
abbrev i4r8 : List IOper := [
  ⟨(some 73), .ld true 8 (.t 12), none, false⟩,
  ⟨(some 74), .ixaA 3 1 (.t 14) (.c (.i .i64 0)), none, false⟩,
  ⟨(some 75), .ld false 1 (.t 74), none, false⟩,
  ⟨(some 76), .ixaA 3 1 (.t 14) (.c (.i .i64 1)), none, false⟩,
  ⟨(some 77), .ld false 1 (.t 76), none, false⟩,
  ⟨(some 78), .ixaA 3 1 (.t 14) (.c (.i .i64 2)), none, false⟩,
  ⟨(some 79), .ld false 1 (.t 78), none, false⟩,
  ⟨(some 80), .call (.c (.fn 20 [])) [.t 73, .t 75, .t 77, .t 79], none, false⟩,
  ⟨(some 72), .mv (.t 80), none, false⟩,
  ⟨(some 81), .ext (.t 72) 0, none, false⟩,
  ⟨(some 82), .ext (.t 72) 1, none, false⟩,
  ⟨(some 17), .new [.i .i64 0, .i .i64 0, .i .i64 0, .i .i64 0, .i .i64 0, .i .i64 0, .i .i64 0, .i .i64 0], none, false⟩,
  ⟨none, .st 8 (.t 17) (.t 81), none, false⟩,
  ⟨(some 18), .mv (.t 82), none, false⟩]
abbrev i4r9 : List IOper := [
  ⟨(some 83), .ld true 8 (.t 15), none, false⟩,
  ⟨(some 84), .ld true 8 (.t 17), none, false⟩,
  ⟨(some 85), .eqk true true [.i, .i, .i, .i, .i, .i, .i, .i] (.t 83) (.t 84), none, false⟩,
  ⟨(some 86), .mv (.t 85), none, true⟩,
  ⟨(some 87), .mv (.t 16), (some (86, false)), false⟩,
  ⟨(some 88), .mv (.t 18), (some (86, false)), false⟩,
  ⟨(some 89), .bin .neq (.t 87) (.t 88), (some (86, false)), false⟩,
  ⟨(some 90), .pick (.t 86) (.c (.b true)) (.t 89), none, true⟩]
abbrev i4r10 : List IOper := [
  ⟨(some 10), .mv (.c (.b false)), none, false⟩]
abbrev i4r11 : List IOper := [
  ⟨(some 91), .bin .add (.t 58) (.c (.i .i64 1)), none, false⟩,
  ⟨(some 58), .mv (.t 91), none, false⟩]
abbrev i4l12 : ICode := (.seq (.reg i4r5) (.seq (.cond (.t 59) .skip (.exit 2)) (.seq (.block 3 (.seq (.reg i4r6) (.seq (.reg i4r7) (.seq (.reg i4r8) (.seq (.reg i4r9) (.cond (.t 90) (.seq (.reg i4r10) .ret) .skip)))))) (.reg i4r11))))
abbrev i4r13 : List IOper := [
  ⟨(some 92), .bin .add (.t 23) (.c (.i .i64 1)), none, false⟩,
  ⟨(some 23), .mv (.t 92), none, false⟩]
abbrev i4l14 : ICode := (.seq (.reg i4r2) (.seq (.cond (.t 24) .skip (.exit 0)) (.seq (.block 1 (.seq (.reg i4r3) (.seq (.reg i4r4) (.block 2 (.loop i4l12))))) (.reg i4r13))))
abbrev i4r15 : List IOper := [
  ⟨(some 93), .call (.c (.fn 18 [])) [], none, false⟩,
  ⟨(some 10), .mv (.t 93), none, false⟩]
abbrev i4c : ICode := (.seq (.reg i4r0) (.seq (.seq (.reg i4r1) (.block 0 (.loop i4l14))) (.seq (.reg i4r15) .ret)))
def i4 : IFn := { np := 5, N := 94, ct := [24, 59, 90], code := i4c, res := [.t 10] }
theorem i4_eq : compF Tryd.prog Tryd.f4 = some i4 := by kernel_rfl
abbrev i5r0 : List IOper := [
  ⟨(some 5), .box (.t 0), none, false⟩,
  ⟨(some 6), .box (.t 1), none, false⟩,
  ⟨(some 7), .box (.t 2), none, false⟩,
  ⟨(some 8), .box (.t 3), none, false⟩,
  ⟨(some 9), .box (.t 4), none, false⟩,
  ⟨(some 10), .mv (.c (.b false)), none, false⟩]
abbrev i5r1 : List IOper := [
  ⟨(some 25), .ld true 4 (.t 5), none, false⟩,
  ⟨(some 26), .ld true 4 (.t 6), none, false⟩,
  ⟨(some 27), .ld true 8 (.t 7), none, false⟩,
  ⟨(some 28), .call (.c (.fn 10 [])) [.t 25, .t 26, .t 27], none, false⟩,
  ⟨(some 29), .mv (.c (.i .i64 0)), none, false⟩]
abbrev i5r2 : List IOper := [
  ⟨(some 30), .bin .lss (.t 29) (.c (.i .i64 4)), none, true⟩]
abbrev i5r3 : List IOper := [
  ⟨(some 31), .ixA 4 8 true (.t 28) (.t 29), none, false⟩,
  ⟨(some 12), .new [.i .i64 0, .i .i64 0, .i .i64 0, .i .i64 0, .i .i64 0, .i .i64 0, .i .i64 0, .i .i64 0], none, false⟩,
  ⟨none, .st 8 (.t 12) (.t 31), none, false⟩]
abbrev i5r4 : List IOper := [
  ⟨(some 32), .ixaA 3 1 (.t 8) (.c (.i .i64 0)), none, false⟩,
  ⟨(some 33), .ld false 1 (.t 32), none, false⟩,
  ⟨(some 34), .ixaA 3 1 (.t 8) (.c (.i .i64 1)), none, false⟩,
  ⟨(some 35), .ld false 1 (.t 34), none, false⟩,
  ⟨(some 36), .build [.i .i64 0, .i .i64 0] [(0, 1, .t 33), (1, 1, .t 35)], none, false⟩,
  ⟨(some 37), .fa 5 (.t 12), none, false⟩,
  ⟨(some 38), .ld false 1 (.t 37), none, false⟩,
  ⟨(some 39), .fa 2 (.t 9), none, false⟩,
  ⟨(some 40), .ld false 1 (.t 39), none, false⟩,
  ⟨(some 41), .i2i .i64 (.t 40), none, false⟩,
  ⟨(some 42), .bin .add (.t 38) (.t 41), none, false⟩,
  ⟨(some 43), .fa 1 (.t 9), none, false⟩,
  ⟨(some 44), .ld false 1 (.t 43), none, false⟩,
  ⟨(some 45), .i2i .i64 (.t 44), none, false⟩,
  ⟨(some 46), .build [.i .i64 0, .i .i64 0] [(0, 1, .t 42), (1, 1, .t 45)], none, false⟩,
  ⟨(some 47), .build [.i .i64 0, .i .i64 0, .i .i64 0, .i .i64 0] [(0, 2, .t 36), (2, 2, .t 46)], none, false⟩,
  ⟨(some 48), .mv (.c (.i .i64 0)), none, false⟩]
abbrev i5r5 : List IOper := [
  ⟨(some 49), .bin .lss (.t 48) (.c (.i .i64 2)), none, true⟩]
abbrev i5r6 : List IOper := [
  ⟨(some 50), .ixA 2 2 true (.t 47) (.t 48), none, false⟩,
  ⟨(some 14), .new [.i .i64 0, .i .i64 0], none, false⟩,
  ⟨none, .st 2 (.t 14) (.t 50), none, false⟩]
abbrev i5r7 : List IOper := [
  ⟨(some 52), .ld true 8 (.t 12), none, false⟩,
  ⟨(some 53), .ixaA 2 1 (.t 14) (.c (.i .i64 0)), none, false⟩,
  ⟨(some 54), .ld false 1 (.t 53), none, false⟩,
  ⟨(some 55), .ixaA 2 1 (.t 14) (.c (.i .i64 1)), none, false⟩,
  ⟨(some 56), .ld false 1 (.t 55), none, false⟩,
  ⟨(some 57), .call (.c (.fn 21 [])) [.t 52, .t 54, .t 56], none, false⟩,
  ⟨(some 51), .mv (.t 57), none, false⟩,
  ⟨(some 58), .ext (.t 51) 0, none, false⟩,
  ⟨(some 59), .ext (.t 51) 1, none, false⟩,
  ⟨(some 15), .new [.i .i64 0, .i .i64 0, .i .i64 0, .i .i64 0, .i .i64 0, .i .i64 0, .i .i64 0, .i .i64 0], none, false⟩,
  ⟨none, .st 8 (.t 15) (.t 58), none, false⟩,
  ⟨(some 16), .mv (.t 59), none, false⟩]
abbrev i5r8 : List IOper := [
  ⟨(some 61), .ld true 8 (.t 12), none, false⟩,
  ⟨(some 62), .ixaA 2 1 (.t 14) (.c (.i .i64 0)), none, false⟩,
  ⟨(some 63), .ld false 1 (.t 62), none, false⟩,
  ⟨(some 64), .ixaA 2 1 (.t 14) (.c (.i .i64 1)), none, false⟩,
  ⟨(some 65), .ld false 1 (.t 64), none, false⟩,
  ⟨(some 66), .call (.c (.fn 22 [])) [.t 61, .t 63, .t 65], none, false⟩,
  ⟨(some 60), .mv (.t 66), none, false⟩,
  ⟨(some 67), .ext (.t 60) 0, none, false⟩,
  ⟨(some 68), .ext (.t 60) 1, none, false⟩,
  ⟨(some 17), .new [.i .i64 0, .i .i64 0, .i .i64 0, .i .i64 0, .i .i64 0, .i .i64 0, .i .i64 0, .i .i64 0], none, false⟩,
  ⟨none, .st 8 (.t 17) (.t 67), none, false⟩,
  ⟨(some 18), .mv (.t 68), none, false⟩]
abbrev i5r9 : List IOper := [
  ⟨(some 69), .ld true 8 (.t 15), none, false⟩,
  ⟨(some 70), .ld true 8 (.t 17), none, false⟩,
  ⟨(some 71), .eqk true true [.i, .i, .i, .i, .i, .i, .i, .i] (.t 69) (.t 70), none, false⟩,
  ⟨(some 72), .mv (.t 71), none, true⟩,
  ⟨(some 73), .mv (.t 16), (some (72, false)), false⟩,
  ⟨(some 74), .mv (.t 18), (some (72, false)), false⟩,
  ⟨(some 75), .bin .neq (.t 73) (.t 74), (some (72, false)), false⟩,
  ⟨(some 76), .pick (.t 72) (.c (.b true)) (.t 75), none, true⟩]
abbrev i5r10 : List IOper := [
  ⟨(some 10), .mv (.c (.b false)), none, false⟩]
abbrev i5r11 : List IOper := [
  ⟨(some 77), .bin .add (.t 48) (.c (.i .i64 1)), none, false⟩,
  ⟨(some 48), .mv (.t 77), none, false⟩]
abbrev i5l12 : ICode := (.seq (.reg i5r5) (.seq (.cond (.t 49) .skip (.exit 2)) (.seq (.block 3 (.seq (.reg i5r6) (.seq (.reg i5r7) (.seq (.reg i5r8) (.seq (.reg i5r9) (.cond (.t 76) (.seq (.reg i5r10) .ret) .skip)))))) (.reg i5r11))))
abbrev i5r13 : List IOper := [
  ⟨(some 78), .ld true 3 (.t 8), none, false⟩,
  ⟨(some 79), .fa 5 (.t 12), none, false⟩,
  ⟨(some 80), .ld false 1 (.t 79), none, false⟩,
  ⟨(some 81), .fa 2 (.t 9), none, false⟩,
  ⟨(some 82), .ld false 1 (.t 81), none, false⟩,
  ⟨(some 83), .i2i .i64 (.t 82), none, false⟩,
  ⟨(some 84), .bin .add (.t 80) (.t 83), none, false⟩,
  ⟨(some 85), .fa 3 (.t 9), none, false⟩,
  ⟨(some 86), .ld false 1 (.t 85), none, false⟩,
  ⟨(some 87), .i2i .i64 (.t 86), none, false⟩,
  ⟨(some 88), .ixaA 3 1 (.t 8) (.c (.i .i64 2)), none, false⟩,
  ⟨(some 89), .ld false 1 (.t 88), none, false⟩,
  ⟨(some 90), .build [.i .i64 0, .i .i64 0, .i .i64 0] [(0, 1, .t 84), (1, 1, .t 87), (2, 1, .t 89)], none, false⟩,
  ⟨(some 91), .fa 5 (.t 12), none, false⟩,
  ⟨(some 92), .ld false 1 (.t 91), none, false⟩,
  ⟨(some 93), .fa 2 (.t 9), none, false⟩,
  ⟨(some 94), .ld false 1 (.t 93), none, false⟩,
  ⟨(some 95), .i2i .i64 (.t 94), none, false⟩,
  ⟨(some 96), .bin .add (.t 92) (.t 95), none, false⟩,
  ⟨(some 97), .fa 3 (.t 9), none, false⟩,
  ⟨(some 98), .ld false 1 (.t 97), none, false⟩,
  ⟨(some 99), .i2i .i64 (.t 98), none, false⟩,
  ⟨(some 100), .fa 4 (.t 9), none, false⟩,
  ⟨(some 101), .ld false 1 (.t 100), none, false⟩,
  ⟨(some 102), .i2i .i64 (.t 101), none, false⟩,
  ⟨(some 103), .build [.i .i64 0, .i .i64 0, .i .i64 0] [(0, 1, .t 96), (1, 1, .t 99), (2, 1, .t 102)], none, false⟩,
  ⟨(some 104), .build [.i .i64 0, .i .i64 0, .i .i64 0, .i .i64 0, .i .i64 0, .i .i64 0, .i .i64 0, .i .i64 0, .i .i64 0] [(0, 3, .t 78), (3, 3, .t 90), (6, 3, .t 103)], none, false⟩,
  ⟨(some 105), .mv (.c (.i .i64 0)), none, false⟩]
abbrev i5r14 : List IOper := [
  ⟨(some 106), .bin .lss (.t 105) (.c (.i .i64 3)), none, true⟩]
abbrev i5r15 : List IOper := [
  ⟨(some 107), .ixA 3 3 true (.t 104) (.t 105), none, false⟩,
  ⟨(some 20), .new [.i .i64 0, .i .i64 0, .i .i64 0], none, false⟩,
  ⟨none, .st 3 (.t 20) (.t 107), none, false⟩]
abbrev i5r16 : List IOper := [
  ⟨(some 109), .ld true 8 (.t 12), none, false⟩,
  ⟨(some 110), .ixaA 3 1 (.t 20) (.c (.i .i64 0)), none, false⟩,
  ⟨(some 111), .ld false 1 (.t 110), none, false⟩,
  ⟨(some 112), .ixaA 3 1 (.t 20) (.c (.i .i64 1)), none, false⟩,
  ⟨(some 113), .ld false 1 (.t 112), none, false⟩,
  ⟨(some 114), .ixaA 3 1 (.t 20) (.c (.i .i64 2)), none, false⟩,
  ⟨(some 115), .ld false 1 (.t 114), none, false⟩,
  ⟨(some 116), .call (.c (.fn 23 [])) [.t 109, .t 111, .t 113, .t 115], none, false⟩,
  ⟨(some 108), .mv (.t 116), none, false⟩,
  ⟨(some 117), .ext (.t 108) 0, none, false⟩,
  ⟨(some 118), .ext (.t 108) 1, none, false⟩,
  ⟨(some 21), .new [.i .i64 0, .i .i64 0, .i .i64 0, .i .i64 0, .i .i64 0, .i .i64 0, .i .i64 0, .i .i64 0], none, false⟩,
  ⟨none, .st 8 (.t 21) (.t 117), none, false⟩,
  ⟨(some 22), .mv (.t 118), none, false⟩]
abbrev i5r17 : List IOper := [
  ⟨(some 120), .ld true 8 (.t 12), none, false⟩,
  ⟨(some 121), .ixaA 3 1 (.t 20) (.c (.i .i64 0)), none, false⟩,
  ⟨(some 122), .ld false 1 (.t 121), none, false⟩,
  ⟨(some 123), .ixaA 3 1 (.t 20) (.c (.i .i64 1)), none, false⟩,
  ⟨(some 124), .ld false 1 (.t 123), none, false⟩,
  ⟨(some 125), .ixaA 3 1 (.t 20) (.c (.i .i64 2)), none, false⟩,
  ⟨(some 126), .ld false 1 (.t 125), none, false⟩,
  ⟨(some 127), .call (.c (.fn 24 [])) [.t 120, .t 122, .t 124, .t 126], none, false⟩,
  ⟨(some 119), .mv (.t 127), none, false⟩,
  ⟨(some 128), .ext (.t 119) 0, none, false⟩,
  ⟨(some 129), .ext (.t 119) 1, none, false⟩,
  ⟨(some 23), .new [.i .i64 0, .i .i64 0, .i .i64 0, .i .i64 0, .i .i64 0, .i .i64 0, .i .i64 0, .i .i64 0], none, false⟩,
  ⟨none, .st 8 (.t 23) (.t 128), none, false⟩,
  ⟨(some 24), .mv (.t 129), none, false⟩]
abbrev i5r18 : List IOper := [
  ⟨(some 130), .ld true 8 (.t 21), none, false⟩,
  ⟨(some 131), .ld true 8 (.t 23), none, false⟩,
  ⟨(some 132), .eqk true true [.i, .i, .i, .i, .i, .i, .i, .i] (.t 130) (.t 131), none, false⟩,
  ⟨(some 133), .mv (.t 132), none, true⟩,
  ⟨(some 134), .mv (.t 22), (some (133, false)), false⟩,
  ⟨(some 135), .mv (.t 24), (some (133, false)), false⟩,
  ⟨(some 136), .bin .neq (.t 134) (.t 135), (some (133, false)), false⟩,
  ⟨(some 137), .pick (.t 133) (.c (.b true)) (.t 136), none, true⟩]
abbrev i5r19 : List IOper := [
  ⟨(some 10), .mv (.c (.b false)), none, false⟩]
abbrev i5r20 : List IOper := [
  ⟨(some 138), .bin .add (.t 105) (.c (.i .i64 1)), none, false⟩,
  ⟨(some 105), .mv (.t 138), none, false⟩]
abbrev i5l21 : ICode := (.seq (.reg i5r14) (.seq (.cond (.t 106) .skip (.exit 4)) (.seq (.block 5 (.seq (.reg i5r15) (.seq (.reg i5r16) (.seq (.reg i5r17) (.seq (.reg i5r18) (.cond (.t 137) (.seq (.reg i5r19) .ret) .skip)))))) (.reg i5r20))))
abbrev i5r22 : List IOper := [
  ⟨(some 139), .bin .add (.t 29) (.c (.i .i64 1)), none, false⟩,
  ⟨(some 29), .mv (.t 139), none, false⟩]
abbrev i5l23 : ICode := (.seq (.reg i5r2) (.seq (.cond (.t 30) .skip (.exit 0)) (.seq (.block 1 (.seq (.reg i5r3) (.seq (.seq (.reg i5r4) (.block 2 (.loop i5l12))) (.seq (.reg i5r13) (.block 4 (.loop i5l21)))))) (.reg i5r22))))
abbrev i5r24 : List IOper := [
  ⟨(some 140), .call (.c (.fn 18 [])) [], none, false⟩,
  ⟨(some 10), .mv (.t 140), none, false⟩]
abbrev i5c : ICode := (.seq (.reg i5r0) (.seq (.seq (.reg i5r1) (.block 0 (.loop i5l23))) (.seq (.reg i5r24) .ret)))
def i5 : IFn := { np := 5, N := 141, ct := [30, 49, 76, 106, 137], code := i5c, res := [.t 10] }
theorem i5_eq : compF Tryd.prog Tryd.f5 = some i5 := by kernel_rfl
abbrev i6r0 : List IOper := [
  ⟨(some 1), .box (.t 0), none, false⟩,
  ⟨(some 2), .mv (.c (.b false)), none, false⟩]
abbrev i6r1 : List IOper := [
  ⟨(some 14), .call (.c (.fn 18 [])) [], none, false⟩,
  ⟨(some 15), .not (.t 14), none, true⟩]
abbrev i6r2 : List IOper := [
  ⟨(some 2), .mv (.c (.b false)), none, false⟩]
abbrev i6r3 : List IOper := [
  ⟨(some 17), .ld true 4 (.t 1), none, false⟩,
  ⟨(some 18), .call (.c (.fn 15 [])) [.t 17], none, false⟩,
  ⟨(some 19), .ext (.t 18) 0, none, false⟩,
  ⟨(some 20), .ext (.t 18) 1, none, false⟩,
  ⟨(some 21), .ext (.t 18) 2, none, false⟩,
  ⟨(some 22), .call (.c (.fn 16 [])) [.t 19, .t 20, .t 21], none, false⟩,
  ⟨(some 16), .mv (.t 22), none, false⟩,
  ⟨(some 23), .ext (.t 16) 0, none, false⟩,
  ⟨(some 24), .ext (.t 16) 1, none, false⟩,
  ⟨(some 3), .new [.i .i64 0, .i .i64 0, .i .i64 0, .i .i64 0, .i .i64 0, .i .i64 0, .i .i64 0, .i .i64 0], none, false⟩,
  ⟨none, .st 8 (.t 3) (.t 23), none, false⟩,
  ⟨(some 4), .mv (.t 24), none, false⟩]
abbrev i6r4 : List IOper := [
  ⟨(some 25), .mv (.t 4), none, false⟩,
  ⟨(some 26), .bin .neq (.t 25) (.c (.i .i64 0)), none, true⟩]
abbrev i6r5 : List IOper := [
  ⟨(some 2), .mv (.c (.b false)), none, false⟩]
abbrev i6r6 : List IOper := [
  ⟨(some 27), .fa 3 (.t 1), none, false⟩,
  ⟨(some 28), .ld false 1 (.t 27), none, false⟩,
  ⟨(some 29), .fa 3 (.t 1), none, false⟩,
  ⟨(some 30), .ld false 1 (.t 29), none, false⟩,
  ⟨(some 31), .lenV (.t 30), none, false⟩,
  ⟨(some 32), .mn (.t 31) [.c (.i .i64 40)], none, false⟩,
  ⟨(some 33), .slV 5 (.t 28) none (some (.t 32)) none, none, false⟩,
  ⟨(some 34), .lenV (.t 33), none, false⟩,
  ⟨(some 35), .mv (.c (.i .i64 0)), none, false⟩]
abbrev i6r7 : List IOper := [
  ⟨(some 36), .bin .lss (.t 35) (.t 34), none, true⟩]
abbrev i6r8 : List IOper := [
  ⟨(some 37), .ixaV 5 (.t 33) (.t 35), none, false⟩,
  ⟨(some 38), .ld true 5 (.t 37), none, false⟩,
  ⟨(some 6), .new [.i .u8 0, .i .u8 0, .i .u16 0, .i .u32 0, .i .u32 0], none, false⟩,
  ⟨none, .st 5 (.t 6) (.t 38), none, false⟩]
abbrev i6r9 : List IOper := [
  ⟨(some 39), .fa 5 (.t 3), none, false⟩,
  ⟨(some 40), .ld false 1 (.t 39), none, false⟩,
  ⟨(some 41), .fa 2 (.t 6), none, false⟩,
  ⟨(some 42), .ld false 1 (.t 41), none, false⟩,
  ⟨(some 43), .bin .rem (.t 42) (.c (.i .u16 2000)), none, false⟩,
  ⟨(some 44), .i2i .i64 (.t 43), none, false⟩,
  ⟨(some 45), .bin .add (.t 40) (.t 44), none, false⟩,
  ⟨(some 7), .mv (.t 45), none, false⟩]
abbrev i6r10 : List (IOper × List Nat) := [
  (⟨(some 46), .fa 3 (.t 6), none, false⟩, []),
  (⟨(some 47), .ld false 1 (.t 46), none, false⟩, []),
  (⟨(some 48), .bin .rem (.t 47) (.c (.i .u32 2000000)), none, false⟩, []),
  (⟨(some 49), .i2i .i64 (.t 48), none, false⟩, []),
  (⟨(some 50), .bin .add (.c (.i .i64 1000)) (.t 49), none, false⟩, []),
  (⟨(some 51), .fa 4 (.t 6), none, false⟩, [0, 1, 2, 3, 4]),
  (⟨(some 52), .ld false 1 (.t 51), none, false⟩, [0, 1, 2, 3, 4]),
  (⟨(some 53), .bin .rem (.t 52) (.c (.i .u32 2000000)), none, false⟩, [0, 1, 2, 3, 4]),
  (⟨(some 54), .i2i .i64 (.t 53), none, false⟩, [0, 1, 2, 3, 4]),
  (⟨(some 55), .bin .add (.c (.i .i64 1000)) (.t 54), none, false⟩, [0, 1, 2, 3, 4]),
  (⟨(some 8), .mv (.t 50), none, false⟩, [5, 6, 7, 8, 9]),
  (⟨(some 9), .mv (.t 55), none, false⟩, [])]
abbrev i6r11 : List IOper := [
  ⟨(some 56), .ld true 8 (.t 3), none, false⟩,
  ⟨(some 10), .new [.i .i64 0, .i .i64 0, .i .i64 0, .i .i64 0, .i .i64 0, .i .i64 0, .i .i64 0, .i .i64 0], none, false⟩,
  ⟨none, .st 8 (.t 10) (.t 56), none, false⟩,
  ⟨(some 11), .mv (.c (.b true)), none, false⟩]
abbrev i6r12 : List IOper := [
  ⟨(some 12), .mv (.c (.i .i64 0)), none, false⟩]
abbrev i6r13 : List IOper := [
  ⟨(some 57), .fa 1 (.t 6), none, false⟩,
  ⟨(some 58), .ld false 1 (.t 57), none, false⟩,
  ⟨(some 59), .bin .rem (.t 58) (.c (.i .u8 3)), none, false⟩,
  ⟨(some 60), .i2i .i64 (.t 59), none, false⟩,
  ⟨(some 13), .mv (.t 60), none, false⟩]
abbrev i6r14 : List IOper := [
  ⟨(some 61), .fa 0 (.t 6), none, false⟩,
  ⟨(some 62), .ld false 1 (.t 61), none, false⟩,
  ⟨(some 63), .bin .rem (.t 62) (.c (.i .u8 8)), none, false⟩]
abbrev i6r15 : List IOper := [
  ⟨(some 120), .bin .eql (.t 63) (.c (.i .u8 0)), none, false⟩,
  ⟨(some 119), .mv (.t 120), none, true⟩]
abbrev i6r16 : List IOper := [
  ⟨(some 122), .ld true 8 (.t 3), none, false⟩,
  ⟨(some 123), .mv (.t 7), none, false⟩,
  ⟨(some 124), .fa 1 (.t 6), none, false⟩,
  ⟨(some 125), .ld false 1 (.t 124), none, false⟩,
  ⟨(some 126), .i2i .i64 (.t 125), none, false⟩,
  ⟨(some 127), .call (.c (.fn 21 [])) [.t 122, .t 123, .t 126], none, false⟩,
  ⟨(some 121), .mv (.t 127), none, false⟩,
  ⟨(some 128), .ext (.t 121) 0, none, false⟩,
  ⟨(some 129), .ext (.t 121) 1, none, false⟩,
  ⟨none, .st 8 (.t 10) (.t 128), none, false⟩,
  ⟨(some 12), .mv (.t 129), none, false⟩]
abbrev i6r17 : List IOper := [
  ⟨(some 130), .fa 1 (.t 6), none, false⟩,
  ⟨(some 131), .ld false 1 (.t 130), none, false⟩,
  ⟨(some 132), .bin .lss (.t 131) (.c (.i .u8 26)), none, false⟩,
  ⟨(some 133), .mv (.t 132), none, true⟩,
  ⟨(some 134), .fa 0 (.t 10), (some (133, false)), false⟩,
  ⟨(some 135), .ld false 1 (.t 134), (some (133, false)), false⟩,
  ⟨(some 136), .fa 0 (.t 3), (some (133, false)), false⟩,
  ⟨(some 137), .ld false 1 (.t 136), (some (133, false)), false⟩,
  ⟨(some 138), .bin .leq (.t 135) (.t 137), (some (133, false)), false⟩,
  ⟨(some 139), .pick (.t 133) (.c (.b true)) (.t 138), none, false⟩,
  ⟨(some 140), .mv (.t 139), none, true⟩,
  ⟨(some 141), .fa 1 (.t 6), (some (140, true)), false⟩,
  ⟨(some 142), .ld false 1 (.t 141), (some (140, true)), false⟩,
  ⟨(some 143), .bin .gtr (.t 142) (.c (.i .u8 5)), (some (140, true)), false⟩,
  ⟨(some 144), .mv (.t 143), (some (140, true)), true⟩,
  ⟨(some 145), .fa 0 (.t 10), (some (144, false)), false⟩,
  ⟨(some 146), .ld false 1 (.t 145), (some (144, false)), false⟩,
  ⟨(some 147), .fa 0 (.t 3), (some (144, false)), false⟩,
  ⟨(some 148), .ld false 1 (.t 147), (some (144, false)), false⟩,
  ⟨(some 149), .bin .geq (.t 146) (.t 148), (some (144, false)), false⟩,
  ⟨(some 150), .pick (.t 144) (.c (.b true)) (.t 149), (some (140, true)), false⟩,
  ⟨(some 151), .pick (.t 140) (.t 150) (.c (.b false)), none, false⟩,
  ⟨(some 152), .mv (.t 151), none, true⟩,
  ⟨(some 153), .fa 1 (.t 6), (some (152, true)), false⟩,
  ⟨(some 154), .ld false 1 (.t 153), (some (152, true)), false⟩,
  ⟨(some 155), .bin .leq (.t 154) (.c (.i .u8 5)), (some (152, true)), false⟩,
  ⟨(some 156), .mv (.t 155), (some (152, true)), true⟩,
  ⟨(some 157), .fa 1 (.t 6), (some (156, false)), false⟩,
  ⟨(some 158), .ld false 1 (.t 157), (some (156, false)), false⟩,
  ⟨(some 159), .bin .geq (.t 158) (.c (.i .u8 26)), (some (156, false)), false⟩,
  ⟨(some 160), .pick (.t 156) (.c (.b true)) (.t 159), (some (152, true)), false⟩,
  ⟨(some 161), .mv (.t 160), (some (152, true)), true⟩,
  ⟨(some 162), .fa 0 (.t 10), (some (161, false)), false⟩,
  ⟨(some 163), .ld false 1 (.t 162), (some (161, false)), false⟩,
  ⟨(some 164), .fa 0 (.t 3), (some (161, false)), false⟩,
  ⟨(some 165), .ld false 1 (.t 164), (some (161, false)), false⟩,
  ⟨(some 166), .bin .eql (.t 163) (.t 165), (some (161, false)), false⟩,
  ⟨(some 167), .pick (.t 161) (.c (.b true)) (.t 166), (some (152, true)), false⟩,
  ⟨(some 168), .pick (.t 152) (.t 167) (.c (.b false)), none, false⟩,
  ⟨(some 11), .mv (.t 168), none, false⟩]
abbrev i6r18 : List IOper := [
  ⟨(some 170), .bin .eql (.t 63) (.c (.i .u8 1)), none, false⟩,
  ⟨(some 169), .mv (.t 170), none, true⟩]
abbrev i6r19 : List IOper := [
  ⟨(some 172), .ld true 8 (.t 3), none, false⟩,
  ⟨(some 173), .mv (.t 7), none, false⟩,
  ⟨(some 174), .mv (.t 8), none, false⟩,
  ⟨(some 175), .mv (.t 9), none, false⟩,
  ⟨(some 176), .call (.c (.fn 23 [])) [.t 172, .t 173, .t 174, .t 175], none, false⟩,
  ⟨(some 171), .mv (.t 176), none, false⟩,
  ⟨(some 177), .ext (.t 171) 0, none, false⟩,
  ⟨(some 178), .ext (.t 171) 1, none, false⟩,
  ⟨none, .st 8 (.t 10) (.t 177), none, false⟩,
  ⟨(some 12), .mv (.t 178), none, false⟩]
abbrev i6r20 : List IOper := [
  ⟨(some 179), .fa 0 (.t 10), none, false⟩,
  ⟨(some 180), .ld false 1 (.t 179), none, false⟩,
  ⟨(some 181), .fa 0 (.t 3), none, false⟩,
  ⟨(some 182), .ld false 1 (.t 181), none, false⟩,
  ⟨(some 183), .bin .geq (.t 180) (.t 182), none, false⟩,
  ⟨(some 184), .mv (.t 183), none, true⟩,
  ⟨(some 185), .fa 0 (.t 10), (some (184, true)), false⟩,
  ⟨(some 186), .ld false 1 (.t 185), (some (184, true)), false⟩,
  ⟨(some 187), .fa 0 (.t 3), (some (184, true)), false⟩,
  ⟨(some 188), .ld false 1 (.t 187), (some (184, true)), false⟩,
  ⟨(some 189), .mv (.t 8), (some (184, true)), false⟩,
  ⟨(some 190), .mv (.t 9), (some (184, true)), false⟩,
  ⟨(some 191), .mn (.t 189) [.t 190], (some (184, true)), false⟩,
  ⟨(some 192), .mx (.t 188) [.t 191], (some (184, true)), false⟩,
  ⟨(some 193), .bin .leq (.t 186) (.t 192), (some (184, true)), false⟩,
  ⟨(some 194), .pick (.t 184) (.t 193) (.c (.b false)), none, false⟩,
  ⟨(some 11), .mv (.t 194), none, false⟩]
abbrev i6r21 : List IOper := [
  ⟨(some 196), .bin .eql (.t 63) (.c (.i .u8 2)), none, false⟩,
  ⟨(some 195), .mv (.t 196), none, true⟩]
abbrev i6r22 : List IOper := [
  ⟨(some 198), .ld true 8 (.t 3), none, false⟩,
  ⟨(some 199), .mv (.t 7), none, false⟩,
  ⟨(some 200), .mv (.t 8), none, false⟩,
  ⟨(some 201), .mv (.t 9), none, false⟩,
  ⟨(some 202), .mn (.t 200) [.t 201], none, false⟩,
  ⟨(some 203), .mv (.t 8), none, false⟩,
  ⟨(some 204), .mv (.t 9), none, false⟩,
  ⟨(some 205), .mx (.t 203) [.t 204], none, false⟩,
  ⟨(some 206), .call (.c (.fn 13 [])) [.t 198, .t 199, .t 202, .t 205], none, false⟩,
  ⟨(some 197), .mv (.t 206), none, false⟩,
  ⟨(some 207), .ext (.t 197) 0, none, false⟩,
  ⟨(some 208), .ext (.t 197) 1, none, false⟩,
  ⟨none, .st 8 (.t 10) (.t 207), none, false⟩,
  ⟨(some 12), .mv (.t 208), none, false⟩]
abbrev i6r23 : List IOper := [
  ⟨(some 209), .fa 0 (.t 10), none, false⟩,
  ⟨(some 210), .ld false 1 (.t 209), none, false⟩,
  ⟨(some 211), .fa 0 (.t 3), none, false⟩,
  ⟨(some 212), .ld false 1 (.t 211), none, false⟩,
  ⟨(some 213), .mv (.t 8), none, false⟩,
  ⟨(some 214), .mv (.t 9), none, false⟩,
  ⟨(some 215), .mn (.t 213) [.t 214], none, false⟩,
  ⟨(some 216), .mx (.t 212) [.t 215], none, false⟩,
  ⟨(some 217), .mv (.t 8), none, false⟩,
  ⟨(some 218), .mv (.t 9), none, false⟩,
  ⟨(some 219), .mx (.t 217) [.t 218], none, false⟩,
  ⟨(some 220), .mn (.t 216) [.t 219], none, false⟩,
  ⟨(some 221), .bin .eql (.t 210) (.t 220), none, false⟩,
  ⟨(some 11), .mv (.t 221), none, false⟩]
abbrev i6r24 : List IOper := [
  ⟨(some 64), .fa 0 (.t 6), none, false⟩,
  ⟨(some 65), .ld false 1 (.t 64), none, false⟩,
  ⟨(some 66), .bin .rem (.t 65) (.c (.i .u8 8)), none, false⟩,
  ⟨(some 67), .bin .eql (.t 66) (.c (.i .u8 3)), none, true⟩]
abbrev i6r25 : List IOper := [
  ⟨(some 8), .mv (.c (.i .i64 0)), none, false⟩]
abbrev i6r26 : List IOper := [
  ⟨(some 69), .ld true 8 (.t 3), none, false⟩,
  ⟨(some 70), .mv (.t 7), none, false⟩,
  ⟨(some 71), .mv (.t 13), none, false⟩,
  ⟨(some 72), .mv (.t 8), none, false⟩,
  ⟨(some 73), .call (.c (.fn 19 [])) [.t 69, .t 70, .t 71, .t 72], none, false⟩,
  ⟨(some 68), .mv (.t 73), none, false⟩,
  ⟨(some 74), .ext (.t 68) 0, none, false⟩,
  ⟨(some 75), .ext (.t 68) 1, none, false⟩,
  ⟨none, .st 8 (.t 10) (.t 74), none, false⟩,
  ⟨(some 12), .mv (.t 75), none, false⟩]
abbrev i6r27 : List IOper := [
  ⟨(some 76), .mv (.t 13), none, false⟩]
abbrev i6r28 : List IOper := [
  ⟨(some 88), .bin .eql (.t 76) (.c (.i .i64 0)), none, false⟩,
  ⟨(some 87), .mv (.t 88), none, true⟩]
abbrev i6r29 : List IOper := [
  ⟨(some 89), .fa 0 (.t 10), none, false⟩,
  ⟨(some 90), .ld false 1 (.t 89), none, false⟩,
  ⟨(some 91), .fa 0 (.t 3), none, false⟩,
  ⟨(some 92), .ld false 1 (.t 91), none, false⟩,
  ⟨(some 93), .bin .geq (.t 90) (.t 92), none, false⟩,
  ⟨(some 94), .mv (.t 93), none, true⟩,
  ⟨(some 95), .fa 0 (.t 10), (some (94, true)), false⟩,
  ⟨(some 96), .ld false 1 (.t 95), (some (94, true)), false⟩,
  ⟨(some 97), .fa 0 (.t 3), (some (94, true)), false⟩,
  ⟨(some 98), .ld false 1 (.t 97), (some (94, true)), false⟩,
  ⟨(some 99), .fa 0 (.t 3), (some (94, true)), false⟩,
  ⟨(some 100), .ld false 1 (.t 99), (some (94, true)), false⟩,
  ⟨(some 101), .bin .mul (.c (.i .i64 8)) (.t 100), (some (94, true)), false⟩,
  ⟨(some 102), .bin .quo (.t 101) (.c (.i .i64 100)), (some (94, true)), false⟩,
  ⟨(some 103), .mx (.t 102) [.c (.i .i64 50000)], (some (94, true)), false⟩,
  ⟨(some 104), .bin .add (.t 98) (.t 103), (some (94, true)), false⟩,
  ⟨(some 105), .bin .leq (.t 96) (.t 104), (some (94, true)), false⟩,
  ⟨(some 106), .pick (.t 94) (.t 105) (.c (.b false)), none, false⟩,
  ⟨(some 11), .mv (.t 106), none, false⟩]
abbrev i6r30 : List IOper := [
  ⟨(some 108), .bin .eql (.t 76) (.c (.i .i64 1)), none, false⟩,
  ⟨(some 107), .mv (.t 108), none, true⟩]
abbrev i6r31 : List IOper := [
  ⟨(some 109), .fa 0 (.t 10), none, false⟩,
  ⟨(some 110), .ld false 1 (.t 109), none, false⟩,
  ⟨(some 111), .fa 0 (.t 3), none, false⟩,
  ⟨(some 112), .ld false 1 (.t 111), none, false⟩,
  ⟨(some 113), .bin .leq (.t 110) (.t 112), none, false⟩,
  ⟨(some 114), .mv (.t 113), none, true⟩,
  ⟨(some 115), .fa 3 (.t 10), (some (114, true)), false⟩,
  ⟨(some 116), .ld false 1 (.t 115), (some (114, true)), false⟩,
  ⟨(some 117), .bin .eql (.t 116) (.c (.i .i64 0)), (some (114, true)), false⟩,
  ⟨(some 118), .pick (.t 114) (.t 117) (.c (.b false)), none, false⟩,
  ⟨(some 11), .mv (.t 118), none, false⟩]
abbrev i6r32 : List IOper := [
  ⟨(some 77), .fa 0 (.t 10), none, false⟩,
  ⟨(some 78), .ld false 1 (.t 77), none, false⟩,
  ⟨(some 79), .fa 0 (.t 3), none, false⟩,
  ⟨(some 80), .ld false 1 (.t 79), none, false⟩,
  ⟨(some 81), .bin .eql (.t 78) (.t 80), none, false⟩,
  ⟨(some 82), .mv (.t 81), none, true⟩,
  ⟨(some 83), .fa 3 (.t 10), (some (82, true)), false⟩,
  ⟨(some 84), .ld false 1 (.t 83), (some (82, true)), false⟩,
  ⟨(some 85), .bin .eql (.t 84) (.c (.i .i64 0)), (some (82, true)), false⟩,
  ⟨(some 86), .pick (.t 82) (.t 85) (.c (.b false)), none, false⟩,
  ⟨(some 11), .mv (.t 86), none, false⟩]
abbrev i6r33 : List IOper := [
  ⟨(some 222), .mv (.t 11), none, false⟩,
  ⟨(some 223), .not (.t 222), none, false⟩,
  ⟨(some 224), .mv (.t 223), none, true⟩,
  ⟨(some 225), .mv (.t 12), (some (224, false)), false⟩,
  ⟨(some 226), .bin .neq (.t 225) (.c (.i .i64 0)), (some (224, false)), false⟩,
  ⟨(some 227), .pick (.t 224) (.c (.b true)) (.t 226), none, false⟩,
  ⟨(some 228), .mv (.t 227), none, true⟩,
  ⟨(some 229), .ld true 8 (.t 10), (some (228, false)), false⟩,
  ⟨(some 230), .call (.c (.fn 11 [])) [.t 229], (some (228, false)), false⟩,
  ⟨(some 231), .bin .neq (.t 230) (.c (.i .i64 0)), (some (228, false)), false⟩,
  ⟨(some 232), .pick (.t 228) (.c (.b true)) (.t 231), none, false⟩,
  ⟨(some 233), .mv (.t 232), none, true⟩,
  ⟨(some 234), .fa 5 (.t 10), (some (233, false)), false⟩,
  ⟨(some 235), .ld false 1 (.t 234), (some (233, false)), false⟩,
  ⟨(some 236), .mv (.t 7), (some (233, false)), false⟩,
  ⟨(some 237), .bin .neq (.t 235) (.t 236), (some (233, false)), false⟩,
  ⟨(some 238), .pick (.t 233) (.c (.b true)) (.t 237), none, false⟩,
  ⟨(some 239), .mv (.t 238), none, true⟩,
  ⟨(some 240), .fa 0 (.t 10), (some (239, false)), false⟩,
  ⟨(some 241), .ld false 1 (.t 240), (some (239, false)), false⟩,
  ⟨(some 242), .fa 1 (.t 10), (some (239, false)), false⟩,
  ⟨(some 243), .ld false 1 (.t 242), (some (239, false)), false⟩,
  ⟨(some 244), .bin .lss (.t 241) (.t 243), (some (239, false)), false⟩,
  ⟨(some 245), .pick (.t 239) (.c (.b true)) (.t 244), none, false⟩,
  ⟨(some 246), .mv (.t 245), none, true⟩,
  ⟨(some 247), .fa 0 (.t 10), (some (246, false)), false⟩,
  ⟨(some 248), .ld false 1 (.t 247), (some (246, false)), false⟩,
  ⟨(some 249), .fa 2 (.t 10), (some (246, false)), false⟩,
  ⟨(some 250), .ld false 1 (.t 249), (some (246, false)), false⟩,
  ⟨(some 251), .bin .gtr (.t 248) (.t 250), (some (246, false)), false⟩,
  ⟨(some 252), .pick (.t 246) (.c (.b true)) (.t 251), none, true⟩]
abbrev i6r34 : List IOper := [
  ⟨(some 2), .mv (.c (.b false)), none, false⟩]
abbrev i6r35 : List IOper := [
  ⟨(some 253), .ld true 8 (.t 10), none, false⟩,
  ⟨none, .st 8 (.t 3) (.t 253), none, false⟩]
abbrev i6r36 : List IOper := [
  ⟨(some 254), .bin .add (.t 35) (.c (.i .i64 1)), none, false⟩,
  ⟨(some 35), .mv (.t 254), none, false⟩]
abbrev i6l37 : ICode := (.seq (.reg i6r7) (.seq (.cond (.t 36) .skip (.exit 0)) (.seq (.block 1 (.seq (.reg i6r8) (.seq (.reg i6r9) (.seq (.dreg i6r10) (.seq (.reg i6r11) (.seq (.reg i6r12) (.seq (.seq (.reg i6r13) (.seq (.reg i6r14) (.block 2 (.seq (.reg i6r15) (.cond (.t 119) (.seq (.reg i6r16) (.reg i6r17)) (.seq (.reg i6r18) (.cond (.t 169) (.seq (.reg i6r19) (.reg i6r20)) (.seq (.reg i6r21) (.cond (.t 195) (.seq (.reg i6r22) (.reg i6r23)) (.seq (.seq (.reg i6r24) (.cond (.t 67) (.reg i6r25) .skip)) (.seq (.reg i6r26) (.seq (.reg i6r27) (.block 3 (.seq (.reg i6r28) (.cond (.t 87) (.reg i6r29) (.seq (.reg i6r30) (.cond (.t 107) (.reg i6r31) (.reg i6r32)))))))))))))))))) (.seq (.seq (.reg i6r33) (.cond (.t 252) (.seq (.reg i6r34) .ret) .skip)) (.reg i6r35))))))))) (.reg i6r36))))
abbrev i6r38 : List IOper := [
  ⟨(some 2), .mv (.c (.b true)), none, false⟩]
abbrev i6c : ICode := (.seq (.reg i6r0) (.seq (.seq (.reg i6r1) (.cond (.t 15) (.seq (.reg i6r2) .ret) .skip)) (.seq (.reg i6r3) (.seq (.seq (.reg i6r4) (.cond (.t 26) (.seq (.reg i6r5) .ret) .skip)) (.seq (.seq (.reg i6r6) (.block 0 (.loop i6l37))) (.seq (.reg i6r38) .ret))))))
def i6 : IFn := { np := 1, N := 255, ct := [15, 26, 36, 119, 169, 195, 67, 87, 107, 252], code := i6c, res := [.t 2] }
theorem i6_eq : compF Tryd.prog Tryd.f6 = some i6 := by kernel_rfl
abbrev i7r0 : List IOper := [
  ⟨(some 2), .box (.t 0), none, false⟩,
  ⟨(some 4), .mv (.c (.b false)), none, false⟩]
abbrev i7r1 : List IOper := [
  ⟨(some 13), .call (.c (.fn 18 [])) [], none, false⟩,
  ⟨(some 14), .not (.t 13), none, true⟩]
abbrev i7r2 : List IOper := [
  ⟨(some 4), .mv (.c (.b false)), none, false⟩]
abbrev i7r3 : List IOper := [
  ⟨(some 16), .ld true 4 (.t 2), none, false⟩,
  ⟨(some 17), .call (.c (.fn 15 [])) [.t 16], none, false⟩,
  ⟨(some 15), .mv (.t 17), none, false⟩,
  ⟨(some 18), .ext (.t 15) 0, none, false⟩,
  ⟨(some 19), .ext (.t 15) 1, none, false⟩,
  ⟨(some 20), .ext (.t 15) 2, none, false⟩,
  ⟨(some 5), .mv (.t 18), none, false⟩,
  ⟨(some 6), .mv (.t 19), none, false⟩,
  ⟨(some 7), .mv (.t 20), none, false⟩]
abbrev i7r4 : List IOper := [
  ⟨(some 22), .mv (.t 5), none, false⟩,
  ⟨(some 23), .mv (.t 6), none, false⟩,
  ⟨(some 24), .mv (.t 7), none, false⟩,
  ⟨(some 25), .call (.c (.fn 16 [])) [.t 22, .t 23, .t 24], none, false⟩,
  ⟨(some 21), .mv (.t 25), none, false⟩,
  ⟨(some 26), .ext (.t 21) 0, none, false⟩,
  ⟨(some 27), .ext (.t 21) 1, none, false⟩,
  ⟨(some 8), .new [.i .i64 0, .i .i64 0, .i .i64 0, .i .i64 0, .i .i64 0, .i .i64 0, .i .i64 0, .i .i64 0], none, false⟩,
  ⟨none, .st 8 (.t 8) (.t 26), none, false⟩,
  ⟨(some 9), .mv (.t 27), none, false⟩]
abbrev i7r5 : List IOper := [
  ⟨(some 28), .mv (.t 9), none, false⟩,
  ⟨(some 29), .bin .neq (.t 28) (.c (.i .i64 0)), none, true⟩]
abbrev i7r6 : List IOper := [
  ⟨(some 4), .mv (.c (.b false)), none, false⟩]
abbrev i7r7 : List IOper := [
  ⟨(some 30), .mv (.t 5), none, false⟩,
  ⟨(some 10), .mv (.t 30), none, false⟩]
abbrev i7r8 : List IOper := [
  ⟨(some 31), .mv (.t 1), none, false⟩,
  ⟨(some 32), .bin .rem (.t 31) (.c (.i .u8 40)), none, false⟩,
  ⟨(some 33), .i2i .i64 (.t 32), none, false⟩,
  ⟨(some 34), .mv (.c (.i .i64 0)), none, false⟩]
abbrev i7r9 : List IOper := [
  ⟨(some 35), .bin .lss (.t 34) (.t 33), none, true⟩]
abbrev i7r10 : List IOper := [
  ⟨(some 36), .mv (.t 34), none, false⟩,
  ⟨(some 11), .mv (.t 36), none, false⟩]
abbrev i7r11 : List IOper := [
  ⟨(some 12), .mv (.c (.i .i64 1000)), none, false⟩]
abbrev i7r12 : List IOper := [
  ⟨(some 37), .mv (.t 11), none, false⟩,
  ⟨(some 38), .bin .rem (.t 37) (.c (.i .i64 3)), none, false⟩,
  ⟨(some 39), .bin .eql (.t 38) (.c (.i .i64 1)), none, true⟩]
abbrev i7r13 : List IOper := [
  ⟨(some 12), .mv (.c (.i .i64 500)), none, false⟩]
abbrev i7r14 : List IOper := [
  ⟨(some 40), .ld true 8 (.t 8), none, false⟩,
  ⟨(some 41), .fa 5 (.t 8), none, false⟩,
  ⟨(some 42), .ld false 1 (.t 41), none, false⟩,
  ⟨(some 43), .mv (.t 12), none, false⟩,
  ⟨(some 44), .bin .add (.t 42) (.t 43), none, false⟩,
  ⟨(some 45), .call (.c (.fn 25 [])) [.t 40, .t 44, .c (.i .i64 0), .c (.i .i64 0)], none, false⟩,
  ⟨none, .st 8 (.t 8) (.t 45), none, false⟩]
abbrev i7r15 : List IOper := [
  ⟨(some 46), .mv (.t 10), none, false⟩,
  ⟨(some 47), .mv (.t 10), none, false⟩,
  ⟨(some 48), .bin .mul (.c (.i .i64 8)) (.t 47), none, false⟩,
  ⟨(some 49), .mv (.t 12), none, false⟩,
  ⟨(some 50), .bin .mul (.t 48) (.t 49), none, false⟩,
  ⟨(some 51), .bin .quo (.t 50) (.c (.i .i64 100000)), none, false⟩,
  ⟨(some 52), .bin .add (.t 46) (.t 51), none, false⟩,
  ⟨(some 53), .mv (.t 7), none, false⟩,
  ⟨(some 54), .mn (.t 52) [.t 53], none, false⟩,
  ⟨(some 10), .mv (.t 54), none, false⟩]
abbrev i7r16 : List IOper := [
  ⟨(some 55), .fa 0 (.t 8), none, false⟩,
  ⟨(some 56), .ld false 1 (.t 55), none, false⟩,
  ⟨(some 57), .mv (.t 10), none, false⟩,
  ⟨(some 58), .bin .neq (.t 56) (.t 57), none, false⟩,
  ⟨(some 59), .mv (.t 58), none, true⟩,
  ⟨(some 60), .fa 3 (.t 8), (some (59, false)), false⟩,
  ⟨(some 61), .ld false 1 (.t 60), (some (59, false)), false⟩,
  ⟨(some 62), .bin .neq (.t 61) (.c (.i .i64 1)), (some (59, false)), false⟩,
  ⟨(some 63), .pick (.t 59) (.c (.b true)) (.t 62), none, false⟩,
  ⟨(some 64), .mv (.t 63), none, true⟩,
  ⟨(some 65), .fa 4 (.t 8), (some (64, false)), false⟩,
  ⟨(some 66), .ld false 1 (.t 65), (some (64, false)), false⟩,
  ⟨(some 67), .bin .neq (.t 66) (.c (.i .i64 0)), (some (64, false)), false⟩,
  ⟨(some 68), .pick (.t 64) (.c (.b true)) (.t 67), none, true⟩]
abbrev i7r17 : List IOper := [
  ⟨(some 4), .mv (.c (.b false)), none, false⟩]
abbrev i7r18 : List IOper := [
  ⟨(some 69), .bin .add (.t 34) (.c (.i .i64 1)), none, false⟩,
  ⟨(some 34), .mv (.t 69), none, false⟩]
abbrev i7l19 : ICode := (.seq (.reg i7r9) (.seq (.cond (.t 35) .skip (.exit 0)) (.seq (.block 1 (.seq (.reg i7r10) (.seq (.reg i7r11) (.seq (.seq (.reg i7r12) (.cond (.t 39) (.reg i7r13) .skip)) (.seq (.reg i7r14) (.seq (.reg i7r15) (.seq (.reg i7r16) (.cond (.t 68) (.seq (.reg i7r17) .ret) .skip)))))))) (.reg i7r18))))
abbrev i7r20 : List IOper := [
  ⟨(some 4), .mv (.c (.b true)), none, false⟩]
abbrev i7c : ICode := (.seq (.reg i7r0) (.seq (.seq (.reg i7r1) (.cond (.t 14) (.seq (.reg i7r2) .ret) .skip)) (.seq (.reg i7r3) (.seq (.reg i7r4) (.seq (.seq (.reg i7r5) (.cond (.t 29) (.seq (.reg i7r6) .ret) .skip)) (.seq (.reg i7r7) (.seq (.seq (.reg i7r8) (.block 0 (.loop i7l19))) (.seq (.reg i7r20) .ret))))))))
def i7 : IFn := { np := 2, N := 70, ct := [14, 29, 35, 39, 68], code := i7c, res := [.t 4] }
theorem i7_eq : compF Tryd.prog Tryd.f7 = some i7 := by kernel_rfl
abbrev i8r0 : List IOper := [
  ⟨(some 3), .box (.t 0), none, false⟩,
  ⟨(some 6), .mv (.c (.b false)), none, false⟩]
abbrev i8r1 : List IOper := [
  ⟨(some 17), .call (.c (.fn 18 [])) [], none, false⟩,
  ⟨(some 18), .not (.t 17), none, true⟩]
abbrev i8r2 : List IOper := [
  ⟨(some 6), .mv (.c (.b false)), none, false⟩]
abbrev i8r3 : List IOper := [
  ⟨(some 19), .ld true 4 (.t 3), none, false⟩,
  ⟨(some 20), .call (.c (.fn 26 [])) [.t 19], none, false⟩,
  ⟨(some 7), .new [.i .i64 0, .i .i64 0, .i .i64 0, .i .i64 0, .i .i64 0, .i .i64 0, .i .i64 0, .i .i64 0], none, false⟩,
  ⟨none, .st 8 (.t 7) (.t 20), none, false⟩]
abbrev i8r4 : List IOper := [
  ⟨(some 21), .mv (.t 1), none, false⟩,
  ⟨(some 22), .bin .rem (.t 21) (.c (.i .u32 1000000)), none, false⟩,
  ⟨(some 23), .i2i .i64 (.t 22), none, false⟩,
  ⟨(some 24), .bin .add (.c (.i .i64 2000)) (.t 23), none, false⟩,
  ⟨(some 8), .mv (.t 24), none, false⟩]
abbrev i8r5 : List IOper := [
  ⟨(some 25), .ld true 8 (.t 7), none, false⟩,
  ⟨(some 26), .fa 5 (.t 7), none, false⟩,
  ⟨(some 27), .ld false 1 (.t 26), none, false⟩,
  ⟨(some 28), .mv (.t 8), none, false⟩,
  ⟨(some 29), .call (.c (.fn 25 [])) [.t 25, .t 27, .c (.i .i64 1), .t 28], none, false⟩,
  ⟨(some 9), .new [.i .i64 0, .i .i64 0, .i .i64 0, .i .i64 0, .i .i64 0, .i .i64 0, .i .i64 0, .i .i64 0], none, false⟩,
  ⟨none, .st 8 (.t 9) (.t 29), none, false⟩]
abbrev i8r6 : List IOper := [
  ⟨(some 30), .fa 0 (.t 9), none, false⟩,
  ⟨(some 31), .ld false 1 (.t 30), none, false⟩,
  ⟨(some 32), .mv (.t 8), none, false⟩,
  ⟨(some 33), .bin .mul (.c (.i .i64 85)) (.t 32), none, false⟩,
  ⟨(some 34), .bin .quo (.t 33) (.c (.i .i64 100)), none, false⟩,
  ⟨(some 35), .fa 1 (.t 7), none, false⟩,
  ⟨(some 36), .ld false 1 (.t 35), none, false⟩,
  ⟨(some 37), .mx (.t 34) [.t 36], none, false⟩,
  ⟨(some 38), .bin .gtr (.t 31) (.t 37), none, false⟩,
  ⟨(some 39), .mv (.t 38), none, true⟩,
  ⟨(some 40), .fa 0 (.t 9), (some (39, false)), false⟩,
  ⟨(some 41), .ld false 1 (.t 40), (some (39, false)), false⟩,
  ⟨(some 42), .fa 0 (.t 7), (some (39, false)), false⟩,
  ⟨(some 43), .ld false 1 (.t 42), (some (39, false)), false⟩,
  ⟨(some 44), .bin .gtr (.t 41) (.t 43), (some (39, false)), false⟩,
  ⟨(some 45), .pick (.t 39) (.c (.b true)) (.t 44), none, false⟩,
  ⟨(some 46), .mv (.t 45), none, true⟩,
  ⟨(some 47), .fa 4 (.t 9), (some (46, false)), false⟩,
  ⟨(some 48), .ld false 1 (.t 47), (some (46, false)), false⟩,
  ⟨(some 49), .bin .lss (.t 48) (.c (.i .i64 1000)), (some (46, false)), false⟩,
  ⟨(some 50), .pick (.t 46) (.c (.b true)) (.t 49), none, false⟩,
  ⟨(some 51), .mv (.t 50), none, true⟩,
  ⟨(some 52), .ld true 8 (.t 9), (some (51, false)), false⟩,
  ⟨(some 53), .call (.c (.fn 11 [])) [.t 52], (some (51, false)), false⟩,
  ⟨(some 54), .bin .neq (.t 53) (.c (.i .i64 0)), (some (51, false)), false⟩,
  ⟨(some 55), .pick (.t 51) (.c (.b true)) (.t 54), none, true⟩]
abbrev i8r7 : List IOper := [
  ⟨(some 6), .mv (.c (.b false)), none, false⟩]
abbrev i8r8 : List IOper := [
  ⟨(some 56), .ld true 8 (.t 9), none, false⟩,
  ⟨(some 57), .fa 5 (.t 9), none, false⟩,
  ⟨(some 58), .ld false 1 (.t 57), none, false⟩,
  ⟨(some 59), .call (.c (.fn 25 [])) [.t 56, .t 58, .c (.i .i64 0), .c (.i .i64 0)], none, false⟩,
  ⟨(some 10), .new [.i .i64 0, .i .i64 0, .i .i64 0, .i .i64 0, .i .i64 0, .i .i64 0, .i .i64 0, .i .i64 0], none, false⟩,
  ⟨none, .st 8 (.t 10) (.t 59), none, false⟩]
abbrev i8r9 : List IOper := [
  ⟨(some 61), .ld true 8 (.t 10), none, false⟩,
  ⟨(some 62), .fa 5 (.t 10), none, false⟩,
  ⟨(some 63), .ld false 1 (.t 62), none, false⟩,
  ⟨(some 64), .call (.c (.fn 13 [])) [.t 61, .t 63, .c (.i .i64 1000), .c (.i .i64 100000000)], none, false⟩,
  ⟨(some 60), .mv (.t 64), none, false⟩,
  ⟨(some 65), .ext (.t 60) 0, none, false⟩,
  ⟨(some 66), .ext (.t 60) 1, none, false⟩,
  ⟨(some 11), .new [.i .i64 0, .i .i64 0, .i .i64 0, .i .i64 0, .i .i64 0, .i .i64 0, .i .i64 0, .i .i64 0], none, false⟩,
  ⟨none, .st 8 (.t 11) (.t 65), none, false⟩,
  ⟨(some 12), .mv (.t 66), none, false⟩]
abbrev i8r10 : List IOper := [
  ⟨(some 67), .mv (.t 12), none, false⟩,
  ⟨(some 68), .bin .neq (.t 67) (.c (.i .i64 0)), none, false⟩,
  ⟨(some 69), .mv (.t 68), none, true⟩,
  ⟨(some 70), .fa 0 (.t 10), (some (69, false)), false⟩,
  ⟨(some 71), .ld false 1 (.t 70), (some (69, false)), false⟩,
  ⟨(some 72), .fa 0 (.t 9), (some (69, false)), false⟩,
  ⟨(some 73), .ld false 1 (.t 72), (some (69, false)), false⟩,
  ⟨(some 74), .bin .neq (.t 71) (.t 73), (some (69, false)), false⟩,
  ⟨(some 75), .pick (.t 69) (.c (.b true)) (.t 74), none, false⟩,
  ⟨(some 76), .mv (.t 75), none, true⟩,
  ⟨(some 77), .fa 3 (.t 10), (some (76, false)), false⟩,
  ⟨(some 78), .ld false 1 (.t 77), (some (76, false)), false⟩,
  ⟨(some 79), .bin .neq (.t 78) (.c (.i .i64 1)), (some (76, false)), false⟩,
  ⟨(some 80), .pick (.t 76) (.c (.b true)) (.t 79), none, false⟩,
  ⟨(some 81), .mv (.t 80), none, true⟩,
  ⟨(some 82), .fa 0 (.t 11), (some (81, false)), false⟩,
  ⟨(some 83), .ld false 1 (.t 82), (some (81, false)), false⟩,
  ⟨(some 84), .fa 0 (.t 10), (some (81, false)), false⟩,
  ⟨(some 85), .ld false 1 (.t 84), (some (81, false)), false⟩,
  ⟨(some 86), .bin .neq (.t 83) (.t 85), (some (81, false)), false⟩,
  ⟨(some 87), .pick (.t 81) (.c (.b true)) (.t 86), none, true⟩]
abbrev i8r11 : List IOper := [
  ⟨(some 6), .mv (.c (.b false)), none, false⟩]
abbrev i8r12 : List IOper := [
  ⟨(some 88), .mv (.t 2), none, false⟩,
  ⟨(some 89), .bin .rem (.t 88) (.c (.i .u16 1000)), none, false⟩,
  ⟨(some 90), .i2i .i64 (.t 89), none, false⟩,
  ⟨(some 13), .mv (.t 90), none, false⟩]
abbrev i8r13 : List IOper := [
  ⟨(some 91), .ld true 8 (.t 11), none, false⟩,
  ⟨(some 92), .fa 5 (.t 11), none, false⟩,
  ⟨(some 93), .ld false 1 (.t 92), none, false⟩,
  ⟨(some 94), .mv (.t 13), none, false⟩,
  ⟨(some 95), .bin .add (.t 93) (.t 94), none, false⟩,
  ⟨(some 96), .call (.c (.fn 25 [])) [.t 91, .t 95, .c (.i .i64 0), .c (.i .i64 0)], none, false⟩,
  ⟨(some 14), .new [.i .i64 0, .i .i64 0, .i .i64 0, .i .i64 0, .i .i64 0, .i .i64 0, .i .i64 0, .i .i64 0], none, false⟩,
  ⟨none, .st 8 (.t 14) (.t 96), none, false⟩]
abbrev i8r14 : List IOper := [
  ⟨(some 97), .fa 0 (.t 11), none, false⟩,
  ⟨(some 98), .ld false 1 (.t 97), none, false⟩,
  ⟨(some 99), .fa 0 (.t 11), none, false⟩,
  ⟨(some 100), .ld false 1 (.t 99), none, false⟩,
  ⟨(some 101), .bin .mul (.c (.i .i64 8)) (.t 100), none, false⟩,
  ⟨(some 102), .mv (.t 13), none, false⟩,
  ⟨(some 103), .bin .mul (.t 101) (.t 102), none, false⟩,
  ⟨(some 104), .bin .quo (.t 103) (.c (.i .i64 100000)), none, false⟩,
  ⟨(some 105), .bin .add (.t 98) (.t 104), none, false⟩,
  ⟨(some 15), .mv (.t 105), none, false⟩]
abbrev i8r15 : List IOper := [
  ⟨(some 106), .fa 0 (.t 11), none, false⟩,
  ⟨(some 107), .ld false 1 (.t 106), none, false⟩,
  ⟨(some 108), .fa 4 (.t 11), none, false⟩,
  ⟨(some 109), .ld false 1 (.t 108), none, false⟩,
  ⟨(some 110), .bin .mul (.c (.i .i64 9)) (.t 109), none, false⟩,
  ⟨(some 111), .bin .quo (.t 110) (.c (.i .i64 10)), none, false⟩,
  ⟨(some 112), .bin .geq (.t 107) (.t 111), none, true⟩]
abbrev i8r16 : List IOper := [
  ⟨(some 113), .fa 0 (.t 11), none, false⟩,
  ⟨(some 114), .ld false 1 (.t 113), none, false⟩,
  ⟨(some 115), .mv (.t 13), none, false⟩,
  ⟨(some 116), .bin .mul (.c (.i .i64 50)) (.t 115), none, false⟩,
  ⟨(some 117), .bin .add (.t 114) (.t 116), none, false⟩,
  ⟨(some 15), .mv (.t 117), none, false⟩]
abbrev i8r17 : List IOper := [
  ⟨(some 118), .ld true 8 (.t 11), none, false⟩,
  ⟨(some 119), .fa 5 (.t 11), none, false⟩,
  ⟨(some 120), .ld false 1 (.t 119), none, false⟩,
  ⟨(some 121), .fa 4 (.t 11), none, false⟩,
  ⟨(some 122), .ld false 1 (.t 121), none, false⟩,
  ⟨(some 123), .bin .mul (.c (.i .i64 2)) (.t 122), none, false⟩,
  ⟨(some 124), .mn (.t 123) [.c (.i .i64 100000000)], none, false⟩,
  ⟨(some 125), .call (.c (.fn 25 [])) [.t 118, .t 120, .c (.i .i64 2), .t 124], none, false⟩,
  ⟨(some 16), .new [.i .i64 0, .i .i64 0, .i .i64 0, .i .i64 0, .i .i64 0, .i .i64 0, .i .i64 0, .i .i64 0], none, false⟩,
  ⟨none, .st 8 (.t 16) (.t 125), none, false⟩]
abbrev i8r18 : List IOper := [
  ⟨(some 126), .fa 0 (.t 14), none, false⟩,
  ⟨(some 127), .ld false 1 (.t 126), none, false⟩,
  ⟨(some 128), .mv (.t 15), none, false⟩,
  ⟨(some 129), .mn (.t 128) [.c (.i .i64 100000000)], none, false⟩,
  ⟨(some 130), .bin .eql (.t 127) (.t 129), none, false⟩,
  ⟨(some 131), .mv (.t 130), none, true⟩,
  ⟨(some 132), .fa 4 (.t 14), (some (131, true)), false⟩,
  ⟨(some 133), .ld false 1 (.t 132), (some (131, true)), false⟩,
  ⟨(some 134), .fa 4 (.t 11), (some (131, true)), false⟩,
  ⟨(some 135), .ld false 1 (.t 134), (some (131, true)), false⟩,
  ⟨(some 136), .bin .eql (.t 133) (.t 135), (some (131, true)), false⟩,
  ⟨(some 137), .pick (.t 131) (.t 136) (.c (.b false)), none, false⟩,
  ⟨(some 138), .mv (.t 137), none, true⟩,
  ⟨(some 139), .fa 4 (.t 16), (some (138, true)), false⟩,
  ⟨(some 140), .ld false 1 (.t 139), (some (138, true)), false⟩,
  ⟨(some 141), .bin .eql (.t 140) (.c (.i .i64 0)), (some (138, true)), false⟩,
  ⟨(some 142), .mv (.t 141), (some (138, true)), true⟩,
  ⟨(some 143), .fa 4 (.t 11), (some (142, false)), false⟩,
  ⟨(some 144), .ld false 1 (.t 143), (some (142, false)), false⟩,
  ⟨(some 145), .bin .mul (.c (.i .i64 2)) (.t 144), (some (142, false)), false⟩,
  ⟨(some 146), .bin .gtr (.t 145) (.c (.i .i64 100000000)), (some (142, false)), false⟩,
  ⟨(some 147), .pick (.t 142) (.c (.b true)) (.t 146), (some (138, true)), false⟩,
  ⟨(some 148), .pick (.t 138) (.t 147) (.c (.b false)), none, false⟩,
  ⟨(some 6), .mv (.t 148), none, false⟩]
abbrev i8c : ICode := (.seq (.reg i8r0) (.seq (.seq (.reg i8r1) (.cond (.t 18) (.seq (.reg i8r2) .ret) .skip)) (.seq (.reg i8r3) (.seq (.reg i8r4) (.seq (.reg i8r5) (.seq (.seq (.reg i8r6) (.cond (.t 55) (.seq (.reg i8r7) .ret) .skip)) (.seq (.reg i8r8) (.seq (.reg i8r9) (.seq (.seq (.reg i8r10) (.cond (.t 87) (.seq (.reg i8r11) .ret) .skip)) (.seq (.reg i8r12) (.seq (.reg i8r13) (.seq (.reg i8r14) (.seq (.seq (.reg i8r15) (.cond (.t 112) (.reg i8r16) .skip)) (.seq (.reg i8r17) (.seq (.reg i8r18) .ret)))))))))))))))
def i8 : IFn := { np := 3, N := 149, ct := [18, 55, 87, 112], code := i8c, res := [.t 6] }
theorem i8_eq : compF Tryd.prog Tryd.f8 = some i8 := by kernel_rfl
abbrev i10r0 : List IOper := [
  ⟨(some 3), .box (.t 0), none, false⟩,
  ⟨(some 4), .box (.t 1), none, false⟩,
  ⟨(some 5), .box (.t 2), none, false⟩,
  ⟨(some 6), .new [.i .i64 0, .i .i64 0, .i .i64 0, .i .i64 0, .i .i64 0, .i .i64 0, .i .i64 0, .i .i64 0, .i .i64 0, .i .i64 0, .i .i64 0, .i .i64 0, .i .i64 0, .i .i64 0, .i .i64 0, .i .i64 0, .i .i64 0, .i .i64 0, .i .i64 0, .i .i64 0, .i .i64 0, .i .i64 0, .i .i64 0, .i .i64 0, .i .i64 0, .i .i64 0, .i .i64 0, .i .i64 0, .i .i64 0, .i .i64 0, .i .i64 0, .i .i64 0], none, false⟩]
abbrev i10r1 : List IOper := [
  ⟨(some 9), .ld true 4 (.t 3), none, false⟩,
  ⟨(some 10), .call (.c (.fn 26 [])) [.t 9], none, false⟩,
  ⟨(some 7), .new [.i .i64 0, .i .i64 0, .i .i64 0, .i .i64 0, .i .i64 0, .i .i64 0, .i .i64 0, .i .i64 0], none, false⟩,
  ⟨none, .st 8 (.t 7) (.t 10), none, false⟩]
abbrev i10r2 : List IOper := [
  ⟨(some 11), .ixaA 2 2 (.t 4) (.c (.i .i64 0)), none, false⟩,
  ⟨(some 12), .ld true 2 (.t 11), none, false⟩,
  ⟨(some 13), .ld true 8 (.t 7), none, false⟩,
  ⟨(some 14), .call (.c (.fn 29 [])) [.t 12, .t 13], none, false⟩,
  ⟨(some 8), .new [.i .i64 0, .i .i64 0, .i .i64 0, .i .i64 0, .i .i64 0, .i .i64 0, .i .i64 0, .i .i64 0], none, false⟩,
  ⟨none, .st 8 (.t 8) (.t 14), none, false⟩]
abbrev i10r3 : List (IOper × List Nat) := [
  (⟨(some 15), .ld true 8 (.t 7), none, false⟩, []),
  (⟨(some 16), .ld true 8 (.t 8), none, false⟩, [0]),
  (⟨(some 17), .ixaA 2 2 (.t 4) (.c (.i .i64 1)), none, false⟩, [0, 1]),
  (⟨(some 18), .ld true 2 (.t 17), none, false⟩, [0, 1]),
  (⟨(some 19), .ld true 8 (.t 8), none, false⟩, [0, 1, 2, 3]),
  (⟨(some 20), .call (.c (.fn 29 [])) [.t 18, .t 19], none, false⟩, [0, 1]),
  (⟨(some 21), .ld true 8 (.t 5), none, false⟩, [0, 1, 2, 3, 4, 5]),
  (⟨(some 22), .build [.i .i64 0, .i .i64 0, .i .i64 0, .i .i64 0, .i .i64 0, .i .i64 0, .i .i64 0, .i .i64 0, .i .i64 0, .i .i64 0, .i .i64 0, .i .i64 0, .i .i64 0, .i .i64 0, .i .i64 0, .i .i64 0, .i .i64 0, .i .i64 0, .i .i64 0, .i .i64 0, .i .i64 0, .i .i64 0, .i .i64 0, .i .i64 0, .i .i64 0, .i .i64 0, .i .i64 0, .i .i64 0, .i .i64 0, .i .i64 0, .i .i64 0, .i .i64 0] [(0, 8, .t 15), (8, 8, .t 16), (16, 8, .t 20), (24, 8, .t 21)], none, false⟩, []),
  (⟨none, .st 32 (.t 6) (.t 22), none, false⟩, [])]
abbrev i10c : ICode := (.seq (.reg i10r0) (.seq (.reg i10r1) (.seq (.reg i10r2) (.seq (.dreg i10r3) .ret))))
def i10 : IFn := { np := 3, N := 23, ct := [], code := i10c, res := [.c 6 true 32] }
theorem i10_eq : compF Tryd.prog Tryd.f10 = some i10 := by kernel_rfl
abbrev i12r0 : List IOper := [
  ⟨(some 1), .box (.t 0), none, false⟩,
  ⟨(some 2), .mv (.c (.b false)), none, false⟩]
abbrev i12r1 : List IOper := [
  ⟨(some 4), .fa 5 (.t 1), none, false⟩,
  ⟨(some 5), .ld false 1 (.t 4), none, false⟩,
  ⟨(some 6), .bin .geq (.t 5) (.c (.i .i64 0)), none, false⟩,
  ⟨(some 7), .mv (.t 6), none, true⟩,
  ⟨(some 8), .fa 5 (.t 1), (some (7, true)), false⟩,
  ⟨(some 9), .ld false 1 (.t 8), (some (7, true)), false⟩,
  ⟨(some 10), .bin .leq (.t 9) (.c (.i .i64 1099511627776)), (some (7, true)), false⟩,
  ⟨(some 11), .pick (.t 7) (.t 10) (.c (.b false)), none, false⟩,
  ⟨(some 12), .mv (.t 11), none, true⟩,
  ⟨(some 13), .fa 6 (.t 1), (some (12, true)), false⟩,
  ⟨(some 14), .ld false 1 (.t 13), (some (12, true)), false⟩,
  ⟨(some 15), .bin .geq (.t 14) (.c (.i .i64 0)), (some (12, true)), false⟩,
  ⟨(some 16), .pick (.t 12) (.t 15) (.c (.b false)), none, false⟩,
  ⟨(some 17), .mv (.t 16), none, true⟩,
  ⟨(some 18), .fa 6 (.t 1), (some (17, true)), false⟩,
  ⟨(some 19), .ld false 1 (.t 18), (some (17, true)), false⟩,
  ⟨(some 20), .fa 5 (.t 1), (some (17, true)), false⟩,
  ⟨(some 21), .ld false 1 (.t 20), (some (17, true)), false⟩,
  ⟨(some 22), .bin .leq (.t 19) (.t 21), (some (17, true)), false⟩,
  ⟨(some 23), .pick (.t 17) (.t 22) (.c (.b false)), none, false⟩,
  ⟨(some 24), .mv (.t 23), none, true⟩,
  ⟨(some 25), .fa 7 (.t 1), (some (24, true)), false⟩,
  ⟨(some 26), .ld false 1 (.t 25), (some (24, true)), false⟩,
  ⟨(some 27), .bin .geq (.t 26) (.c (.i .i64 0)), (some (24, true)), false⟩,
  ⟨(some 28), .pick (.t 24) (.t 27) (.c (.b false)), none, false⟩,
  ⟨(some 29), .mv (.t 28), none, true⟩,
  ⟨(some 30), .fa 7 (.t 1), (some (29, true)), false⟩,
  ⟨(some 31), .ld false 1 (.t 30), (some (29, true)), false⟩,
  ⟨(some 32), .fa 5 (.t 1), (some (29, true)), false⟩,
  ⟨(some 33), .ld false 1 (.t 32), (some (29, true)), false⟩,
  ⟨(some 34), .bin .leq (.t 31) (.t 33), (some (29, true)), false⟩,
  ⟨(some 35), .pick (.t 29) (.t 34) (.c (.b false)), none, false⟩,
  ⟨(some 3), .mv (.t 35), none, false⟩]
abbrev i12r2 : List IOper := [
  ⟨(some 36), .fa 1 (.t 1), none, false⟩,
  ⟨(some 37), .ld false 1 (.t 36), none, false⟩,
  ⟨(some 38), .call (.c (.fn 32 [])) [.t 37], none, false⟩,
  ⟨(some 39), .mv (.t 38), none, true⟩,
  ⟨(some 40), .fa 0 (.t 1), (some (39, true)), false⟩,
  ⟨(some 41), .ld false 1 (.t 40), (some (39, true)), false⟩,
  ⟨(some 42), .call (.c (.fn 32 [])) [.t 41], (some (39, true)), false⟩,
  ⟨(some 43), .pick (.t 39) (.t 42) (.c (.b false)), none, false⟩,
  ⟨(some 44), .mv (.t 43), none, true⟩,
  ⟨(some 45), .fa 2 (.t 1), (some (44, true)), false⟩,
  ⟨(some 46), .ld false 1 (.t 45), (some (44, true)), false⟩,
  ⟨(some 47), .call (.c (.fn 32 [])) [.t 46], (some (44, true)), false⟩,
  ⟨(some 48), .pick (.t 44) (.t 47) (.c (.b false)), none, false⟩,
  ⟨(some 49), .mv (.t 48), none, true⟩,
  ⟨(some 50), .fa 1 (.t 1), (some (49, true)), false⟩,
  ⟨(some 51), .ld false 1 (.t 50), (some (49, true)), false⟩,
  ⟨(some 52), .fa 0 (.t 1), (some (49, true)), false⟩,
  ⟨(some 53), .ld false 1 (.t 52), (some (49, true)), false⟩,
  ⟨(some 54), .bin .leq (.t 51) (.t 53), (some (49, true)), false⟩,
  ⟨(some 55), .pick (.t 49) (.t 54) (.c (.b false)), none, false⟩,
  ⟨(some 56), .mv (.t 55), none, true⟩,
  ⟨(some 57), .fa 0 (.t 1), (some (56, true)), false⟩,
  ⟨(some 58), .ld false 1 (.t 57), (some (56, true)), false⟩,
  ⟨(some 59), .fa 2 (.t 1), (some (56, true)), false⟩,
  ⟨(some 60), .ld false 1 (.t 59), (some (56, true)), false⟩,
  ⟨(some 61), .bin .leq (.t 58) (.t 60), (some (56, true)), false⟩,
  ⟨(some 62), .pick (.t 56) (.t 61) (.c (.b false)), none, false⟩,
  ⟨(some 63), .mv (.t 62), none, true⟩,
  ⟨(some 64), .fa 3 (.t 1), (some (63, true)), false⟩,
  ⟨(some 65), .ld false 1 (.t 64), (some (63, true)), false⟩,
  ⟨(some 66), .bin .eql (.t 65) (.c (.i .i64 0)), (some (63, true)), false⟩,
  ⟨(some 67), .mv (.t 66), (some (63, true)), true⟩,
  ⟨(some 68), .fa 3 (.t 1), (some (67, false)), false⟩,
  ⟨(some 69), .ld false 1 (.t 68), (some (67, false)), false⟩,
  ⟨(some 70), .bin .eql (.t 69) (.c (.i .i64 1)), (some (67, false)), false⟩,
  ⟨(some 71), .pick (.t 67) (.c (.b true)) (.t 70), (some (63, true)), false⟩,
  ⟨(some 72), .pick (.t 63) (.t 71) (.c (.b false)), none, false⟩,
  ⟨(some 73), .mv (.t 72), none, true⟩,
  ⟨(some 74), .mv (.t 3), (some (73, true)), false⟩,
  ⟨(some 75), .pick (.t 73) (.t 74) (.c (.b false)), none, false⟩,
  ⟨(some 76), .mv (.t 75), none, true⟩,
  ⟨(some 77), .fa 4 (.t 1), (some (76, true)), false⟩,
  ⟨(some 78), .ld false 1 (.t 77), (some (76, true)), false⟩,
  ⟨(some 79), .bin .eql (.t 78) (.c (.i .i64 0)), (some (76, true)), false⟩,
  ⟨(some 80), .mv (.t 79), (some (76, true)), true⟩,
  ⟨(some 81), .fa 4 (.t 1), (some (80, false)), false⟩,
  ⟨(some 82), .ld false 1 (.t 81), (some (80, false)), false⟩,
  ⟨(some 83), .call (.c (.fn 32 [])) [.t 82], (some (80, false)), false⟩,
  ⟨(some 84), .pick (.t 80) (.c (.b true)) (.t 83), (some (76, true)), false⟩,
  ⟨(some 85), .pick (.t 76) (.t 84) (.c (.b false)), none, false⟩,
  ⟨(some 2), .mv (.t 85), none, false⟩]
abbrev i12c : ICode := (.seq (.reg i12r0) (.seq (.reg i12r1) (.seq (.reg i12r2) .ret)))
def i12 : IFn := { np := 1, N := 86, ct := [], code := i12c, res := [.t 2] }
theorem i12_eq : compF Tryd.prog Tryd.f12 = some i12 := by kernel_rfl
abbrev i14r0 : List IOper := [
  ⟨(some 4), .box (.t 0), none, false⟩,
  ⟨(some 8), .new [.i .i64 0, .i .i64 0, .i .i64 0, .i .i64 0, .i .i64 0, .i .i64 0, .i .i64 0, .i .i64 0], none, false⟩,
  ⟨(some 9), .mv (.c (.i .i64 0)), none, false⟩]
abbrev i14r1 : List IOper := [
  ⟨(some 11), .ld true 8 (.t 4), none, false⟩,
  ⟨(some 12), .mv (.t 1), none, false⟩,
  ⟨(some 13), .call (.c (.fn 35 [])) [.t 11, .t 12], none, false⟩,
  ⟨(some 10), .mv (.t 13), none, false⟩]
abbrev i14r2 : List IOper := [
  ⟨(some 14), .mv (.t 10), none, false⟩,
  ⟨(some 15), .bin .neq (.t 14) (.c (.i .i64 0)), none, true⟩]
abbrev i14r3 : List IOper := [
  ⟨(some 16), .build [.i .i64 0, .i .i64 0, .i .i64 0, .i .i64 0, .i .i64 0, .i .i64 0, .i .i64 0, .i .i64 0] [], none, false⟩,
  ⟨(some 17), .mv (.t 10), none, false⟩,
  ⟨none, .st 8 (.t 8) (.t 16), none, false⟩,
  ⟨(some 9), .mv (.t 17), none, false⟩]
abbrev i14r4 : List IOper := [
  ⟨(some 18), .mv (.t 2), none, false⟩,
  ⟨(some 19), .call (.c (.fn 32 [])) [.t 18], none, false⟩,
  ⟨(some 20), .not (.t 19), none, false⟩,
  ⟨(some 21), .mv (.t 20), none, true⟩,
  ⟨(some 22), .mv (.t 3), (some (21, false)), false⟩,
  ⟨(some 23), .call (.c (.fn 32 [])) [.t 22], (some (21, false)), false⟩,
  ⟨(some 24), .not (.t 23), (some (21, false)), false⟩,
  ⟨(some 25), .pick (.t 21) (.c (.b true)) (.t 24), none, false⟩,
  ⟨(some 26), .mv (.t 25), none, true⟩,
  ⟨(some 27), .mv (.t 2), (some (26, false)), false⟩,
  ⟨(some 28), .mv (.t 3), (some (26, false)), false⟩,
  ⟨(some 29), .bin .gtr (.t 27) (.t 28), (some (26, false)), false⟩,
  ⟨(some 30), .pick (.t 26) (.c (.b true)) (.t 29), none, true⟩]
abbrev i14r5 : List IOper := [
  ⟨(some 31), .build [.i .i64 0, .i .i64 0, .i .i64 0, .i .i64 0, .i .i64 0, .i .i64 0, .i .i64 0, .i .i64 0] [], none, false⟩,
  ⟨none, .st 8 (.t 8) (.t 31), none, false⟩,
  ⟨(some 9), .mv (.c (.i .i64 2)), none, false⟩]
abbrev i14r6 : List IOper := [
  ⟨(some 32), .mv (.t 2), none, false⟩,
  ⟨(some 33), .fa 1 (.t 4), none, false⟩,
  ⟨none, .st 1 (.t 33) (.t 32), none, false⟩]
abbrev i14r7 : List IOper := [
  ⟨(some 34), .mv (.t 3), none, false⟩,
  ⟨(some 35), .fa 2 (.t 4), none, false⟩,
  ⟨none, .st 1 (.t 35) (.t 34), none, false⟩]
abbrev i14r8 : List IOper := [
  ⟨(some 36), .ld true 8 (.t 4), none, false⟩,
  ⟨(some 37), .fa 0 (.t 4), none, false⟩,
  ⟨(some 38), .ld false 1 (.t 37), none, false⟩,
  ⟨(some 39), .call (.c (.fn 36 [])) [.t 36, .t 38], none, false⟩,
  ⟨none, .st 8 (.t 4) (.t 39), none, false⟩]
abbrev i14r9 : List IOper := [
  ⟨(some 40), .mv (.t 1), none, false⟩,
  ⟨(some 41), .fa 5 (.t 4), none, false⟩,
  ⟨none, .st 1 (.t 41) (.t 40), none, false⟩]
abbrev i14r10 : List IOper := [
  ⟨(some 42), .ld true 8 (.t 4), none, false⟩,
  ⟨none, .st 8 (.t 8) (.t 42), none, false⟩,
  ⟨(some 9), .mv (.c (.i .i64 0)), none, false⟩]
abbrev i14c : ICode := (.seq (.reg i14r0) (.seq (.seq (.reg i14r1) (.seq (.reg i14r2) (.cond (.t 15) (.seq (.reg i14r3) .ret) .skip))) (.seq (.seq (.reg i14r4) (.cond (.t 30) (.seq (.reg i14r5) .ret) .skip)) (.seq (.reg i14r6) (.seq (.reg i14r7) (.seq (.reg i14r8) (.seq (.reg i14r9) (.seq (.reg i14r10) .ret))))))))
def i14 : IFn := { np := 4, N := 43, ct := [15, 30], code := i14c, res := [.c 8 true 8, .t 9] }
theorem i14_eq : compF Tryd.prog Tryd.f14 = some i14 := by kernel_rfl
abbrev i15r0 : List IOper := [
  ⟨(some 1), .box (.t 0), none, false⟩,
  ⟨(some 2), .mv (.c (.i .i64 0)), none, false⟩,
  ⟨(some 3), .mv (.c (.i .i64 0)), none, false⟩,
  ⟨(some 4), .mv (.c (.i .i64 0)), none, false⟩]
abbrev i15r1 : List IOper := [
  ⟨(some 6), .fa 0 (.t 1), none, false⟩,
  ⟨(some 7), .ld false 1 (.t 6), none, false⟩,
  ⟨(some 8), .bin .rem (.t 7) (.c (.i .u32 1000000)), none, false⟩,
  ⟨(some 9), .i2i .i64 (.t 8), none, false⟩,
  ⟨(some 10), .bin .add (.c (.i .i64 1000)) (.t 9), none, false⟩,
  ⟨(some 5), .mv (.t 10), none, false⟩]
abbrev i15r2 : List (IOper × List Nat) := [
  (⟨(some 11), .mv (.t 5), none, false⟩, []),
  (⟨(some 12), .mv (.t 5), none, false⟩, [0]),
  (⟨(some 13), .fa 1 (.t 1), none, false⟩, [0, 1]),
  (⟨(some 14), .ld false 1 (.t 13), none, false⟩, [0, 1]),
  (⟨(some 15), .bin .rem (.t 14) (.c (.i .u32 1000000)), none, false⟩, [0, 1]),
  (⟨(some 16), .i2i .i64 (.t 15), none, false⟩, [0, 1]),
  (⟨(some 17), .bin .sub (.t 12) (.t 16), none, false⟩, [0]),
  (⟨(some 18), .mx (.c (.i .i64 1000)) [.t 17], none, false⟩, [0]),
  (⟨(some 19), .mv (.t 5), none, false⟩, [0, 1, 2, 3, 4, 5, 6, 7]),
  (⟨(some 20), .fa 2 (.t 1), none, false⟩, [0, 1, 2, 3, 4, 5, 6, 7, 8]),
  (⟨(some 21), .ld false 1 (.t 20), none, false⟩, [0, 1, 2, 3, 4, 5, 6, 7, 8]),
  (⟨(some 22), .bin .rem (.t 21) (.c (.i .u32 1000000)), none, false⟩, [0, 1, 2, 3, 4, 5, 6, 7, 8]),
  (⟨(some 23), .i2i .i64 (.t 22), none, false⟩, [0, 1, 2, 3, 4, 5, 6, 7, 8]),
  (⟨(some 24), .bin .add (.t 19) (.t 23), none, false⟩, [0, 1, 2, 3, 4, 5, 6, 7]),
  (⟨(some 2), .mv (.t 11), none, false⟩, [1, 2, 3, 4, 5, 6, 7, 8, 9, 10, 11, 12, 13]),
  (⟨(some 3), .mv (.t 18), none, false⟩, [8, 9, 10, 11, 12, 13]),
  (⟨(some 4), .mv (.t 24), none, false⟩, [])]
abbrev i15c : ICode := (.seq (.reg i15r0) (.seq (.reg i15r1) (.seq (.dreg i15r2) .ret)))
def i15 : IFn := { np := 1, N := 25, ct := [], code := i15c, res := [.t 2, .t 3, .t 4] }
theorem i15_eq : compF Tryd.prog Tryd.f15 = some i15 := by kernel_rfl
abbrev i17r0 : List IOper := [
  ⟨(some 6), .new [.i .i64 0, .i .i64 0, .i .i64 0, .i .i64 0, .i .i64 0, .i .i64 0, .i .i64 0, .i .i64 0], none, false⟩,
  ⟨(some 7), .mv (.c (.i .i64 0)), none, false⟩]
abbrev i17r1 : List IOper := [
  ⟨(some 8), .mv (.t 0), none, false⟩,
  ⟨(some 9), .call (.c (.fn 32 [])) [.t 8], none, false⟩,
  ⟨(some 10), .not (.t 9), none, false⟩,
  ⟨(some 11), .mv (.t 10), none, true⟩,
  ⟨(some 12), .mv (.t 1), (some (11, false)), false⟩,
  ⟨(some 13), .call (.c (.fn 32 [])) [.t 12], (some (11, false)), false⟩,
  ⟨(some 14), .not (.t 13), (some (11, false)), false⟩,
  ⟨(some 15), .pick (.t 11) (.c (.b true)) (.t 14), none, false⟩,
  ⟨(some 16), .mv (.t 15), none, true⟩,
  ⟨(some 17), .mv (.t 2), (some (16, false)), false⟩,
  ⟨(some 18), .call (.c (.fn 32 [])) [.t 17], (some (16, false)), false⟩,
  ⟨(some 19), .not (.t 18), (some (16, false)), false⟩,
  ⟨(some 20), .pick (.t 16) (.c (.b true)) (.t 19), none, false⟩,
  ⟨(some 21), .mv (.t 20), none, true⟩,
  ⟨(some 22), .mv (.t 1), (some (21, false)), false⟩,
  ⟨(some 23), .mv (.t 0), (some (21, false)), false⟩,
  ⟨(some 24), .bin .gtr (.t 22) (.t 23), (some (21, false)), false⟩,
  ⟨(some 25), .pick (.t 21) (.c (.b true)) (.t 24), none, false⟩,
  ⟨(some 26), .mv (.t 25), none, true⟩,
  ⟨(some 27), .mv (.t 0), (some (26, false)), false⟩,
  ⟨(some 28), .mv (.t 2), (some (26, false)), false⟩,
  ⟨(some 29), .bin .gtr (.t 27) (.t 28), (some (26, false)), false⟩,
  ⟨(some 30), .pick (.t 26) (.c (.b true)) (.t 29), none, true⟩]
abbrev i17r2 : List IOper := [
  ⟨(some 31), .build [.i .i64 0, .i .i64 0, .i .i64 0, .i .i64 0, .i .i64 0, .i .i64 0, .i .i64 0, .i .i64 0] [], none, false⟩,
  ⟨none, .st 8 (.t 6) (.t 31), none, false⟩,
  ⟨(some 7), .mv (.c (.i .i64 2)), none, false⟩]
abbrev i17r3 : List IOper := [
  ⟨(some 32), .mv (.t 0), none, false⟩,
  ⟨(some 33), .mv (.t 1), none, false⟩,
  ⟨(some 34), .mv (.t 2), none, false⟩,
  ⟨(some 35), .build [.i .i64 0, .i .i64 0, .i .i64 0, .i .i64 0, .i .i64 0, .i .i64 0, .i .i64 0, .i .i64 0] [(0, 1, .t 32), (1, 1, .t 33), (2, 1, .t 34), (3, 1, .c (.i .i64 1))], none, false⟩,
  ⟨none, .st 8 (.t 6) (.t 35), none, false⟩,
  ⟨(some 7), .mv (.c (.i .i64 0)), none, false⟩]
abbrev i17c : ICode := (.seq (.reg i17r0) (.seq (.seq (.reg i17r1) (.cond (.t 30) (.seq (.reg i17r2) .ret) .skip)) (.seq (.reg i17r3) .ret)))
def i17 : IFn := { np := 3, N := 36, ct := [30], code := i17c, res := [.c 6 true 8, .t 7] }
theorem i17_eq : compF Tryd.prog Tryd.f17 = some i17 := by kernel_rfl
abbrev i20r0 : List IOper := [
  ⟨(some 4), .box (.t 0), none, false⟩,
  ⟨(some 8), .new [.i .i64 0, .i .i64 0, .i .i64 0, .i .i64 0, .i .i64 0, .i .i64 0, .i .i64 0, .i .i64 0], none, false⟩,
  ⟨(some 9), .mv (.c (.i .i64 0)), none, false⟩]
abbrev i20r1 : List IOper := [
  ⟨(some 15), .ld true 8 (.t 4), none, false⟩,
  ⟨(some 16), .mv (.t 1), none, false⟩,
  ⟨(some 17), .call (.c (.fn 35 [])) [.t 15, .t 16], none, false⟩,
  ⟨(some 10), .mv (.t 17), none, false⟩]
abbrev i20r2 : List IOper := [
  ⟨(some 18), .mv (.t 10), none, false⟩,
  ⟨(some 19), .bin .neq (.t 18) (.c (.i .i64 0)), none, true⟩]
abbrev i20r3 : List IOper := [
  ⟨(some 20), .build [.i .i64 0, .i .i64 0, .i .i64 0, .i .i64 0, .i .i64 0, .i .i64 0, .i .i64 0, .i .i64 0] [], none, false⟩,
  ⟨(some 21), .mv (.t 10), none, false⟩,
  ⟨none, .st 8 (.t 8) (.t 20), none, false⟩,
  ⟨(some 9), .mv (.t 21), none, false⟩]
abbrev i20r4 : List IOper := [
  ⟨(some 22), .mv (.t 2), none, false⟩,
  ⟨(some 23), .bin .lss (.t 22) (.c (.i .i64 0)), none, false⟩,
  ⟨(some 24), .mv (.t 23), none, true⟩,
  ⟨(some 25), .mv (.t 2), (some (24, false)), false⟩,
  ⟨(some 26), .bin .gtr (.t 25) (.c (.i .i64 2)), (some (24, false)), false⟩,
  ⟨(some 27), .pick (.t 24) (.c (.b true)) (.t 26), none, false⟩,
  ⟨(some 28), .mv (.t 27), none, true⟩,
  ⟨(some 29), .mv (.t 3), (some (28, false)), false⟩,
  ⟨(some 30), .bin .lss (.t 29) (.c (.i .i64 0)), (some (28, false)), false⟩,
  ⟨(some 31), .pick (.t 28) (.c (.b true)) (.t 30), none, false⟩,
  ⟨(some 32), .mv (.t 31), none, true⟩,
  ⟨(some 33), .mv (.t 3), (some (32, false)), false⟩,
  ⟨(some 34), .bin .gtr (.t 33) (.c (.i .i64 100000000)), (some (32, false)), false⟩,
  ⟨(some 35), .pick (.t 32) (.c (.b true)) (.t 34), none, true⟩]
abbrev i20r5 : List IOper := [
  ⟨(some 36), .build [.i .i64 0, .i .i64 0, .i .i64 0, .i .i64 0, .i .i64 0, .i .i64 0, .i .i64 0, .i .i64 0] [], none, false⟩,
  ⟨none, .st 8 (.t 8) (.t 36), none, false⟩,
  ⟨(some 9), .mv (.c (.i .i64 2)), none, false⟩]
abbrev i20r6 : List (IOper × List Nat) := [
  (⟨(some 37), .mv (.t 1), none, false⟩, []),
  (⟨(some 38), .fa 5 (.t 4), none, false⟩, [0]),
  (⟨(some 39), .ld false 1 (.t 38), none, false⟩, [0]),
  (⟨(some 40), .bin .sub (.t 37) (.t 39), none, false⟩, []),
  (⟨(some 41), .mn (.t 40) [.c (.i .i64 1000)], none, false⟩, []),
  (⟨(some 42), .mv (.t 3), none, false⟩, [0, 1, 2, 3, 4]),
  (⟨(some 43), .fa 0 (.t 4), none, false⟩, [0, 1, 2, 3, 4, 5]),
  (⟨(some 44), .ld false 1 (.t 43), none, false⟩, [0, 1, 2, 3, 4, 5]),
  (⟨(some 11), .mv (.t 41), none, false⟩, [5, 6, 7]),
  (⟨(some 12), .mv (.t 42), none, false⟩, [6, 7]),
  (⟨(some 13), .mv (.t 44), none, false⟩, [])]
abbrev i20r7 : List IOper := [
  ⟨(some 45), .fa 4 (.t 4), none, false⟩,
  ⟨(some 46), .ld false 1 (.t 45), none, false⟩,
  ⟨(some 47), .bin .neq (.t 46) (.c (.i .i64 0)), none, false⟩,
  ⟨(some 48), .mv (.t 47), none, true⟩,
  ⟨(some 49), .mv (.t 12), (some (48, true)), false⟩,
  ⟨(some 50), .fa 4 (.t 4), (some (48, true)), false⟩,
  ⟨(some 51), .ld false 1 (.t 50), (some (48, true)), false⟩,
  ⟨(some 52), .bin .mul (.c (.i .i64 11)) (.t 51), (some (48, true)), false⟩,
  ⟨(some 53), .bin .quo (.t 52) (.c (.i .i64 10)), (some (48, true)), false⟩,
  ⟨(some 54), .bin .gtr (.t 49) (.t 53), (some (48, true)), false⟩,
  ⟨(some 55), .pick (.t 48) (.t 54) (.c (.b false)), none, true⟩]
abbrev i20r8 : List IOper := [
  ⟨(some 56), .fa 4 (.t 4), none, false⟩,
  ⟨none, .st 1 (.t 56) (.c (.i .i64 0)), none, false⟩]
abbrev i20r9 : List IOper := [
  ⟨(some 99), .mv (.t 2), none, false⟩,
  ⟨(some 100), .bin .eql (.t 99) (.c (.i .i64 1)), none, false⟩,
  ⟨(some 98), .mv (.t 100), none, true⟩]
abbrev i20r10 : List IOper := [
  ⟨(some 101), .mv (.t 12), none, false⟩,
  ⟨(some 102), .bin .eql (.t 101) (.c (.i .i64 0)), none, true⟩]
abbrev i20r11 : List IOper := [
  ⟨(some 103), .ld true 8 (.t 4), none, false⟩,
  ⟨(some 104), .mv (.t 13), none, false⟩,
  ⟨(some 105), .bin .mul (.c (.i .i64 85)) (.t 104), none, false⟩,
  ⟨(some 106), .bin .quo (.t 105) (.c (.i .i64 100)), none, false⟩,
  ⟨(some 107), .call (.c (.fn 36 [])) [.t 103, .t 106], none, false⟩,
  ⟨none, .st 8 (.t 4) (.t 107), none, false⟩]
abbrev i20r12 : List IOper := [
  ⟨(some 108), .ld true 8 (.t 4), none, false⟩,
  ⟨(some 109), .mv (.t 12), none, false⟩,
  ⟨(some 110), .bin .mul (.c (.i .i64 85)) (.t 109), none, false⟩,
  ⟨(some 111), .bin .quo (.t 110) (.c (.i .i64 100)), none, false⟩,
  ⟨(some 112), .mv (.t 13), none, false⟩,
  ⟨(some 113), .mn (.t 111) [.t 112], none, false⟩,
  ⟨(some 114), .call (.c (.fn 36 [])) [.t 108, .t 113], none, false⟩,
  ⟨none, .st 8 (.t 4) (.t 114), none, false⟩]
abbrev i20r13 : List IOper := [
  ⟨(some 115), .fa 4 (.t 4), none, false⟩,
  ⟨(some 116), .ld false 1 (.t 115), none, false⟩,
  ⟨(some 117), .bin .eql (.t 116) (.c (.i .i64 0)), none, true⟩]
abbrev i20r14 : List IOper := [
  ⟨(some 118), .mv (.t 12), none, false⟩,
  ⟨(some 119), .fa 4 (.t 4), none, false⟩,
  ⟨none, .st 1 (.t 119) (.t 118), none, false⟩]
abbrev i20r15 : List IOper := [
  ⟨(some 120), .fa 4 (.t 4), none, false⟩,
  ⟨(some 121), .ld false 1 (.t 120), none, false⟩,
  ⟨(some 122), .bin .mul (.c (.i .i64 95)) (.t 121), none, false⟩,
  ⟨(some 123), .mv (.t 12), none, false⟩,
  ⟨(some 124), .bin .mul (.c (.i .i64 5)) (.t 123), none, false⟩,
  ⟨(some 125), .bin .add (.t 122) (.t 124), none, false⟩,
  ⟨(some 126), .bin .quo (.t 125) (.c (.i .i64 100)), none, false⟩,
  ⟨(some 127), .fa 4 (.t 4), none, false⟩,
  ⟨none, .st 1 (.t 127) (.t 126), none, false⟩]
abbrev i20r16 : List IOper := [
  ⟨(some 128), .fa 4 (.t 4), none, false⟩,
  ⟨(some 129), .ld false 1 (.t 128), none, false⟩,
  ⟨(some 130), .bin .lss (.t 129) (.c (.i .i64 1000)), none, true⟩]
abbrev i20r17 : List IOper := [
  ⟨(some 131), .fa 4 (.t 4), none, false⟩,
  ⟨none, .st 1 (.t 131) (.c (.i .i64 0)), none, false⟩]
abbrev i20r18 : List IOper := [
  ⟨(some 132), .fa 3 (.t 4), none, false⟩,
  ⟨none, .st 1 (.t 132) (.c (.i .i64 0)), none, false⟩]
abbrev i20r19 : List IOper := [
  ⟨(some 134), .mv (.t 2), none, false⟩,
  ⟨(some 135), .bin .eql (.t 134) (.c (.i .i64 2)), none, false⟩,
  ⟨(some 133), .mv (.t 135), none, true⟩]
abbrev i20r20 : List IOper := [
  ⟨(some 136), .fa 3 (.t 4), none, false⟩,
  ⟨none, .st 1 (.t 136) (.c (.i .i64 0)), none, false⟩]
abbrev i20r21 : List IOper := [
  ⟨(some 138), .fa 3 (.t 4), none, false⟩,
  ⟨(some 139), .ld false 1 (.t 138), none, false⟩,
  ⟨(some 140), .bin .eql (.t 139) (.c (.i .i64 0)), none, false⟩,
  ⟨(some 137), .mv (.t 140), none, true⟩]
abbrev i20r22 : List IOper := [
  ⟨(some 141), .fa 3 (.t 4), none, false⟩,
  ⟨none, .st 1 (.t 141) (.c (.i .i64 1)), none, false⟩]
abbrev i20r23 : List IOper := [
  ⟨(some 57), .mv (.t 13), none, false⟩,
  ⟨(some 58), .mv (.t 13), none, false⟩,
  ⟨(some 59), .bin .mul (.c (.i .i64 8)) (.t 58), none, false⟩,
  ⟨(some 60), .mv (.t 11), none, false⟩,
  ⟨(some 61), .bin .mul (.t 59) (.t 60), none, false⟩,
  ⟨(some 62), .bin .quo (.t 61) (.c (.i .i64 100000)), none, false⟩,
  ⟨(some 63), .bin .add (.t 57) (.t 62), none, false⟩,
  ⟨(some 14), .mv (.t 63), none, false⟩]
abbrev i20r24 : List IOper := [
  ⟨(some 64), .fa 4 (.t 4), none, false⟩,
  ⟨(some 65), .ld false 1 (.t 64), none, false⟩,
  ⟨(some 66), .bin .neq (.t 65) (.c (.i .i64 0)), none, false⟩,
  ⟨(some 67), .mv (.t 66), none, true⟩,
  ⟨(some 68), .mv (.t 13), (some (67, true)), false⟩,
  ⟨(some 69), .fa 4 (.t 4), (some (67, true)), false⟩,
  ⟨(some 70), .ld false 1 (.t 69), (some (67, true)), false⟩,
  ⟨(some 71), .bin .mul (.c (.i .i64 9)) (.t 70), (some (67, true)), false⟩,
  ⟨(some 72), .bin .quo (.t 71) (.c (.i .i64 10)), (some (67, true)), false⟩,
  ⟨(some 73), .bin .geq (.t 68) (.t 72), (some (67, true)), false⟩,
  ⟨(some 74), .pick (.t 67) (.t 73) (.c (.b false)), none, true⟩]
abbrev i20r25 : List IOper := [
  ⟨(some 75), .mv (.t 13), none, false⟩,
  ⟨(some 76), .mv (.t 11), none, false⟩,
  ⟨(some 77), .bin .mul (.c (.i .i64 50)) (.t 76), none, false⟩,
  ⟨(some 78), .bin .add (.t 75) (.t 77), none, false⟩,
  ⟨(some 14), .mv (.t 78), none, false⟩]
abbrev i20r26 : List IOper := [
  ⟨(some 79), .mv (.t 12), none, false⟩,
  ⟨(some 80), .bin .neq (.t 79) (.c (.i .i64 0)), none, false⟩,
  ⟨(some 81), .mv (.t 80), none, true⟩,
  ⟨(some 82), .mv (.t 14), (some (81, true)), false⟩,
  ⟨(some 83), .mv (.t 12), (some (81, true)), false⟩,
  ⟨(some 84), .bin .mul (.c (.i .i64 3)) (.t 83), (some (81, true)), false⟩,
  ⟨(some 85), .bin .quo (.t 84) (.c (.i .i64 2)), (some (81, true)), false⟩,
  ⟨(some 86), .bin .add (.t 85) (.c (.i .i64 10000)), (some (81, true)), false⟩,
  ⟨(some 87), .bin .gtr (.t 82) (.t 86), (some (81, true)), false⟩,
  ⟨(some 88), .pick (.t 81) (.t 87) (.c (.b false)), none, true⟩]
abbrev i20r27 : List IOper := [
  ⟨(some 89), .mv (.t 12), none, false⟩,
  ⟨(some 90), .bin .mul (.c (.i .i64 3)) (.t 89), none, false⟩,
  ⟨(some 91), .bin .quo (.t 90) (.c (.i .i64 2)), none, false⟩,
  ⟨(some 92), .bin .add (.t 91) (.c (.i .i64 10000)), none, false⟩,
  ⟨(some 93), .mv (.t 13), none, false⟩,
  ⟨(some 94), .mx (.t 92) [.t 93], none, false⟩,
  ⟨(some 14), .mv (.t 94), none, false⟩]
abbrev i20r28 : List IOper := [
  ⟨(some 95), .ld true 8 (.t 4), none, false⟩,
  ⟨(some 96), .mv (.t 14), none, false⟩,
  ⟨(some 97), .call (.c (.fn 36 [])) [.t 95, .t 96], none, false⟩,
  ⟨none, .st 8 (.t 4) (.t 97), none, false⟩]
abbrev i20r29 : List IOper := [
  ⟨(some 142), .mv (.t 1), none, false⟩,
  ⟨(some 143), .fa 5 (.t 4), none, false⟩,
  ⟨none, .st 1 (.t 143) (.t 142), none, false⟩]
abbrev i20r30 : List IOper := [
  ⟨(some 144), .ld true 8 (.t 4), none, false⟩,
  ⟨none, .st 8 (.t 8) (.t 144), none, false⟩,
  ⟨(some 9), .mv (.c (.i .i64 0)), none, false⟩]
abbrev i20c : ICode := (.seq (.reg i20r0) (.seq (.seq (.reg i20r1) (.seq (.reg i20r2) (.cond (.t 19) (.seq (.reg i20r3) .ret) .skip))) (.seq (.seq (.reg i20r4) (.cond (.t 35) (.seq (.reg i20r5) .ret) .skip)) (.seq (.dreg i20r6) (.seq (.seq (.reg i20r7) (.cond (.t 55) (.reg i20r8) .skip)) (.seq (.block 0 (.seq (.reg i20r9) (.cond (.t 98) (.seq (.seq (.reg i20r10) (.cond (.t 102) (.reg i20r11) (.seq (.reg i20r12) (.seq (.seq (.reg i20r13) (.cond (.t 117) (.reg i20r14) (.reg i20r15))) (.seq (.reg i20r16) (.cond (.t 130) (.reg i20r17) .skip)))))) (.reg i20r18)) (.seq (.reg i20r19) (.cond (.t 133) (.reg i20r20) (.seq (.reg i20r21) (.cond (.t 137) (.reg i20r22) (.seq (.reg i20r23) (.seq (.seq (.reg i20r24) (.cond (.t 74) (.reg i20r25) .skip)) (.seq (.seq (.reg i20r26) (.cond (.t 88) (.reg i20r27) .skip)) (.reg i20r28))))))))))) (.seq (.reg i20r29) (.seq (.reg i20r30) .ret))))))))
def i20 : IFn := { np := 4, N := 145, ct := [19, 35, 55, 98, 102, 117, 130, 133, 137, 74, 88], code := i20c, res := [.c 8 true 8, .t 9] }
theorem i20_eq : compF Tryd.prog Tryd.f20 = some i20 := by kernel_rfl
abbrev i22r0 : List IOper := [
  ⟨(some 3), .box (.t 0), none, false⟩,
  ⟨(some 6), .new [.i .i64 0, .i .i64 0, .i .i64 0, .i .i64 0, .i .i64 0, .i .i64 0, .i .i64 0, .i .i64 0], none, false⟩,
  ⟨(some 7), .mv (.c (.i .i64 0)), none, false⟩]
abbrev i22r1 : List IOper := [
  ⟨(some 9), .ld true 8 (.t 3), none, false⟩,
  ⟨(some 10), .mv (.t 1), none, false⟩,
  ⟨(some 11), .call (.c (.fn 35 [])) [.t 9, .t 10], none, false⟩,
  ⟨(some 8), .mv (.t 11), none, false⟩]
abbrev i22r2 : List IOper := [
  ⟨(some 12), .mv (.t 8), none, false⟩,
  ⟨(some 13), .bin .neq (.t 12) (.c (.i .i64 0)), none, true⟩]
abbrev i22r3 : List IOper := [
  ⟨(some 14), .build [.i .i64 0, .i .i64 0, .i .i64 0, .i .i64 0, .i .i64 0, .i .i64 0, .i .i64 0, .i .i64 0] [], none, false⟩,
  ⟨(some 15), .mv (.t 8), none, false⟩,
  ⟨none, .st 8 (.t 6) (.t 14), none, false⟩,
  ⟨(some 7), .mv (.t 15), none, false⟩]
abbrev i22r4 : List IOper := [
  ⟨(some 16), .mv (.t 2), none, false⟩,
  ⟨(some 17), .bin .lss (.t 16) (.c (.i .i64 0)), none, false⟩,
  ⟨(some 18), .mv (.t 17), none, true⟩,
  ⟨(some 19), .mv (.t 2), (some (18, false)), false⟩,
  ⟨(some 20), .bin .gtr (.t 19) (.c (.i .i64 255)), (some (18, false)), false⟩,
  ⟨(some 21), .pick (.t 18) (.c (.b true)) (.t 20), none, true⟩]
abbrev i22r5 : List IOper := [
  ⟨(some 22), .build [.i .i64 0, .i .i64 0, .i .i64 0, .i .i64 0, .i .i64 0, .i .i64 0, .i .i64 0, .i .i64 0] [], none, false⟩,
  ⟨none, .st 8 (.t 6) (.t 22), none, false⟩,
  ⟨(some 7), .mv (.c (.i .i64 2)), none, false⟩]
abbrev i22r6 : List IOper := [
  ⟨(some 23), .mv (.t 2), none, false⟩,
  ⟨(some 24), .bin .geq (.t 23) (.c (.i .i64 26)), none, false⟩,
  ⟨(some 25), .mv (.t 24), none, true⟩,
  ⟨(some 26), .fa 6 (.t 3), (some (25, true)), false⟩,
  ⟨(some 27), .ld false 1 (.t 26), (some (25, true)), false⟩,
  ⟨(some 28), .bin .eql (.t 27) (.c (.i .i64 0)), (some (25, true)), false⟩,
  ⟨(some 29), .mv (.t 28), (some (25, true)), true⟩,
  ⟨(some 30), .mv (.t 1), (some (29, false)), false⟩,
  ⟨(some 31), .fa 6 (.t 3), (some (29, false)), false⟩,
  ⟨(some 32), .ld false 1 (.t 31), (some (29, false)), false⟩,
  ⟨(some 33), .bin .sub (.t 30) (.t 32), (some (29, false)), false⟩,
  ⟨(some 34), .bin .geq (.t 33) (.c (.i .i64 300)), (some (29, false)), false⟩,
  ⟨(some 35), .pick (.t 29) (.c (.b true)) (.t 34), (some (25, true)), false⟩,
  ⟨(some 36), .pick (.t 25) (.t 35) (.c (.b false)), none, true⟩]
abbrev i22r7 : List IOper := [
  ⟨(some 37), .ld true 8 (.t 3), none, false⟩,
  ⟨(some 38), .fa 0 (.t 3), none, false⟩,
  ⟨(some 39), .ld false 1 (.t 38), none, false⟩,
  ⟨(some 40), .mv (.t 2), none, false⟩,
  ⟨(some 41), .bin .sub (.c (.i .i64 512)) (.t 40), none, false⟩,
  ⟨(some 42), .bin .mul (.t 39) (.t 41), none, false⟩,
  ⟨(some 43), .bin .quo (.t 42) (.c (.i .i64 512)), none, false⟩,
  ⟨(some 44), .call (.c (.fn 36 [])) [.t 37, .t 43], none, false⟩,
  ⟨none, .st 8 (.t 3) (.t 44), none, false⟩]
abbrev i22r8 : List IOper := [
  ⟨(some 45), .mv (.t 1), none, false⟩,
  ⟨(some 46), .fa 6 (.t 3), none, false⟩,
  ⟨none, .st 1 (.t 46) (.t 45), none, false⟩]
abbrev i22r9 : List IOper := [
  ⟨(some 47), .fa 3 (.t 3), none, false⟩,
  ⟨none, .st 1 (.t 47) (.c (.i .i64 0)), none, false⟩]
abbrev i22r10 : List IOper := [
  ⟨(some 48), .mv (.t 2), none, false⟩,
  ⟨(some 49), .bin .leq (.t 48) (.c (.i .i64 5)), none, false⟩,
  ⟨(some 50), .mv (.t 49), none, true⟩,
  ⟨(some 51), .fa 7 (.t 3), (some (50, true)), false⟩,
  ⟨(some 52), .ld false 1 (.t 51), (some (50, true)), false⟩,
  ⟨(some 53), .bin .eql (.t 52) (.c (.i .i64 0)), (some (50, true)), false⟩,
  ⟨(some 54), .mv (.t 53), (some (50, true)), true⟩,
  ⟨(some 55), .mv (.t 1), (some (54, false)), false⟩,
  ⟨(some 56), .fa 7 (.t 3), (some (54, false)), false⟩,
  ⟨(some 57), .ld false 1 (.t 56), (some (54, false)), false⟩,
  ⟨(some 58), .bin .sub (.t 55) (.t 57), (some (54, false)), false⟩,
  ⟨(some 59), .bin .geq (.t 58) (.c (.i .i64 1000)), (some (54, false)), false⟩,
  ⟨(some 60), .pick (.t 54) (.c (.b true)) (.t 59), (some (50, true)), false⟩,
  ⟨(some 61), .pick (.t 50) (.t 60) (.c (.b false)), none, true⟩]
abbrev i22r11 : List IOper := [
  ⟨(some 62), .ld true 8 (.t 3), none, false⟩,
  ⟨(some 63), .fa 0 (.t 3), none, false⟩,
  ⟨(some 64), .ld false 1 (.t 63), none, false⟩,
  ⟨(some 65), .fa 0 (.t 3), none, false⟩,
  ⟨(some 66), .ld false 1 (.t 65), none, false⟩,
  ⟨(some 67), .bin .quo (.t 66) (.c (.i .i64 20)), none, false⟩,
  ⟨(some 68), .bin .add (.t 64) (.t 67), none, false⟩,
  ⟨(some 69), .call (.c (.fn 36 [])) [.t 62, .t 68], none, false⟩,
  ⟨none, .st 8 (.t 3) (.t 69), none, false⟩]
abbrev i22r12 : List IOper := [
  ⟨(some 70), .mv (.t 1), none, false⟩,
  ⟨(some 71), .fa 7 (.t 3), none, false⟩,
  ⟨none, .st 1 (.t 71) (.t 70), none, false⟩]
abbrev i22r13 : List IOper := [
  ⟨(some 72), .mv (.t 1), none, false⟩,
  ⟨(some 73), .fa 5 (.t 3), none, false⟩,
  ⟨none, .st 1 (.t 73) (.t 72), none, false⟩]
abbrev i22r14 : List IOper := [
  ⟨(some 74), .ld true 8 (.t 3), none, false⟩,
  ⟨none, .st 8 (.t 6) (.t 74), none, false⟩,
  ⟨(some 7), .mv (.c (.i .i64 0)), none, false⟩]
abbrev i22c : ICode := (.seq (.reg i22r0) (.seq (.seq (.reg i22r1) (.seq (.reg i22r2) (.cond (.t 13) (.seq (.reg i22r3) .ret) .skip))) (.seq (.seq (.reg i22r4) (.cond (.t 21) (.seq (.reg i22r5) .ret) .skip)) (.seq (.seq (.reg i22r6) (.cond (.t 36) (.seq (.reg i22r7) (.seq (.reg i22r8) (.reg i22r9))) .skip)) (.seq (.seq (.reg i22r10) (.cond (.t 61) (.seq (.reg i22r11) (.reg i22r12)) .skip)) (.seq (.reg i22r13) (.seq (.reg i22r14) .ret)))))))
def i22 : IFn := { np := 3, N := 75, ct := [13, 21, 36, 61], code := i22c, res := [.c 6 true 8, .t 7] }
theorem i22_eq : compF Tryd.prog Tryd.f22 = some i22 := by kernel_rfl
abbrev i24r0 : List IOper := [
  ⟨(some 4), .box (.t 0), none, false⟩,
  ⟨(some 8), .new [.i .i64 0, .i .i64 0, .i .i64 0, .i .i64 0, .i .i64 0, .i .i64 0, .i .i64 0, .i .i64 0], none, false⟩,
  ⟨(some 9), .mv (.c (.i .i64 0)), none, false⟩]
abbrev i24r1 : List IOper := [
  ⟨(some 12), .ld true 8 (.t 4), none, false⟩,
  ⟨(some 13), .mv (.t 1), none, false⟩,
  ⟨(some 14), .call (.c (.fn 35 [])) [.t 12, .t 13], none, false⟩,
  ⟨(some 10), .mv (.t 14), none, false⟩]
abbrev i24r2 : List IOper := [
  ⟨(some 15), .mv (.t 10), none, false⟩,
  ⟨(some 16), .bin .neq (.t 15) (.c (.i .i64 0)), none, true⟩]
abbrev i24r3 : List IOper := [
  ⟨(some 17), .build [.i .i64 0, .i .i64 0, .i .i64 0, .i .i64 0, .i .i64 0, .i .i64 0, .i .i64 0, .i .i64 0] [], none, false⟩,
  ⟨(some 18), .mv (.t 10), none, false⟩,
  ⟨none, .st 8 (.t 8) (.t 17), none, false⟩,
  ⟨(some 9), .mv (.t 18), none, false⟩]
abbrev i24r4 : List IOper := [
  ⟨(some 19), .mv (.t 2), none, false⟩,
  ⟨(some 20), .call (.c (.fn 32 [])) [.t 19], none, false⟩,
  ⟨(some 21), .not (.t 20), none, false⟩,
  ⟨(some 22), .mv (.t 21), none, true⟩,
  ⟨(some 23), .mv (.t 3), (some (22, false)), false⟩,
  ⟨(some 24), .call (.c (.fn 32 [])) [.t 23], (some (22, false)), false⟩,
  ⟨(some 25), .not (.t 24), (some (22, false)), false⟩,
  ⟨(some 26), .pick (.t 22) (.c (.b true)) (.t 25), none, true⟩]
abbrev i24r5 : List IOper := [
  ⟨(some 27), .build [.i .i64 0, .i .i64 0, .i .i64 0, .i .i64 0, .i .i64 0, .i .i64 0, .i .i64 0, .i .i64 0] [], none, false⟩,
  ⟨none, .st 8 (.t 8) (.t 27), none, false⟩,
  ⟨(some 9), .mv (.c (.i .i64 2)), none, false⟩]
abbrev i24r6 : List IOper := [
  ⟨(some 28), .mv (.t 2), none, false⟩,
  ⟨(some 29), .mv (.t 3), none, false⟩,
  ⟨(some 30), .mn (.t 28) [.t 29], none, false⟩,
  ⟨(some 11), .mv (.t 30), none, false⟩]
abbrev i24r7 : List IOper := [
  ⟨(some 31), .mv (.t 3), none, false⟩,
  ⟨(some 32), .bin .mul (.c (.i .i64 10)) (.t 31), none, false⟩,
  ⟨(some 33), .mv (.t 2), none, false⟩,
  ⟨(some 34), .bin .mul (.c (.i .i64 9)) (.t 33), none, false⟩,
  ⟨(some 35), .bin .lss (.t 32) (.t 34), none, true⟩]
abbrev i24r8 : List IOper := [
  ⟨(some 36), .mv (.t 3), none, false⟩,
  ⟨(some 37), .bin .mul (.c (.i .i64 95)) (.t 36), none, false⟩,
  ⟨(some 38), .bin .quo (.t 37) (.c (.i .i64 100)), none, false⟩,
  ⟨(some 11), .mv (.t 38), none, false⟩]
abbrev i24r9 : List IOper := [
  ⟨(some 39), .mv (.t 11), none, false⟩,
  ⟨(some 40), .fa 0 (.t 4), none, false⟩,
  ⟨(some 41), .ld false 1 (.t 40), none, false⟩,
  ⟨(some 42), .bin .gtr (.t 39) (.t 41), none, true⟩]
abbrev i24r10 : List IOper := [
  ⟨(some 43), .ld true 8 (.t 4), none, false⟩,
  ⟨(some 44), .mv (.t 11), none, false⟩,
  ⟨(some 45), .call (.c (.fn 36 [])) [.t 43, .t 44], none, false⟩,
  ⟨none, .st 8 (.t 4) (.t 45), none, false⟩]
abbrev i24r11 : List IOper := [
  ⟨(some 46), .fa 3 (.t 4), none, false⟩,
  ⟨none, .st 1 (.t 46) (.c (.i .i64 1)), none, false⟩]
abbrev i24r12 : List IOper := [
  ⟨(some 47), .fa 4 (.t 4), none, false⟩,
  ⟨(some 48), .ld false 1 (.t 47), none, false⟩,
  ⟨(some 49), .mv (.t 11), none, false⟩,
  ⟨(some 50), .bin .lss (.t 48) (.t 49), none, true⟩]
abbrev i24r13 : List IOper := [
  ⟨(some 51), .fa 4 (.t 4), none, false⟩,
  ⟨none, .st 1 (.t 51) (.c (.i .i64 0)), none, false⟩]
abbrev i24r14 : List IOper := [
  ⟨(some 52), .mv (.t 1), none, false⟩,
  ⟨(some 53), .fa 5 (.t 4), none, false⟩,
  ⟨none, .st 1 (.t 53) (.t 52), none, false⟩]
abbrev i24r15 : List IOper := [
  ⟨(some 54), .ld true 8 (.t 4), none, false⟩,
  ⟨none, .st 8 (.t 8) (.t 54), none, false⟩,
  ⟨(some 9), .mv (.c (.i .i64 0)), none, false⟩]
abbrev i24c : ICode := (.seq (.reg i24r0) (.seq (.seq (.reg i24r1) (.seq (.reg i24r2) (.cond (.t 16) (.seq (.reg i24r3) .ret) .skip))) (.seq (.seq (.reg i24r4) (.cond (.t 26) (.seq (.reg i24r5) .ret) .skip)) (.seq (.reg i24r6) (.seq (.seq (.reg i24r7) (.cond (.t 35) (.reg i24r8) .skip)) (.seq (.seq (.reg i24r9) (.cond (.t 42) (.seq (.reg i24r10) (.seq (.reg i24r11) (.seq (.reg i24r12) (.cond (.t 50) (.reg i24r13) .skip)))) .skip)) (.seq (.reg i24r14) (.seq (.reg i24r15) .ret))))))))
def i24 : IFn := { np := 4, N := 55, ct := [16, 26, 35, 42, 50], code := i24c, res := [.c 8 true 8, .t 9] }
theorem i24_eq : compF Tryd.prog Tryd.f24 = some i24 := by kernel_rfl
abbrev i26r0 : List IOper := [
  ⟨(some 1), .box (.t 0), none, false⟩,
  ⟨(some 2), .new [.i .i64 0, .i .i64 0, .i .i64 0, .i .i64 0, .i .i64 0, .i .i64 0, .i .i64 0, .i .i64 0], none, false⟩]
abbrev i26r1 : List IOper := [
  ⟨(some 7), .ld true 4 (.t 1), none, false⟩,
  ⟨(some 8), .call (.c (.fn 15 [])) [.t 7], none, false⟩,
  ⟨(some 9), .ext (.t 8) 0, none, false⟩,
  ⟨(some 10), .ext (.t 8) 1, none, false⟩,
  ⟨(some 11), .ext (.t 8) 2, none, false⟩,
  ⟨(some 12), .call (.c (.fn 17 [])) [.t 9, .t 10, .t 11], none, false⟩,
  ⟨(some 6), .mv (.t 12), none, false⟩,
  ⟨(some 13), .ext (.t 6) 0, none, false⟩,
  ⟨(some 14), .ext (.t 6) 1, none, false⟩,
  ⟨(some 3), .new [.i .i64 0, .i .i64 0, .i .i64 0, .i .i64 0, .i .i64 0, .i .i64 0, .i .i64 0, .i .i64 0], none, false⟩,
  ⟨none, .st 8 (.t 3) (.t 13), none, false⟩,
  ⟨(some 4), .mv (.t 14), none, false⟩]
abbrev i26r2 : List IOper := [
  ⟨(some 5), .mv (.c (.i .i64 0)), none, false⟩]
abbrev i26r3 : List IOper := [
  ⟨(some 15), .mv (.t 5), none, false⟩,
  ⟨(some 16), .fa 3 (.t 1), none, false⟩,
  ⟨(some 17), .ld false 1 (.t 16), none, false⟩,
  ⟨(some 18), .lenV (.t 17), none, false⟩,
  ⟨(some 19), .bin .lss (.t 15) (.t 18), none, false⟩,
  ⟨(some 20), .mv (.t 19), none, true⟩,
  ⟨(some 21), .mv (.t 5), (some (20, true)), false⟩,
  ⟨(some 22), .bin .lss (.t 21) (.c (.i .i64 40)), (some (20, true)), false⟩,
  ⟨(some 23), .pick (.t 20) (.t 22) (.c (.b false)), none, true⟩]
abbrev i26r4 : List (IOper × List Nat) := [
  (⟨(some 26), .ld true 8 (.t 3), none, false⟩, []),
  (⟨(some 27), .fa 3 (.t 1), none, false⟩, [0]),
  (⟨(some 28), .ld false 1 (.t 27), none, false⟩, [0]),
  (⟨(some 29), .mv (.t 5), none, false⟩, [0, 1, 2]),
  (⟨(some 30), .ixaV 5 (.t 28) (.t 29), none, false⟩, [0]),
  (⟨(some 31), .ld true 5 (.t 30), none, false⟩, [0]),
  (⟨(some 32), .call (.c (.fn 38 [])) [.t 26, .t 31], none, false⟩, []),
  (⟨none, .st 8 (.t 3) (.t 32), none, false⟩, [])]
abbrev i26r5 : List IOper := [
  ⟨(some 24), .mv (.t 5), none, false⟩,
  ⟨(some 25), .bin .add (.t 24) (.c (.i .i64 1)), none, false⟩,
  ⟨(some 5), .mv (.t 25), none, false⟩]
abbrev i26l6 : ICode := (.seq (.seq (.reg i26r3) (.cond (.t 23) .skip (.exit 0))) (.seq (.block 1 (.dreg i26r4)) (.reg i26r5)))
abbrev i26r7 : List IOper := [
  ⟨(some 33), .ld true 8 (.t 3), none, false⟩,
  ⟨none, .st 8 (.t 2) (.t 33), none, false⟩]
abbrev i26c : ICode := (.seq (.reg i26r0) (.seq (.reg i26r1) (.seq (.seq (.reg i26r2) (.block 0 (.loop i26l6))) (.seq (.reg i26r7) .ret))))
def i26 : IFn := { np := 1, N := 34, ct := [23], code := i26c, res := [.c 2 true 8] }
theorem i26_eq : compF Tryd.prog Tryd.f26 = some i26 := by kernel_rfl
abbrev i29r0 : List IOper := [
  ⟨(some 2), .box (.t 0), none, false⟩,
  ⟨(some 3), .box (.t 1), none, false⟩,
  ⟨(some 4), .new [.i .i64 0, .i .i64 0, .i .i64 0, .i .i64 0, .i .i64 0, .i .i64 0, .i .i64 0, .i .i64 0], none, false⟩]
abbrev i29r1 : List IOper := [
  ⟨(some 5), .fa 0 (.t 2), none, false⟩,
  ⟨(some 6), .ld false 1 (.t 5), none, false⟩,
  ⟨(some 7), .bin .rem (.t 6) (.c (.i .u8 8)), none, false⟩]
abbrev i29r2 : List IOper := [
  ⟨(some 12), .bin .eql (.t 7) (.c (.i .u8 0)), none, false⟩,
  ⟨(some 11), .mv (.t 12), none, true⟩]
abbrev i29r3 : List IOper := [
  ⟨(some 13), .fa 1 (.t 2), none, false⟩,
  ⟨(some 14), .ld false 1 (.t 13), none, false⟩,
  ⟨(some 15), .fa 0 (.t 3), none, false⟩,
  ⟨none, .st 1 (.t 15) (.t 14), none, false⟩]
abbrev i29r4 : List IOper := [
  ⟨(some 17), .bin .eql (.t 7) (.c (.i .u8 1)), none, false⟩,
  ⟨(some 16), .mv (.t 17), none, true⟩]
abbrev i29r5 : List IOper := [
  ⟨(some 18), .fa 1 (.t 2), none, false⟩,
  ⟨(some 19), .ld false 1 (.t 18), none, false⟩,
  ⟨(some 20), .fa 1 (.t 3), none, false⟩,
  ⟨none, .st 1 (.t 20) (.t 19), none, false⟩]
abbrev i29r6 : List IOper := [
  ⟨(some 22), .bin .eql (.t 7) (.c (.i .u8 2)), none, false⟩,
  ⟨(some 21), .mv (.t 22), none, true⟩]
abbrev i29r7 : List IOper := [
  ⟨(some 23), .fa 1 (.t 2), none, false⟩,
  ⟨(some 24), .ld false 1 (.t 23), none, false⟩,
  ⟨(some 25), .fa 2 (.t 3), none, false⟩,
  ⟨none, .st 1 (.t 25) (.t 24), none, false⟩]
abbrev i29r8 : List IOper := [
  ⟨(some 27), .bin .eql (.t 7) (.c (.i .u8 3)), none, false⟩,
  ⟨(some 26), .mv (.t 27), none, true⟩]
abbrev i29r9 : List IOper := [
  ⟨(some 28), .fa 1 (.t 2), none, false⟩,
  ⟨(some 29), .ld false 1 (.t 28), none, false⟩,
  ⟨(some 30), .fa 3 (.t 3), none, false⟩,
  ⟨none, .st 1 (.t 30) (.t 29), none, false⟩]
abbrev i29r10 : List IOper := [
  ⟨(some 32), .bin .eql (.t 7) (.c (.i .u8 4)), none, false⟩,
  ⟨(some 31), .mv (.t 32), none, true⟩]
abbrev i29r11 : List IOper := [
  ⟨(some 33), .fa 1 (.t 2), none, false⟩,
  ⟨(some 34), .ld false 1 (.t 33), none, false⟩,
  ⟨(some 35), .fa 4 (.t 3), none, false⟩,
  ⟨none, .st 1 (.t 35) (.t 34), none, false⟩]
abbrev i29r12 : List IOper := [
  ⟨(some 37), .bin .eql (.t 7) (.c (.i .u8 5)), none, false⟩,
  ⟨(some 36), .mv (.t 37), none, true⟩]
abbrev i29r13 : List IOper := [
  ⟨(some 38), .fa 1 (.t 2), none, false⟩,
  ⟨(some 39), .ld false 1 (.t 38), none, false⟩,
  ⟨(some 40), .fa 5 (.t 3), none, false⟩,
  ⟨none, .st 1 (.t 40) (.t 39), none, false⟩]
abbrev i29r14 : List IOper := [
  ⟨(some 42), .bin .eql (.t 7) (.c (.i .u8 6)), none, false⟩,
  ⟨(some 41), .mv (.t 42), none, true⟩]
abbrev i29r15 : List IOper := [
  ⟨(some 43), .fa 1 (.t 2), none, false⟩,
  ⟨(some 44), .ld false 1 (.t 43), none, false⟩,
  ⟨(some 45), .fa 6 (.t 3), none, false⟩,
  ⟨none, .st 1 (.t 45) (.t 44), none, false⟩]
abbrev i29r16 : List IOper := [
  ⟨(some 8), .fa 1 (.t 2), none, false⟩,
  ⟨(some 9), .ld false 1 (.t 8), none, false⟩,
  ⟨(some 10), .fa 7 (.t 3), none, false⟩,
  ⟨none, .st 1 (.t 10) (.t 9), none, false⟩]
abbrev i29r17 : List IOper := [
  ⟨(some 46), .ld true 8 (.t 3), none, false⟩,
  ⟨none, .st 8 (.t 4) (.t 46), none, false⟩]
abbrev i29c : ICode := (.seq (.reg i29r0) (.seq (.seq (.reg i29r1) (.block 0 (.seq (.reg i29r2) (.cond (.t 11) (.reg i29r3) (.seq (.reg i29r4) (.cond (.t 16) (.reg i29r5) (.seq (.reg i29r6) (.cond (.t 21) (.reg i29r7) (.seq (.reg i29r8) (.cond (.t 26) (.reg i29r9) (.seq (.reg i29r10) (.cond (.t 31) (.reg i29r11) (.seq (.reg i29r12) (.cond (.t 36) (.reg i29r13) (.seq (.reg i29r14) (.cond (.t 41) (.reg i29r15) (.reg i29r16))))))))))))))))) (.seq (.reg i29r17) .ret)))
def i29 : IFn := { np := 2, N := 47, ct := [11, 16, 21, 26, 31, 36, 41], code := i29c, res := [.c 4 true 8] }
theorem i29_eq : compF Tryd.prog Tryd.f29 = some i29 := by kernel_rfl
abbrev i32r0 : List IOper := [
  ⟨(some 2), .mv (.c (.b false)), none, false⟩]
abbrev i32r1 : List IOper := [
  ⟨(some 3), .mv (.t 0), none, false⟩,
  ⟨(some 4), .bin .geq (.t 3) (.c (.i .i64 1000)), none, false⟩,
  ⟨(some 5), .mv (.t 4), none, true⟩,
  ⟨(some 6), .mv (.t 0), (some (5, true)), false⟩,
  ⟨(some 7), .bin .leq (.t 6) (.c (.i .i64 100000000)), (some (5, true)), false⟩,
  ⟨(some 8), .pick (.t 5) (.t 7) (.c (.b false)), none, false⟩,
  ⟨(some 2), .mv (.t 8), none, false⟩]
abbrev i32c : ICode := (.seq (.reg i32r0) (.seq (.reg i32r1) .ret))
def i32 : IFn := { np := 1, N := 9, ct := [], code := i32c, res := [.t 2] }
theorem i32_eq : compF Tryd.prog Tryd.f32 = some i32 := by kernel_rfl
abbrev i35r0 : List IOper := [
  ⟨(some 2), .box (.t 0), none, false⟩,
  ⟨(some 4), .mv (.c (.i .i64 0)), none, false⟩]
abbrev i35r1 : List IOper := [
  ⟨(some 5), .ld true 8 (.t 2), none, false⟩,
  ⟨(some 6), .call (.c (.fn 12 [])) [.t 5], none, false⟩,
  ⟨(some 7), .not (.t 6), none, true⟩]
abbrev i35r2 : List IOper := [
  ⟨(some 4), .mv (.c (.i .i64 300)), none, false⟩]
abbrev i35r3 : List IOper := [
  ⟨(some 8), .mv (.t 1), none, false⟩,
  ⟨(some 9), .fa 5 (.t 2), none, false⟩,
  ⟨(some 10), .ld false 1 (.t 9), none, false⟩,
  ⟨(some 11), .bin .lss (.t 8) (.t 10), none, false⟩,
  ⟨(some 12), .mv (.t 11), none, true⟩,
  ⟨(some 13), .mv (.t 1), (some (12, false)), false⟩,
  ⟨(some 14), .bin .gtr (.t 13) (.c (.i .i64 1099511627776)), (some (12, false)), false⟩,
  ⟨(some 15), .pick (.t 12) (.c (.b true)) (.t 14), none, true⟩]
abbrev i35r4 : List IOper := [
  ⟨(some 4), .mv (.c (.i .i64 2)), none, false⟩]
abbrev i35r5 : List IOper := [
  ⟨(some 4), .mv (.c (.i .i64 0)), none, false⟩]
abbrev i35c : ICode := (.seq (.reg i35r0) (.seq (.seq (.reg i35r1) (.cond (.t 7) (.seq (.reg i35r2) .ret) .skip)) (.seq (.seq (.reg i35r3) (.cond (.t 15) (.seq (.reg i35r4) .ret) .skip)) (.seq (.reg i35r5) .ret))))
def i35 : IFn := { np := 2, N := 16, ct := [7, 15], code := i35c, res := [.t 4] }
theorem i35_eq : compF Tryd.prog Tryd.f35 = some i35 := by kernel_rfl
abbrev i36r0 : List IOper := [
  ⟨(some 2), .box (.t 0), none, false⟩,
  ⟨(some 4), .new [.i .i64 0, .i .i64 0, .i .i64 0, .i .i64 0, .i .i64 0, .i .i64 0, .i .i64 0, .i .i64 0], none, false⟩]
abbrev i36r1 : List IOper := [
  ⟨(some 5), .mv (.t 1), none, false⟩,
  ⟨(some 6), .fa 1 (.t 2), none, false⟩,
  ⟨(some 7), .ld false 1 (.t 6), none, false⟩,
  ⟨(some 8), .mx (.t 5) [.t 7], none, false⟩,
  ⟨(some 9), .fa 2 (.t 2), none, false⟩,
  ⟨(some 10), .ld false 1 (.t 9), none, false⟩,
  ⟨(some 11), .mn (.t 8) [.t 10], none, false⟩,
  ⟨(some 12), .fa 0 (.t 2), none, false⟩,
  ⟨none, .st 1 (.t 12) (.t 11), none, false⟩]
abbrev i36r2 : List IOper := [
  ⟨(some 13), .ld true 8 (.t 2), none, false⟩,
  ⟨none, .st 8 (.t 4) (.t 13), none, false⟩]
abbrev i36c : ICode := (.seq (.reg i36r0) (.seq (.reg i36r1) (.seq (.reg i36r2) .ret)))
def i36 : IFn := { np := 2, N := 14, ct := [], code := i36c, res := [.c 4 true 8] }
theorem i36_eq : compF Tryd.prog Tryd.f36 = some i36 := by kernel_rfl
abbrev i38r0 : List IOper := [
  ⟨(some 2), .box (.t 0), none, false⟩,
  ⟨(some 3), .box (.t 1), none, false⟩,
  ⟨(some 4), .new [.i .i64 0, .i .i64 0, .i .i64 0, .i .i64 0, .i .i64 0, .i .i64 0, .i .i64 0, .i .i64 0], none, false⟩]
abbrev i38r1 : List IOper := [
  ⟨(some 9), .fa 5 (.t 2), none, false⟩,
  ⟨(some 10), .ld false 1 (.t 9), none, false⟩,
  ⟨(some 11), .fa 2 (.t 3), none, false⟩,
  ⟨(some 12), .ld false 1 (.t 11), none, false⟩,
  ⟨(some 13), .bin .rem (.t 12) (.c (.i .u16 2000)), none, false⟩,
  ⟨(some 14), .i2i .i64 (.t 13), none, false⟩,
  ⟨(some 15), .bin .add (.t 10) (.t 14), none, false⟩,
  ⟨(some 5), .mv (.t 15), none, false⟩]
abbrev i38r2 : List (IOper × List Nat) := [
  (⟨(some 16), .fa 3 (.t 3), none, false⟩, []),
  (⟨(some 17), .ld false 1 (.t 16), none, false⟩, []),
  (⟨(some 18), .bin .rem (.t 17) (.c (.i .u32 2000000)), none, false⟩, []),
  (⟨(some 19), .i2i .i64 (.t 18), none, false⟩, []),
  (⟨(some 20), .bin .add (.c (.i .i64 1000)) (.t 19), none, false⟩, []),
  (⟨(some 21), .fa 4 (.t 3), none, false⟩, [0, 1, 2, 3, 4]),
  (⟨(some 22), .ld false 1 (.t 21), none, false⟩, [0, 1, 2, 3, 4]),
  (⟨(some 23), .bin .rem (.t 22) (.c (.i .u32 2000000)), none, false⟩, [0, 1, 2, 3, 4]),
  (⟨(some 24), .i2i .i64 (.t 23), none, false⟩, [0, 1, 2, 3, 4]),
  (⟨(some 25), .bin .add (.c (.i .i64 1000)) (.t 24), none, false⟩, [0, 1, 2, 3, 4]),
  (⟨(some 6), .mv (.t 20), none, false⟩, [5, 6, 7, 8, 9]),
  (⟨(some 7), .mv (.t 25), none, false⟩, [])]
abbrev i38r3 : List IOper := [
  ⟨(some 8), .new [.i .i64 0, .i .i64 0, .i .i64 0, .i .i64 0, .i .i64 0, .i .i64 0, .i .i64 0, .i .i64 0], none, false⟩]
abbrev i38r4 : List IOper := [
  ⟨(some 26), .fa 0 (.t 3), none, false⟩,
  ⟨(some 27), .ld false 1 (.t 26), none, false⟩,
  ⟨(some 28), .bin .rem (.t 27) (.c (.i .u8 8)), none, false⟩]
abbrev i38r5 : List IOper := [
  ⟨(some 41), .bin .eql (.t 28) (.c (.i .u8 0)), none, false⟩,
  ⟨(some 40), .mv (.t 41), none, true⟩]
abbrev i38r6 : List IOper := [
  ⟨(some 43), .ld true 8 (.t 2), none, false⟩,
  ⟨(some 44), .mv (.t 5), none, false⟩,
  ⟨(some 45), .fa 1 (.t 3), none, false⟩,
  ⟨(some 46), .ld false 1 (.t 45), none, false⟩,
  ⟨(some 47), .i2i .i64 (.t 46), none, false⟩,
  ⟨(some 48), .call (.c (.fn 22 [])) [.t 43, .t 44, .t 47], none, false⟩,
  ⟨(some 42), .mv (.t 48), none, false⟩,
  ⟨(some 49), .ext (.t 42) 0, none, false⟩,
  ⟨(some 50), .ext (.t 42) 1, none, false⟩,
  ⟨none, .st 8 (.t 8) (.t 49), none, false⟩]
abbrev i38r7 : List IOper := [
  ⟨(some 52), .bin .eql (.t 28) (.c (.i .u8 1)), none, false⟩,
  ⟨(some 51), .mv (.t 52), none, true⟩]
abbrev i38r8 : List IOper := [
  ⟨(some 54), .ld true 8 (.t 2), none, false⟩,
  ⟨(some 55), .mv (.t 5), none, false⟩,
  ⟨(some 56), .mv (.t 6), none, false⟩,
  ⟨(some 57), .mv (.t 7), none, false⟩,
  ⟨(some 58), .call (.c (.fn 24 [])) [.t 54, .t 55, .t 56, .t 57], none, false⟩,
  ⟨(some 53), .mv (.t 58), none, false⟩,
  ⟨(some 59), .ext (.t 53) 0, none, false⟩,
  ⟨(some 60), .ext (.t 53) 1, none, false⟩,
  ⟨none, .st 8 (.t 8) (.t 59), none, false⟩]
abbrev i38r9 : List IOper := [
  ⟨(some 62), .bin .eql (.t 28) (.c (.i .u8 2)), none, false⟩,
  ⟨(some 61), .mv (.t 62), none, true⟩]
abbrev i38r10 : List IOper := [
  ⟨(some 64), .ld true 8 (.t 2), none, false⟩,
  ⟨(some 65), .mv (.t 5), none, false⟩,
  ⟨(some 66), .mv (.t 6), none, false⟩,
  ⟨(some 67), .mv (.t 7), none, false⟩,
  ⟨(some 68), .mn (.t 66) [.t 67], none, false⟩,
  ⟨(some 69), .mv (.t 6), none, false⟩,
  ⟨(some 70), .mv (.t 7), none, false⟩,
  ⟨(some 71), .mx (.t 69) [.t 70], none, false⟩,
  ⟨(some 72), .call (.c (.fn 14 [])) [.t 64, .t 65, .t 68, .t 71], none, false⟩,
  ⟨(some 63), .mv (.t 72), none, false⟩,
  ⟨(some 73), .ext (.t 63) 0, none, false⟩,
  ⟨(some 74), .ext (.t 63) 1, none, false⟩,
  ⟨none, .st 8 (.t 8) (.t 73), none, false⟩]
abbrev i38r11 : List IOper := [
  ⟨(some 76), .bin .eql (.t 28) (.c (.i .u8 3)), none, false⟩,
  ⟨(some 75), .mv (.t 76), none, true⟩]
abbrev i38r12 : List IOper := [
  ⟨(some 78), .ld true 8 (.t 2), none, false⟩,
  ⟨(some 79), .mv (.t 5), none, false⟩,
  ⟨(some 80), .fa 1 (.t 3), none, false⟩,
  ⟨(some 81), .ld false 1 (.t 80), none, false⟩,
  ⟨(some 82), .bin .rem (.t 81) (.c (.i .u8 3)), none, false⟩,
  ⟨(some 83), .i2i .i64 (.t 82), none, false⟩,
  ⟨(some 84), .call (.c (.fn 20 [])) [.t 78, .t 79, .t 83, .c (.i .i64 0)], none, false⟩,
  ⟨(some 77), .mv (.t 84), none, false⟩,
  ⟨(some 85), .ext (.t 77) 0, none, false⟩,
  ⟨(some 86), .ext (.t 77) 1, none, false⟩,
  ⟨none, .st 8 (.t 8) (.t 85), none, false⟩]
abbrev i38r13 : List IOper := [
  ⟨(some 30), .ld true 8 (.t 2), none, false⟩,
  ⟨(some 31), .mv (.t 5), none, false⟩,
  ⟨(some 32), .fa 1 (.t 3), none, false⟩,
  ⟨(some 33), .ld false 1 (.t 32), none, false⟩,
  ⟨(some 34), .bin .rem (.t 33) (.c (.i .u8 3)), none, false⟩,
  ⟨(some 35), .i2i .i64 (.t 34), none, false⟩,
  ⟨(some 36), .mv (.t 6), none, false⟩,
  ⟨(some 37), .call (.c (.fn 20 [])) [.t 30, .t 31, .t 35, .t 36], none, false⟩,
  ⟨(some 29), .mv (.t 37), none, false⟩,
  ⟨(some 38), .ext (.t 29) 0, none, false⟩,
  ⟨(some 39), .ext (.t 29) 1, none, false⟩,
  ⟨none, .st 8 (.t 8) (.t 38), none, false⟩]
abbrev i38r14 : List IOper := [
  ⟨(some 87), .ld true 8 (.t 8), none, false⟩,
  ⟨none, .st 8 (.t 4) (.t 87), none, false⟩]
abbrev i38c : ICode := (.seq (.reg i38r0) (.seq (.reg i38r1) (.seq (.dreg i38r2) (.seq (.reg i38r3) (.seq (.seq (.reg i38r4) (.block 0 (.seq (.reg i38r5) (.cond (.t 40) (.reg i38r6) (.seq (.reg i38r7) (.cond (.t 51) (.reg i38r8) (.seq (.reg i38r9) (.cond (.t 61) (.reg i38r10) (.seq (.reg i38r11) (.cond (.t 75) (.reg i38r12) (.reg i38r13))))))))))) (.seq (.reg i38r14) .ret))))))
def i38 : IFn := { np := 2, N := 88, ct := [40, 51, 61, 75], code := i38c, res := [.c 4 true 8] }
theorem i38_eq : compF Tryd.prog Tryd.f38 = some i38 := by kernel_rfl
end Go.Proofs.Rate
