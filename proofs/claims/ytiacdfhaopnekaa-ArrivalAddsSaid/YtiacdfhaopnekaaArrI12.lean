/- The small language's text of the functions; printed by ShowI.lean. -/
import Derived.Test.YtiacdfhaopnekaaProg
import Derived.Test.YtiacdfhaopnekaaAbRuns
namespace Go.Proofs.Arr
open Go.Ab
abbrev i12r0 : List IOper := [
  ⟨(some 2), .box (.t 0), none, false⟩,
  ⟨(some 3), .box (.t 1), none, false⟩,
  ⟨(some 4), .new [.i .i64 0, .b false, .b false, .i .i64 0, .i .i64 0, .i .i64 0, .i .i64 0, .i .i64 0, .i .i64 0, .i .i64 0, .i .i64 0, .i .i64 0, .i .i64 0, .i .i64 0, .i .i64 0, .i .i64 0, .ns], none, false⟩]
abbrev i12r1 : List IOper := [
  ⟨(some 6), .bsl [] 0 [], none, false⟩,
  ⟨(some 7), .fa 16 (.t 3), none, false⟩,
  ⟨(some 8), .ld false 1 (.t 7), none, false⟩,
  ⟨(some 9), .app 2 16 [.i .i64 0, .i .i64 0] (.t 6) (.t 8), none, false⟩,
  ⟨(some 10), .fa 16 (.t 3), none, false⟩,
  ⟨none, .st 1 (.t 10) (.t 9), none, false⟩]
abbrev i12r2 : List IOper := [
  ⟨(some 5), .mv (.c (.i .i64 0)), none, false⟩]
abbrev i12r3 : List IOper := [
  ⟨(some 11), .fa 16 (.t 3), none, false⟩,
  ⟨(some 12), .ld false 1 (.t 11), none, false⟩,
  ⟨(some 13), .lenV (.t 12), none, false⟩,
  ⟨(some 14), .bin .gtr (.t 13) (.c (.i .i64 0)), none, true⟩]
abbrev i12r4 : List IOper := [
  ⟨(some 15), .fa 1 (.t 2), none, false⟩,
  ⟨(some 16), .ld false 1 (.t 15), none, false⟩,
  ⟨(some 17), .i2i .i64 (.t 16), none, false⟩,
  ⟨(some 18), .fa 16 (.t 3), none, false⟩,
  ⟨(some 19), .ld false 1 (.t 18), none, false⟩,
  ⟨(some 20), .lenV (.t 19), none, false⟩,
  ⟨(some 21), .bin .rem (.t 17) (.t 20), none, false⟩,
  ⟨(some 5), .mv (.t 21), none, false⟩]
abbrev i12r5 : List IOper := [
  ⟨(some 30), .fa 0 (.t 2), none, false⟩,
  ⟨(some 31), .ld false 1 (.t 30), none, false⟩,
  ⟨(some 32), .bin .rem (.t 31) (.c (.i .u8 18)), none, false⟩,
  ⟨(some 33), .bin .eql (.t 32) (.c (.i .u8 0)), none, false⟩,
  ⟨(some 29), .mv (.t 33), none, true⟩]
abbrev i12r6 : List IOper := [
  ⟨(some 34), .fa 2 (.t 2), none, false⟩,
  ⟨(some 35), .ld false 1 (.t 34), none, false⟩,
  ⟨(some 36), .fa 0 (.t 3), none, false⟩,
  ⟨none, .st 1 (.t 36) (.t 35), none, false⟩]
abbrev i12r7 : List IOper := [
  ⟨(some 38), .fa 0 (.t 2), none, false⟩,
  ⟨(some 39), .ld false 1 (.t 38), none, false⟩,
  ⟨(some 40), .bin .rem (.t 39) (.c (.i .u8 18)), none, false⟩,
  ⟨(some 41), .bin .eql (.t 40) (.c (.i .u8 1)), none, false⟩,
  ⟨(some 37), .mv (.t 41), none, true⟩]
abbrev i12r8 : List IOper := [
  ⟨(some 42), .fa 1 (.t 3), none, false⟩,
  ⟨(some 43), .ld false 1 (.t 42), none, false⟩,
  ⟨(some 44), .not (.t 43), none, false⟩,
  ⟨(some 45), .fa 1 (.t 3), none, false⟩,
  ⟨none, .st 1 (.t 45) (.t 44), none, false⟩]
abbrev i12r9 : List IOper := [
  ⟨(some 47), .fa 0 (.t 2), none, false⟩,
  ⟨(some 48), .ld false 1 (.t 47), none, false⟩,
  ⟨(some 49), .bin .rem (.t 48) (.c (.i .u8 18)), none, false⟩,
  ⟨(some 50), .bin .eql (.t 49) (.c (.i .u8 2)), none, false⟩,
  ⟨(some 46), .mv (.t 50), none, true⟩]
abbrev i12r10 : List IOper := [
  ⟨(some 51), .fa 2 (.t 3), none, false⟩,
  ⟨(some 52), .ld false 1 (.t 51), none, false⟩,
  ⟨(some 53), .not (.t 52), none, false⟩,
  ⟨(some 54), .fa 2 (.t 3), none, false⟩,
  ⟨none, .st 1 (.t 54) (.t 53), none, false⟩]
abbrev i12r11 : List IOper := [
  ⟨(some 56), .fa 0 (.t 2), none, false⟩,
  ⟨(some 57), .ld false 1 (.t 56), none, false⟩,
  ⟨(some 58), .bin .rem (.t 57) (.c (.i .u8 18)), none, false⟩,
  ⟨(some 59), .bin .eql (.t 58) (.c (.i .u8 3)), none, false⟩,
  ⟨(some 55), .mv (.t 59), none, true⟩]
abbrev i12r12 : List IOper := [
  ⟨(some 60), .fa 2 (.t 2), none, false⟩,
  ⟨(some 61), .ld false 1 (.t 60), none, false⟩,
  ⟨(some 62), .fa 3 (.t 3), none, false⟩,
  ⟨none, .st 1 (.t 62) (.t 61), none, false⟩]
abbrev i12r13 : List IOper := [
  ⟨(some 64), .fa 0 (.t 2), none, false⟩,
  ⟨(some 65), .ld false 1 (.t 64), none, false⟩,
  ⟨(some 66), .bin .rem (.t 65) (.c (.i .u8 18)), none, false⟩,
  ⟨(some 67), .bin .eql (.t 66) (.c (.i .u8 4)), none, false⟩,
  ⟨(some 63), .mv (.t 67), none, true⟩]
abbrev i12r14 : List IOper := [
  ⟨(some 68), .fa 2 (.t 2), none, false⟩,
  ⟨(some 69), .ld false 1 (.t 68), none, false⟩,
  ⟨(some 70), .fa 4 (.t 3), none, false⟩,
  ⟨none, .st 1 (.t 70) (.t 69), none, false⟩]
abbrev i12r15 : List IOper := [
  ⟨(some 72), .fa 0 (.t 2), none, false⟩,
  ⟨(some 73), .ld false 1 (.t 72), none, false⟩,
  ⟨(some 74), .bin .rem (.t 73) (.c (.i .u8 18)), none, false⟩,
  ⟨(some 75), .bin .eql (.t 74) (.c (.i .u8 5)), none, false⟩,
  ⟨(some 71), .mv (.t 75), none, true⟩]
abbrev i12r16 : List IOper := [
  ⟨(some 76), .fa 2 (.t 2), none, false⟩,
  ⟨(some 77), .ld false 1 (.t 76), none, false⟩,
  ⟨(some 78), .fa 5 (.t 3), none, false⟩,
  ⟨none, .st 1 (.t 78) (.t 77), none, false⟩]
abbrev i12r17 : List IOper := [
  ⟨(some 80), .fa 0 (.t 2), none, false⟩,
  ⟨(some 81), .ld false 1 (.t 80), none, false⟩,
  ⟨(some 82), .bin .rem (.t 81) (.c (.i .u8 18)), none, false⟩,
  ⟨(some 83), .bin .eql (.t 82) (.c (.i .u8 6)), none, false⟩,
  ⟨(some 79), .mv (.t 83), none, true⟩]
abbrev i12r18 : List IOper := [
  ⟨(some 84), .fa 2 (.t 2), none, false⟩,
  ⟨(some 85), .ld false 1 (.t 84), none, false⟩,
  ⟨(some 86), .fa 6 (.t 3), none, false⟩,
  ⟨none, .st 1 (.t 86) (.t 85), none, false⟩]
abbrev i12r19 : List IOper := [
  ⟨(some 88), .fa 0 (.t 2), none, false⟩,
  ⟨(some 89), .ld false 1 (.t 88), none, false⟩,
  ⟨(some 90), .bin .rem (.t 89) (.c (.i .u8 18)), none, false⟩,
  ⟨(some 91), .bin .eql (.t 90) (.c (.i .u8 7)), none, false⟩,
  ⟨(some 87), .mv (.t 91), none, true⟩]
abbrev i12r20 : List IOper := [
  ⟨(some 92), .fa 2 (.t 2), none, false⟩,
  ⟨(some 93), .ld false 1 (.t 92), none, false⟩,
  ⟨(some 94), .fa 7 (.t 3), none, false⟩,
  ⟨none, .st 1 (.t 94) (.t 93), none, false⟩]
abbrev i12r21 : List IOper := [
  ⟨(some 96), .fa 0 (.t 2), none, false⟩,
  ⟨(some 97), .ld false 1 (.t 96), none, false⟩,
  ⟨(some 98), .bin .rem (.t 97) (.c (.i .u8 18)), none, false⟩,
  ⟨(some 99), .bin .eql (.t 98) (.c (.i .u8 8)), none, false⟩,
  ⟨(some 95), .mv (.t 99), none, true⟩]
abbrev i12r22 : List IOper := [
  ⟨(some 100), .fa 2 (.t 2), none, false⟩,
  ⟨(some 101), .ld false 1 (.t 100), none, false⟩,
  ⟨(some 102), .fa 8 (.t 3), none, false⟩,
  ⟨none, .st 1 (.t 102) (.t 101), none, false⟩]
abbrev i12r23 : List IOper := [
  ⟨(some 104), .fa 0 (.t 2), none, false⟩,
  ⟨(some 105), .ld false 1 (.t 104), none, false⟩,
  ⟨(some 106), .bin .rem (.t 105) (.c (.i .u8 18)), none, false⟩,
  ⟨(some 107), .bin .eql (.t 106) (.c (.i .u8 9)), none, false⟩,
  ⟨(some 103), .mv (.t 107), none, true⟩]
abbrev i12r24 : List IOper := [
  ⟨(some 108), .fa 2 (.t 2), none, false⟩,
  ⟨(some 109), .ld false 1 (.t 108), none, false⟩,
  ⟨(some 110), .fa 9 (.t 3), none, false⟩,
  ⟨none, .st 1 (.t 110) (.t 109), none, false⟩]
abbrev i12r25 : List IOper := [
  ⟨(some 112), .fa 0 (.t 2), none, false⟩,
  ⟨(some 113), .ld false 1 (.t 112), none, false⟩,
  ⟨(some 114), .bin .rem (.t 113) (.c (.i .u8 18)), none, false⟩,
  ⟨(some 115), .bin .eql (.t 114) (.c (.i .u8 10)), none, false⟩,
  ⟨(some 111), .mv (.t 115), none, true⟩]
abbrev i12r26 : List IOper := [
  ⟨(some 116), .fa 2 (.t 2), none, false⟩,
  ⟨(some 117), .ld false 1 (.t 116), none, false⟩,
  ⟨(some 118), .fa 10 (.t 3), none, false⟩,
  ⟨none, .st 1 (.t 118) (.t 117), none, false⟩]
abbrev i12r27 : List IOper := [
  ⟨(some 120), .fa 0 (.t 2), none, false⟩,
  ⟨(some 121), .ld false 1 (.t 120), none, false⟩,
  ⟨(some 122), .bin .rem (.t 121) (.c (.i .u8 18)), none, false⟩,
  ⟨(some 123), .bin .eql (.t 122) (.c (.i .u8 11)), none, false⟩,
  ⟨(some 119), .mv (.t 123), none, true⟩]
abbrev i12r28 : List IOper := [
  ⟨(some 124), .fa 2 (.t 2), none, false⟩,
  ⟨(some 125), .ld false 1 (.t 124), none, false⟩,
  ⟨(some 126), .fa 11 (.t 3), none, false⟩,
  ⟨none, .st 1 (.t 126) (.t 125), none, false⟩]
abbrev i12r29 : List IOper := [
  ⟨(some 128), .fa 0 (.t 2), none, false⟩,
  ⟨(some 129), .ld false 1 (.t 128), none, false⟩,
  ⟨(some 130), .bin .rem (.t 129) (.c (.i .u8 18)), none, false⟩,
  ⟨(some 131), .bin .eql (.t 130) (.c (.i .u8 12)), none, false⟩,
  ⟨(some 127), .mv (.t 131), none, true⟩]
abbrev i12r30 : List IOper := [
  ⟨(some 132), .fa 2 (.t 2), none, false⟩,
  ⟨(some 133), .ld false 1 (.t 132), none, false⟩,
  ⟨(some 134), .fa 12 (.t 3), none, false⟩,
  ⟨none, .st 1 (.t 134) (.t 133), none, false⟩]
abbrev i12r31 : List IOper := [
  ⟨(some 136), .fa 0 (.t 2), none, false⟩,
  ⟨(some 137), .ld false 1 (.t 136), none, false⟩,
  ⟨(some 138), .bin .rem (.t 137) (.c (.i .u8 18)), none, false⟩,
  ⟨(some 139), .bin .eql (.t 138) (.c (.i .u8 13)), none, false⟩,
  ⟨(some 135), .mv (.t 139), none, true⟩]
abbrev i12r32 : List IOper := [
  ⟨(some 140), .fa 2 (.t 2), none, false⟩,
  ⟨(some 141), .ld false 1 (.t 140), none, false⟩,
  ⟨(some 142), .fa 13 (.t 3), none, false⟩,
  ⟨none, .st 1 (.t 142) (.t 141), none, false⟩]
abbrev i12r33 : List IOper := [
  ⟨(some 144), .fa 0 (.t 2), none, false⟩,
  ⟨(some 145), .ld false 1 (.t 144), none, false⟩,
  ⟨(some 146), .bin .rem (.t 145) (.c (.i .u8 18)), none, false⟩,
  ⟨(some 147), .bin .eql (.t 146) (.c (.i .u8 14)), none, false⟩,
  ⟨(some 143), .mv (.t 147), none, true⟩]
abbrev i12r34 : List IOper := [
  ⟨(some 148), .fa 2 (.t 2), none, false⟩,
  ⟨(some 149), .ld false 1 (.t 148), none, false⟩,
  ⟨(some 150), .fa 14 (.t 3), none, false⟩,
  ⟨none, .st 1 (.t 150) (.t 149), none, false⟩]
abbrev i12r35 : List IOper := [
  ⟨(some 152), .fa 0 (.t 2), none, false⟩,
  ⟨(some 153), .ld false 1 (.t 152), none, false⟩,
  ⟨(some 154), .bin .rem (.t 153) (.c (.i .u8 18)), none, false⟩,
  ⟨(some 155), .bin .eql (.t 154) (.c (.i .u8 15)), none, false⟩,
  ⟨(some 151), .mv (.t 155), none, true⟩]
abbrev i12r36 : List IOper := [
  ⟨(some 156), .fa 2 (.t 2), none, false⟩,
  ⟨(some 157), .ld false 1 (.t 156), none, false⟩,
  ⟨(some 158), .fa 15 (.t 3), none, false⟩,
  ⟨none, .st 1 (.t 158) (.t 157), none, false⟩]
abbrev i12r37 : List IOper := [
  ⟨(some 160), .fa 16 (.t 3), none, false⟩,
  ⟨(some 161), .ld false 1 (.t 160), none, false⟩,
  ⟨(some 162), .lenV (.t 161), none, false⟩,
  ⟨(some 163), .bin .eql (.t 162) (.c (.i .i64 0)), none, false⟩,
  ⟨(some 159), .mv (.t 163), none, true⟩]
abbrev i12r38 : List IOper := [
  ⟨(some 165), .fa 0 (.t 2), none, false⟩,
  ⟨(some 166), .ld false 1 (.t 165), none, false⟩,
  ⟨(some 167), .bin .rem (.t 166) (.c (.i .u8 18)), none, false⟩,
  ⟨(some 168), .bin .eql (.t 167) (.c (.i .u8 16)), none, false⟩,
  ⟨(some 164), .mv (.t 168), none, true⟩]
abbrev i12r39 : List IOper := [
  ⟨(some 169), .fa 16 (.t 3), none, false⟩,
  ⟨(some 170), .ld false 1 (.t 169), none, false⟩,
  ⟨(some 171), .mv (.t 5), none, false⟩,
  ⟨(some 172), .fa 2 (.t 2), none, false⟩,
  ⟨(some 173), .ld false 1 (.t 172), none, false⟩,
  ⟨(some 174), .ixaV 2 (.t 170) (.t 171), none, false⟩,
  ⟨(some 175), .fa 0 (.t 174), none, false⟩,
  ⟨none, .st 1 (.t 175) (.t 173), none, false⟩]
abbrev i12r40 : List IOper := [
  ⟨(some 22), .fa 16 (.t 3), none, false⟩,
  ⟨(some 23), .ld false 1 (.t 22), none, false⟩,
  ⟨(some 24), .mv (.t 5), none, false⟩,
  ⟨(some 25), .fa 2 (.t 2), none, false⟩,
  ⟨(some 26), .ld false 1 (.t 25), none, false⟩,
  ⟨(some 27), .ixaV 2 (.t 23) (.t 24), none, false⟩,
  ⟨(some 28), .fa 1 (.t 27), none, false⟩,
  ⟨none, .st 1 (.t 28) (.t 26), none, false⟩]
abbrev i12r41 : List IOper := [
  ⟨(some 176), .ld true 17 (.t 3), none, false⟩,
  ⟨none, .st 17 (.t 4) (.t 176), none, false⟩]
abbrev i12c : ICode := (.seq (.reg i12r0) (.seq (.reg i12r1) (.seq (.reg i12r2) (.seq (.seq (.reg i12r3) (.cond (.t 14) (.reg i12r4) .skip)) (.seq (.block 0 (.seq (.reg i12r5) (.cond (.t 29) (.reg i12r6) (.seq (.reg i12r7) (.cond (.t 37) (.reg i12r8) (.seq (.reg i12r9) (.cond (.t 46) (.reg i12r10) (.seq (.reg i12r11) (.cond (.t 55) (.reg i12r12) (.seq (.reg i12r13) (.cond (.t 63) (.reg i12r14) (.seq (.reg i12r15) (.cond (.t 71) (.reg i12r16) (.seq (.reg i12r17) (.cond (.t 79) (.reg i12r18) (.seq (.reg i12r19) (.cond (.t 87) (.reg i12r20) (.seq (.reg i12r21) (.cond (.t 95) (.reg i12r22) (.seq (.reg i12r23) (.cond (.t 103) (.reg i12r24) (.seq (.reg i12r25) (.cond (.t 111) (.reg i12r26) (.seq (.reg i12r27) (.cond (.t 119) (.reg i12r28) (.seq (.reg i12r29) (.cond (.t 127) (.reg i12r30) (.seq (.reg i12r31) (.cond (.t 135) (.reg i12r32) (.seq (.reg i12r33) (.cond (.t 143) (.reg i12r34) (.seq (.reg i12r35) (.cond (.t 151) (.reg i12r36) (.seq (.reg i12r37) (.cond (.t 159) .skip (.seq (.reg i12r38) (.cond (.t 164) (.reg i12r39) (.reg i12r40)))))))))))))))))))))))))))))))))))))) (.seq (.reg i12r41) .ret))))))
def i12 : IFn := { np := 2, N := 177, ct := [14, 29, 37, 46, 55, 63, 71, 79, 87, 95, 103, 111, 119, 127, 135, 143, 151, 159, 164], code := i12c, res := [.c 4 true 17] }
theorem i12_eq : compF Try.prog Try.f12 = some i12 := by kernel_rfl
end Go.Proofs.Arr
