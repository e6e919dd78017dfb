/- The small language's text of the functions; printed by ShowI.lean. -/
import Derived.Test.YtndbgcmgjnjnhaaProg
import Derived.Test.YtndbgcmgjnjnhaaAbRuns
namespace Go.Proofs.Pic
open Go.Ab
abbrev i9r0 : List IOper := [
  ⟨(some 4), .box (.t 0), none, false⟩,
  ⟨(some 5), .box (.t 1), none, false⟩,
  ⟨(some 7), .box (.t 3), none, false⟩,
  ⟨(some 8), .mv (.c (.b false)), none, false⟩]
abbrev i9r1 : List IOper := [
  ⟨(some 23), .call (.c (.fn 18 [])) [], none, false⟩,
  ⟨(some 24), .not (.t 23), none, true⟩]
abbrev i9r2 : List IOper := [
  ⟨(some 8), .mv (.c (.b false)), none, false⟩]
abbrev i9r3 : List (IOper × List Nat) := [
  (⟨(some 25), .ld true 5 (.t 4), none, false⟩, []),
  (⟨(some 26), .ld true 9 (.t 5), none, false⟩, [0]),
  (⟨(some 27), .call (.c (.fn 32 [])) [.t 26], none, false⟩, [0]),
  (⟨(some 28), .mv (.t 2), none, false⟩, [0, 1, 2]),
  (⟨(some 29), .call (.c (.fn 31 [])) [.t 25, .t 27, .t 28], none, false⟩, []),
  (⟨(some 9), .mv (.t 29), none, false⟩, [])]
abbrev i9r4 : List IOper := [
  ⟨(some 31), .mv (.t 9), none, false⟩,
  ⟨(some 32), .call (.c (.fn 33 [])) [.t 31], none, false⟩,
  ⟨(some 30), .mv (.t 32), none, false⟩,
  ⟨(some 33), .ext (.t 30) 0, none, false⟩,
  ⟨(some 34), .ext (.t 30) 1, none, false⟩,
  ⟨(some 10), .new [.i .i64 0, .b false, .b false, .b false, .b false, .i .i64 0, .i .i64 0, .i .i64 0, .i .i64 0, .s []], none, false⟩,
  ⟨none, .st 10 (.t 10) (.t 33), none, false⟩,
  ⟨(some 11), .mv (.t 34), none, false⟩]
abbrev i9r5 : List IOper := [
  ⟨(some 35), .ld true 5 (.t 4), none, false⟩,
  ⟨(some 36), .call (.c (.fn 12 [])) [.t 35], none, false⟩,
  ⟨(some 12), .new [.b false, .b false, .b false, .b false, .i .i64 0, .i .i64 0, .i .i64 0, .i .i64 0], none, false⟩,
  ⟨none, .st 8 (.t 12) (.t 36), none, false⟩]
abbrev i9r6 : List IOper := [
  ⟨(some 37), .fa 0 (.t 12), none, false⟩,
  ⟨none, .st 1 (.t 37) (.c (.b true)), none, false⟩,
  ⟨(some 38), .fa 3 (.t 12), none, false⟩,
  ⟨none, .st 1 (.t 38) (.c (.b true)), none, false⟩]
abbrev i9r7 : List IOper := [
  ⟨(some 13), .mv (.c (.s [])), none, false⟩]
abbrev i9r8 : List IOper := [
  ⟨(some 39), .mv (.t 2), none, false⟩,
  ⟨(some 40), .mv (.t 2), none, false⟩,
  ⟨(some 41), .lenV (.t 40), none, false⟩,
  ⟨(some 42), .mn (.t 41) [.c (.i .i64 8)], none, false⟩,
  ⟨(some 43), .slV 1 (.t 39) none (some (.t 42)) none, none, false⟩,
  ⟨(some 44), .lenV (.t 43), none, false⟩,
  ⟨(some 45), .mv (.c (.i .i64 0)), none, false⟩]
abbrev i9r9 : List IOper := [
  ⟨(some 46), .bin .lss (.t 45) (.t 44), none, true⟩]
abbrev i9r10 : List IOper := [
  ⟨(some 47), .ixaV 1 (.t 43) (.t 45), none, false⟩,
  ⟨(some 48), .ld false 1 (.t 47), none, false⟩,
  ⟨(some 15), .mv (.t 48), none, false⟩]
abbrev i9r11 : List IOper := [
  ⟨(some 49), .mv (.t 13), none, false⟩,
  ⟨(some 50), .mv (.t 15), none, false⟩,
  ⟨(some 51), .mv (.t 15), none, false⟩,
  ⟨(some 52), .lenS (.t 51), none, false⟩,
  ⟨(some 53), .mn (.t 52) [.c (.i .i64 20)], none, false⟩,
  ⟨(some 54), .slS (.t 50) none (some (.t 53)), none, false⟩,
  ⟨(some 55), .bin .add (.t 49) (.t 54), none, false⟩,
  ⟨(some 13), .mv (.t 55), none, false⟩]
abbrev i9r12 : List IOper := [
  ⟨(some 56), .bin .add (.t 45) (.c (.i .i64 1)), none, false⟩,
  ⟨(some 45), .mv (.t 56), none, false⟩]
abbrev i9l13 : ICode := (.seq (.reg i9r9) (.seq (.cond (.t 46) .skip (.exit 0)) (.seq (.block 1 (.seq (.reg i9r10) (.reg i9r11))) (.reg i9r12))))
abbrev i9r14 : List (IOper × List Nat) := [
  (⟨(some 57), .mv (.t 11), none, false⟩, []),
  (⟨(some 58), .bin .neq (.t 57) (.c (.i .i64 0)), none, false⟩, []),
  (⟨(some 59), .mv (.t 58), none, true⟩, []),
  (⟨(some 60), .ld true 10 (.t 10), (some (59, false)), false⟩, []),
  (⟨(some 61), .mv (.t 9), (some (59, false)), false⟩, [3]),
  (⟨(some 62), .ixaV 9 (.t 61) (.c (.i .i64 0)), (some (59, false)), false⟩, [3]),
  (⟨(some 63), .fa 3 (.t 62), (some (59, false)), false⟩, [3]),
  (⟨(some 64), .ld false 1 (.t 63), (some (59, false)), false⟩, [3]),
  (⟨(some 65), .ld true 8 (.t 12), (some (59, false)), false⟩, [3, 4, 5, 6, 7]),
  (⟨(some 66), .mv (.t 13), (some (59, false)), false⟩, [3, 4, 5, 6, 7, 8]),
  (⟨(some 67), .build [.i .i64 0, .b false, .b false, .b false, .b false, .i .i64 0, .i .i64 0, .i .i64 0, .i .i64 0, .s []] [(0, 1, .t 64), (1, 8, .t 65), (9, 1, .t 66)], (some (59, false)), false⟩, [3]),
  (⟨(some 68), .eqk true true [.i, .b, .b, .b, .b, .i, .i, .i, .i, .s] (.t 60) (.t 67), (some (59, false)), false⟩, []),
  (⟨(some 69), .pick (.t 59) (.c (.b true)) (.t 68), none, true⟩, [])]
abbrev i9r15 : List IOper := [
  ⟨(some 8), .mv (.c (.b false)), none, false⟩]
abbrev i9r16 : List (IOper × List Nat) := [
  (⟨(some 70), .ixaA 2 1 (.t 7) (.c (.i .i64 0)), none, false⟩, []),
  (⟨(some 71), .ld false 1 (.t 70), none, false⟩, []),
  (⟨(some 72), .i2i .i64 (.t 71), none, false⟩, []),
  (⟨(some 73), .mv (.t 9), none, false⟩, [0, 1, 2]),
  (⟨(some 74), .lenV (.t 73), none, false⟩, [0, 1, 2]),
  (⟨(some 75), .bin .rem (.t 72) (.t 74), none, false⟩, []),
  (⟨(some 76), .ixaA 2 1 (.t 7) (.c (.i .i64 1)), none, false⟩, [0, 1, 2, 3, 4, 5]),
  (⟨(some 77), .ld false 1 (.t 76), none, false⟩, [0, 1, 2, 3, 4, 5]),
  (⟨(some 78), .i2i .i64 (.t 77), none, false⟩, [0, 1, 2, 3, 4, 5]),
  (⟨(some 79), .mv (.t 9), none, false⟩, [0, 1, 2, 3, 4, 5, 6, 7, 8]),
  (⟨(some 80), .lenV (.t 79), none, false⟩, [0, 1, 2, 3, 4, 5, 6, 7, 8]),
  (⟨(some 81), .bin .rem (.t 78) (.t 80), none, false⟩, [0, 1, 2, 3, 4, 5]),
  (⟨(some 16), .mv (.t 75), none, false⟩, [6, 7, 8, 9, 10, 11]),
  (⟨(some 17), .mv (.t 81), none, false⟩, [])]
abbrev i9r17 : List IOper := [
  ⟨(some 18), .mv (.c (.ns)), none, false⟩]
abbrev i9r18 : List IOper := [
  ⟨(some 82), .mv (.t 9), none, false⟩,
  ⟨(some 83), .lenV (.t 82), none, false⟩,
  ⟨(some 84), .mv (.c (.i .i64 0)), none, false⟩]
abbrev i9r19 : List IOper := [
  ⟨(some 85), .bin .lss (.t 84) (.t 83), none, true⟩]
abbrev i9r20 : List IOper := [
  ⟨(some 86), .mv (.t 84), none, false⟩,
  ⟨(some 87), .ixaV 9 (.t 82) (.t 84), none, false⟩,
  ⟨(some 88), .ld true 9 (.t 87), none, false⟩,
  ⟨(some 20), .new [.b false, .i .i64 0, .i .i64 0, .i .i64 0, .i .i64 0, .ns, .ns, .i .i64 0, .s []], none, false⟩,
  ⟨(some 19), .mv (.t 86), none, false⟩,
  ⟨none, .st 9 (.t 20) (.t 88), none, false⟩]
abbrev i9r21 : List IOper := [
  ⟨(some 89), .mv (.t 19), none, false⟩,
  ⟨(some 90), .mv (.t 16), none, false⟩,
  ⟨(some 91), .bin .neq (.t 89) (.t 90), none, true⟩]
abbrev i9r22 : List IOper := [
  ⟨(some 92), .mv (.t 18), none, false⟩,
  ⟨(some 93), .ld true 9 (.t 20), none, false⟩,
  ⟨(some 94), .bsl [.b false, .i .i64 0, .i .i64 0, .i .i64 0, .i .i64 0, .ns, .ns, .i .i64 0, .s []] 1 [(0, 9, .t 93)], none, false⟩,
  ⟨(some 95), .app 9 112 [.b false, .i .i64 0, .i .i64 0, .i .i64 0, .i .i64 0, .ns, .ns, .i .i64 0, .s []] (.t 92) (.t 94), none, false⟩,
  ⟨(some 18), .mv (.t 95), none, false⟩]
abbrev i9r23 : List IOper := [
  ⟨(some 96), .bin .add (.t 84) (.c (.i .i64 1)), none, false⟩,
  ⟨(some 84), .mv (.t 96), none, false⟩]
abbrev i9l24 : ICode := (.seq (.reg i9r19) (.seq (.cond (.t 85) .skip (.exit 2)) (.seq (.block 3 (.seq (.reg i9r20) (.seq (.reg i9r21) (.cond (.t 91) (.reg i9r22) .skip)))) (.reg i9r23))))
abbrev i9r25 : List IOper := [
  ⟨(some 98), .mv (.t 18), none, false⟩,
  ⟨(some 99), .call (.c (.fn 33 [])) [.t 98], none, false⟩,
  ⟨(some 97), .mv (.t 99), none, false⟩,
  ⟨(some 100), .ext (.t 97) 0, none, false⟩,
  ⟨(some 101), .ext (.t 97) 1, none, false⟩,
  ⟨(some 21), .new [.i .i64 0, .b false, .b false, .b false, .b false, .i .i64 0, .i .i64 0, .i .i64 0, .i .i64 0, .s []], none, false⟩,
  ⟨none, .st 10 (.t 21) (.t 100), none, false⟩,
  ⟨(some 22), .mv (.t 101), none, false⟩]
abbrev i9r26 : List IOper := [
  ⟨(some 102), .ld true 10 (.t 21), none, false⟩,
  ⟨(some 103), .build [.i .i64 0, .b false, .b false, .b false, .b false, .i .i64 0, .i .i64 0, .i .i64 0, .i .i64 0, .s []] [], none, false⟩,
  ⟨(some 104), .eqk true true [.i, .b, .b, .b, .b, .i, .i, .i, .i, .s] (.t 102) (.t 103), none, false⟩,
  ⟨(some 105), .mv (.t 104), none, true⟩,
  ⟨(some 106), .mv (.t 22), (some (105, false)), false⟩,
  ⟨(some 107), .bin .neq (.t 106) (.c (.i .i64 401)), (some (105, false)), false⟩,
  ⟨(some 108), .pick (.t 105) (.c (.b true)) (.t 107), none, true⟩]
abbrev i9r27 : List IOper := [
  ⟨(some 8), .mv (.c (.b false)), none, false⟩]
abbrev i9r28 : List IOper := [
  ⟨(some 109), .mv (.t 16), none, false⟩,
  ⟨(some 110), .mv (.t 17), none, false⟩,
  ⟨(some 111), .bin .eql (.t 109) (.t 110), none, true⟩]
abbrev i9r29 : List IOper := [
  ⟨(some 8), .mv (.c (.b true)), none, false⟩]
abbrev i9r30 : List (IOper × List Nat) := [
  (⟨(some 112), .mv (.t 9), none, false⟩, []),
  (⟨(some 113), .mv (.t 16), none, false⟩, [0]),
  (⟨(some 114), .mv (.t 9), none, false⟩, [0, 1]),
  (⟨(some 115), .mv (.t 17), none, false⟩, [0, 1, 2]),
  (⟨(some 116), .mv (.t 9), none, false⟩, [0, 1, 2, 3]),
  (⟨(some 117), .mv (.t 17), none, false⟩, [0, 1, 2, 3, 4]),
  (⟨(some 118), .ixaV 9 (.t 116) (.t 117), none, false⟩, [0, 1, 2, 3]),
  (⟨(some 119), .ld true 9 (.t 118), none, false⟩, [0, 1, 2, 3]),
  (⟨(some 120), .mv (.t 9), none, false⟩, [0, 1, 2, 3, 4, 5, 6, 7]),
  (⟨(some 121), .mv (.t 16), none, false⟩, [0, 1, 2, 3, 4, 5, 6, 7, 8]),
  (⟨(some 122), .ixaV 9 (.t 120) (.t 121), none, false⟩, [0, 1, 2, 3, 4, 5, 6, 7]),
  (⟨(some 123), .ld true 9 (.t 122), none, false⟩, [0, 1, 2, 3, 4, 5, 6, 7]),
  (⟨(some 124), .ixaV 9 (.t 112) (.t 113), none, false⟩, [2, 3]),
  (⟨none, .st 9 (.t 124) (.t 119), none, false⟩, [2, 3]),
  (⟨(some 125), .ixaV 9 (.t 114) (.t 115), none, false⟩, []),
  (⟨none, .st 9 (.t 125) (.t 123), none, false⟩, [])]
abbrev i9r31 : List IOper := [
  ⟨(some 127), .mv (.t 9), none, false⟩,
  ⟨(some 128), .call (.c (.fn 33 [])) [.t 127], none, false⟩,
  ⟨(some 126), .mv (.t 128), none, false⟩,
  ⟨(some 129), .ext (.t 126) 0, none, false⟩,
  ⟨(some 130), .ext (.t 126) 1, none, false⟩,
  ⟨none, .st 10 (.t 21) (.t 129), none, false⟩,
  ⟨(some 22), .mv (.t 130), none, false⟩]
abbrev i9r32 : List IOper := [
  ⟨(some 131), .ld true 10 (.t 21), none, false⟩,
  ⟨(some 132), .build [.i .i64 0, .b false, .b false, .b false, .b false, .i .i64 0, .i .i64 0, .i .i64 0, .i .i64 0, .s []] [], none, false⟩,
  ⟨(some 133), .eqk false true [.i, .b, .b, .b, .b, .i, .i, .i, .i, .s] (.t 131) (.t 132), none, false⟩,
  ⟨(some 134), .mv (.t 133), none, true⟩,
  ⟨(some 135), .mv (.t 22), (some (134, true)), false⟩,
  ⟨(some 136), .bin .eql (.t 135) (.c (.i .i64 401)), (some (134, true)), false⟩,
  ⟨(some 137), .pick (.t 134) (.t 136) (.c (.b false)), none, false⟩,
  ⟨(some 8), .mv (.t 137), none, false⟩]
abbrev i9c : ICode := (.seq (.reg i9r0) (.seq (.seq (.reg i9r1) (.cond (.t 24) (.seq (.reg i9r2) .ret) .skip)) (.seq (.dreg i9r3) (.seq (.reg i9r4) (.seq (.reg i9r5) (.seq (.reg i9r6) (.seq (.reg i9r7) (.seq (.seq (.reg i9r8) (.block 0 (.loop i9l13))) (.seq (.seq (.dreg i9r14) (.cond (.t 69) (.seq (.reg i9r15) .ret) .skip)) (.seq (.dreg i9r16) (.seq (.reg i9r17) (.seq (.seq (.reg i9r18) (.block 2 (.loop i9l24))) (.seq (.reg i9r25) (.seq (.seq (.reg i9r26) (.cond (.t 108) (.seq (.reg i9r27) .ret) .skip)) (.seq (.seq (.reg i9r28) (.cond (.t 111) (.seq (.reg i9r29) .ret) .skip)) (.seq (.dreg i9r30) (.seq (.reg i9r31) (.seq (.reg i9r32) .ret))))))))))))))))))
def i9 : IFn := { np := 4, N := 138, ct := [24, 46, 69, 85, 91, 108, 111], code := i9c, res := [.t 8] }
theorem i9_eq : compF Try.prog Try.f9 = some i9 := by kernel_rfl
abbrev i31r0 : List IOper := [
  ⟨(some 3), .box (.t 0), none, false⟩,
  ⟨(some 4), .box (.t 1), none, false⟩,
  ⟨(some 6), .mv (.c (.ns)), none, false⟩]
abbrev i31r1 : List IOper := [
  ⟨(some 11), .mv (.t 2), none, false⟩,
  ⟨(some 12), .mv (.t 2), none, false⟩,
  ⟨(some 13), .lenV (.t 12), none, false⟩,
  ⟨(some 14), .mn (.t 13) [.c (.i .i64 8)], none, false⟩,
  ⟨(some 15), .slV 1 (.t 11) none (some (.t 14)) none, none, false⟩,
  ⟨(some 2), .mv (.t 15), none, false⟩]
abbrev i31r2 : List IOper := [
  ⟨(some 16), .mv (.t 2), none, false⟩,
  ⟨(some 17), .lenV (.t 16), none, false⟩,
  ⟨(some 18), .bin .eql (.t 17) (.c (.i .i64 0)), none, true⟩]
abbrev i31r3 : List IOper := [
  ⟨(some 19), .bsl [.s []] 1 [(0, 1, .c (.s []))], none, false⟩,
  ⟨(some 2), .mv (.t 19), none, false⟩]
abbrev i31r4 : List IOper := [
  ⟨(some 7), .mv (.c (.ns)), none, false⟩]
abbrev i31r5 : List IOper := [
  ⟨(some 8), .mv (.c (.i .i64 0)), none, false⟩]
abbrev i31r6 : List IOper := [
  ⟨(some 20), .mv (.t 8), none, false⟩,
  ⟨(some 21), .mv (.t 2), none, false⟩,
  ⟨(some 22), .lenV (.t 21), none, false⟩,
  ⟨(some 23), .bin .lss (.t 20) (.t 22), none, true⟩]
abbrev i31r7 : List IOper := [
  ⟨(some 26), .ld true 5 (.t 3), none, false⟩,
  ⟨(some 27), .call (.c (.fn 12 [])) [.t 26], none, false⟩,
  ⟨(some 9), .new [.b false, .b false, .b false, .b false, .i .i64 0, .i .i64 0, .i .i64 0, .i .i64 0], none, false⟩,
  ⟨none, .st 8 (.t 9) (.t 27), none, false⟩]
abbrev i31r8 : List IOper := [
  ⟨(some 28), .mv (.t 8), none, false⟩,
  ⟨(some 29), .bin .eql (.t 28) (.c (.i .i64 0)), none, false⟩,
  ⟨(some 30), .fa 0 (.t 9), none, false⟩,
  ⟨none, .st 1 (.t 30) (.t 29), none, false⟩]
abbrev i31r9 : List IOper := [
  ⟨(some 31), .mv (.t 8), none, false⟩,
  ⟨(some 32), .mv (.t 2), none, false⟩,
  ⟨(some 33), .lenV (.t 32), none, false⟩,
  ⟨(some 34), .bin .sub (.t 33) (.c (.i .i64 1)), none, false⟩,
  ⟨(some 35), .bin .eql (.t 31) (.t 34), none, false⟩,
  ⟨(some 36), .fa 3 (.t 9), none, false⟩,
  ⟨none, .st 1 (.t 36) (.t 35), none, false⟩]
abbrev i31r10 : List IOper := [
  ⟨(some 37), .ld true 9 (.t 4), none, false⟩,
  ⟨(some 10), .new [.b false, .i .i64 0, .i .i64 0, .i .i64 0, .i .i64 0, .ns, .ns, .i .i64 0, .s []], none, false⟩,
  ⟨none, .st 9 (.t 10) (.t 37), none, false⟩]
abbrev i31r11 : List IOper := [
  ⟨(some 38), .fa 2 (.t 4), none, false⟩,
  ⟨(some 39), .ld false 1 (.t 38), none, false⟩,
  ⟨(some 40), .mv (.t 8), none, false⟩,
  ⟨(some 41), .bin .add (.t 39) (.t 40), none, false⟩,
  ⟨(some 42), .bin .rem (.t 41) (.c (.i .i64 65536)), none, false⟩,
  ⟨(some 43), .fa 2 (.t 10), none, false⟩,
  ⟨none, .st 1 (.t 43) (.t 42), none, false⟩]
abbrev i31r12 : List IOper := [
  ⟨(some 44), .fa 3 (.t 9), none, false⟩,
  ⟨(some 45), .ld false 1 (.t 44), none, false⟩,
  ⟨(some 46), .fa 0 (.t 10), none, false⟩,
  ⟨none, .st 1 (.t 46) (.t 45), none, false⟩]
abbrev i31r13 : List (IOper × List Nat) := [
  (⟨(some 47), .ld true 8 (.t 9), none, false⟩, []),
  (⟨(some 48), .call (.c (.fn 17 [])) [.t 47], none, false⟩, []),
  (⟨(some 49), .mv (.t 2), none, false⟩, [0, 1]),
  (⟨(some 50), .mv (.t 8), none, false⟩, [0, 1, 2]),
  (⟨(some 51), .ixaV 1 (.t 49) (.t 50), none, false⟩, [0, 1]),
  (⟨(some 52), .ld false 1 (.t 51), none, false⟩, [0, 1]),
  (⟨(some 53), .mv (.t 2), none, false⟩, [0, 1, 2, 3, 4, 5]),
  (⟨(some 54), .mv (.t 8), none, false⟩, [0, 1, 2, 3, 4, 5, 6]),
  (⟨(some 55), .ixaV 1 (.t 53) (.t 54), none, false⟩, [0, 1, 2, 3, 4, 5]),
  (⟨(some 56), .ld false 1 (.t 55), none, false⟩, [0, 1, 2, 3, 4, 5]),
  (⟨(some 57), .lenS (.t 56), none, false⟩, [0, 1, 2, 3, 4, 5]),
  (⟨(some 58), .mn (.t 57) [.c (.i .i64 20)], none, false⟩, [0, 1, 2, 3, 4, 5]),
  (⟨(some 59), .slS (.t 52) none (some (.t 58)), none, false⟩, [0, 1]),
  (⟨(some 60), .bin .add (.t 48) (.t 59), none, false⟩, []),
  (⟨(some 61), .fa 8 (.t 10), none, false⟩, []),
  (⟨none, .st 1 (.t 61) (.t 60), none, false⟩, [])]
abbrev i31r14 : List IOper := [
  ⟨(some 62), .mv (.t 7), none, false⟩,
  ⟨(some 63), .ld true 9 (.t 10), none, false⟩,
  ⟨(some 64), .bsl [.b false, .i .i64 0, .i .i64 0, .i .i64 0, .i .i64 0, .ns, .ns, .i .i64 0, .s []] 1 [(0, 9, .t 63)], none, false⟩,
  ⟨(some 65), .app 9 112 [.b false, .i .i64 0, .i .i64 0, .i .i64 0, .i .i64 0, .ns, .ns, .i .i64 0, .s []] (.t 62) (.t 64), none, false⟩,
  ⟨(some 7), .mv (.t 65), none, false⟩]
abbrev i31r15 : List IOper := [
  ⟨(some 24), .mv (.t 8), none, false⟩,
  ⟨(some 25), .bin .add (.t 24) (.c (.i .i64 1)), none, false⟩,
  ⟨(some 8), .mv (.t 25), none, false⟩]
abbrev i31l16 : ICode := (.seq (.seq (.reg i31r6) (.cond (.t 23) .skip (.exit 0))) (.seq (.block 1 (.seq (.reg i31r7) (.seq (.reg i31r8) (.seq (.reg i31r9) (.seq (.reg i31r10) (.seq (.reg i31r11) (.seq (.reg i31r12) (.seq (.dreg i31r13) (.reg i31r14))))))))) (.reg i31r15)))
abbrev i31r17 : List IOper := [
  ⟨(some 66), .mv (.t 7), none, false⟩,
  ⟨(some 6), .mv (.t 66), none, false⟩]
abbrev i31c : ICode := (.seq (.reg i31r0) (.seq (.reg i31r1) (.seq (.seq (.reg i31r2) (.cond (.t 18) (.reg i31r3) .skip)) (.seq (.reg i31r4) (.seq (.seq (.reg i31r5) (.block 0 (.loop i31l16))) (.seq (.reg i31r17) .ret))))))
def i31 : IFn := { np := 3, N := 67, ct := [18, 23], code := i31c, res := [.t 6] }
theorem i31_eq : compF Try.prog Try.f31 = some i31 := by kernel_rfl
abbrev i32r0 : List IOper := [
  ⟨(some 1), .box (.t 0), none, false⟩,
  ⟨(some 2), .new [.b false, .i .i64 0, .i .i64 0, .i .i64 0, .i .i64 0, .ns, .ns, .i .i64 0, .s []], none, false⟩]
abbrev i32r1 : List (IOper × List Nat) := [
  (⟨(some 7), .fa 0 (.t 1), none, false⟩, []),
  (⟨(some 8), .ld false 1 (.t 7), none, false⟩, []),
  (⟨(some 9), .fa 1 (.t 1), none, false⟩, [0, 1]),
  (⟨(some 10), .ld false 1 (.t 9), none, false⟩, [0, 1]),
  (⟨(some 11), .bin .rem (.t 10) (.c (.i .u8 128)), none, false⟩, [0, 1]),
  (⟨(some 12), .i2i .i64 (.t 11), none, false⟩, [0, 1]),
  (⟨(some 13), .fa 2 (.t 1), none, false⟩, [0, 1, 2, 3, 4, 5]),
  (⟨(some 14), .ld false 1 (.t 13), none, false⟩, [0, 1, 2, 3, 4, 5]),
  (⟨(some 15), .i2i .i64 (.t 14), none, false⟩, [0, 1, 2, 3, 4, 5]),
  (⟨(some 16), .fa 3 (.t 1), none, false⟩, [0, 1, 2, 3, 4, 5, 6, 7, 8]),
  (⟨(some 17), .ld false 1 (.t 16), none, false⟩, [0, 1, 2, 3, 4, 5, 6, 7, 8]),
  (⟨(some 18), .i2i .i64 (.t 17), none, false⟩, [0, 1, 2, 3, 4, 5, 6, 7, 8]),
  (⟨(some 19), .fa 4 (.t 1), none, false⟩, [0, 1, 2, 3, 4, 5, 6, 7, 8, 9, 10, 11]),
  (⟨(some 20), .ld false 1 (.t 19), none, false⟩, [0, 1, 2, 3, 4, 5, 6, 7, 8, 9, 10, 11]),
  (⟨(some 21), .i2i .i64 (.t 20), none, false⟩, [0, 1, 2, 3, 4, 5, 6, 7, 8, 9, 10, 11]),
  (⟨(some 22), .fa 7 (.t 1), none, false⟩, [0, 1, 2, 3, 4, 5, 6, 7, 8, 9, 10, 11, 12, 13, 14]),
  (⟨(some 23), .ld false 1 (.t 22), none, false⟩, [0, 1, 2, 3, 4, 5, 6, 7, 8, 9, 10, 11, 12, 13, 14]),
  (⟨(some 24), .i2i .i64 (.t 23), none, false⟩, [0, 1, 2, 3, 4, 5, 6, 7, 8, 9, 10, 11, 12, 13, 14]),
  (⟨(some 25), .fa 8 (.t 1), none, false⟩, [0, 1, 2, 3, 4, 5, 6, 7, 8, 9, 10, 11, 12, 13, 14, 15, 16, 17]),
  (⟨(some 26), .ld false 1 (.t 25), none, false⟩, [0, 1, 2, 3, 4, 5, 6, 7, 8, 9, 10, 11, 12, 13, 14, 15, 16, 17]),
  (⟨(some 27), .fa 8 (.t 1), none, false⟩, [0, 1, 2, 3, 4, 5, 6, 7, 8, 9, 10, 11, 12, 13, 14, 15, 16, 17, 18, 19]),
  (⟨(some 28), .ld false 1 (.t 27), none, false⟩, [0, 1, 2, 3, 4, 5, 6, 7, 8, 9, 10, 11, 12, 13, 14, 15, 16, 17, 18, 19]),
  (⟨(some 29), .lenS (.t 28), none, false⟩, [0, 1, 2, 3, 4, 5, 6, 7, 8, 9, 10, 11, 12, 13, 14, 15, 16, 17, 18, 19]),
  (⟨(some 30), .mn (.t 29) [.c (.i .i64 60)], none, false⟩, [0, 1, 2, 3, 4, 5, 6, 7, 8, 9, 10, 11, 12, 13, 14, 15, 16, 17, 18, 19]),
  (⟨(some 31), .slS (.t 26) none (some (.t 30)), none, false⟩, [0, 1, 2, 3, 4, 5, 6, 7, 8, 9, 10, 11, 12, 13, 14, 15, 16, 17]),
  (⟨(some 32), .build [.b false, .i .i64 0, .i .i64 0, .i .i64 0, .i .i64 0, .ns, .ns, .i .i64 0, .s []] [(0, 1, .t 8), (1, 1, .t 12), (2, 1, .t 15), (3, 1, .t 18), (4, 1, .t 21), (7, 1, .t 24), (8, 1, .t 31)], none, false⟩, []),
  (⟨(some 3), .new [.b false, .i .i64 0, .i .i64 0, .i .i64 0, .i .i64 0, .ns, .ns, .i .i64 0, .s []], none, false⟩, [0, 1, 2, 3, 4, 5, 6, 7, 8, 9, 10, 11, 12, 13, 14, 15, 16, 17, 18, 19, 20, 21, 22, 23, 24, 25]),
  (⟨none, .st 9 (.t 3) (.t 32), none, false⟩, [])]
abbrev i32r2 : List IOper := [
  ⟨(some 4), .mv (.c (.i .i64 0)), none, false⟩]
abbrev i32r3 : List IOper := [
  ⟨(some 33), .mv (.t 4), none, false⟩,
  ⟨(some 34), .fa 5 (.t 1), none, false⟩,
  ⟨(some 35), .ld false 1 (.t 34), none, false⟩,
  ⟨(some 36), .lenV (.t 35), none, false⟩,
  ⟨(some 37), .bin .lss (.t 33) (.t 36), none, false⟩,
  ⟨(some 38), .mv (.t 37), none, true⟩,
  ⟨(some 39), .mv (.t 4), (some (38, true)), false⟩,
  ⟨(some 40), .bin .lss (.t 39) (.c (.i .i64 3)), (some (38, true)), false⟩,
  ⟨(some 41), .pick (.t 38) (.t 40) (.c (.b false)), none, true⟩]
abbrev i32r4 : List (IOper × List Nat) := [
  (⟨(some 44), .fa 5 (.t 3), none, false⟩, []),
  (⟨(some 45), .ld false 1 (.t 44), none, false⟩, []),
  (⟨(some 46), .fa 5 (.t 1), none, false⟩, [0, 1]),
  (⟨(some 47), .ld false 1 (.t 46), none, false⟩, [0, 1]),
  (⟨(some 48), .mv (.t 4), none, false⟩, [0, 1, 2, 3]),
  (⟨(some 49), .ixaV 1 (.t 47) (.t 48), none, false⟩, [0, 1]),
  (⟨(some 50), .ld false 1 (.t 49), none, false⟩, [0, 1]),
  (⟨(some 51), .i2i .i64 (.t 50), none, false⟩, [0, 1]),
  (⟨(some 52), .bsl [.i .i64 0] 1 [(0, 1, .t 51)], none, false⟩, [0, 1]),
  (⟨(some 53), .app 1 8 [.i .i64 0] (.t 45) (.t 52), none, false⟩, []),
  (⟨(some 54), .fa 5 (.t 3), none, false⟩, []),
  (⟨none, .st 1 (.t 54) (.t 53), none, false⟩, [])]
abbrev i32r5 : List IOper := [
  ⟨(some 42), .mv (.t 4), none, false⟩,
  ⟨(some 43), .bin .add (.t 42) (.c (.i .i64 1)), none, false⟩,
  ⟨(some 4), .mv (.t 43), none, false⟩]
abbrev i32l6 : ICode := (.seq (.seq (.reg i32r3) (.cond (.t 41) .skip (.exit 0))) (.seq (.block 1 (.dreg i32r4)) (.reg i32r5)))
abbrev i32r7 : List IOper := [
  ⟨(some 5), .mv (.c (.i .i64 0)), none, false⟩]
abbrev i32r8 : List IOper := [
  ⟨(some 6), .mv (.c (.i .i64 0)), none, false⟩]
abbrev i32r9 : List IOper := [
  ⟨(some 55), .mv (.t 6), none, false⟩,
  ⟨(some 56), .fa 6 (.t 1), none, false⟩,
  ⟨(some 57), .ld false 1 (.t 56), none, false⟩,
  ⟨(some 58), .lenV (.t 57), none, false⟩,
  ⟨(some 59), .bin .lss (.t 55) (.t 58), none, false⟩,
  ⟨(some 60), .mv (.t 59), none, true⟩,
  ⟨(some 61), .mv (.t 6), (some (60, true)), false⟩,
  ⟨(some 62), .bin .lss (.t 61) (.c (.i .i64 4)), (some (60, true)), false⟩,
  ⟨(some 63), .pick (.t 60) (.t 62) (.c (.b false)), none, true⟩]
abbrev i32r10 : List IOper := [
  ⟨(some 66), .mv (.t 5), none, false⟩,
  ⟨(some 67), .bin .add (.t 66) (.c (.i .i64 1)), none, false⟩,
  ⟨(some 68), .fa 6 (.t 1), none, false⟩,
  ⟨(some 69), .ld false 1 (.t 68), none, false⟩,
  ⟨(some 70), .mv (.t 6), none, false⟩,
  ⟨(some 71), .ixaV 2 (.t 69) (.t 70), none, false⟩,
  ⟨(some 72), .fa 0 (.t 71), none, false⟩,
  ⟨(some 73), .ld false 1 (.t 72), none, false⟩,
  ⟨(some 74), .bin .rem (.t 73) (.c (.i .u8 60)), none, false⟩,
  ⟨(some 75), .i2i .i64 (.t 74), none, false⟩,
  ⟨(some 76), .bin .add (.t 67) (.t 75), none, false⟩,
  ⟨(some 5), .mv (.t 76), none, false⟩]
abbrev i32r11 : List (IOper × List Nat) := [
  (⟨(some 77), .fa 6 (.t 3), none, false⟩, []),
  (⟨(some 78), .ld false 1 (.t 77), none, false⟩, []),
  (⟨(some 79), .mv (.t 5), none, false⟩, [0, 1]),
  (⟨(some 80), .fa 6 (.t 1), none, false⟩, [0, 1, 2]),
  (⟨(some 81), .ld false 1 (.t 80), none, false⟩, [0, 1, 2]),
  (⟨(some 82), .mv (.t 6), none, false⟩, [0, 1, 2, 3, 4]),
  (⟨(some 83), .ixaV 2 (.t 81) (.t 82), none, false⟩, [0, 1, 2]),
  (⟨(some 84), .fa 1 (.t 83), none, false⟩, [0, 1, 2]),
  (⟨(some 85), .ld false 1 (.t 84), none, false⟩, [0, 1, 2]),
  (⟨(some 86), .fa 6 (.t 1), none, false⟩, [0, 1, 2, 3, 4, 5, 6, 7, 8]),
  (⟨(some 87), .ld false 1 (.t 86), none, false⟩, [0, 1, 2, 3, 4, 5, 6, 7, 8]),
  (⟨(some 88), .mv (.t 6), none, false⟩, [0, 1, 2, 3, 4, 5, 6, 7, 8, 9, 10]),
  (⟨(some 89), .ixaV 2 (.t 87) (.t 88), none, false⟩, [0, 1, 2, 3, 4, 5, 6, 7, 8]),
  (⟨(some 90), .fa 1 (.t 89), none, false⟩, [0, 1, 2, 3, 4, 5, 6, 7, 8]),
  (⟨(some 91), .ld false 1 (.t 90), none, false⟩, [0, 1, 2, 3, 4, 5, 6, 7, 8]),
  (⟨(some 92), .lenS (.t 91), none, false⟩, [0, 1, 2, 3, 4, 5, 6, 7, 8]),
  (⟨(some 93), .mn (.t 92) [.c (.i .i64 20)], none, false⟩, [0, 1, 2, 3, 4, 5, 6, 7, 8]),
  (⟨(some 94), .slS (.t 85) none (some (.t 93)), none, false⟩, [0, 1, 2]),
  (⟨(some 95), .build [.i .i64 0, .s []] [(0, 1, .t 79), (1, 1, .t 94)], none, false⟩, [0, 1]),
  (⟨(some 96), .bsl [.i .i64 0, .s []] 1 [(0, 2, .t 95)], none, false⟩, [0, 1]),
  (⟨(some 97), .app 2 24 [.i .i64 0, .s []] (.t 78) (.t 96), none, false⟩, []),
  (⟨(some 98), .fa 6 (.t 3), none, false⟩, []),
  (⟨none, .st 1 (.t 98) (.t 97), none, false⟩, [])]
abbrev i32r12 : List IOper := [
  ⟨(some 64), .mv (.t 6), none, false⟩,
  ⟨(some 65), .bin .add (.t 64) (.c (.i .i64 1)), none, false⟩,
  ⟨(some 6), .mv (.t 65), none, false⟩]
abbrev i32l13 : ICode := (.seq (.seq (.reg i32r9) (.cond (.t 63) .skip (.exit 2))) (.seq (.block 3 (.seq (.reg i32r10) (.dreg i32r11))) (.reg i32r12)))
abbrev i32r14 : List IOper := [
  ⟨(some 99), .ld true 9 (.t 3), none, false⟩,
  ⟨none, .st 9 (.t 2) (.t 99), none, false⟩]
abbrev i32c : ICode := (.seq (.reg i32r0) (.seq (.dreg i32r1) (.seq (.seq (.reg i32r2) (.block 0 (.loop i32l6))) (.seq (.reg i32r7) (.seq (.seq (.reg i32r8) (.block 2 (.loop i32l13))) (.seq (.reg i32r14) .ret))))))
def i32 : IFn := { np := 1, N := 100, ct := [41, 63], code := i32c, res := [.c 2 true 9] }
theorem i32_eq : compF Try.prog Try.f32 = some i32 := by kernel_rfl
abbrev i33r0 : List IOper := [
  ⟨(some 2), .new [.i .i64 0, .b false, .b false, .b false, .b false, .i .i64 0, .i .i64 0, .i .i64 0, .i .i64 0, .s []], none, false⟩,
  ⟨(some 3), .mv (.c (.i .i64 0)), none, false⟩]
abbrev i33r1 : List IOper := [
  ⟨(some 12), .mv (.t 0), none, false⟩,
  ⟨(some 13), .call (.c (.fn 53 [])) [.t 12, .c (.fn 54 [])], none, true⟩]
abbrev i33r2 : List IOper := [
  ⟨(some 14), .build [.i .i64 0, .b false, .b false, .b false, .b false, .i .i64 0, .i .i64 0, .i .i64 0, .i .i64 0, .s []] [], none, false⟩,
  ⟨none, .st 10 (.t 2) (.t 14), none, false⟩,
  ⟨(some 3), .mv (.c (.i .i64 230)), none, false⟩]
abbrev i33r3 : List IOper := [
  ⟨(some 4), .new [.i .i64 0, .b false, .b false, .b false, .b false, .i .i64 0, .i .i64 0, .i .i64 0, .i .i64 0, .s []], none, false⟩]
abbrev i33r4 : List IOper := [
  ⟨(some 15), .mv (.t 0), none, false⟩,
  ⟨(some 16), .lenV (.t 15), none, false⟩,
  ⟨(some 17), .bin .geq (.t 16) (.c (.i .i64 1)), none, false⟩,
  ⟨(some 18), .mv (.t 17), none, true⟩,
  ⟨(some 19), .mv (.t 0), (some (18, true)), false⟩,
  ⟨(some 20), .lenV (.t 19), (some (18, true)), false⟩,
  ⟨(some 21), .bin .leq (.t 20) (.c (.i .i64 64)), (some (18, true)), false⟩,
  ⟨(some 22), .pick (.t 18) (.t 21) (.c (.b false)), none, false⟩,
  ⟨(some 5), .mv (.t 22), none, false⟩]
abbrev i33r5 : List IOper := [
  ⟨(some 23), .mv (.t 0), none, false⟩,
  ⟨(some 24), .lenV (.t 23), none, false⟩,
  ⟨(some 25), .mv (.c (.i .i64 0)), none, false⟩]
abbrev i33r6 : List IOper := [
  ⟨(some 26), .bin .lss (.t 25) (.t 24), none, true⟩]
abbrev i33r7 : List IOper := [
  ⟨(some 27), .mv (.t 25), none, false⟩,
  ⟨(some 28), .ixaV 9 (.t 23) (.t 25), none, false⟩,
  ⟨(some 29), .ld true 9 (.t 28), none, false⟩,
  ⟨(some 7), .new [.b false, .i .i64 0, .i .i64 0, .i .i64 0, .i .i64 0, .ns, .ns, .i .i64 0, .s []], none, false⟩,
  ⟨(some 6), .mv (.t 27), none, false⟩,
  ⟨none, .st 9 (.t 7) (.t 29), none, false⟩]
abbrev i33r8 : List IOper := [
  ⟨(some 31), .fa 8 (.t 7), none, false⟩,
  ⟨(some 32), .ld false 1 (.t 31), none, false⟩,
  ⟨(some 33), .call (.c (.fn 20 [])) [.t 32], none, false⟩,
  ⟨(some 30), .mv (.t 33), none, false⟩,
  ⟨(some 34), .ext (.t 30) 0, none, false⟩,
  ⟨(some 35), .ext (.t 30) 1, none, false⟩,
  ⟨(some 36), .ext (.t 30) 2, none, false⟩,
  ⟨(some 8), .new [.b false, .b false, .b false, .b false, .i .i64 0, .i .i64 0, .i .i64 0, .i .i64 0], none, false⟩,
  ⟨none, .st 8 (.t 8) (.t 34), none, false⟩,
  ⟨(some 9), .mv (.t 35), none, false⟩,
  ⟨(some 10), .mv (.t 36), none, false⟩]
abbrev i33r9 : List IOper := [
  ⟨(some 37), .mv (.t 5), none, false⟩,
  ⟨(some 38), .not (.t 37), none, false⟩,
  ⟨(some 39), .mv (.t 38), none, true⟩,
  ⟨(some 40), .mv (.t 10), (some (39, false)), false⟩,
  ⟨(some 41), .bin .neq (.t 40) (.c (.i .i64 0)), (some (39, false)), false⟩,
  ⟨(some 42), .pick (.t 39) (.c (.b true)) (.t 41), none, false⟩,
  ⟨(some 43), .mv (.t 42), none, true⟩,
  ⟨(some 44), .fa 0 (.t 8), (some (43, false)), false⟩,
  ⟨(some 45), .ld false 1 (.t 44), (some (43, false)), false⟩,
  ⟨(some 46), .mv (.t 6), (some (43, false)), false⟩,
  ⟨(some 47), .bin .eql (.t 46) (.c (.i .i64 0)), (some (43, false)), false⟩,
  ⟨(some 48), .eqk true false [.b] (.t 45) (.t 47), (some (43, false)), false⟩,
  ⟨(some 49), .pick (.t 43) (.c (.b true)) (.t 48), none, false⟩,
  ⟨(some 50), .mv (.t 49), none, true⟩,
  ⟨(some 51), .fa 3 (.t 8), (some (50, false)), false⟩,
  ⟨(some 52), .ld false 1 (.t 51), (some (50, false)), false⟩,
  ⟨(some 53), .mv (.t 6), (some (50, false)), false⟩,
  ⟨(some 54), .mv (.t 0), (some (50, false)), false⟩,
  ⟨(some 55), .lenV (.t 54), (some (50, false)), false⟩,
  ⟨(some 56), .bin .sub (.t 55) (.c (.i .i64 1)), (some (50, false)), false⟩,
  ⟨(some 57), .bin .eql (.t 53) (.t 56), (some (50, false)), false⟩,
  ⟨(some 58), .eqk true false [.b] (.t 52) (.t 57), (some (50, false)), false⟩,
  ⟨(some 59), .pick (.t 50) (.c (.b true)) (.t 58), none, true⟩]
abbrev i33r10 : List IOper := [
  ⟨(some 5), .mv (.c (.b false)), none, false⟩]
abbrev i33r11 : List IOper := [
  ⟨(some 60), .fa 0 (.t 8), none, false⟩,
  ⟨none, .st 1 (.t 60) (.c (.b true)), none, false⟩,
  ⟨(some 61), .fa 3 (.t 8), none, false⟩,
  ⟨none, .st 1 (.t 61) (.c (.b true)), none, false⟩]
abbrev i33r12 : List IOper := [
  ⟨(some 62), .mv (.t 6), none, false⟩,
  ⟨(some 63), .bin .eql (.t 62) (.c (.i .i64 0)), none, true⟩]
abbrev i33r13 : List (IOper × List Nat) := [
  (⟨(some 64), .fa 3 (.t 7), none, false⟩, []),
  (⟨(some 65), .ld false 1 (.t 64), none, false⟩, []),
  (⟨(some 66), .ld true 8 (.t 8), none, false⟩, [0, 1]),
  (⟨(some 67), .fa 0 (.t 4), none, false⟩, [2]),
  (⟨none, .st 1 (.t 67) (.t 65), none, false⟩, [2]),
  (⟨(some 68), .fa 1 (.t 4), none, false⟩, []),
  (⟨none, .st 8 (.t 68) (.t 66), none, false⟩, [])]
abbrev i33r14 : List IOper := [
  ⟨(some 69), .mv (.t 0), none, false⟩,
  ⟨(some 70), .mv (.t 6), none, false⟩,
  ⟨(some 71), .bin .sub (.t 70) (.c (.i .i64 1)), none, false⟩,
  ⟨(some 72), .ixaV 9 (.t 69) (.t 71), none, false⟩,
  ⟨(some 73), .ld true 9 (.t 72), none, false⟩,
  ⟨(some 11), .new [.b false, .i .i64 0, .i .i64 0, .i .i64 0, .i .i64 0, .ns, .ns, .i .i64 0, .s []], none, false⟩,
  ⟨none, .st 9 (.t 11) (.t 73), none, false⟩]
abbrev i33r15 : List IOper := [
  ⟨(some 74), .ld true 8 (.t 8), none, false⟩,
  ⟨(some 75), .fa 1 (.t 4), none, false⟩,
  ⟨(some 76), .ld true 8 (.t 75), none, false⟩,
  ⟨(some 77), .eqk false true [.b, .b, .b, .b, .i, .i, .i, .i] (.t 74) (.t 76), none, false⟩,
  ⟨(some 78), .mv (.t 77), none, true⟩,
  ⟨(some 79), .fa 3 (.t 7), (some (78, true)), false⟩,
  ⟨(some 80), .ld false 1 (.t 79), (some (78, true)), false⟩,
  ⟨(some 81), .fa 0 (.t 4), (some (78, true)), false⟩,
  ⟨(some 82), .ld false 1 (.t 81), (some (78, true)), false⟩,
  ⟨(some 83), .bin .eql (.t 80) (.t 82), (some (78, true)), false⟩,
  ⟨(some 84), .pick (.t 78) (.t 83) (.c (.b false)), none, false⟩,
  ⟨(some 85), .mv (.t 84), none, true⟩,
  ⟨(some 86), .fa 4 (.t 7), (some (85, true)), false⟩,
  ⟨(some 87), .ld false 1 (.t 86), (some (85, true)), false⟩,
  ⟨(some 88), .fa 4 (.t 11), (some (85, true)), false⟩,
  ⟨(some 89), .ld false 1 (.t 88), (some (85, true)), false⟩,
  ⟨(some 90), .bin .eql (.t 87) (.t 89), (some (85, true)), false⟩,
  ⟨(some 91), .pick (.t 85) (.t 90) (.c (.b false)), none, false⟩,
  ⟨(some 92), .mv (.t 91), none, true⟩,
  ⟨(some 93), .fa 1 (.t 7), (some (92, true)), false⟩,
  ⟨(some 94), .ld false 1 (.t 93), (some (92, true)), false⟩,
  ⟨(some 95), .fa 1 (.t 11), (some (92, true)), false⟩,
  ⟨(some 96), .ld false 1 (.t 95), (some (92, true)), false⟩,
  ⟨(some 97), .bin .eql (.t 94) (.t 96), (some (92, true)), false⟩,
  ⟨(some 98), .pick (.t 92) (.t 97) (.c (.b false)), none, false⟩,
  ⟨(some 99), .mv (.t 98), none, true⟩,
  ⟨(some 100), .fa 2 (.t 7), (some (99, true)), false⟩,
  ⟨(some 101), .ld false 1 (.t 100), (some (99, true)), false⟩,
  ⟨(some 102), .fa 2 (.t 11), (some (99, true)), false⟩,
  ⟨(some 103), .ld false 1 (.t 102), (some (99, true)), false⟩,
  ⟨(some 104), .bin .add (.t 103) (.c (.i .i64 1)), (some (99, true)), false⟩,
  ⟨(some 105), .bin .and (.t 104) (.c (.i .i64 65535)), (some (99, true)), false⟩,
  ⟨(some 106), .bin .eql (.t 101) (.t 105), (some (99, true)), false⟩,
  ⟨(some 107), .pick (.t 99) (.t 106) (.c (.b false)), none, false⟩,
  ⟨(some 5), .mv (.t 107), none, false⟩]
abbrev i33r16 : List IOper := [
  ⟨(some 108), .fa 9 (.t 4), none, false⟩,
  ⟨(some 109), .ld false 1 (.t 108), none, false⟩,
  ⟨(some 110), .mv (.t 9), none, false⟩,
  ⟨(some 111), .bin .add (.t 109) (.t 110), none, false⟩,
  ⟨(some 112), .fa 9 (.t 4), none, false⟩,
  ⟨none, .st 1 (.t 112) (.t 111), none, false⟩]
abbrev i33r17 : List IOper := [
  ⟨(some 113), .bin .add (.t 25) (.c (.i .i64 1)), none, false⟩,
  ⟨(some 25), .mv (.t 113), none, false⟩]
abbrev i33l18 : ICode := (.seq (.reg i33r6) (.seq (.cond (.t 26) .skip (.exit 0)) (.seq (.block 1 (.seq (.reg i33r7) (.seq (.reg i33r8) (.seq (.seq (.reg i33r9) (.cond (.t 59) (.seq (.reg i33r10) (.exit 0)) .skip)) (.seq (.reg i33r11) (.seq (.seq (.reg i33r12) (.cond (.t 63) (.dreg i33r13) (.seq (.reg i33r14) (.reg i33r15)))) (.reg i33r16))))))) (.reg i33r17))))
abbrev i33r19 : List IOper := [
  ⟨(some 114), .mv (.t 5), none, false⟩,
  ⟨(some 115), .not (.t 114), none, true⟩]
abbrev i33r20 : List IOper := [
  ⟨(some 116), .build [.i .i64 0, .b false, .b false, .b false, .b false, .i .i64 0, .i .i64 0, .i .i64 0, .i .i64 0, .s []] [], none, false⟩,
  ⟨none, .st 10 (.t 2) (.t 116), none, false⟩,
  ⟨(some 3), .mv (.c (.i .i64 401)), none, false⟩]
abbrev i33r21 : List IOper := [
  ⟨(some 117), .ld true 10 (.t 4), none, false⟩,
  ⟨none, .st 10 (.t 2) (.t 117), none, false⟩,
  ⟨(some 3), .mv (.c (.i .i64 0)), none, false⟩]
abbrev i33c : ICode := (.seq (.reg i33r0) (.scope (.seq (.seq (.reg i33r1) (.cond (.t 13) (.seq (.reg i33r2) .ret) .skip)) (.seq (.reg i33r3) (.seq (.reg i33r4) (.seq .skip (.seq (.seq (.reg i33r5) (.block 0 (.loop i33l18))) (.seq (.seq (.reg i33r19) (.cond (.t 115) (.seq (.reg i33r20) .ret) .skip)) (.seq (.reg i33r21) .ret)))))))))
def i33 : IFn := { np := 1, N := 118, ct := [13, 26, 59, 63, 115], code := i33c, res := [.c 2 true 10, .t 3] }
theorem i33_eq : compF Try.prog Try.f33 = some i33 := by kernel_rfl
abbrev i53r0 : List IOper := [
  ⟨(some 4), .mv (.c (.b false)), none, false⟩]
abbrev i53r1 : List IOper := [
  ⟨(some 5), .mv (.t 0), none, false⟩,
  ⟨(some 6), .mv (.t 1), none, false⟩,
  ⟨(some 7), .call (.c (.fn 72 [])) [.t 5, .t 6], none, false⟩,
  ⟨(some 8), .bin .geq (.t 7) (.c (.i .i64 0)), none, false⟩,
  ⟨(some 4), .mv (.t 8), none, false⟩]
abbrev i53c : ICode := (.seq (.reg i53r0) (.seq (.reg i53r1) .ret))
def i53 : IFn := { np := 2, N := 9, ct := [], code := i53c, res := [.t 4] }
theorem i53_eq : compF Try.prog Try.f53 = some i53 := by kernel_rfl
abbrev i54r0 : List IOper := [
  ⟨(some 1), .box (.t 0), none, false⟩,
  ⟨(some 2), .mv (.c (.b false)), none, false⟩]
abbrev i54r1 : List IOper := [
  ⟨(some 3), .ld true 9 (.t 1), none, false⟩,
  ⟨(some 4), .call (.c (.fn 55 [])) [.t 3], none, false⟩,
  ⟨(some 5), .bin .neq (.t 4) (.c (.i .i64 0)), none, false⟩,
  ⟨(some 2), .mv (.t 5), none, false⟩]
abbrev i54c : ICode := (.seq (.reg i54r0) (.seq (.reg i54r1) .ret))
def i54 : IFn := { np := 1, N := 6, ct := [], code := i54c, res := [.t 2] }
theorem i54_eq : compF Try.prog Try.f54 = some i54 := by kernel_rfl
abbrev i55r0 : List IOper := [
  ⟨(some 1), .box (.t 0), none, false⟩,
  ⟨(some 2), .mv (.c (.i .i64 0)), none, false⟩]
abbrev i55r1 : List IOper := [
  ⟨(some 6), .fa 1 (.t 1), none, false⟩,
  ⟨(some 7), .ld false 1 (.t 6), none, false⟩,
  ⟨(some 8), .bsl [.i .i64 0] 1 [(0, 1, .t 7)], none, false⟩,
  ⟨(some 9), .call (.c (.fn 73 [])) [.c (.i .i64 7), .t 8], none, false⟩,
  ⟨(some 10), .mv (.t 9), none, true⟩,
  ⟨(some 11), .fa 2 (.t 1), (some (10, true)), false⟩,
  ⟨(some 12), .ld false 1 (.t 11), (some (10, true)), false⟩,
  ⟨(some 13), .bsl [.i .i64 0] 1 [(0, 1, .t 12)], (some (10, true)), false⟩,
  ⟨(some 14), .call (.c (.fn 73 [])) [.c (.i .i64 16), .t 13], (some (10, true)), false⟩,
  ⟨(some 15), .pick (.t 10) (.t 14) (.c (.b false)), none, false⟩,
  ⟨(some 16), .mv (.t 15), none, true⟩,
  ⟨(some 17), .fa 3 (.t 1), (some (16, true)), false⟩,
  ⟨(some 18), .ld false 1 (.t 17), (some (16, true)), false⟩,
  ⟨(some 19), .fa 4 (.t 1), (some (16, true)), false⟩,
  ⟨(some 20), .ld false 1 (.t 19), (some (16, true)), false⟩,
  ⟨(some 21), .bsl [.i .i64 0, .i .i64 0] 2 [(0, 1, .t 18), (1, 1, .t 20)], (some (16, true)), false⟩,
  ⟨(some 22), .call (.c (.fn 73 [])) [.c (.i .i64 32), .t 21], (some (16, true)), false⟩,
  ⟨(some 23), .pick (.t 16) (.t 22) (.c (.b false)), none, false⟩,
  ⟨(some 24), .mv (.t 23), none, true⟩,
  ⟨(some 25), .fa 5 (.t 1), (some (24, true)), false⟩,
  ⟨(some 26), .ld false 1 (.t 25), (some (24, true)), false⟩,
  ⟨(some 27), .call (.c (.fn 73 [])) [.c (.i .i64 32), .t 26], (some (24, true)), false⟩,
  ⟨(some 28), .pick (.t 24) (.t 27) (.c (.b false)), none, false⟩,
  ⟨(some 29), .mv (.t 28), none, true⟩,
  ⟨(some 30), .fa 7 (.t 1), (some (29, true)), false⟩,
  ⟨(some 31), .ld false 1 (.t 30), (some (29, true)), false⟩,
  ⟨(some 32), .bsl [.i .i64 0] 1 [(0, 1, .t 31)], (some (29, true)), false⟩,
  ⟨(some 33), .call (.c (.fn 73 [])) [.c (.i .i64 8), .t 32], (some (29, true)), false⟩,
  ⟨(some 34), .pick (.t 29) (.t 33) (.c (.b false)), none, false⟩,
  ⟨(some 35), .mv (.t 34), none, true⟩,
  ⟨(some 36), .fa 5 (.t 1), (some (35, true)), false⟩,
  ⟨(some 37), .ld false 1 (.t 36), (some (35, true)), false⟩,
  ⟨(some 38), .lenV (.t 37), (some (35, true)), false⟩,
  ⟨(some 39), .bin .leq (.t 38) (.c (.i .i64 15)), (some (35, true)), false⟩,
  ⟨(some 40), .pick (.t 35) (.t 39) (.c (.b false)), none, false⟩,
  ⟨(some 41), .mv (.t 40), none, true⟩,
  ⟨(some 42), .fa 6 (.t 1), (some (41, true)), false⟩,
  ⟨(some 43), .ld false 1 (.t 42), (some (41, true)), false⟩,
  ⟨(some 44), .lenV (.t 43), (some (41, true)), false⟩,
  ⟨(some 45), .bin .leq (.t 44) (.c (.i .i64 16)), (some (41, true)), false⟩,
  ⟨(some 46), .pick (.t 41) (.t 45) (.c (.b false)), none, false⟩,
  ⟨(some 3), .mv (.t 46), none, false⟩]
abbrev i55r2 : List IOper := [
  ⟨(some 47), .fa 6 (.t 1), none, false⟩,
  ⟨(some 48), .ld false 1 (.t 47), none, false⟩,
  ⟨(some 49), .lenV (.t 48), none, false⟩,
  ⟨(some 50), .mv (.c (.i .i64 0)), none, false⟩]
abbrev i55r3 : List IOper := [
  ⟨(some 51), .bin .lss (.t 50) (.t 49), none, true⟩]
abbrev i55r4 : List IOper := [
  ⟨(some 52), .mv (.t 50), none, false⟩,
  ⟨(some 53), .ixaV 2 (.t 48) (.t 50), none, false⟩,
  ⟨(some 54), .ld true 2 (.t 53), none, false⟩,
  ⟨(some 5), .new [.i .i64 0, .s []], none, false⟩,
  ⟨(some 4), .mv (.t 52), none, false⟩,
  ⟨none, .st 2 (.t 5) (.t 54), none, false⟩]
abbrev i55r5 : List (IOper × List Nat) := [
  (⟨(some 55), .mv (.t 3), none, false⟩, []),
  (⟨(some 56), .mv (.t 55), none, true⟩, []),
  (⟨(some 57), .fa 0 (.t 5), (some (56, true)), false⟩, []),
  (⟨(some 58), .ld false 1 (.t 57), (some (56, true)), false⟩, []),
  (⟨(some 59), .fa 1 (.t 5), (some (56, true)), false⟩, [2, 3]),
  (⟨(some 60), .ld false 1 (.t 59), (some (56, true)), false⟩, [2, 3]),
  (⟨(some 61), .lenS (.t 60), (some (56, true)), false⟩, [2, 3]),
  (⟨(some 62), .bsl [.i .i64 0, .i .i64 0] 2 [(0, 1, .t 58), (1, 1, .t 61)], (some (56, true)), false⟩, []),
  (⟨(some 63), .call (.c (.fn 73 [])) [.c (.i .i64 8), .t 62], (some (56, true)), false⟩, []),
  (⟨(some 64), .pick (.t 56) (.t 63) (.c (.b false)), none, false⟩, []),
  (⟨(some 65), .mv (.t 64), none, true⟩, []),
  (⟨(some 66), .fa 0 (.t 5), (some (65, true)), false⟩, []),
  (⟨(some 67), .ld false 1 (.t 66), (some (65, true)), false⟩, []),
  (⟨(some 68), .bin .gtr (.t 67) (.c (.i .i64 0)), (some (65, true)), false⟩, []),
  (⟨(some 69), .pick (.t 65) (.t 68) (.c (.b false)), none, false⟩, []),
  (⟨(some 70), .mv (.t 69), none, true⟩, []),
  (⟨(some 71), .mv (.t 4), (some (70, true)), false⟩, []),
  (⟨(some 72), .bin .eql (.t 71) (.c (.i .i64 0)), (some (70, true)), false⟩, []),
  (⟨(some 73), .mv (.t 72), (some (70, true)), true⟩, []),
  (⟨(some 74), .fa 0 (.t 5), (some (73, false)), false⟩, []),
  (⟨(some 75), .ld false 1 (.t 74), (some (73, false)), false⟩, []),
  (⟨(some 76), .fa 6 (.t 1), (some (73, false)), false⟩, [19, 20]),
  (⟨(some 77), .ld false 1 (.t 76), (some (73, false)), false⟩, [19, 20]),
  (⟨(some 78), .mv (.t 4), (some (73, false)), false⟩, [19, 20, 21, 22]),
  (⟨(some 79), .bin .sub (.t 78) (.c (.i .i64 1)), (some (73, false)), false⟩, [19, 20, 21, 22]),
  (⟨(some 80), .ixaV 2 (.t 77) (.t 79), (some (73, false)), false⟩, [19, 20]),
  (⟨(some 81), .fa 0 (.t 80), (some (73, false)), false⟩, [19, 20]),
  (⟨(some 82), .ld false 1 (.t 81), (some (73, false)), false⟩, [19, 20]),
  (⟨(some 83), .bin .gtr (.t 75) (.t 82), (some (73, false)), false⟩, []),
  (⟨(some 84), .pick (.t 73) (.c (.b true)) (.t 83), (some (70, true)), false⟩, []),
  (⟨(some 85), .pick (.t 70) (.t 84) (.c (.b false)), none, false⟩, []),
  (⟨(some 3), .mv (.t 85), none, false⟩, [])]
abbrev i55r6 : List IOper := [
  ⟨(some 86), .bin .add (.t 50) (.c (.i .i64 1)), none, false⟩,
  ⟨(some 50), .mv (.t 86), none, false⟩]
abbrev i55l7 : ICode := (.seq (.reg i55r3) (.seq (.cond (.t 51) .skip (.exit 0)) (.seq (.block 1 (.seq (.reg i55r4) (.dreg i55r5))) (.reg i55r6))))
abbrev i55r8 : List IOper := [
  ⟨(some 87), .mv (.t 3), none, false⟩,
  ⟨(some 88), .not (.t 87), none, true⟩]
abbrev i55r9 : List IOper := [
  ⟨(some 2), .mv (.c (.i .i64 230)), none, false⟩]
abbrev i55r10 : List IOper := [
  ⟨(some 2), .mv (.c (.i .i64 0)), none, false⟩]
abbrev i55c : ICode := (.seq (.reg i55r0) (.seq (.reg i55r1) (.seq (.seq (.reg i55r2) (.block 0 (.loop i55l7))) (.seq (.seq (.reg i55r8) (.cond (.t 88) (.seq (.reg i55r9) .ret) .skip)) (.seq (.reg i55r10) .ret)))))
def i55 : IFn := { np := 1, N := 89, ct := [51, 88], code := i55c, res := [.t 2] }
theorem i55_eq : compF Try.prog Try.f55 = some i55 := by kernel_rfl
abbrev i72r0 : List IOper := [
  ⟨(some 4), .mv (.c (.i .i64 0)), none, false⟩]
abbrev i72r1 : List IOper := [
  ⟨(some 6), .mv (.t 0), none, false⟩,
  ⟨(some 7), .lenV (.t 6), none, false⟩,
  ⟨(some 8), .mv (.c (.i .i64 0)), none, false⟩]
abbrev i72r2 : List IOper := [
  ⟨(some 9), .bin .lss (.t 8) (.t 7), none, true⟩]
abbrev i72r3 : List IOper := [
  ⟨(some 10), .mv (.t 8), none, false⟩,
  ⟨(some 5), .mv (.t 10), none, false⟩]
abbrev i72r4 : List IOper := [
  ⟨(some 11), .mv (.t 1), none, false⟩,
  ⟨(some 12), .mv (.t 0), none, false⟩,
  ⟨(some 13), .mv (.t 5), none, false⟩,
  ⟨(some 14), .ixaV 9 (.t 12) (.t 13), none, false⟩,
  ⟨(some 15), .ld true 9 (.t 14), none, false⟩,
  ⟨(some 16), .call (.t 11) [.t 15], none, true⟩]
abbrev i72r5 : List IOper := [
  ⟨(some 17), .mv (.t 5), none, false⟩,
  ⟨(some 4), .mv (.t 17), none, false⟩]
abbrev i72r6 : List IOper := [
  ⟨(some 18), .bin .add (.t 8) (.c (.i .i64 1)), none, false⟩,
  ⟨(some 8), .mv (.t 18), none, false⟩]
abbrev i72l7 : ICode := (.seq (.reg i72r2) (.seq (.cond (.t 9) .skip (.exit 0)) (.seq (.block 1 (.seq (.reg i72r3) (.seq (.reg i72r4) (.cond (.t 16) (.seq (.reg i72r5) .ret) .skip)))) (.reg i72r6))))
abbrev i72r8 : List IOper := [
  ⟨(some 4), .mv (.c (.i .i64 (-1))), none, false⟩]
abbrev i72c : ICode := (.seq (.reg i72r0) (.seq (.seq (.reg i72r1) (.block 0 (.loop i72l7))) (.seq (.reg i72r8) .ret)))
def i72 : IFn := { np := 2, N := 19, ct := [9, 16], code := i72c, res := [.t 4] }
theorem i72_eq : compF Try.prog Try.f72 = some i72 := by kernel_rfl
abbrev i73r0 : List IOper := [
  ⟨(some 2), .box (.t 0), none, false⟩,
  ⟨(some 4), .mv (.c (.b false)), none, false⟩]
abbrev i73r1 : List IOper := [
  ⟨(some 5), .mv (.t 1), none, false⟩,
  ⟨(some 6), .mkf 82 [.t 2], none, false⟩,
  ⟨(some 7), .call (.c (.fn 81 [])) [.t 5, .t 6], none, false⟩,
  ⟨(some 8), .not (.t 7), none, false⟩,
  ⟨(some 4), .mv (.t 8), none, false⟩]
abbrev i73c : ICode := (.seq (.reg i73r0) (.seq (.reg i73r1) .ret))
def i73 : IFn := { np := 2, N := 9, ct := [], code := i73c, res := [.t 4] }
theorem i73_eq : compF Try.prog Try.f73 = some i73 := by kernel_rfl
abbrev i81r0 : List IOper := [
  ⟨(some 4), .mv (.c (.b false)), none, false⟩]
abbrev i81r1 : List IOper := [
  ⟨(some 5), .mv (.t 0), none, false⟩,
  ⟨(some 6), .mv (.t 1), none, false⟩,
  ⟨(some 7), .call (.c (.fn 86 [])) [.t 5, .t 6], none, false⟩,
  ⟨(some 8), .bin .geq (.t 7) (.c (.i .i64 0)), none, false⟩,
  ⟨(some 4), .mv (.t 8), none, false⟩]
abbrev i81c : ICode := (.seq (.reg i81r0) (.seq (.reg i81r1) .ret))
def i81 : IFn := { np := 2, N := 9, ct := [], code := i81c, res := [.t 4] }
theorem i81_eq : compF Try.prog Try.f81 = some i81 := by kernel_rfl
abbrev i82r0 : List IOper := [
  ⟨(some 3), .mv (.c (.b false)), none, false⟩]
abbrev i82r1 : List IOper := [
  ⟨(some 4), .mv (.t 0), none, false⟩,
  ⟨(some 5), .bin .lss (.t 4) (.c (.i .i64 0)), none, false⟩,
  ⟨(some 6), .mv (.t 5), none, true⟩,
  ⟨(some 7), .mv (.t 0), (some (6, false)), false⟩,
  ⟨(some 8), .ld false 1 (.t 1), (some (6, false)), false⟩,
  ⟨(some 9), .bin .shr (.t 7) (.t 8), (some (6, false)), false⟩,
  ⟨(some 10), .bin .neq (.t 9) (.c (.i .i64 0)), (some (6, false)), false⟩,
  ⟨(some 11), .pick (.t 6) (.c (.b true)) (.t 10), none, false⟩,
  ⟨(some 3), .mv (.t 11), none, false⟩]
abbrev i82c : ICode := (.seq (.reg i82r0) (.seq (.reg i82r1) .ret))
def i82 : IFn := { np := 2, N := 12, ct := [], code := i82c, res := [.t 3] }
theorem i82_eq : compF Try.prog Try.f82 = some i82 := by kernel_rfl
abbrev i86r0 : List IOper := [
  ⟨(some 4), .mv (.c (.i .i64 0)), none, false⟩]
abbrev i86r1 : List IOper := [
  ⟨(some 6), .mv (.t 0), none, false⟩,
  ⟨(some 7), .lenV (.t 6), none, false⟩,
  ⟨(some 8), .mv (.c (.i .i64 0)), none, false⟩]
abbrev i86r2 : List IOper := [
  ⟨(some 9), .bin .lss (.t 8) (.t 7), none, true⟩]
abbrev i86r3 : List IOper := [
  ⟨(some 10), .mv (.t 8), none, false⟩,
  ⟨(some 5), .mv (.t 10), none, false⟩]
abbrev i86r4 : List IOper := [
  ⟨(some 11), .mv (.t 1), none, false⟩,
  ⟨(some 12), .mv (.t 0), none, false⟩,
  ⟨(some 13), .mv (.t 5), none, false⟩,
  ⟨(some 14), .ixaV 1 (.t 12) (.t 13), none, false⟩,
  ⟨(some 15), .ld false 1 (.t 14), none, false⟩,
  ⟨(some 16), .call (.t 11) [.t 15], none, true⟩]
abbrev i86r5 : List IOper := [
  ⟨(some 17), .mv (.t 5), none, false⟩,
  ⟨(some 4), .mv (.t 17), none, false⟩]
abbrev i86r6 : List IOper := [
  ⟨(some 18), .bin .add (.t 8) (.c (.i .i64 1)), none, false⟩,
  ⟨(some 8), .mv (.t 18), none, false⟩]
abbrev i86l7 : ICode := (.seq (.reg i86r2) (.seq (.cond (.t 9) .skip (.exit 0)) (.seq (.block 1 (.seq (.reg i86r3) (.seq (.reg i86r4) (.cond (.t 16) (.seq (.reg i86r5) .ret) .skip)))) (.reg i86r6))))
abbrev i86r8 : List IOper := [
  ⟨(some 4), .mv (.c (.i .i64 (-1))), none, false⟩]
abbrev i86c : ICode := (.seq (.reg i86r0) (.seq (.seq (.reg i86r1) (.block 0 (.loop i86l7))) (.seq (.reg i86r8) .ret)))
def i86 : IFn := { np := 2, N := 19, ct := [9, 16], code := i86c, res := [.t 4] }
theorem i86_eq : compF Try.prog Try.f86 = some i86 := by kernel_rfl
end Go.Proofs.Pic
