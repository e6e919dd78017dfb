/- The small language's text of the functions; printed by ShowI.lean. -/
import Derived.Test.YtiacdfhaopnekaaProg
import Derived.Test.YtiacdfhaopnekaaAbRuns
namespace Go.Proofs.Arr
open Go.Ab
abbrev i6r0 : List IOper := [
  ⟨(some 2), .box (.t 0), none, false⟩,
  ⟨(some 4), .mv (.c (.b false)), none, false⟩]
abbrev i6r1 : List IOper := [
  ⟨(some 13), .call (.c (.fn 20 [])) [], none, false⟩,
  ⟨(some 14), .not (.t 13), none, true⟩]
abbrev i6r2 : List IOper := [
  ⟨(some 4), .mv (.c (.b false)), none, false⟩]
abbrev i6r3 : List IOper := [
  ⟨(some 15), .call (.c (.fn 18 [])) [], none, false⟩,
  ⟨(some 5), .new [.i .i64 0, .b false, .b false, .i .i64 0, .i .i64 0, .i .i64 0, .i .i64 0, .i .i64 0, .i .i64 0, .i .i64 0, .i .i64 0, .i .i64 0, .i .i64 0, .i .i64 0, .i .i64 0, .i .i64 0, .ns], none, false⟩,
  ⟨none, .st 17 (.t 5) (.t 15), none, false⟩]
abbrev i6r4 : List IOper := [
  ⟨(some 16), .fa 0 (.t 2), none, false⟩,
  ⟨(some 17), .ld false 1 (.t 16), none, false⟩,
  ⟨(some 18), .i2i .i64 (.t 17), none, false⟩,
  ⟨(some 6), .mv (.t 18), none, false⟩]
abbrev i6r5 : List IOper := [
  ⟨(some 19), .fa 3 (.t 2), none, false⟩,
  ⟨(some 20), .ld false 1 (.t 19), none, false⟩,
  ⟨(some 21), .fa 3 (.t 2), none, false⟩,
  ⟨(some 22), .ld false 1 (.t 21), none, false⟩,
  ⟨(some 23), .lenV (.t 22), none, false⟩,
  ⟨(some 24), .mn (.t 23) [.c (.i .i64 60)], none, false⟩,
  ⟨(some 25), .slV 2 (.t 20) none (some (.t 24)) none, none, false⟩,
  ⟨(some 26), .lenV (.t 25), none, false⟩,
  ⟨(some 27), .mv (.c (.i .i64 0)), none, false⟩]
abbrev i6r6 : List IOper := [
  ⟨(some 28), .bin .lss (.t 27) (.t 26), none, true⟩]
abbrev i6r7 : List IOper := [
  ⟨(some 29), .ixaV 2 (.t 25) (.t 27), none, false⟩,
  ⟨(some 30), .ld true 2 (.t 29), none, false⟩,
  ⟨(some 8), .new [.i .i8 0, .i .u8 0], none, false⟩,
  ⟨none, .st 2 (.t 8) (.t 30), none, false⟩]
abbrev i6r8 : List IOper := [
  ⟨(some 31), .mv (.t 6), none, false⟩,
  ⟨(some 32), .fa 1 (.t 2), none, false⟩,
  ⟨(some 33), .ld false 1 (.t 32), none, false⟩,
  ⟨(some 34), .bin .rem (.t 33) (.c (.i .u8 40)), none, false⟩,
  ⟨(some 35), .i2i .i64 (.t 34), none, false⟩,
  ⟨(some 36), .fa 1 (.t 8), none, false⟩,
  ⟨(some 37), .ld false 1 (.t 36), none, false⟩,
  ⟨(some 38), .i2i .i64 (.t 37), none, false⟩,
  ⟨(some 39), .bin .add (.t 35) (.t 38), none, false⟩,
  ⟨(some 40), .bin .add (.t 31) (.t 39), none, false⟩,
  ⟨(some 6), .mv (.t 40), none, false⟩]
abbrev i6r9 : List IOper := [
  ⟨(some 42), .ld true 17 (.t 5), none, false⟩,
  ⟨(some 43), .mv (.t 6), none, false⟩,
  ⟨(some 44), .mv (.t 6), none, false⟩,
  ⟨(some 45), .mv (.t 1), none, false⟩,
  ⟨(some 46), .i2i .i64 (.t 45), none, false⟩,
  ⟨(some 47), .bin .add (.t 44) (.t 46), none, false⟩,
  ⟨(some 48), .build [.i .i64 0, .i .i64 0] [(0, 1, .t 43), (1, 1, .t 47)], none, false⟩,
  ⟨(some 49), .bsl [.i .i64 0, .i .i64 0] 1 [(0, 2, .t 48)], none, false⟩,
  ⟨(some 50), .call (.c (.fn 24 [])) [.t 42, .t 49], none, false⟩,
  ⟨(some 41), .mv (.t 50), none, false⟩,
  ⟨(some 51), .ext (.t 41) 0, none, false⟩,
  ⟨(some 52), .ext (.t 41) 1, none, false⟩,
  ⟨(some 9), .new [.i .i64 0, .b false, .b false, .i .i64 0, .i .i64 0, .i .i64 0, .i .i64 0, .i .i64 0, .i .i64 0, .i .i64 0, .i .i64 0, .i .i64 0, .i .i64 0, .i .i64 0, .i .i64 0, .i .i64 0, .ns], none, false⟩,
  ⟨none, .st 17 (.t 9) (.t 51), none, false⟩,
  ⟨(some 10), .mv (.t 52), none, false⟩]
abbrev i6r10 : List IOper := [
  ⟨(some 53), .mv (.t 10), none, false⟩,
  ⟨(some 54), .not (.t 53), none, false⟩,
  ⟨(some 55), .mv (.t 54), none, true⟩,
  ⟨(some 56), .fa 15 (.t 9), (some (55, false)), false⟩,
  ⟨(some 57), .ld false 1 (.t 56), (some (55, false)), false⟩,
  ⟨(some 58), .bin .neq (.t 57) (.c (.i .i64 0)), (some (55, false)), false⟩,
  ⟨(some 59), .pick (.t 55) (.c (.b true)) (.t 58), none, false⟩,
  ⟨(some 60), .mv (.t 59), none, true⟩,
  ⟨(some 61), .fa 9 (.t 9), (some (60, false)), false⟩,
  ⟨(some 62), .ld false 1 (.t 61), (some (60, false)), false⟩,
  ⟨(some 63), .bin .neq (.t 62) (.c (.i .i64 0)), (some (60, false)), false⟩,
  ⟨(some 64), .pick (.t 60) (.c (.b true)) (.t 63), none, false⟩,
  ⟨(some 65), .mv (.t 64), none, true⟩,
  ⟨(some 66), .fa 10 (.t 9), (some (65, false)), false⟩,
  ⟨(some 67), .ld false 1 (.t 66), (some (65, false)), false⟩,
  ⟨(some 68), .bin .neq (.t 67) (.c (.i .i64 0)), (some (65, false)), false⟩,
  ⟨(some 69), .pick (.t 65) (.c (.b true)) (.t 68), none, false⟩,
  ⟨(some 70), .mv (.t 69), none, true⟩,
  ⟨(some 71), .fa 14 (.t 9), (some (70, false)), false⟩,
  ⟨(some 72), .ld false 1 (.t 71), (some (70, false)), false⟩,
  ⟨(some 73), .bin .neq (.t 72) (.c (.i .i64 0)), (some (70, false)), false⟩,
  ⟨(some 74), .pick (.t 70) (.c (.b true)) (.t 73), none, false⟩,
  ⟨(some 75), .mv (.t 74), none, true⟩,
  ⟨(some 76), .fa 12 (.t 9), (some (75, false)), false⟩,
  ⟨(some 77), .ld false 1 (.t 76), (some (75, false)), false⟩,
  ⟨(some 78), .bin .neq (.t 77) (.c (.i .i64 0)), (some (75, false)), false⟩,
  ⟨(some 79), .pick (.t 75) (.c (.b true)) (.t 78), none, false⟩,
  ⟨(some 80), .mv (.t 79), none, true⟩,
  ⟨(some 81), .fa 11 (.t 9), (some (80, false)), false⟩,
  ⟨(some 82), .ld false 1 (.t 81), (some (80, false)), false⟩,
  ⟨(some 83), .fa 11 (.t 5), (some (80, false)), false⟩,
  ⟨(some 84), .ld false 1 (.t 83), (some (80, false)), false⟩,
  ⟨(some 85), .bin .gtr (.t 82) (.t 84), (some (80, false)), false⟩,
  ⟨(some 86), .pick (.t 80) (.c (.b true)) (.t 85), none, true⟩]
abbrev i6r11 : List IOper := [
  ⟨(some 4), .mv (.c (.b false)), none, false⟩]
abbrev i6r12 : List IOper := [
  ⟨(some 87), .ld true 17 (.t 9), none, false⟩,
  ⟨none, .st 17 (.t 5) (.t 87), none, false⟩]
abbrev i6r13 : List IOper := [
  ⟨(some 88), .bin .add (.t 27) (.c (.i .i64 1)), none, false⟩,
  ⟨(some 27), .mv (.t 88), none, false⟩]
abbrev i6l14 : ICode := (.seq (.reg i6r6) (.seq (.cond (.t 28) .skip (.exit 0)) (.seq (.block 1 (.seq (.reg i6r7) (.seq (.reg i6r8) (.seq (.reg i6r9) (.seq (.seq (.reg i6r10) (.cond (.t 86) (.seq (.reg i6r11) .ret) .skip)) (.reg i6r12)))))) (.reg i6r13))))
abbrev i6r15 : List IOper := [
  ⟨(some 89), .mv (.c (.i .i64 0)), none, false⟩]
abbrev i6r16 : List IOper := [
  ⟨(some 90), .bin .lss (.t 89) (.c (.i .i64 30)), none, true⟩]
abbrev i6r17 : List IOper := [
  ⟨(some 91), .mv (.t 6), none, false⟩,
  ⟨(some 92), .bin .add (.t 91) (.c (.i .i64 100)), none, false⟩,
  ⟨(some 6), .mv (.t 92), none, false⟩]
abbrev i6r18 : List IOper := [
  ⟨(some 94), .ld true 17 (.t 5), none, false⟩,
  ⟨(some 95), .mv (.t 6), none, false⟩,
  ⟨(some 96), .mv (.t 6), none, false⟩,
  ⟨(some 97), .mv (.t 1), none, false⟩,
  ⟨(some 98), .i2i .i64 (.t 97), none, false⟩,
  ⟨(some 99), .bin .add (.t 96) (.t 98), none, false⟩,
  ⟨(some 100), .build [.i .i64 0, .i .i64 0] [(0, 1, .t 95), (1, 1, .t 99)], none, false⟩,
  ⟨(some 101), .bsl [.i .i64 0, .i .i64 0] 1 [(0, 2, .t 100)], none, false⟩,
  ⟨(some 102), .call (.c (.fn 24 [])) [.t 94, .t 101], none, false⟩,
  ⟨(some 93), .mv (.t 102), none, false⟩,
  ⟨(some 103), .ext (.t 93) 0, none, false⟩,
  ⟨(some 104), .ext (.t 93) 1, none, false⟩,
  ⟨(some 11), .new [.i .i64 0, .b false, .b false, .i .i64 0, .i .i64 0, .i .i64 0, .i .i64 0, .i .i64 0, .i .i64 0, .i .i64 0, .i .i64 0, .i .i64 0, .i .i64 0, .i .i64 0, .i .i64 0, .i .i64 0, .ns], none, false⟩,
  ⟨none, .st 17 (.t 11) (.t 103), none, false⟩,
  ⟨(some 12), .mv (.t 104), none, false⟩]
abbrev i6r19 : List IOper := [
  ⟨(some 105), .mv (.t 12), none, false⟩,
  ⟨(some 106), .not (.t 105), none, false⟩,
  ⟨(some 107), .mv (.t 106), none, true⟩,
  ⟨(some 108), .fa 11 (.t 11), (some (107, false)), false⟩,
  ⟨(some 109), .ld false 1 (.t 108), (some (107, false)), false⟩,
  ⟨(some 110), .fa 11 (.t 5), (some (107, false)), false⟩,
  ⟨(some 111), .ld false 1 (.t 110), (some (107, false)), false⟩,
  ⟨(some 112), .bin .gtr (.t 109) (.t 111), (some (107, false)), false⟩,
  ⟨(some 113), .pick (.t 107) (.c (.b true)) (.t 112), none, false⟩,
  ⟨(some 114), .mv (.t 113), none, true⟩,
  ⟨(some 115), .fa 15 (.t 11), (some (114, false)), false⟩,
  ⟨(some 116), .ld false 1 (.t 115), (some (114, false)), false⟩,
  ⟨(some 117), .bin .neq (.t 116) (.c (.i .i64 0)), (some (114, false)), false⟩,
  ⟨(some 118), .pick (.t 114) (.c (.b true)) (.t 117), none, true⟩]
abbrev i6r20 : List IOper := [
  ⟨(some 4), .mv (.c (.b false)), none, false⟩]
abbrev i6r21 : List IOper := [
  ⟨(some 119), .ld true 17 (.t 11), none, false⟩,
  ⟨none, .st 17 (.t 5) (.t 119), none, false⟩]
abbrev i6r22 : List IOper := [
  ⟨(some 120), .bin .add (.t 89) (.c (.i .i64 1)), none, false⟩,
  ⟨(some 89), .mv (.t 120), none, false⟩]
abbrev i6l23 : ICode := (.seq (.reg i6r16) (.seq (.cond (.t 90) .skip (.exit 2)) (.seq (.block 3 (.seq (.reg i6r17) (.seq (.reg i6r18) (.seq (.seq (.reg i6r19) (.cond (.t 118) (.seq (.reg i6r20) .ret) .skip)) (.reg i6r21))))) (.reg i6r22))))
abbrev i6r24 : List IOper := [
  ⟨(some 121), .fa 11 (.t 5), none, false⟩,
  ⟨(some 122), .ld false 1 (.t 121), none, false⟩,
  ⟨(some 123), .bin .eql (.t 122) (.c (.i .i64 6144)), none, false⟩,
  ⟨(some 4), .mv (.t 123), none, false⟩]
abbrev i6c : ICode := (.seq (.reg i6r0) (.seq (.seq (.reg i6r1) (.cond (.t 14) (.seq (.reg i6r2) .ret) .skip)) (.seq (.reg i6r3) (.seq (.reg i6r4) (.seq (.seq (.reg i6r5) (.block 0 (.loop i6l14))) (.seq (.seq (.reg i6r15) (.block 2 (.loop i6l23))) (.seq (.reg i6r24) .ret)))))))
def i6 : IFn := { np := 2, N := 124, ct := [14, 28, 86, 90, 118], code := i6c, res := [.t 4] }
theorem i6_eq : compF Try.prog Try.f6 = some i6 := by kernel_rfl
end Go.Proofs.Arr
