/- The small language's text of the functions; printed by ShowI.lean. -/
import Derived.Test.YtiacdfhaopnekaaProg
import Derived.Test.YtiacdfhaopnekaaAbRuns
namespace Go.Proofs.Arr
open Go.Ab
abbrev i7r0 : List IOper := [
  ⟨(some 4), .mv (.c (.b false)), none, false⟩]
abbrev i7r1 : List IOper := [
  ⟨(some 15), .call (.c (.fn 20 [])) [], none, false⟩,
  ⟨(some 16), .not (.t 15), none, true⟩]
abbrev i7r2 : List IOper := [
  ⟨(some 4), .mv (.c (.b false)), none, false⟩]
abbrev i7r3 : List IOper := [
  ⟨(some 17), .mv (.t 1), none, false⟩,
  ⟨(some 18), .bin .rem (.t 17) (.c (.i .u8 10)), none, false⟩,
  ⟨(some 19), .i2i .i64 (.t 18), none, false⟩,
  ⟨(some 20), .bin .add (.c (.i .i64 5)) (.t 19), none, false⟩,
  ⟨(some 5), .mv (.t 20), none, false⟩]
abbrev i7r4 : List IOper := [
  ⟨(some 21), .call (.c (.fn 18 [])) [], none, false⟩,
  ⟨(some 22), .call (.c (.fn 18 [])) [], none, false⟩,
  ⟨(some 6), .new [.i .i64 0, .b false, .b false, .i .i64 0, .i .i64 0, .i .i64 0, .i .i64 0, .i .i64 0, .i .i64 0, .i .i64 0, .i .i64 0, .i .i64 0, .i .i64 0, .i .i64 0, .i .i64 0, .i .i64 0, .ns], none, false⟩,
  ⟨(some 7), .new [.i .i64 0, .b false, .b false, .i .i64 0, .i .i64 0, .i .i64 0, .i .i64 0, .i .i64 0, .i .i64 0, .i .i64 0, .i .i64 0, .i .i64 0, .i .i64 0, .i .i64 0, .i .i64 0, .i .i64 0, .ns], none, false⟩,
  ⟨none, .st 17 (.t 6) (.t 21), none, false⟩,
  ⟨none, .st 17 (.t 7) (.t 22), none, false⟩]
abbrev i7r5 : List IOper := [
  ⟨(some 8), .mv (.c (.b false)), none, false⟩,
  ⟨(some 9), .mv (.c (.b false)), none, false⟩]
abbrev i7r6 : List IOper := [
  ⟨(some 23), .mv (.c (.i .i64 0)), none, false⟩]
abbrev i7r7 : List IOper := [
  ⟨(some 24), .bin .lss (.t 23) (.c (.i .i64 60)), none, true⟩]
abbrev i7r8 : List IOper := [
  ⟨(some 25), .mv (.t 23), none, false⟩,
  ⟨(some 10), .mv (.t 25), none, false⟩]
abbrev i7r9 : List IOper := [
  ⟨(some 27), .ld true 17 (.t 6), none, false⟩,
  ⟨(some 28), .mv (.t 0), none, false⟩,
  ⟨(some 29), .i2i .i64 (.t 28), none, false⟩,
  ⟨(some 30), .mv (.t 10), none, false⟩,
  ⟨(some 31), .bin .mul (.c (.i .i64 20)) (.t 30), none, false⟩,
  ⟨(some 32), .bin .add (.t 29) (.t 31), none, false⟩,
  ⟨(some 33), .mv (.t 0), none, false⟩,
  ⟨(some 34), .i2i .i64 (.t 33), none, false⟩,
  ⟨(some 35), .mv (.t 5), none, false⟩,
  ⟨(some 36), .bin .add (.c (.i .i64 20)) (.t 35), none, false⟩,
  ⟨(some 37), .mv (.t 10), none, false⟩,
  ⟨(some 38), .bin .mul (.t 36) (.t 37), none, false⟩,
  ⟨(some 39), .bin .add (.t 34) (.t 38), none, false⟩,
  ⟨(some 40), .build [.i .i64 0, .i .i64 0] [(0, 1, .t 32), (1, 1, .t 39)], none, false⟩,
  ⟨(some 41), .bsl [.i .i64 0, .i .i64 0] 1 [(0, 2, .t 40)], none, false⟩,
  ⟨(some 42), .call (.c (.fn 24 [])) [.t 27, .t 41], none, false⟩,
  ⟨(some 26), .mv (.t 42), none, false⟩,
  ⟨(some 43), .ext (.t 26) 0, none, false⟩,
  ⟨(some 44), .ext (.t 26) 1, none, false⟩,
  ⟨(some 11), .new [.i .i64 0, .b false, .b false, .i .i64 0, .i .i64 0, .i .i64 0, .i .i64 0, .i .i64 0, .i .i64 0, .i .i64 0, .i .i64 0, .i .i64 0, .i .i64 0, .i .i64 0, .i .i64 0, .i .i64 0, .ns], none, false⟩,
  ⟨none, .st 17 (.t 11) (.t 43), none, false⟩,
  ⟨(some 12), .mv (.t 44), none, false⟩]
abbrev i7r10 : List IOper := [
  ⟨(some 46), .ld true 17 (.t 7), none, false⟩,
  ⟨(some 47), .mv (.t 0), none, false⟩,
  ⟨(some 48), .i2i .i64 (.t 47), none, false⟩,
  ⟨(some 49), .mv (.t 10), none, false⟩,
  ⟨(some 50), .bin .mul (.c (.i .i64 20)) (.t 49), none, false⟩,
  ⟨(some 51), .bin .add (.t 48) (.t 50), none, false⟩,
  ⟨(some 52), .mv (.t 0), none, false⟩,
  ⟨(some 53), .i2i .i64 (.t 52), none, false⟩,
  ⟨(some 54), .bin .add (.c (.i .i64 2000)) (.t 53), none, false⟩,
  ⟨(some 55), .mv (.t 5), none, false⟩,
  ⟨(some 56), .bin .sub (.c (.i .i64 20)) (.t 55), none, false⟩,
  ⟨(some 57), .mv (.t 10), none, false⟩,
  ⟨(some 58), .bin .mul (.t 56) (.t 57), none, false⟩,
  ⟨(some 59), .bin .add (.t 54) (.t 58), none, false⟩,
  ⟨(some 60), .build [.i .i64 0, .i .i64 0] [(0, 1, .t 51), (1, 1, .t 59)], none, false⟩,
  ⟨(some 61), .bsl [.i .i64 0, .i .i64 0] 1 [(0, 2, .t 60)], none, false⟩,
  ⟨(some 62), .call (.c (.fn 24 [])) [.t 46, .t 61], none, false⟩,
  ⟨(some 45), .mv (.t 62), none, false⟩,
  ⟨(some 63), .ext (.t 45) 0, none, false⟩,
  ⟨(some 64), .ext (.t 45) 1, none, false⟩,
  ⟨(some 13), .new [.i .i64 0, .b false, .b false, .i .i64 0, .i .i64 0, .i .i64 0, .i .i64 0, .i .i64 0, .i .i64 0, .i .i64 0, .i .i64 0, .i .i64 0, .i .i64 0, .i .i64 0, .i .i64 0, .i .i64 0, .ns], none, false⟩,
  ⟨none, .st 17 (.t 13) (.t 63), none, false⟩,
  ⟨(some 14), .mv (.t 64), none, false⟩]
abbrev i7r11 : List IOper := [
  ⟨(some 65), .mv (.t 12), none, false⟩,
  ⟨(some 66), .not (.t 65), none, false⟩,
  ⟨(some 67), .mv (.t 66), none, true⟩,
  ⟨(some 68), .mv (.t 14), (some (67, false)), false⟩,
  ⟨(some 69), .not (.t 68), (some (67, false)), false⟩,
  ⟨(some 70), .pick (.t 67) (.c (.b true)) (.t 69), none, false⟩,
  ⟨(some 71), .mv (.t 70), none, true⟩,
  ⟨(some 72), .fa 15 (.t 11), (some (71, false)), false⟩,
  ⟨(some 73), .ld false 1 (.t 72), (some (71, false)), false⟩,
  ⟨(some 74), .bin .eql (.t 73) (.c (.i .i64 2)), (some (71, false)), false⟩,
  ⟨(some 75), .pick (.t 71) (.c (.b true)) (.t 74), none, false⟩,
  ⟨(some 76), .mv (.t 75), none, true⟩,
  ⟨(some 77), .fa 15 (.t 13), (some (76, false)), false⟩,
  ⟨(some 78), .ld false 1 (.t 77), (some (76, false)), false⟩,
  ⟨(some 79), .bin .eql (.t 78) (.c (.i .i64 1)), (some (76, false)), false⟩,
  ⟨(some 80), .pick (.t 76) (.c (.b true)) (.t 79), none, true⟩]
abbrev i7r12 : List IOper := [
  ⟨(some 4), .mv (.c (.b false)), none, false⟩]
abbrev i7r13 : List (IOper × List Nat) := [
  (⟨(some 81), .mv (.t 8), none, false⟩, []),
  (⟨(some 82), .mv (.t 81), none, true⟩, []),
  (⟨(some 83), .fa 15 (.t 11), (some (82, false)), false⟩, []),
  (⟨(some 84), .ld false 1 (.t 83), (some (82, false)), false⟩, []),
  (⟨(some 85), .bin .eql (.t 84) (.c (.i .i64 1)), (some (82, false)), false⟩, []),
  (⟨(some 86), .pick (.t 82) (.c (.b true)) (.t 85), none, false⟩, []),
  (⟨(some 87), .mv (.t 9), none, false⟩, [0, 1, 2, 3, 4, 5]),
  (⟨(some 88), .mv (.t 87), none, true⟩, [2, 3, 4, 5]),
  (⟨(some 89), .fa 15 (.t 13), (some (88, false)), false⟩, [2, 3, 4, 5]),
  (⟨(some 90), .ld false 1 (.t 89), (some (88, false)), false⟩, [2, 3, 4, 5]),
  (⟨(some 91), .bin .eql (.t 90) (.c (.i .i64 2)), (some (88, false)), false⟩, [2, 3, 4, 5]),
  (⟨(some 92), .pick (.t 88) (.c (.b true)) (.t 91), none, false⟩, [2, 3, 4, 5]),
  (⟨(some 8), .mv (.t 86), none, false⟩, [8, 9, 10, 11]),
  (⟨(some 9), .mv (.t 92), none, false⟩, [])]
abbrev i7r14 : List (IOper × List Nat) := [
  (⟨(some 93), .ld true 17 (.t 11), none, false⟩, []),
  (⟨(some 94), .ld true 17 (.t 13), none, false⟩, [0]),
  (⟨none, .st 17 (.t 6) (.t 93), none, false⟩, [1]),
  (⟨none, .st 17 (.t 7) (.t 94), none, false⟩, [])]
abbrev i7r15 : List IOper := [
  ⟨(some 95), .bin .add (.t 23) (.c (.i .i64 1)), none, false⟩,
  ⟨(some 23), .mv (.t 95), none, false⟩]
abbrev i7l16 : ICode := (.seq (.reg i7r7) (.seq (.cond (.t 24) .skip (.exit 0)) (.seq (.block 1 (.seq (.reg i7r8) (.seq (.reg i7r9) (.seq (.reg i7r10) (.seq (.seq (.reg i7r11) (.cond (.t 80) (.seq (.reg i7r12) .ret) .skip)) (.seq (.dreg i7r13) (.dreg i7r14))))))) (.reg i7r15))))
abbrev i7r17 : List IOper := [
  ⟨(some 96), .mv (.t 8), none, false⟩,
  ⟨(some 97), .mv (.t 96), none, true⟩,
  ⟨(some 98), .mv (.t 9), (some (97, true)), false⟩,
  ⟨(some 99), .pick (.t 97) (.t 98) (.c (.b false)), none, false⟩,
  ⟨(some 4), .mv (.t 99), none, false⟩]
abbrev i7c : ICode := (.seq (.reg i7r0) (.seq (.seq (.reg i7r1) (.cond (.t 16) (.seq (.reg i7r2) .ret) .skip)) (.seq (.reg i7r3) (.seq (.reg i7r4) (.seq (.reg i7r5) (.seq (.seq (.reg i7r6) (.block 0 (.loop i7l16))) (.seq (.reg i7r17) .ret)))))))
def i7 : IFn := { np := 2, N := 100, ct := [16, 24, 80], code := i7c, res := [.t 4] }
theorem i7_eq : compF Try.prog Try.f7 = some i7 := by kernel_rfl
end Go.Proofs.Arr
