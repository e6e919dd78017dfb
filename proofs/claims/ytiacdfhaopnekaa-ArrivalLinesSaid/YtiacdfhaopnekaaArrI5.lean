/- The small language's text of the functions; printed by ShowI.lean. -/
import Derived.Test.YtiacdfhaopnekaaProg
import Derived.Test.YtiacdfhaopnekaaAbRuns
namespace Go.Proofs.Arr
open Go.Ab
abbrev i5r0 : List IOper := [
  ⟨(some 4), .box (.t 1), none, false⟩,
  ⟨(some 6), .mv (.c (.b false)), none, false⟩]
abbrev i5r1 : List IOper := [
  ⟨(some 19), .fa 0 (.t 4), none, false⟩,
  ⟨(some 20), .ld false 1 (.t 19), none, false⟩,
  ⟨(some 21), .bin .and (.t 20) (.c (.i .i64 1099511627775)), none, false⟩,
  ⟨(some 22), .fa 1 (.t 4), none, false⟩,
  ⟨(some 23), .ld false 1 (.t 22), none, false⟩,
  ⟨(some 24), .bin .shr (.t 23) (.c (.i .u64 30)), none, false⟩,
  ⟨(some 25), .build [.i .i64 0, .i .i64 0] [(0, 1, .t 21), (1, 1, .t 24)], none, false⟩,
  ⟨(some 7), .new [.i .i64 0, .i .i64 0], none, false⟩,
  ⟨none, .st 2 (.t 7) (.t 25), none, false⟩]
abbrev i5r2 : List IOper := [
  ⟨(some 26), .ld true 2 (.t 7), none, false⟩,
  ⟨(some 27), .bsl [.i .i64 0, .i .i64 0] 1 [(0, 2, .t 26)], none, false⟩,
  ⟨(some 8), .mv (.t 27), none, false⟩]
abbrev i5r3 : List IOper := [
  ⟨(some 28), .mv (.t 2), none, false⟩,
  ⟨(some 29), .mv (.t 2), none, false⟩,
  ⟨(some 30), .lenV (.t 29), none, false⟩,
  ⟨(some 31), .mn (.t 30) [.c (.i .i64 21)], none, false⟩,
  ⟨(some 32), .slV 2 (.t 28) none (some (.t 31)) none, none, false⟩,
  ⟨(some 33), .lenV (.t 32), none, false⟩,
  ⟨(some 34), .mv (.c (.i .i64 0)), none, false⟩]
abbrev i5r4 : List IOper := [
  ⟨(some 35), .bin .lss (.t 34) (.t 33), none, true⟩]
abbrev i5r5 : List IOper := [
  ⟨(some 36), .ixaV 2 (.t 32) (.t 34), none, false⟩,
  ⟨(some 37), .ld true 2 (.t 36), none, false⟩,
  ⟨(some 10), .new [.i .i16 0, .i .i16 0], none, false⟩,
  ⟨none, .st 2 (.t 10) (.t 37), none, false⟩]
abbrev i5r6 : List (IOper × List Nat) := [
  (⟨(some 38), .fa 0 (.t 7), none, false⟩, []),
  (⟨(some 39), .ld false 1 (.t 38), none, false⟩, []),
  (⟨(some 40), .ixaA 2 1 (.t 10) (.c (.i .i64 0)), none, false⟩, [0, 1]),
  (⟨(some 41), .ld false 1 (.t 40), none, false⟩, [0, 1]),
  (⟨(some 42), .i2i .i64 (.t 41), none, false⟩, [0, 1]),
  (⟨(some 43), .mx (.c (.i .i64 0)) [.t 42], none, false⟩, [0, 1]),
  (⟨(some 44), .bin .add (.t 39) (.t 43), none, false⟩, []),
  (⟨(some 45), .fa 1 (.t 7), none, false⟩, [0, 1, 2, 3, 4, 5, 6]),
  (⟨(some 46), .ld false 1 (.t 45), none, false⟩, [0, 1, 2, 3, 4, 5, 6]),
  (⟨(some 47), .ixaA 2 1 (.t 10) (.c (.i .i64 1)), none, false⟩, [0, 1, 2, 3, 4, 5, 6, 7, 8]),
  (⟨(some 48), .ld false 1 (.t 47), none, false⟩, [0, 1, 2, 3, 4, 5, 6, 7, 8]),
  (⟨(some 49), .i2i .i64 (.t 48), none, false⟩, [0, 1, 2, 3, 4, 5, 6, 7, 8]),
  (⟨(some 50), .bin .mul (.c (.i .i64 1000)) (.t 49), none, false⟩, [0, 1, 2, 3, 4, 5, 6, 7, 8]),
  (⟨(some 51), .bin .add (.t 46) (.t 50), none, false⟩, [0, 1, 2, 3, 4, 5, 6]),
  (⟨(some 52), .fa 0 (.t 7), none, false⟩, [9, 10, 11, 12, 13]),
  (⟨none, .st 1 (.t 52) (.t 44), none, false⟩, [9, 10, 11, 12, 13]),
  (⟨(some 53), .fa 1 (.t 7), none, false⟩, []),
  (⟨none, .st 1 (.t 53) (.t 51), none, false⟩, [])]
abbrev i5r7 : List IOper := [
  ⟨(some 54), .mv (.t 8), none, false⟩,
  ⟨(some 55), .ld true 2 (.t 7), none, false⟩,
  ⟨(some 56), .bsl [.i .i64 0, .i .i64 0] 1 [(0, 2, .t 55)], none, false⟩,
  ⟨(some 57), .app 2 16 [.i .i64 0, .i .i64 0] (.t 54) (.t 56), none, false⟩,
  ⟨(some 8), .mv (.t 57), none, false⟩]
abbrev i5r8 : List IOper := [
  ⟨(some 58), .bin .add (.t 34) (.c (.i .i64 1)), none, false⟩,
  ⟨(some 34), .mv (.t 58), none, false⟩]
abbrev i5l9 : ICode := (.seq (.reg i5r4) (.seq (.cond (.t 35) .skip (.exit 0)) (.seq (.block 1 (.seq (.reg i5r5) (.seq (.dreg i5r6) (.reg i5r7)))) (.reg i5r8))))
abbrev i5r10 : List (IOper × List Nat) := [
  (⟨(some 59), .mv (.t 8), none, false⟩, []),
  (⟨(some 60), .mv (.t 8), none, false⟩, [0]),
  (⟨(some 61), .mv (.t 8), none, false⟩, [0, 1]),
  (⟨(some 62), .lenV (.t 61), none, false⟩, [0, 1]),
  (⟨(some 63), .mn (.t 62) [.c (.i .i64 20)], none, false⟩, [0, 1]),
  (⟨(some 64), .slV 2 (.t 60) none (some (.t 63)) none, none, false⟩, [0]),
  (⟨(some 65), .mv (.t 0), none, false⟩, [0, 1, 2, 3, 4, 5]),
  (⟨(some 66), .mv (.t 0), none, false⟩, [0, 1, 2, 3, 4, 5, 6]),
  (⟨(some 67), .lenV (.t 66), none, false⟩, [0, 1, 2, 3, 4, 5, 6]),
  (⟨(some 68), .mn (.t 67) [.c (.i .i64 22)], none, false⟩, [0, 1, 2, 3, 4, 5, 6]),
  (⟨(some 69), .slV 2 (.t 65) none (some (.t 68)) none, none, false⟩, [0, 1, 2, 3, 4, 5]),
  (⟨(some 70), .build [.ns, .ns, .ns] [(0, 1, .t 59), (1, 1, .t 64), (2, 1, .t 69)], none, false⟩, []),
  (⟨(some 71), .mv (.c (.i .i64 0)), none, false⟩, [0, 1, 2, 3, 4, 5, 6, 7, 8, 9, 10, 11])]
abbrev i5r11 : List IOper := [
  ⟨(some 72), .bin .lss (.t 71) (.c (.i .i64 3)), none, true⟩]
abbrev i5r12 : List IOper := [
  ⟨(some 73), .ixA 3 1 false (.t 70) (.t 71), none, false⟩,
  ⟨(some 12), .mv (.t 73), none, false⟩]
abbrev i5r13 : List IOper := [
  ⟨(some 75), .mv (.t 12), none, false⟩,
  ⟨(some 76), .call (.c (.fn 22 [])) [.t 75], none, false⟩,
  ⟨(some 74), .mv (.t 76), none, false⟩,
  ⟨(some 77), .ext (.t 74) 0, none, false⟩,
  ⟨(some 78), .ext (.t 74) 1, none, false⟩,
  ⟨(some 79), .ext (.t 74) 2, none, false⟩,
  ⟨(some 13), .mv (.t 77), none, false⟩,
  ⟨(some 14), .mv (.t 78), none, false⟩,
  ⟨(some 15), .mv (.t 79), none, false⟩]
abbrev i5r14 : List IOper := [
  ⟨(some 81), .mv (.t 12), none, false⟩,
  ⟨(some 82), .call (.c (.fn 23 [])) [.t 81], none, false⟩,
  ⟨(some 80), .mv (.t 82), none, false⟩,
  ⟨(some 83), .ext (.t 80) 0, none, false⟩,
  ⟨(some 84), .ext (.t 80) 1, none, false⟩,
  ⟨(some 85), .ext (.t 80) 2, none, false⟩,
  ⟨(some 16), .mv (.t 83), none, false⟩,
  ⟨(some 17), .mv (.t 84), none, false⟩,
  ⟨(some 18), .mv (.t 85), none, false⟩]
abbrev i5r15 : List IOper := [
  ⟨(some 86), .mv (.t 13), none, false⟩,
  ⟨(some 87), .mv (.t 16), none, false⟩,
  ⟨(some 88), .bin .neq (.t 86) (.t 87), none, false⟩,
  ⟨(some 89), .mv (.t 88), none, true⟩,
  ⟨(some 90), .mv (.t 14), (some (89, false)), false⟩,
  ⟨(some 91), .mv (.t 17), (some (89, false)), false⟩,
  ⟨(some 92), .bin .neq (.t 90) (.t 91), (some (89, false)), false⟩,
  ⟨(some 93), .pick (.t 89) (.c (.b true)) (.t 92), none, false⟩,
  ⟨(some 94), .mv (.t 93), none, true⟩,
  ⟨(some 95), .mv (.t 15), (some (94, false)), false⟩,
  ⟨(some 96), .mv (.t 18), (some (94, false)), false⟩,
  ⟨(some 97), .bin .neq (.t 95) (.t 96), (some (94, false)), false⟩,
  ⟨(some 98), .pick (.t 94) (.c (.b true)) (.t 97), none, true⟩]
abbrev i5r16 : List IOper := [
  ⟨(some 6), .mv (.c (.b false)), none, false⟩]
abbrev i5r17 : List IOper := [
  ⟨(some 99), .bin .add (.t 71) (.c (.i .i64 1)), none, false⟩,
  ⟨(some 71), .mv (.t 99), none, false⟩]
abbrev i5l18 : ICode := (.seq (.reg i5r11) (.seq (.cond (.t 72) .skip (.exit 2)) (.seq (.block 3 (.seq (.reg i5r12) (.seq (.reg i5r13) (.seq (.reg i5r14) (.seq (.reg i5r15) (.cond (.t 98) (.seq (.reg i5r16) .ret) .skip)))))) (.reg i5r17))))
abbrev i5r19 : List IOper := [
  ⟨(some 100), .call (.c (.fn 20 [])) [], none, false⟩,
  ⟨(some 6), .mv (.t 100), none, false⟩]
abbrev i5c : ICode := (.seq (.reg i5r0) (.seq (.reg i5r1) (.seq (.reg i5r2) (.seq (.seq (.reg i5r3) (.block 0 (.loop i5l9))) (.seq (.seq (.dreg i5r10) (.block 2 (.loop i5l18))) (.seq (.reg i5r19) .ret))))))
def i5 : IFn := { np := 3, N := 101, ct := [35, 72, 98], code := i5c, res := [.t 6] }
theorem i5_eq : compF Try.prog Try.f5 = some i5 := by kernel_rfl
end Go.Proofs.Arr
