/- The small language's text of the functions; printed by ShowI.lean. -/
import Derived.Test.YthnmkedknannhaaProg
import Derived.Test.YthnmkedknannhaaAbRuns
namespace Go.Proofs.Res
open Go.Ab
abbrev i3r0 : List IOper := [
  ⟨(some 6), .box (.t 0), none, false⟩,
  ⟨(some 7), .box (.t 1), none, false⟩,
  ⟨(some 8), .box (.t 2), none, false⟩,
  ⟨(some 9), .box (.t 3), none, false⟩,
  ⟨(some 12), .mv (.c (.b false)), none, false⟩]
abbrev i3r1 : List IOper := [
  ⟨(some 24), .ld true 3 (.t 6), none, false⟩,
  ⟨(some 25), .call (.c (.fn 9 [])) [.t 24], none, false⟩,
  ⟨(some 13), .new [.i .i64 0, .b false, .i .i64 0, .ns], none, false⟩,
  ⟨none, .st 4 (.t 13) (.t 25), none, false⟩]
abbrev i3r2 : List IOper := [
  ⟨(some 26), .ixaA 2 3 (.t 7) (.c (.i .i64 0)), none, false⟩,
  ⟨(some 27), .ld true 3 (.t 26), none, false⟩,
  ⟨(some 28), .ld true 4 (.t 13), none, false⟩,
  ⟨(some 29), .call (.c (.fn 10 [])) [.t 27, .t 28], none, false⟩,
  ⟨(some 14), .new [.i .i64 0, .b false, .i .i64 0, .ns], none, false⟩,
  ⟨none, .st 4 (.t 14) (.t 29), none, false⟩]
abbrev i3r3 : List IOper := [
  ⟨(some 30), .fa 3 (.t 8), none, false⟩,
  ⟨(some 31), .ld false 1 (.t 30), none, false⟩,
  ⟨(some 32), .fa 3 (.t 8), none, false⟩,
  ⟨(some 33), .ld false 1 (.t 32), none, false⟩,
  ⟨(some 34), .lenV (.t 33), none, false⟩,
  ⟨(some 35), .mn (.t 34) [.c (.i .i64 66)], none, false⟩,
  ⟨(some 36), .slV 4 (.t 31) none (some (.t 35)) none, none, false⟩,
  ⟨(some 37), .fa 3 (.t 8), none, false⟩,
  ⟨none, .st 1 (.t 37) (.t 36), none, false⟩]
abbrev i3r4 : List (IOper × List Nat) := [
  (⟨(some 38), .ld true 4 (.t 13), none, false⟩, []),
  (⟨(some 39), .ld true 4 (.t 14), none, false⟩, [0]),
  (⟨(some 40), .ixaA 2 3 (.t 7) (.c (.i .i64 1)), none, false⟩, [0, 1]),
  (⟨(some 41), .ld true 3 (.t 40), none, false⟩, [0, 1]),
  (⟨(some 42), .ld true 4 (.t 14), none, false⟩, [0, 1, 2, 3]),
  (⟨(some 43), .call (.c (.fn 10 [])) [.t 41, .t 42], none, false⟩, [0, 1]),
  (⟨(some 44), .ld true 4 (.t 8), none, false⟩, [0, 1, 2, 3, 4, 5]),
  (⟨(some 45), .build [.i .i64 0, .b false, .i .i64 0, .ns, .i .i64 0, .b false, .i .i64 0, .ns, .i .i64 0, .b false, .i .i64 0, .ns, .i .i64 0, .b false, .i .i64 0, .ns] [(0, 4, .t 38), (4, 4, .t 39), (8, 4, .t 43), (12, 4, .t 44)], none, false⟩, []),
  (⟨(some 46), .mv (.c (.i .i64 0)), none, false⟩, [0, 1, 2, 3, 4, 5, 6, 7])]
abbrev i3r5 : List IOper := [
  ⟨(some 47), .bin .lss (.t 46) (.c (.i .i64 4)), none, true⟩]
abbrev i3r6 : List IOper := [
  ⟨(some 48), .ixA 4 4 true (.t 45) (.t 46), none, false⟩,
  ⟨(some 16), .new [.i .i64 0, .b false, .i .i64 0, .ns], none, false⟩,
  ⟨none, .st 4 (.t 16) (.t 48), none, false⟩]
abbrev i3r7 : List IOper := [
  ⟨(some 49), .ld true 4 (.t 16), none, false⟩,
  ⟨(some 50), .call (.c (.fn 11 [])) [.t 49], none, false⟩,
  ⟨(some 17), .mv (.t 50), none, false⟩]
abbrev i3r8 : List IOper := [
  ⟨(some 51), .ld true 4 (.t 16), none, false⟩,
  ⟨(some 52), .call (.c (.fn 12 [])) [.t 51], none, false⟩,
  ⟨(some 53), .mv (.t 17), none, false⟩,
  ⟨(some 54), .bin .eql (.t 53) (.c (.i .i64 0)), none, false⟩,
  ⟨(some 55), .eqk true false [.b] (.t 52) (.t 54), none, false⟩,
  ⟨(some 56), .mv (.t 55), none, true⟩,
  ⟨(some 57), .mv (.t 17), (some (56, false)), false⟩,
  ⟨(some 58), .bin .neq (.t 57) (.c (.i .i64 0)), (some (56, false)), false⟩,
  ⟨(some 59), .mv (.t 58), (some (56, false)), true⟩,
  ⟨(some 60), .mv (.t 17), (some (59, true)), false⟩,
  ⟨(some 61), .bin .neq (.t 60) (.c (.i .i64 280)), (some (59, true)), false⟩,
  ⟨(some 62), .pick (.t 59) (.t 61) (.c (.b false)), (some (56, false)), false⟩,
  ⟨(some 63), .pick (.t 56) (.c (.b true)) (.t 62), none, true⟩]
abbrev i3r9 : List IOper := [
  ⟨(some 12), .mv (.c (.b false)), none, false⟩]
abbrev i3r10 : List IOper := [
  ⟨(some 64), .ld true 2 (.t 9), none, false⟩,
  ⟨(some 65), .fa 0 (.t 16), none, false⟩,
  ⟨(some 66), .ld false 1 (.t 65), none, false⟩,
  ⟨(some 67), .mv (.t 4), none, false⟩,
  ⟨(some 68), .i2i .i64 (.t 67), none, false⟩,
  ⟨(some 69), .bin .add (.t 66) (.t 68), none, false⟩,
  ⟨(some 70), .ixaA 2 1 (.t 9) (.c (.i .i64 1)), none, false⟩,
  ⟨(some 71), .ld false 1 (.t 70), none, false⟩,
  ⟨(some 72), .build [.i .i64 0, .i .i64 0] [(0, 1, .t 69), (1, 1, .t 71)], none, false⟩,
  ⟨(some 73), .fa 0 (.t 16), none, false⟩,
  ⟨(some 74), .ld false 1 (.t 73), none, false⟩,
  ⟨(some 75), .mv (.t 4), none, false⟩,
  ⟨(some 76), .i2i .i64 (.t 75), none, false⟩,
  ⟨(some 77), .bin .add (.t 74) (.t 76), none, false⟩,
  ⟨(some 78), .fa 2 (.t 16), none, false⟩,
  ⟨(some 79), .ld false 1 (.t 78), none, false⟩,
  ⟨(some 80), .mv (.t 5), none, false⟩,
  ⟨(some 81), .i2i .i64 (.t 80), none, false⟩,
  ⟨(some 82), .bin .add (.t 79) (.t 81), none, false⟩,
  ⟨(some 83), .bin .and (.t 82) (.c (.i .i64 65535)), none, false⟩,
  ⟨(some 84), .build [.i .i64 0, .i .i64 0] [(0, 1, .t 77), (1, 1, .t 83)], none, false⟩,
  ⟨(some 85), .build [.i .i64 0, .i .i64 0, .i .i64 0, .i .i64 0, .i .i64 0, .i .i64 0] [(0, 2, .t 64), (2, 2, .t 72), (4, 2, .t 84)], none, false⟩,
  ⟨(some 86), .mv (.c (.i .i64 0)), none, false⟩]
abbrev i3r11 : List IOper := [
  ⟨(some 87), .bin .lss (.t 86) (.c (.i .i64 3)), none, true⟩]
abbrev i3r12 : List IOper := [
  ⟨(some 88), .ixA 3 2 true (.t 85) (.t 86), none, false⟩,
  ⟨(some 19), .new [.i .i64 0, .i .i64 0], none, false⟩,
  ⟨none, .st 2 (.t 19) (.t 88), none, false⟩]
abbrev i3r13 : List IOper := [
  ⟨(some 90), .ld true 4 (.t 16), none, false⟩,
  ⟨(some 91), .ixaA 2 1 (.t 19) (.c (.i .i64 0)), none, false⟩,
  ⟨(some 92), .ld false 1 (.t 91), none, false⟩,
  ⟨(some 93), .ixaA 2 1 (.t 19) (.c (.i .i64 1)), none, false⟩,
  ⟨(some 94), .ld false 1 (.t 93), none, false⟩,
  ⟨(some 95), .call (.c (.fn 13 [])) [.t 90, .t 92, .t 94], none, false⟩,
  ⟨(some 89), .mv (.t 95), none, false⟩,
  ⟨(some 96), .ext (.t 89) 0, none, false⟩,
  ⟨(some 97), .ext (.t 89) 1, none, false⟩,
  ⟨(some 20), .new [.i .i64 0, .b false, .i .i64 0, .ns], none, false⟩,
  ⟨none, .st 4 (.t 20) (.t 96), none, false⟩,
  ⟨(some 21), .mv (.t 97), none, false⟩]
abbrev i3r14 : List IOper := [
  ⟨(some 99), .ld true 4 (.t 16), none, false⟩,
  ⟨(some 100), .ixaA 2 1 (.t 19) (.c (.i .i64 0)), none, false⟩,
  ⟨(some 101), .ld false 1 (.t 100), none, false⟩,
  ⟨(some 102), .ixaA 2 1 (.t 19) (.c (.i .i64 1)), none, false⟩,
  ⟨(some 103), .ld false 1 (.t 102), none, false⟩,
  ⟨(some 104), .call (.c (.fn 14 [])) [.t 99, .t 101, .t 103], none, false⟩,
  ⟨(some 98), .mv (.t 104), none, false⟩,
  ⟨(some 105), .ext (.t 98) 0, none, false⟩,
  ⟨(some 106), .ext (.t 98) 1, none, false⟩,
  ⟨(some 22), .new [.i .i64 0, .b false, .i .i64 0, .ns], none, false⟩,
  ⟨none, .st 4 (.t 22) (.t 105), none, false⟩,
  ⟨(some 23), .mv (.t 106), none, false⟩]
abbrev i3r15 : List IOper := [
  ⟨(some 107), .mv (.t 21), none, false⟩,
  ⟨(some 108), .mv (.t 23), none, false⟩,
  ⟨(some 109), .bin .neq (.t 107) (.t 108), none, false⟩,
  ⟨(some 110), .mv (.t 109), none, true⟩,
  ⟨(some 111), .ld true 4 (.t 20), (some (110, false)), false⟩,
  ⟨(some 112), .ld true 4 (.t 22), (some (110, false)), false⟩,
  ⟨(some 113), .call (.c (.fn 15 [])) [.t 111, .t 112], (some (110, false)), false⟩,
  ⟨(some 114), .not (.t 113), (some (110, false)), false⟩,
  ⟨(some 115), .pick (.t 110) (.c (.b true)) (.t 114), none, true⟩]
abbrev i3r16 : List IOper := [
  ⟨(some 12), .mv (.c (.b false)), none, false⟩]
abbrev i3r17 : List IOper := [
  ⟨(some 116), .bin .add (.t 86) (.c (.i .i64 1)), none, false⟩,
  ⟨(some 86), .mv (.t 116), none, false⟩]
abbrev i3l18 : ICode := (.seq (.reg i3r11) (.seq (.cond (.t 87) .skip (.exit 2)) (.seq (.block 3 (.seq (.reg i3r12) (.seq (.reg i3r13) (.seq (.reg i3r14) (.seq (.reg i3r15) (.cond (.t 115) (.seq (.reg i3r16) .ret) .skip)))))) (.reg i3r17))))
abbrev i3r19 : List IOper := [
  ⟨(some 117), .bin .add (.t 46) (.c (.i .i64 1)), none, false⟩,
  ⟨(some 46), .mv (.t 117), none, false⟩]
abbrev i3l20 : ICode := (.seq (.reg i3r5) (.seq (.cond (.t 47) .skip (.exit 0)) (.seq (.block 1 (.seq (.reg i3r6) (.seq (.seq (.reg i3r7) (.seq (.reg i3r8) (.cond (.t 63) (.seq (.reg i3r9) .ret) .skip))) (.seq (.reg i3r10) (.block 2 (.loop i3l18)))))) (.reg i3r19))))
abbrev i3r21 : List IOper := [
  ⟨(some 118), .call (.c (.fn 16 [])) [], none, false⟩,
  ⟨(some 12), .mv (.t 118), none, false⟩]
abbrev i3c : ICode := (.seq (.reg i3r0) (.seq (.reg i3r1) (.seq (.reg i3r2) (.seq (.reg i3r3) (.seq (.seq (.dreg i3r4) (.block 0 (.loop i3l20))) (.seq (.reg i3r21) .ret))))))
def i3 : IFn := { np := 6, N := 119, ct := [47, 63, 87, 115], code := i3c, res := [.t 12] }
theorem i3_eq : compF Try.prog Try.f3 = some i3 := by kernel_rfl
end Go.Proofs.Res
