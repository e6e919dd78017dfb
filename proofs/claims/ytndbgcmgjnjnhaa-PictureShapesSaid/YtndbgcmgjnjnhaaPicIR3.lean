/- The small language's text of the functions; printed by ShowI.lean. -/
import Derived.Test.YtndbgcmgjnjnhaaProg
import Derived.Test.YtndbgcmgjnjnhaaAbFn
namespace Go.Proofs.Pic
open Go.Ab
abbrev i3r0 : List IOper := [
  ⟨(some 3), .box (.t 0), none, false⟩,
  ⟨(some 4), .box (.t 1), none, false⟩,
  ⟨(some 5), .box (.t 2), none, false⟩,
  ⟨(some 6), .mv (.c (.b false)), none, false⟩]
abbrev i3r1 : List IOper := [
  ⟨(some 16), .ld true 5 (.t 3), none, false⟩,
  ⟨(some 17), .call (.c (.fn 12 [])) [.t 16], none, false⟩,
  ⟨(some 7), .new [.b false, .b false, .b false, .b false, .i .i64 0, .i .i64 0, .i .i64 0, .i .i64 0], none, false⟩,
  ⟨none, .st 8 (.t 7) (.t 17), none, false⟩]
abbrev i3r2 : List IOper := [
  ⟨(some 18), .ixaA 2 3 (.t 4) (.c (.i .i64 0)), none, false⟩,
  ⟨(some 19), .ld true 3 (.t 18), none, false⟩,
  ⟨(some 20), .ld true 8 (.t 7), none, false⟩,
  ⟨(some 21), .call (.c (.fn 13 [])) [.t 19, .t 20], none, false⟩,
  ⟨(some 8), .new [.b false, .b false, .b false, .b false, .i .i64 0, .i .i64 0, .i .i64 0, .i .i64 0], none, false⟩,
  ⟨none, .st 8 (.t 8) (.t 21), none, false⟩]
abbrev i3r3 : List (IOper × List Nat) := [
  (⟨(some 22), .ld true 8 (.t 7), none, false⟩, []),
  (⟨(some 23), .ld true 8 (.t 8), none, false⟩, [0]),
  (⟨(some 24), .ixaA 2 3 (.t 4) (.c (.i .i64 1)), none, false⟩, [0, 1]),
  (⟨(some 25), .ld true 3 (.t 24), none, false⟩, [0, 1]),
  (⟨(some 26), .ld true 8 (.t 8), none, false⟩, [0, 1, 2, 3]),
  (⟨(some 27), .call (.c (.fn 13 [])) [.t 25, .t 26], none, false⟩, [0, 1]),
  (⟨(some 28), .ld true 8 (.t 5), none, false⟩, [0, 1, 2, 3, 4, 5]),
  (⟨(some 29), .build [.b false, .b false, .b false, .b false, .i .i64 0, .i .i64 0, .i .i64 0, .i .i64 0, .b false, .b false, .b false, .b false, .i .i64 0, .i .i64 0, .i .i64 0, .i .i64 0, .b false, .b false, .b false, .b false, .i .i64 0, .i .i64 0, .i .i64 0, .i .i64 0, .b false, .b false, .b false, .b false, .i .i64 0, .i .i64 0, .i .i64 0, .i .i64 0] [(0, 8, .t 22), (8, 8, .t 23), (16, 8, .t 27), (24, 8, .t 28)], none, false⟩, []),
  (⟨(some 30), .mv (.c (.i .i64 0)), none, false⟩, [0, 1, 2, 3, 4, 5, 6, 7])]
abbrev i3r4 : List IOper := [
  ⟨(some 31), .bin .lss (.t 30) (.c (.i .i64 4)), none, true⟩]
abbrev i3r5 : List IOper := [
  ⟨(some 32), .ixA 4 8 true (.t 29) (.t 30), none, false⟩,
  ⟨(some 10), .new [.b false, .b false, .b false, .b false, .i .i64 0, .i .i64 0, .i .i64 0, .i .i64 0], none, false⟩,
  ⟨none, .st 8 (.t 10) (.t 32), none, false⟩]
abbrev i3r6 : List IOper := [
  ⟨(some 33), .ld true 8 (.t 10), none, false⟩,
  ⟨(some 34), .call (.c (.fn 14 [])) [.t 33], none, false⟩,
  ⟨(some 11), .mv (.t 34), none, false⟩]
abbrev i3r7 : List IOper := [
  ⟨(some 36), .ld true 8 (.t 10), none, false⟩,
  ⟨(some 37), .call (.c (.fn 15 [])) [.t 36], none, false⟩,
  ⟨(some 35), .mv (.t 37), none, false⟩,
  ⟨(some 38), .ext (.t 35) 0, none, false⟩,
  ⟨(some 39), .ext (.t 35) 1, none, false⟩,
  ⟨(some 12), .mv (.t 38), none, false⟩,
  ⟨(some 13), .mv (.t 39), none, false⟩]
abbrev i3r8 : List IOper := [
  ⟨(some 14), .mv (.c (.s [])), none, false⟩,
  ⟨(some 15), .mv (.c (.i .i64 400)), none, false⟩]
abbrev i3r9 : List IOper := [
  ⟨(some 40), .ld true 8 (.t 10), none, false⟩,
  ⟨(some 41), .call (.c (.fn 16 [])) [.t 40], none, true⟩]
abbrev i3r10 : List IOper := [
  ⟨(some 42), .ld true 8 (.t 10), none, false⟩,
  ⟨(some 43), .call (.c (.fn 17 [])) [.t 42], none, false⟩,
  ⟨(some 14), .mv (.t 43), none, false⟩,
  ⟨(some 15), .mv (.c (.i .i64 0)), none, false⟩]
abbrev i3r11 : List IOper := [
  ⟨(some 44), .mv (.t 11), none, false⟩,
  ⟨(some 45), .mv (.t 15), none, false⟩,
  ⟨(some 46), .bin .neq (.t 44) (.t 45), none, false⟩,
  ⟨(some 47), .mv (.t 46), none, true⟩,
  ⟨(some 48), .mv (.t 13), (some (47, false)), false⟩,
  ⟨(some 49), .mv (.t 15), (some (47, false)), false⟩,
  ⟨(some 50), .bin .neq (.t 48) (.t 49), (some (47, false)), false⟩,
  ⟨(some 51), .pick (.t 47) (.c (.b true)) (.t 50), none, false⟩,
  ⟨(some 52), .mv (.t 51), none, true⟩,
  ⟨(some 53), .mv (.t 12), (some (52, false)), false⟩,
  ⟨(some 54), .mv (.t 14), (some (52, false)), false⟩,
  ⟨(some 55), .bin .neq (.t 53) (.t 54), (some (52, false)), false⟩,
  ⟨(some 56), .pick (.t 52) (.c (.b true)) (.t 55), none, true⟩]
abbrev i3r12 : List IOper := [
  ⟨(some 6), .mv (.c (.b false)), none, false⟩]
abbrev i3r13 : List IOper := [
  ⟨(some 57), .bin .add (.t 30) (.c (.i .i64 1)), none, false⟩,
  ⟨(some 30), .mv (.t 57), none, false⟩]
abbrev i3l14 : ICode := (.seq (.reg i3r4) (.seq (.cond (.t 31) .skip (.exit 0)) (.seq (.block 1 (.seq (.reg i3r5) (.seq (.reg i3r6) (.seq (.reg i3r7) (.seq (.reg i3r8) (.seq (.seq (.reg i3r9) (.cond (.t 41) (.reg i3r10) .skip)) (.seq (.reg i3r11) (.cond (.t 56) (.seq (.reg i3r12) .ret) .skip)))))))) (.reg i3r13))))
abbrev i3r15 : List IOper := [
  ⟨(some 58), .call (.c (.fn 18 [])) [], none, false⟩,
  ⟨(some 6), .mv (.t 58), none, false⟩]
abbrev i3c : ICode := (.seq (.reg i3r0) (.seq (.reg i3r1) (.seq (.reg i3r2) (.seq (.seq (.dreg i3r3) (.block 0 (.loop i3l14))) (.seq (.reg i3r15) .ret)))))
def i3 : IFn := { np := 3, N := 59, ct := [31, 41, 56], code := i3c, res := [.t 6] }
theorem i3_eq : compF Try.prog Try.f3 = some i3 := by kernel_rfl
end Go.Proofs.Pic
