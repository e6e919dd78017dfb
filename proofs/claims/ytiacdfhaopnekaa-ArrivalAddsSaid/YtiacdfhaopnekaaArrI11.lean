/- The small language's text of the functions; printed by ShowI.lean. -/
import Derived.Test.YtiacdfhaopnekaaProg
import Derived.Test.YtiacdfhaopnekaaAbRuns
namespace Go.Proofs.Arr
open Go.Ab
abbrev i11r0 : List IOper := [
  ⟨(some 1), .box (.t 0), none, false⟩,
  ⟨(some 2), .new [.i .i64 0, .b false, .b false, .i .i64 0, .i .i64 0, .i .i64 0, .i .i64 0, .i .i64 0, .i .i64 0, .i .i64 0, .i .i64 0, .i .i64 0, .i .i64 0, .i .i64 0, .i .i64 0, .i .i64 0, .ns], none, false⟩]
abbrev i11r1 : List IOper := [
  ⟨(some 7), .call (.c (.fn 19 [])) [], none, false⟩,
  ⟨(some 3), .new [.i .i64 0, .b false, .b false, .i .i64 0, .i .i64 0, .i .i64 0, .i .i64 0, .i .i64 0, .i .i64 0, .i .i64 0, .i .i64 0, .i .i64 0, .i .i64 0, .i .i64 0, .i .i64 0, .i .i64 0, .ns], none, false⟩,
  ⟨none, .st 17 (.t 3) (.t 7), none, false⟩]
abbrev i11r2 : List IOper := [
  ⟨(some 9), .ld true 4 (.t 1), none, false⟩,
  ⟨(some 10), .call (.c (.fn 21 [])) [.t 9], none, false⟩,
  ⟨(some 8), .mv (.t 10), none, false⟩,
  ⟨(some 11), .ext (.t 8) 0, none, false⟩,
  ⟨(some 12), .ext (.t 8) 1, none, false⟩,
  ⟨(some 4), .mv (.t 11), none, false⟩,
  ⟨(some 5), .mv (.t 12), none, false⟩]
abbrev i11r3 : List IOper := [
  ⟨(some 6), .mv (.c (.i .i64 0)), none, false⟩]
abbrev i11r4 : List IOper := [
  ⟨(some 13), .mv (.t 6), none, false⟩,
  ⟨(some 14), .mv (.t 4), none, false⟩,
  ⟨(some 15), .lenV (.t 14), none, false⟩,
  ⟨(some 16), .bin .lss (.t 13) (.t 15), none, true⟩]
abbrev i11r5 : List (IOper × List Nat) := [
  (⟨(some 20), .ld true 17 (.t 3), none, false⟩, []),
  (⟨(some 21), .mv (.t 4), none, false⟩, [0]),
  (⟨(some 22), .mv (.t 6), none, false⟩, [0, 1]),
  (⟨(some 23), .ixaV 1 (.t 21) (.t 22), none, false⟩, [0]),
  (⟨(some 24), .ld false 1 (.t 23), none, false⟩, [0]),
  (⟨(some 25), .mv (.t 5), none, false⟩, [0, 1, 2, 3, 4]),
  (⟨(some 26), .mv (.t 6), none, false⟩, [0, 1, 2, 3, 4, 5]),
  (⟨(some 27), .ixaV 1 (.t 25) (.t 26), none, false⟩, [0, 1, 2, 3, 4]),
  (⟨(some 28), .ld false 1 (.t 27), none, false⟩, [0, 1, 2, 3, 4]),
  (⟨(some 29), .call (.c (.fn 16 [])) [.t 20, .t 24, .t 28], none, false⟩, []),
  (⟨(some 19), .mv (.t 29), none, false⟩, []),
  (⟨(some 30), .ext (.t 19) 0, none, false⟩, []),
  (⟨(some 31), .ext (.t 19) 1, none, false⟩, [11]),
  (⟨none, .st 17 (.t 3) (.t 30), none, false⟩, [12])]
abbrev i11r6 : List IOper := [
  ⟨(some 17), .mv (.t 6), none, false⟩,
  ⟨(some 18), .bin .add (.t 17) (.c (.i .i64 1)), none, false⟩,
  ⟨(some 6), .mv (.t 18), none, false⟩]
abbrev i11l7 : ICode := (.seq (.seq (.reg i11r4) (.cond (.t 16) .skip (.exit 0))) (.seq (.block 1 (.dreg i11r5)) (.reg i11r6)))
abbrev i11r8 : List IOper := [
  ⟨(some 32), .ld true 17 (.t 3), none, false⟩,
  ⟨none, .st 17 (.t 2) (.t 32), none, false⟩]
abbrev i11c : ICode := (.seq (.reg i11r0) (.seq (.reg i11r1) (.seq (.reg i11r2) (.seq (.seq (.reg i11r3) (.block 0 (.loop i11l7))) (.seq (.reg i11r8) .ret)))))
def i11 : IFn := { np := 1, N := 33, ct := [16], code := i11c, res := [.c 2 true 17] }
theorem i11_eq : compF Try.prog Try.f11 = some i11 := by kernel_rfl
end Go.Proofs.Arr
