/- The small language's text of the functions; printed by ShowI.lean. -/
import Derived.Test.YtiacdfhaopnekaaProg
import Derived.Test.YtiacdfhaopnekaaAbRuns
namespace Go.Proofs.Arr
open Go.Ab
abbrev i23r0 : List IOper := [
  ⟨(some 2), .mv (.c (.i .i64 0)), none, false⟩,
  ⟨(some 3), .mv (.c (.i .i64 0)), none, false⟩,
  ⟨(some 4), .mv (.c (.i .i64 0)), none, false⟩]
abbrev i23r1 : List (IOper × List Nat) := [
  (⟨(some 7), .mv (.t 0), none, false⟩, []),
  (⟨(some 8), .lenV (.t 7), none, false⟩, []),
  (⟨(some 9), .bin .lss (.t 8) (.c (.i .i64 2)), none, false⟩, []),
  (⟨(some 10), .mv (.t 9), none, true⟩, []),
  (⟨(some 11), .mv (.t 0), (some (10, false)), false⟩, []),
  (⟨(some 12), .call (.c (.fn 31 [])) [.t 11], (some (10, false)), false⟩, []),
  (⟨(some 13), .not (.t 12), (some (10, false)), false⟩, []),
  (⟨(some 14), .pick (.t 10) (.c (.b true)) (.t 13), none, false⟩, []),
  (⟨(some 15), .mv (.t 14), none, true⟩, []),
  (⟨(some 16), .mv (.t 0), (some (15, false)), false⟩, []),
  (⟨(some 17), .ixaV 2 (.t 16) (.c (.i .i64 0)), (some (15, false)), false⟩, []),
  (⟨(some 18), .fa 0 (.t 17), (some (15, false)), false⟩, []),
  (⟨(some 19), .ld false 1 (.t 18), (some (15, false)), false⟩, []),
  (⟨(some 20), .mv (.t 0), (some (15, false)), false⟩, [9, 10, 11, 12]),
  (⟨(some 21), .mv (.t 0), (some (15, false)), false⟩, [9, 10, 11, 12, 13]),
  (⟨(some 22), .lenV (.t 21), (some (15, false)), false⟩, [9, 10, 11, 12, 13]),
  (⟨(some 23), .bin .sub (.t 22) (.c (.i .i64 1)), (some (15, false)), false⟩, [9, 10, 11, 12, 13]),
  (⟨(some 24), .ixaV 2 (.t 20) (.t 23), (some (15, false)), false⟩, [9, 10, 11, 12]),
  (⟨(some 25), .fa 0 (.t 24), (some (15, false)), false⟩, [9, 10, 11, 12]),
  (⟨(some 26), .ld false 1 (.t 25), (some (15, false)), false⟩, [9, 10, 11, 12]),
  (⟨(some 27), .bin .eql (.t 19) (.t 26), (some (15, false)), false⟩, []),
  (⟨(some 28), .pick (.t 15) (.c (.b true)) (.t 27), none, true⟩, [])]
abbrev i23r2 : List IOper := [
  ⟨(some 2), .mv (.c (.i .i64 0)), none, false⟩,
  ⟨(some 3), .mv (.c (.i .i64 0)), none, false⟩,
  ⟨(some 4), .mv (.c (.i .i64 291)), none, false⟩]
abbrev i23r3 : List IOper := [
  ⟨(some 30), .mv (.t 0), none, false⟩,
  ⟨(some 31), .call (.c (.fn 39 [])) [.t 30], none, false⟩,
  ⟨(some 29), .mv (.t 31), none, false⟩,
  ⟨(some 32), .ext (.t 29) 0, none, false⟩,
  ⟨(some 33), .ext (.t 29) 1, none, false⟩,
  ⟨(some 5), .mv (.t 32), none, false⟩,
  ⟨(some 6), .mv (.t 33), none, false⟩]
abbrev i23r4 : List IOper := [
  ⟨(some 34), .mv (.t 5), none, false⟩,
  ⟨(some 35), .mv (.t 6), none, false⟩,
  ⟨(some 2), .mv (.t 34), none, false⟩,
  ⟨(some 3), .mv (.t 35), none, false⟩,
  ⟨(some 4), .mv (.c (.i .i64 0)), none, false⟩]
abbrev i23c : ICode := (.seq (.reg i23r0) (.seq (.seq (.dreg i23r1) (.cond (.t 28) (.seq (.reg i23r2) .ret) .skip)) (.seq (.reg i23r3) (.seq (.reg i23r4) .ret))))
def i23 : IFn := { np := 1, N := 36, ct := [28], code := i23c, res := [.t 2, .t 3, .t 4] }
theorem i23_eq : compF Try.prog Try.f23 = some i23 := by kernel_rfl
end Go.Proofs.Arr
