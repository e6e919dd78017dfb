/- The small language's text of the functions; printed by ShowI.lean. -/
import Derived.Test.YthnmkedknannhaaProg
import Derived.Test.YthnmkedknannhaaAbRuns
namespace Go.Proofs.Res
open Go.Ab
abbrev i4r0 : List IOper := [
  ⟨(some 5), .box (.t 0), none, false⟩,
  ⟨(some 6), .box (.t 1), none, false⟩,
  ⟨(some 7), .box (.t 2), none, false⟩,
  ⟨(some 10), .mv (.c (.b false)), none, false⟩]
abbrev i4r1 : List IOper := [
  ⟨(some 31), .ld true 3 (.t 5), none, false⟩,
  ⟨(some 32), .call (.c (.fn 9 [])) [.t 31], none, false⟩,
  ⟨(some 11), .new [.i .i64 0, .b false, .i .i64 0, .ns], none, false⟩,
  ⟨none, .st 4 (.t 11) (.t 32), none, false⟩]
abbrev i4r2 : List IOper := [
  ⟨(some 33), .ixaA 2 3 (.t 6) (.c (.i .i64 0)), none, false⟩,
  ⟨(some 34), .ld true 3 (.t 33), none, false⟩,
  ⟨(some 35), .ld true 4 (.t 11), none, false⟩,
  ⟨(some 36), .call (.c (.fn 10 [])) [.t 34, .t 35], none, false⟩,
  ⟨(some 12), .new [.i .i64 0, .b false, .i .i64 0, .ns], none, false⟩,
  ⟨none, .st 4 (.t 12) (.t 36), none, false⟩]
abbrev i4r3 : List (IOper × List Nat) := [
  (⟨(some 37), .ld true 4 (.t 11), none, false⟩, []),
  (⟨(some 38), .ld true 4 (.t 12), none, false⟩, [0]),
  (⟨(some 39), .ixaA 2 3 (.t 6) (.c (.i .i64 1)), none, false⟩, [0, 1]),
  (⟨(some 40), .ld true 3 (.t 39), none, false⟩, [0, 1]),
  (⟨(some 41), .ld true 4 (.t 12), none, false⟩, [0, 1, 2, 3]),
  (⟨(some 42), .call (.c (.fn 10 [])) [.t 40, .t 41], none, false⟩, [0, 1]),
  (⟨(some 43), .build [.i .i64 0, .b false, .i .i64 0, .ns, .i .i64 0, .b false, .i .i64 0, .ns, .i .i64 0, .b false, .i .i64 0, .ns] [(0, 4, .t 37), (4, 4, .t 38), (8, 4, .t 42)], none, false⟩, []),
  (⟨(some 44), .mv (.c (.i .i64 0)), none, false⟩, [0, 1, 2, 3, 4, 5, 6])]
abbrev i4r4 : List IOper := [
  ⟨(some 45), .bin .lss (.t 44) (.c (.i .i64 3)), none, true⟩]
abbrev i4r5 : List IOper := [
  ⟨(some 46), .ixA 3 4 true (.t 43) (.t 44), none, false⟩,
  ⟨(some 14), .new [.i .i64 0, .b false, .i .i64 0, .ns], none, false⟩,
  ⟨none, .st 4 (.t 14) (.t 46), none, false⟩]
abbrev i4r6 : List (IOper × List Nat) := [
  (⟨(some 47), .ixaA 2 1 (.t 7) (.c (.i .i64 1)), none, false⟩, []),
  (⟨(some 48), .ld false 1 (.t 47), none, false⟩, []),
  (⟨(some 49), .ld true 3 (.t 5), none, false⟩, [0, 1]),
  (⟨(some 50), .call (.c (.fn 17 [])) [.t 49], none, false⟩, [0, 1]),
  (⟨(some 51), .mv (.t 4), none, false⟩, [0, 1, 2, 3]),
  (⟨(some 52), .bin .rem (.t 51) (.c (.i .u16 2000)), none, false⟩, [0, 1, 2, 3]),
  (⟨(some 53), .i2i .i64 (.t 52), none, false⟩, [0, 1, 2, 3]),
  (⟨(some 54), .bin .add (.c (.i .i64 1)) (.t 53), none, false⟩, [0, 1, 2, 3]),
  (⟨(some 55), .build [.i .i64 0, .i .i64 0, .i .i64 0] [(0, 1, .t 48), (1, 1, .t 50), (2, 1, .t 54)], none, false⟩, []),
  (⟨(some 56), .mv (.c (.i .i64 0)), none, false⟩, [0, 1, 2, 3, 4, 5, 6, 7, 8])]
abbrev i4r7 : List IOper := [
  ⟨(some 57), .bin .lss (.t 56) (.c (.i .i64 3)), none, true⟩]
abbrev i4r8 : List IOper := [
  ⟨(some 58), .ixA 3 1 false (.t 55) (.t 56), none, false⟩,
  ⟨(some 16), .mv (.t 58), none, false⟩]
abbrev i4r9 : List IOper := [
  ⟨(some 60), .ld true 4 (.t 14), none, false⟩,
  ⟨(some 61), .mv (.t 16), none, false⟩,
  ⟨(some 62), .call (.c (.fn 18 [])) [.t 60, .t 61], none, false⟩,
  ⟨(some 59), .mv (.t 62), none, false⟩,
  ⟨(some 63), .ext (.t 59) 0, none, false⟩,
  ⟨(some 64), .ext (.t 59) 1, none, false⟩,
  ⟨(some 17), .mv (.t 63), none, false⟩,
  ⟨(some 18), .mv (.t 64), none, false⟩]
abbrev i4r10 : List IOper := [
  ⟨(some 66), .ld true 4 (.t 14), none, false⟩,
  ⟨(some 67), .mv (.t 16), none, false⟩,
  ⟨(some 68), .call (.c (.fn 19 [])) [.t 66, .t 67], none, false⟩,
  ⟨(some 65), .mv (.t 68), none, false⟩,
  ⟨(some 69), .ext (.t 65) 0, none, false⟩,
  ⟨(some 70), .ext (.t 65) 1, none, false⟩,
  ⟨(some 19), .mv (.t 69), none, false⟩,
  ⟨(some 20), .mv (.t 70), none, false⟩]
abbrev i4r11 : List IOper := [
  ⟨(some 71), .mv (.t 17), none, false⟩,
  ⟨(some 72), .mv (.t 19), none, false⟩,
  ⟨(some 73), .bin .neq (.t 71) (.t 72), none, false⟩,
  ⟨(some 74), .mv (.t 73), none, true⟩,
  ⟨(some 75), .mv (.t 18), (some (74, false)), false⟩,
  ⟨(some 76), .mv (.t 20), (some (74, false)), false⟩,
  ⟨(some 77), .bin .neq (.t 75) (.t 76), (some (74, false)), false⟩,
  ⟨(some 78), .pick (.t 74) (.c (.b true)) (.t 77), none, true⟩]
abbrev i4r12 : List IOper := [
  ⟨(some 10), .mv (.c (.b false)), none, false⟩]
abbrev i4r13 : List IOper := [
  ⟨(some 79), .ixaA 2 1 (.t 7) (.c (.i .i64 0)), none, false⟩,
  ⟨(some 80), .ld false 1 (.t 79), none, false⟩,
  ⟨(some 81), .fa 0 (.t 14), none, false⟩,
  ⟨(some 82), .ld false 1 (.t 81), none, false⟩,
  ⟨(some 83), .mv (.t 3), none, false⟩,
  ⟨(some 84), .i2i .i64 (.t 83), none, false⟩,
  ⟨(some 85), .bin .add (.t 82) (.t 84), none, false⟩,
  ⟨(some 86), .mv (.t 17), none, false⟩,
  ⟨(some 87), .mv (.t 17), none, false⟩,
  ⟨(some 88), .bin .sub (.t 87) (.c (.i .i64 1)), none, false⟩,
  ⟨(some 89), .build [.i .i64 0, .i .i64 0, .i .i64 0, .i .i64 0] [(0, 1, .t 80), (1, 1, .t 85), (2, 1, .t 86), (3, 1, .t 88)], none, false⟩,
  ⟨(some 90), .mv (.c (.i .i64 0)), none, false⟩]
abbrev i4r14 : List IOper := [
  ⟨(some 91), .bin .lss (.t 90) (.c (.i .i64 4)), none, true⟩]
abbrev i4r15 : List IOper := [
  ⟨(some 92), .ixA 4 1 false (.t 89) (.t 90), none, false⟩,
  ⟨(some 22), .mv (.t 92), none, false⟩]
abbrev i4r16 : List IOper := [
  ⟨(some 94), .ld true 4 (.t 14), none, false⟩,
  ⟨(some 95), .mv (.t 22), none, false⟩,
  ⟨(some 96), .mv (.t 16), none, false⟩,
  ⟨(some 97), .call (.c (.fn 20 [])) [.t 94, .t 95, .t 96], none, false⟩,
  ⟨(some 93), .mv (.t 97), none, false⟩,
  ⟨(some 98), .ext (.t 93) 0, none, false⟩,
  ⟨(some 99), .ext (.t 93) 1, none, false⟩,
  ⟨(some 100), .ext (.t 93) 2, none, false⟩,
  ⟨(some 101), .ext (.t 93) 3, none, false⟩,
  ⟨(some 23), .new [.i .i64 0, .b false, .i .i64 0, .ns], none, false⟩,
  ⟨none, .st 4 (.t 23) (.t 98), none, false⟩,
  ⟨(some 24), .mv (.t 99), none, false⟩,
  ⟨(some 25), .mv (.t 100), none, false⟩,
  ⟨(some 26), .mv (.t 101), none, false⟩]
abbrev i4r17 : List IOper := [
  ⟨(some 103), .ld true 4 (.t 14), none, false⟩,
  ⟨(some 104), .mv (.t 22), none, false⟩,
  ⟨(some 105), .mv (.t 16), none, false⟩,
  ⟨(some 106), .call (.c (.fn 21 [])) [.t 103, .t 104, .t 105], none, false⟩,
  ⟨(some 102), .mv (.t 106), none, false⟩,
  ⟨(some 107), .ext (.t 102) 0, none, false⟩,
  ⟨(some 108), .ext (.t 102) 1, none, false⟩,
  ⟨(some 109), .ext (.t 102) 2, none, false⟩,
  ⟨(some 110), .ext (.t 102) 3, none, false⟩,
  ⟨(some 27), .new [.i .i64 0, .b false, .i .i64 0, .ns], none, false⟩,
  ⟨none, .st 4 (.t 27) (.t 107), none, false⟩,
  ⟨(some 28), .mv (.t 108), none, false⟩,
  ⟨(some 29), .mv (.t 109), none, false⟩,
  ⟨(some 30), .mv (.t 110), none, false⟩]
abbrev i4r18 : List IOper := [
  ⟨(some 111), .mv (.t 26), none, false⟩,
  ⟨(some 112), .mv (.t 30), none, false⟩,
  ⟨(some 113), .bin .neq (.t 111) (.t 112), none, false⟩,
  ⟨(some 114), .mv (.t 113), none, true⟩,
  ⟨(some 115), .mv (.t 25), (some (114, false)), false⟩,
  ⟨(some 116), .mv (.t 29), (some (114, false)), false⟩,
  ⟨(some 117), .eqk true false [.b] (.t 115) (.t 116), (some (114, false)), false⟩,
  ⟨(some 118), .pick (.t 114) (.c (.b true)) (.t 117), none, false⟩,
  ⟨(some 119), .mv (.t 118), none, true⟩,
  ⟨(some 120), .mv (.t 24), (some (119, false)), false⟩,
  ⟨(some 121), .mv (.t 28), (some (119, false)), false⟩,
  ⟨(some 122), .call (.c (.fn 22 [])) [.t 120, .t 121], (some (119, false)), false⟩,
  ⟨(some 123), .not (.t 122), (some (119, false)), false⟩,
  ⟨(some 124), .pick (.t 119) (.c (.b true)) (.t 123), none, false⟩,
  ⟨(some 125), .mv (.t 124), none, true⟩,
  ⟨(some 126), .ld true 4 (.t 23), (some (125, false)), false⟩,
  ⟨(some 127), .ld true 4 (.t 27), (some (125, false)), false⟩,
  ⟨(some 128), .call (.c (.fn 15 [])) [.t 126, .t 127], (some (125, false)), false⟩,
  ⟨(some 129), .not (.t 128), (some (125, false)), false⟩,
  ⟨(some 130), .pick (.t 125) (.c (.b true)) (.t 129), none, true⟩]
abbrev i4r19 : List IOper := [
  ⟨(some 10), .mv (.c (.b false)), none, false⟩]
abbrev i4r20 : List IOper := [
  ⟨(some 131), .bin .add (.t 90) (.c (.i .i64 1)), none, false⟩,
  ⟨(some 90), .mv (.t 131), none, false⟩]
abbrev i4l21 : ICode := (.seq (.reg i4r14) (.seq (.cond (.t 91) .skip (.exit 4)) (.seq (.block 5 (.seq (.reg i4r15) (.seq (.reg i4r16) (.seq (.reg i4r17) (.seq (.reg i4r18) (.cond (.t 130) (.seq (.reg i4r19) .ret) .skip)))))) (.reg i4r20))))
abbrev i4r22 : List IOper := [
  ⟨(some 132), .bin .add (.t 56) (.c (.i .i64 1)), none, false⟩,
  ⟨(some 56), .mv (.t 132), none, false⟩]
abbrev i4l23 : ICode := (.seq (.reg i4r7) (.seq (.cond (.t 57) .skip (.exit 2)) (.seq (.block 3 (.seq (.reg i4r8) (.seq (.reg i4r9) (.seq (.reg i4r10) (.seq (.seq (.reg i4r11) (.cond (.t 78) (.seq (.reg i4r12) .ret) .skip)) (.seq (.reg i4r13) (.block 4 (.loop i4l21)))))))) (.reg i4r22))))
abbrev i4r24 : List IOper := [
  ⟨(some 133), .bin .add (.t 44) (.c (.i .i64 1)), none, false⟩,
  ⟨(some 44), .mv (.t 133), none, false⟩]
abbrev i4l25 : ICode := (.seq (.reg i4r4) (.seq (.cond (.t 45) .skip (.exit 0)) (.seq (.block 1 (.seq (.reg i4r5) (.seq (.dreg i4r6) (.block 2 (.loop i4l23))))) (.reg i4r24))))
abbrev i4r26 : List IOper := [
  ⟨(some 134), .call (.c (.fn 16 [])) [], none, false⟩,
  ⟨(some 10), .mv (.t 134), none, false⟩]
abbrev i4c : ICode := (.seq (.reg i4r0) (.seq (.reg i4r1) (.seq (.reg i4r2) (.seq (.seq (.dreg i4r3) (.block 0 (.loop i4l25))) (.seq (.reg i4r26) .ret)))))
def i4 : IFn := { np := 5, N := 135, ct := [45, 57, 78, 91, 130], code := i4c, res := [.t 10] }
theorem i4_eq : compF Try.prog Try.f4 = some i4 := by kernel_rfl
end Go.Proofs.Res
