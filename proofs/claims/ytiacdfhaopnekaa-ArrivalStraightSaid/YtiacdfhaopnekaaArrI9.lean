/- The small language's text of the functions; printed by ShowI.lean. -/
import Derived.Test.YtiacdfhaopnekaaProg
import Derived.Test.YtiacdfhaopnekaaAbRuns
namespace Go.Proofs.Arr
open Go.Ab
abbrev i9r0 : List IOper := [
  ⟨(some 9), .box (.t 4), none, false⟩,
  ⟨(some 10), .mv (.c (.b false)), none, false⟩]
abbrev i9r1 : List IOper := [
  ⟨(some 25), .call (.c (.fn 20 [])) [], none, false⟩,
  ⟨(some 26), .not (.t 25), none, true⟩]
abbrev i9r2 : List IOper := [
  ⟨(some 10), .mv (.c (.b false)), none, false⟩]
abbrev i9r3 : List IOper := [
  ⟨(some 11), .mv (.c (.ns)), none, false⟩,
  ⟨(some 12), .mv (.c (.ns)), none, false⟩,
  ⟨(some 13), .mv (.c (.ns)), none, false⟩,
  ⟨(some 14), .mv (.c (.ns)), none, false⟩]
abbrev i9r4 : List IOper := [
  ⟨(some 15), .mv (.c (.i .i64 0)), none, false⟩]
abbrev i9r5 : List IOper := [
  ⟨(some 27), .mv (.t 2), none, false⟩,
  ⟨(some 28), .mv (.t 2), none, false⟩,
  ⟨(some 29), .lenV (.t 28), none, false⟩,
  ⟨(some 30), .mn (.t 29) [.c (.i .i64 20)], none, false⟩,
  ⟨(some 31), .slV 1 (.t 27) none (some (.t 30)) none, none, false⟩,
  ⟨(some 32), .lenV (.t 31), none, false⟩,
  ⟨(some 33), .mv (.c (.i .i64 0)), none, false⟩]
abbrev i9r6 : List IOper := [
  ⟨(some 34), .bin .lss (.t 33) (.t 32), none, true⟩]
abbrev i9r7 : List IOper := [
  ⟨(some 35), .mv (.t 33), none, false⟩,
  ⟨(some 36), .ixaV 1 (.t 31) (.t 33), none, false⟩,
  ⟨(some 37), .ld false 1 (.t 36), none, false⟩,
  ⟨(some 16), .mv (.t 35), none, false⟩,
  ⟨(some 17), .mv (.t 37), none, false⟩]
abbrev i9r8 : List IOper := [
  ⟨(some 38), .mv (.t 15), none, false⟩,
  ⟨(some 39), .mv (.t 17), none, false⟩,
  ⟨(some 40), .i2i .i64 (.t 39), none, false⟩,
  ⟨(some 41), .bin .add (.t 38) (.t 40), none, false⟩,
  ⟨(some 15), .mv (.t 41), none, false⟩]
abbrev i9r9 : List IOper := [
  ⟨(some 42), .mv (.t 11), none, false⟩,
  ⟨(some 43), .mv (.t 15), none, false⟩,
  ⟨(some 44), .mv (.t 0), none, false⟩,
  ⟨(some 45), .i2i .i64 (.t 44), none, false⟩,
  ⟨(some 46), .mv (.t 15), none, false⟩,
  ⟨(some 47), .bin .mul (.t 45) (.t 46), none, false⟩,
  ⟨(some 48), .mv (.t 1), none, false⟩,
  ⟨(some 49), .i2i .i64 (.t 48), none, false⟩,
  ⟨(some 50), .bin .add (.t 47) (.t 49), none, false⟩,
  ⟨(some 51), .build [.i .i64 0, .i .i64 0] [(0, 1, .t 43), (1, 1, .t 50)], none, false⟩,
  ⟨(some 52), .bsl [.i .i64 0, .i .i64 0] 1 [(0, 2, .t 51)], none, false⟩,
  ⟨(some 53), .app 2 16 [.i .i64 0, .i .i64 0] (.t 42) (.t 52), none, false⟩,
  ⟨(some 11), .mv (.t 53), none, false⟩]
abbrev i9r10 : List IOper := [
  ⟨(some 18), .mv (.c (.i .i64 0)), none, false⟩]
abbrev i9r11 : List IOper := [
  ⟨(some 54), .mv (.t 3), none, false⟩,
  ⟨(some 55), .lenV (.t 54), none, false⟩,
  ⟨(some 56), .bin .gtr (.t 55) (.c (.i .i64 0)), none, true⟩]
abbrev i9r12 : List IOper := [
  ⟨(some 57), .mv (.t 3), none, false⟩,
  ⟨(some 58), .mv (.t 16), none, false⟩,
  ⟨(some 59), .mv (.t 3), none, false⟩,
  ⟨(some 60), .lenV (.t 59), none, false⟩,
  ⟨(some 61), .bin .rem (.t 58) (.t 60), none, false⟩,
  ⟨(some 62), .ixaV 1 (.t 57) (.t 61), none, false⟩,
  ⟨(some 63), .ld false 1 (.t 62), none, false⟩,
  ⟨(some 64), .i2i .i64 (.t 63), none, false⟩,
  ⟨(some 65), .bin .mul (.c (.i .i64 1000)) (.t 64), none, false⟩,
  ⟨(some 18), .mv (.t 65), none, false⟩]
abbrev i9r13 : List IOper := [
  ⟨(some 66), .mv (.t 12), none, false⟩,
  ⟨(some 67), .mv (.t 15), none, false⟩,
  ⟨(some 68), .mv (.t 18), none, false⟩,
  ⟨(some 69), .build [.i .i64 0, .i .i64 0] [(0, 1, .t 67), (1, 1, .t 68)], none, false⟩,
  ⟨(some 70), .bsl [.i .i64 0, .i .i64 0] 1 [(0, 2, .t 69)], none, false⟩,
  ⟨(some 71), .app 2 16 [.i .i64 0, .i .i64 0] (.t 66) (.t 70), none, false⟩,
  ⟨(some 12), .mv (.t 71), none, false⟩]
abbrev i9r14 : List IOper := [
  ⟨(some 72), .mv (.t 13), none, false⟩,
  ⟨(some 73), .mv (.t 15), none, false⟩,
  ⟨(some 74), .ixaA 2 1 (.t 9) (.c (.i .i64 0)), none, false⟩,
  ⟨(some 75), .ld false 1 (.t 74), none, false⟩,
  ⟨(some 76), .i2i .i64 (.t 75), none, false⟩,
  ⟨(some 77), .bin .add (.t 73) (.t 76), none, false⟩,
  ⟨(some 78), .mv (.t 18), none, false⟩,
  ⟨(some 79), .ixaA 2 1 (.t 9) (.c (.i .i64 1)), none, false⟩,
  ⟨(some 80), .ld false 1 (.t 79), none, false⟩,
  ⟨(some 81), .i2i .i64 (.t 80), none, false⟩,
  ⟨(some 82), .bin .sub (.t 78) (.t 81), none, false⟩,
  ⟨(some 83), .build [.i .i64 0, .i .i64 0] [(0, 1, .t 77), (1, 1, .t 82)], none, false⟩,
  ⟨(some 84), .bsl [.i .i64 0, .i .i64 0] 1 [(0, 2, .t 83)], none, false⟩,
  ⟨(some 85), .app 2 16 [.i .i64 0, .i .i64 0] (.t 72) (.t 84), none, false⟩,
  ⟨(some 13), .mv (.t 85), none, false⟩]
abbrev i9r15 : List IOper := [
  ⟨(some 86), .mv (.t 14), none, false⟩,
  ⟨(some 87), .mv (.t 15), none, false⟩,
  ⟨(some 88), .mv (.t 18), none, false⟩,
  ⟨(some 89), .neg (.t 88), none, false⟩,
  ⟨(some 90), .build [.i .i64 0, .i .i64 0] [(0, 1, .t 87), (1, 1, .t 89)], none, false⟩,
  ⟨(some 91), .bsl [.i .i64 0, .i .i64 0] 1 [(0, 2, .t 90)], none, false⟩,
  ⟨(some 92), .app 2 16 [.i .i64 0, .i .i64 0] (.t 86) (.t 91), none, false⟩,
  ⟨(some 14), .mv (.t 92), none, false⟩]
abbrev i9r16 : List IOper := [
  ⟨(some 93), .bin .add (.t 33) (.c (.i .i64 1)), none, false⟩,
  ⟨(some 33), .mv (.t 93), none, false⟩]
abbrev i9l17 : ICode := (.seq (.reg i9r6) (.seq (.cond (.t 34) .skip (.exit 0)) (.seq (.block 1 (.seq (.reg i9r7) (.seq (.reg i9r8) (.seq (.reg i9r9) (.seq (.reg i9r10) (.seq (.seq (.reg i9r11) (.cond (.t 56) (.reg i9r12) .skip)) (.seq (.reg i9r13) (.seq (.reg i9r14) (.reg i9r15))))))))) (.reg i9r16))))
abbrev i9r18 : List IOper := [
  ⟨(some 94), .mv (.t 11), none, false⟩,
  ⟨(some 95), .lenV (.t 94), none, false⟩,
  ⟨(some 96), .bin .lss (.t 95) (.c (.i .i64 2)), none, false⟩,
  ⟨(some 97), .mv (.t 96), none, true⟩,
  ⟨(some 98), .mv (.t 11), (some (97, false)), false⟩,
  ⟨(some 99), .ixaV 2 (.t 98) (.c (.i .i64 0)), (some (97, false)), false⟩,
  ⟨(some 100), .fa 0 (.t 99), (some (97, false)), false⟩,
  ⟨(some 101), .ld false 1 (.t 100), (some (97, false)), false⟩,
  ⟨(some 102), .mv (.t 15), (some (97, false)), false⟩,
  ⟨(some 103), .bin .eql (.t 101) (.t 102), (some (97, false)), false⟩,
  ⟨(some 104), .pick (.t 97) (.c (.b true)) (.t 103), none, true⟩]
abbrev i9r19 : List IOper := [
  ⟨(some 105), .mv (.t 11), none, false⟩,
  ⟨(some 106), .call (.c (.fn 25 [])) [.t 105], none, false⟩,
  ⟨(some 107), .mv (.t 106), none, true⟩,
  ⟨(some 108), .mv (.t 12), (some (107, true)), false⟩,
  ⟨(some 109), .call (.c (.fn 25 [])) [.t 108], (some (107, true)), false⟩,
  ⟨(some 110), .pick (.t 107) (.t 109) (.c (.b false)), none, false⟩,
  ⟨(some 10), .mv (.t 110), none, false⟩]
abbrev i9r20 : List IOper := [
  ⟨(some 112), .mv (.t 11), none, false⟩,
  ⟨(some 113), .call (.c (.fn 22 [])) [.t 112], none, false⟩,
  ⟨(some 111), .mv (.t 113), none, false⟩,
  ⟨(some 114), .ext (.t 111) 0, none, false⟩,
  ⟨(some 115), .ext (.t 111) 1, none, false⟩,
  ⟨(some 116), .ext (.t 111) 2, none, false⟩,
  ⟨(some 19), .mv (.t 114), none, false⟩,
  ⟨(some 20), .mv (.t 115), none, false⟩,
  ⟨(some 21), .mv (.t 116), none, false⟩]
abbrev i9r21 : List IOper := [
  ⟨(some 118), .mv (.t 12), none, false⟩,
  ⟨(some 119), .call (.c (.fn 22 [])) [.t 118], none, false⟩,
  ⟨(some 117), .mv (.t 119), none, false⟩,
  ⟨(some 120), .ext (.t 117) 0, none, false⟩,
  ⟨(some 121), .ext (.t 117) 1, none, false⟩,
  ⟨(some 122), .ext (.t 117) 2, none, false⟩,
  ⟨(some 22), .mv (.t 120), none, false⟩,
  ⟨(some 23), .mv (.t 121), none, false⟩,
  ⟨(some 24), .mv (.t 122), none, false⟩]
abbrev i9r22 : List IOper := [
  ⟨(some 123), .mv (.t 21), none, false⟩,
  ⟨(some 124), .bin .eql (.t 123) (.c (.i .i64 0)), none, false⟩,
  ⟨(some 125), .mv (.t 124), none, true⟩,
  ⟨(some 126), .mv (.t 20), (some (125, true)), false⟩,
  ⟨(some 127), .bin .gtr (.t 126) (.c (.i .i64 0)), (some (125, true)), false⟩,
  ⟨(some 128), .pick (.t 125) (.t 127) (.c (.b false)), none, false⟩,
  ⟨(some 129), .mv (.t 128), none, true⟩,
  ⟨(some 130), .mv (.t 19), (some (129, true)), false⟩,
  ⟨(some 131), .mv (.t 0), (some (129, true)), false⟩,
  ⟨(some 132), .i2i .i64 (.t 131), (some (129, true)), false⟩,
  ⟨(some 133), .mv (.t 20), (some (129, true)), false⟩,
  ⟨(some 134), .bin .mul (.t 132) (.t 133), (some (129, true)), false⟩,
  ⟨(some 135), .bin .eql (.t 130) (.t 134), (some (129, true)), false⟩,
  ⟨(some 136), .pick (.t 129) (.t 135) (.c (.b false)), none, false⟩,
  ⟨(some 137), .mv (.t 136), none, true⟩,
  ⟨(some 138), .mv (.t 24), (some (137, true)), false⟩,
  ⟨(some 139), .bin .eql (.t 138) (.c (.i .i64 0)), (some (137, true)), false⟩,
  ⟨(some 140), .pick (.t 137) (.t 139) (.c (.b false)), none, false⟩,
  ⟨(some 141), .mv (.t 140), none, true⟩,
  ⟨(some 142), .mv (.t 23), (some (141, true)), false⟩,
  ⟨(some 143), .mv (.t 20), (some (141, true)), false⟩,
  ⟨(some 144), .bin .eql (.t 142) (.t 143), (some (141, true)), false⟩,
  ⟨(some 145), .pick (.t 141) (.t 144) (.c (.b false)), none, false⟩,
  ⟨(some 146), .mv (.t 145), none, true⟩,
  ⟨(some 147), .mv (.t 22), (some (146, true)), false⟩,
  ⟨(some 148), .mv (.t 23), (some (146, true)), false⟩,
  ⟨(some 149), .mv (.t 13), (some (146, true)), false⟩,
  ⟨(some 150), .call (.c (.fn 26 [])) [.t 147, .t 148, .t 149], (some (146, true)), false⟩,
  ⟨(some 151), .pick (.t 146) (.t 150) (.c (.b false)), none, false⟩,
  ⟨(some 152), .mv (.t 151), none, true⟩,
  ⟨(some 153), .mv (.t 22), (some (152, true)), false⟩,
  ⟨(some 154), .neg (.t 153), (some (152, true)), false⟩,
  ⟨(some 155), .mv (.t 23), (some (152, true)), false⟩,
  ⟨(some 156), .mv (.t 14), (some (152, true)), false⟩,
  ⟨(some 157), .call (.c (.fn 26 [])) [.t 154, .t 155, .t 156], (some (152, true)), false⟩,
  ⟨(some 158), .pick (.t 152) (.t 157) (.c (.b false)), none, false⟩,
  ⟨(some 10), .mv (.t 158), none, false⟩]
abbrev i9c : ICode := (.seq (.reg i9r0) (.seq (.seq (.reg i9r1) (.cond (.t 26) (.seq (.reg i9r2) .ret) .skip)) (.seq (.reg i9r3) (.seq (.reg i9r4) (.seq (.seq (.reg i9r5) (.block 0 (.loop i9l17))) (.seq (.seq (.reg i9r18) (.cond (.t 104) (.seq (.reg i9r19) .ret) .skip)) (.seq (.reg i9r20) (.seq (.reg i9r21) (.seq (.reg i9r22) .ret)))))))))
def i9 : IFn := { np := 5, N := 159, ct := [26, 34, 56, 104], code := i9c, res := [.t 10] }
theorem i9_eq : compF Try.prog Try.f9 = some i9 := by kernel_rfl
end Go.Proofs.Arr
