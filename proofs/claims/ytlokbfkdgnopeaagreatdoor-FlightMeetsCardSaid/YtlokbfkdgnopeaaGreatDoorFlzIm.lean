/- The small language's text of the functions; printed by ShowI.lean. -/
import Derived.Test.YtlokbfkdgnopeaaGreatDoorProg
import Derived.Test.YtlokbfkdgnopeaaGreatDoorAbRuns
namespace Go.Proofs.Flz
open Go.Ab
abbrev i19r0 : List IOper := [
 oo 6 (.mv (.c (.ns)))]
abbrev i19r1 : List IOper := [
 oo 7 (.mv (.c (.ns)))]
abbrev i19r2 : List IOper := [
 oo 8 (.mv (.c (.i .i64 0)))]
abbrev i19r3 : List IOper := [
 oo 16 (.mv (.t 8)),
 oo 17 (.mv (.t 0)),
 oo 18 (.lenV (.t 17)),
 ot 19 (.bin .lss (.t 16) (.t 18))]
abbrev i19r4 : List IOper := [
 oo 9 (.mv (.c (.i .i64 7)))]
abbrev i19r5 : List IOper := [
 oo 22 (.mv (.t 1)),
 oo 23 (.lenV (.t 22)),
 ot 24 (.bin .gtr (.t 23) (.c (.i .i64 0)))]
abbrev i19r6 : List IOper := [
 oo 25 (.mv (.t 1)),
 oo 26 (.mv (.t 8)),
 oo 27 (.mv (.t 1)),
 oo 28 (.lenV (.t 27)),
 oo 29 (.bin .rem (.t 26) (.t 28)),
 oo 30 (.ixaV 1 (.t 25) (.t 29)),
 oo 31 (.ld false 1 (.t 30)),
 oo 32 (.i2i .i64 (.t 31)),
 oo 33 (.bin .rem (.t 32) (.c (.i .i64 20))),
 oo 34 (.bin .add (.c (.i .i64 1)) (.t 33)),
 oo 9 (.mv (.t 34))]
abbrev i19r7 : List IOper := [
 oo 35 (.mv (.t 7)),
 oo 36 (.mv (.t 0)),
 oo 37 (.mv (.t 8)),
 oo 38 (.ixaV 3 (.t 36) (.t 37)),
 oo 39 (.ld true 3 (.t 38)),
 oo 40 (.mv (.t 9)),
 oo 41 (.call (.c (.fn 47 [])) [.t 39, .t 40]),
 oo 42 (.bsl [.ns] 1 [(0, 1, .t 41)]),
 oo 43 (.app 1 24 [.ns] (.t 35) (.t 42)),
 oo 7 (.mv (.t 43))]
abbrev i19r8 : List IOper := [
 oo 20 (.mv (.t 8)),
 oo 21 (.bin .add (.t 20) (.c (.i .i64 1))),
 oo 8 (.mv (.t 21))]
abbrev i19l9 : ICode := (.seq (.seq (.reg i19r3) (.cond (.t 19) .skip (.exit 0))) (.seq (.block 1 (.seq (.reg i19r4) (.seq (.seq (.reg i19r5) (.cond (.t 24) (.reg i19r6) .skip)) (.reg i19r7)))) (.reg i19r8)))
abbrev i19r10 : List IOper := [
 oo 10 (.mv (.c (.ns)))]
abbrev i19r11 : List IOper := [
 oo 11 (.mv (.c (.i .i64 0)))]
abbrev i19r12 : List IOper := [
 oo 44 (.mv (.t 7)),
 oo 45 (.lenV (.t 44)),
 ot 46 (.bin .gtr (.t 45) (.c (.i .i64 0)))]
abbrev i19r13 : List IOper := [
 oo 12 (.mv (.c (.i .i64 0)))]
abbrev i19r14 : List IOper := [
 oo 47 (.mv (.t 2)),
 oo 48 (.lenV (.t 47)),
 ot 49 (.bin .gtr (.t 48) (.c (.i .i64 0)))]
abbrev i19r15 : List IOper := [
 oo 50 (.mv (.t 2)),
 oo 51 (.mv (.t 11)),
 oo 52 (.mv (.t 2)),
 oo 53 (.lenV (.t 52)),
 oo 54 (.bin .rem (.t 51) (.t 53)),
 oo 55 (.ixaV 1 (.t 50) (.t 54)),
 oo 56 (.ld false 1 (.t 55)),
 oo 57 (.i2i .i64 (.t 56)),
 oo 12 (.mv (.t 57))]
abbrev i19r16 : List IOper := [
 oo 58 (.mv (.t 11)),
 oo 59 (.bin .add (.t 58) (.c (.i .i64 1))),
 oo 11 (.mv (.t 59))]
abbrev i19r17 : List IOper := [
 oo 60 (.mv (.t 12)),
 oo 61 (.mv (.t 7)),
 oo 62 (.lenV (.t 61)),
 oo 63 (.bin .rem (.t 60) (.t 62)),
 oo 13 (.mv (.t 63))]
abbrev i19r18 : List IOper := [
 oo 64 (.mv (.t 13)),
 ot 65 (.bin .geq (.t 64) (.c (.i .i64 4)))]
abbrev i19r19 : List IOper := [
 oo 13 (.mv (.c (.i .i64 0)))]
abbrev i19r20 : List IOper := [
 oo 66 (.mv (.t 7)),
 oo 67 (.mv (.t 13)),
 oo 68 (.ixaV 1 (.t 66) (.t 67)),
 oo 69 (.ld false 1 (.t 68)),
 oo 70 (.lenV (.t 69)),
 ot 71 (.bin .eql (.t 70) (.c (.i .i64 0)))]
abbrev i19r21 : List IOper := [
 oo 13 (.mv (.c (.i .i64 0)))]
abbrev i19r22 : List IOper := [
 oo 72 (.mv (.t 7)),
 oo 73 (.mv (.t 13)),
 oo 74 (.ixaV 1 (.t 72) (.t 73)),
 oo 75 (.ld false 1 (.t 74)),
 oo 76 (.lenV (.t 75)),
 ot 77 (.bin .gtr (.t 76) (.c (.i .i64 0)))]
abbrev i19r23 : List IOper := [
 oo 78 (.mv (.t 12)),
 oo 79 (.bin .quo (.t 78) (.c (.i .i64 8))),
 oo 80 (.mv (.t 7)),
 oo 81 (.mv (.t 13)),
 oo 82 (.ixaV 1 (.t 80) (.t 81)),
 oo 83 (.ld false 1 (.t 82)),
 oo 84 (.lenV (.t 83)),
 oo 85 (.bin .rem (.t 79) (.t 84)),
 oo 14 (.mv (.t 85))]
abbrev i19r24 : List IOper := [
 oo 86 (.mv (.t 10)),
 oo 87 (.mv (.t 7)),
 oo 88 (.mv (.t 13)),
 oo 89 (.ixaV 1 (.t 87) (.t 88)),
 oo 90 (.ld false 1 (.t 89)),
 oo 91 (.mv (.t 14)),
 oo 92 (.ixaV 1 (.t 90) (.t 91)),
 oo 93 (.ld false 1 (.t 92)),
 oo 94 (.bsl [.s []] 1 [(0, 1, .t 93)]),
 oo 95 (.app 1 16 [.s []] (.t 86) (.t 94)),
 oo 10 (.mv (.t 95))]
abbrev i19r25 : List IOper := [
 oo 96 (.mv (.t 12)),
 oo 97 (.bin .rem (.t 96) (.c (.i .i64 3))),
 ot 98 (.bin .eql (.t 97) (.c (.i .i64 0)))]
abbrev i19r26 : List IOper := [
 oo 99 (.mv (.t 10)),
 oo 100 (.mv (.t 7)),
 oo 101 (.mv (.t 13)),
 oo 102 (.ixaV 1 (.t 100) (.t 101)),
 oo 103 (.ld false 1 (.t 102)),
 oo 104 (.mv (.t 14)),
 oo 105 (.ixaV 1 (.t 103) (.t 104)),
 oo 106 (.ld false 1 (.t 105)),
 oo 107 (.bsl [.s []] 1 [(0, 1, .t 106)]),
 oo 108 (.app 1 16 [.s []] (.t 99) (.t 107)),
 oo 10 (.mv (.t 108))]
abbrev i19r27 : List IOper := [
 oo 15 (.mv (.c (.ns)))]
abbrev i19r28 : List IOper := [
 oo 109 (.mv (.t 15)),
 oo 110 (.mv (.t 7)),
 oo 111 (.mv (.t 13)),
 oo 112 (.ixaV 1 (.t 110) (.t 111)),
 oo 113 (.ld false 1 (.t 112)),
 oo 114 (.mv (.t 14)),
 oo 115 (.slV 1 (.t 113) none (some (.t 114)) none),
 oo 116 (.app 1 16 [.s []] (.t 109) (.t 115)),
 oo 15 (.mv (.t 116))]
abbrev i19r29 : List IOper := [
 oo 117 (.mv (.t 7)),
 oo 118 (.mv (.t 13)),
 oo 119 (.mv (.t 15)),
 oo 120 (.mv (.t 7)),
 oo 121 (.mv (.t 13)),
 oo 122 (.ixaV 1 (.t 120) (.t 121)),
 oo 123 (.ld false 1 (.t 122)),
 oo 124 (.mv (.t 14)),
 oo 125 (.bin .add (.t 124) (.c (.i .i64 1))),
 oo 126 (.slV 1 (.t 123) (some (.t 125)) none none),
 oo 127 (.app 1 16 [.s []] (.t 119) (.t 126)),
 oo 128 (.ixaV 1 (.t 117) (.t 118)),
 on_ (.st 1 (.t 128) (.t 127))]
abbrev i19r30 : List IOper := [
 oo 129 (.mv (.t 7)),
 oo 130 (.lenV (.t 129)),
 oo 131 (.bin .gtr (.t 130) (.c (.i .i64 0))),
 ot 132 (.mv (.t 131)),
 og 133 (.mv (.t 7)) 132 true false,
 og 134 (.ixaV 1 (.t 133) (.c (.i .i64 0))) 132 true false,
 og 135 (.ld false 1 (.t 134)) 132 true false,
 og 136 (.lenV (.t 135)) 132 true false,
 og 137 (.bin .eql (.t 136) (.c (.i .i64 0))) 132 true false,
 ot 138 (.pick (.t 132) (.t 137) (.c (.b false)))]
abbrev i19r31 : List IOper := [
 oo 139 (.mv (.t 7)),
 oo 140 (.slV 1 (.t 139) (some (.c (.i .i64 1))) none none),
 oo 7 (.mv (.t 140))]
abbrev i19l32 : ICode := (.seq (.seq (.reg i19r30) (.cond (.t 138) .skip (.exit 4))) (.block 5 (.reg i19r31)))
abbrev i19l33 : ICode := (.seq (.seq (.reg i19r12) (.cond (.t 46) .skip (.exit 2))) (.block 3 (.seq (.reg i19r13) (.seq (.seq (.reg i19r14) (.cond (.t 49) (.reg i19r15) .skip)) (.seq (.reg i19r16) (.seq (.reg i19r17) (.seq (.seq (.reg i19r18) (.cond (.t 65) (.reg i19r19) .skip)) (.seq (.seq (.reg i19r20) (.cond (.t 71) (.reg i19r21) .skip)) (.seq (.seq (.reg i19r22) (.cond (.t 77) (.seq (.reg i19r23) (.seq (.reg i19r24) (.seq (.seq (.reg i19r25) (.cond (.t 98) (.reg i19r26) .skip)) (.seq (.reg i19r27) (.seq (.reg i19r28) (.reg i19r29)))))) .skip)) (.block 4 (.loop i19l32)))))))))))
abbrev i19r34 : List IOper := [
 oo 141 (.mv (.t 10)),
 oo 6 (.mv (.t 141))]
abbrev i19c : ICode := (.seq (.reg i19r0) (.seq (.reg i19r1) (.seq (.seq (.reg i19r2) (.block 0 (.loop i19l9))) (.seq (.reg i19r10) (.seq (.reg i19r11) (.seq (.block 2 (.loop i19l33)) (.seq (.reg i19r34) .ret)))))))
def i19 : IFn := { np := 3, N := 142, ct := [19, 24, 46, 49, 65, 71, 77, 98, 138], code := i19c, res := [.t 6] }
theorem i19_eq : compF Tryz.prog Tryz.f19 = some i19 := by kernel_rfl
end Go.Proofs.Flz
