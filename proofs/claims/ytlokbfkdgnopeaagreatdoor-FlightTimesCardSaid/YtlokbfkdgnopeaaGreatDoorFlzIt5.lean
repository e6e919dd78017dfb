/- The small language's text of the functions; printed by ShowI.lean. -/
import Derived.Test.YtlokbfkdgnopeaaGreatDoorProg
import Derived.Test.YtlokbfkdgnopeaaGreatDoorAbRuns
namespace Go.Proofs.Flz
open Go.Ab
abbrev i5r0 : List IOper := [
 oo 4 (.box (.t 0)),
 oo 8 (.mv (.c (.b false)))]
abbrev i5r1 : List IOper := [
 oo 31 (.mv (.t 2)),
 oo 32 (.i2i .u64 (.t 31)),
 oo 33 (.bin .rem (.t 32) (.c (.i .u64 1099511627777))),
 oo 34 (.i2i .i64 (.t 33)),
 oo 35 (.call (.c (.fn 27 [])) [.t 34]),
 oo 30 (.mv (.t 35)),
 oo 36 (.ext (.t 30) 0),
 oo 37 (.ext (.t 30) 1),
 oo 9 (.new [.i .i64 0, .i .i64 0, .i .i64 0]),
 on_ (.st 3 (.t 9) (.t 36)),
 oo 10 (.mv (.t 37))]
abbrev i5r2 : List IOper := [
 oo 11 (.mv (.c (.i .i64 0)))]
abbrev i5r3 : List IOper := [
 oo 38 (.mv (.t 11)),
 oo 39 (.mv (.t 3)),
 oo 40 (.bin .rem (.t 39) (.c (.i .u8 9))),
 oo 41 (.i2i .i64 (.t 40)),
 oo 42 (.bin .lss (.t 38) (.t 41)),
 ot 43 (.mv (.t 42)),
 og 44 (.fa 0 (.t 9)) 43 true false,
 og 45 (.ld false 1 (.t 44)) 43 true false,
 og 46 (.bin .leq (.t 45) (.c (.i .i64 1099511627776))) 43 true false,
 ot 47 (.pick (.t 43) (.t 46) (.c (.b false)))]
abbrev i5r4 : List IOper := [
 oo 51 (.ld true 3 (.t 9)),
 oo 52 (.fa 0 (.t 9)),
 oo 53 (.ld false 1 (.t 52)),
 oo 54 (.call (.c (.fn 28 [])) [.t 51, .t 53]),
 oo 50 (.mv (.t 54)),
 oo 55 (.ext (.t 50) 0),
 oo 56 (.ext (.t 50) 1),
 oo 12 (.new [.i .i64 0, .i .i64 0, .i .i64 0]),
 on_ (.st 3 (.t 12) (.t 55)),
 oo 13 (.mv (.t 56))]
abbrev i5r5 : List IOper := [
 oo 57 (.mv (.t 13)),
 ot 58 (.bin .eql (.t 57) (.c (.i .i64 0)))]
abbrev i5r6 : List IOper := [
 oo 59 (.ld true 3 (.t 12)),
 on_ (.st 3 (.t 9) (.t 59))]
abbrev i5r7 : List IOper := [
 oo 48 (.mv (.t 11)),
 oo 49 (.bin .add (.t 48) (.c (.i .i64 1))),
 oo 11 (.mv (.t 49))]
abbrev i5l8 : ICode := (.seq (.seq (.reg i5r3) (.cond (.t 47) .skip (.exit 0))) (.seq (.block 1 (.seq (.reg i5r4) (.seq (.reg i5r5) (.cond (.t 58) (.reg i5r6) .skip)))) (.reg i5r7)))
abbrev i5r9 : List IOper := [
 oo 61 (.mv (.t 1)),
 oo 62 (.call (.c (.fn 29 [])) [.t 61]),
 oo 60 (.mv (.t 62)),
 oo 63 (.ext (.t 60) 0),
 oo 64 (.ext (.t 60) 1),
 oo 14 (.new [.i .i64 0, .i .i64 0, .i .i64 0]),
 on_ (.st 3 (.t 14) (.t 63)),
 oo 15 (.mv (.t 64))]
abbrev i5r10 : List IOper := [
 oo 66 (.mv (.t 1)),
 oo 67 (.call (.c (.fn 27 [])) [.t 66]),
 oo 65 (.mv (.t 67)),
 oo 68 (.ext (.t 65) 0),
 oo 69 (.ext (.t 65) 1),
 oo 16 (.new [.i .i64 0, .i .i64 0, .i .i64 0]),
 on_ (.st 3 (.t 16) (.t 68)),
 oo 17 (.mv (.t 69))]
abbrev i5r11 : List IOper := [
 oo 70 (.ld true 3 (.t 14)),
 oo 71 (.ld true 3 (.t 16)),
 oo 72 (.eqk true true [.i, .i, .i] (.t 70) (.t 71)),
 ot 73 (.mv (.t 72)),
 og 74 (.mv (.t 15)) 73 false false,
 og 75 (.mv (.t 17)) 73 false false,
 og 76 (.bin .neq (.t 74) (.t 75)) 73 false false,
 ot 77 (.pick (.t 73) (.c (.b true)) (.t 76))]
abbrev i5r12 : List IOper := [
 oo 8 (.mv (.c (.b false)))]
abbrev i5r13 : List (IOper × List Nat) := [
 (oo 78 (.ld true 3 (.t 4)), []),
 (oo 79 (.ld true 3 (.t 9)), [0]),
 (oo 80 (.call (.c (.fn 30 [])) []), [0, 1]),
 (oo 81 (.build [.i .i64 0, .i .i64 0, .i .i64 0, .i .i64 0, .i .i64 0, .i .i64 0, .i .i64 0, .i .i64 0, .i .i64 0] [(0, 3, .t 78), (3, 3, .t 79), (6, 3, .t 80)]), []),
 (oo 82 (.mv (.c (.i .i64 0))), [0, 1, 2, 3])]
abbrev i5r14 : List IOper := [
 ot 83 (.bin .lss (.t 82) (.c (.i .i64 3)))]
abbrev i5r15 : List IOper := [
 oo 84 (.ixA 3 3 true (.t 81) (.t 82)),
 oo 19 (.new [.i .i64 0, .i .i64 0, .i .i64 0]),
 on_ (.st 3 (.t 19) (.t 84))]
abbrev i5r16 : List (IOper × List Nat) := [
 (oo 85 (.ld true 3 (.t 19)), []),
 (oo 86 (.call (.c (.fn 31 [])) [.t 85]), []),
 (oo 87 (.ld true 3 (.t 19)), [0, 1]),
 (oo 88 (.call (.c (.fn 32 [])) [.t 87]), []),
 (ot 89 (.bin .neq (.t 86) (.t 88)), [])]
abbrev i5r17 : List IOper := [
 oo 8 (.mv (.c (.b false)))]
abbrev i5r18 : List IOper := [
 oo 90 (.mv (.t 1)),
 oo 91 (.fa 0 (.t 9)),
 oo 92 (.ld false 1 (.t 91)),
 oo 93 (.fa 0 (.t 9)),
 oo 94 (.ld false 1 (.t 93)),
 oo 95 (.bin .sub (.t 94) (.c (.i .i64 1))),
 oo 96 (.fa 0 (.t 9)),
 oo 97 (.ld false 1 (.t 96)),
 oo 98 (.mv (.t 3)),
 oo 99 (.i2i .i64 (.t 98)),
 oo 100 (.bin .add (.t 97) (.t 99)),
 oo 101 (.build [.i .i64 0, .i .i64 0, .i .i64 0, .i .i64 0] [(0, 1, .t 90), (1, 1, .t 92), (2, 1, .t 95), (3, 1, .t 100)]),
 oo 102 (.mv (.c (.i .i64 0)))]
abbrev i5r19 : List IOper := [
 ot 103 (.bin .lss (.t 102) (.c (.i .i64 4)))]
abbrev i5r20 : List IOper := [
 oo 104 (.ixA 4 1 false (.t 101) (.t 102)),
 oo 21 (.mv (.t 104))]
abbrev i5r21 : List IOper := [
 oo 106 (.ld true 3 (.t 19)),
 oo 107 (.mv (.t 21)),
 oo 108 (.call (.c (.fn 33 [])) [.t 106, .t 107]),
 oo 105 (.mv (.t 108)),
 oo 109 (.ext (.t 105) 0),
 oo 110 (.ext (.t 105) 1),
 oo 22 (.mv (.t 109)),
 oo 23 (.mv (.t 110))]
abbrev i5r22 : List IOper := [
 oo 112 (.ld true 3 (.t 19)),
 oo 113 (.mv (.t 21)),
 oo 114 (.call (.c (.fn 34 [])) [.t 112, .t 113]),
 oo 111 (.mv (.t 114)),
 oo 115 (.ext (.t 111) 0),
 oo 116 (.ext (.t 111) 1),
 oo 24 (.mv (.t 115)),
 oo 25 (.mv (.t 116))]
abbrev i5r23 : List IOper := [
 oo 118 (.ld true 3 (.t 19)),
 oo 119 (.mv (.t 21)),
 oo 120 (.call (.c (.fn 35 [])) [.t 118, .t 119]),
 oo 117 (.mv (.t 120)),
 oo 121 (.ext (.t 117) 0),
 oo 122 (.ext (.t 117) 1),
 oo 26 (.new [.i .i64 0, .i .i64 0, .i .i64 0]),
 on_ (.st 3 (.t 26) (.t 121)),
 oo 27 (.mv (.t 122))]
abbrev i5r24 : List IOper := [
 oo 124 (.ld true 3 (.t 19)),
 oo 125 (.mv (.t 21)),
 oo 126 (.call (.c (.fn 28 [])) [.t 124, .t 125]),
 oo 123 (.mv (.t 126)),
 oo 127 (.ext (.t 123) 0),
 oo 128 (.ext (.t 123) 1),
 oo 28 (.new [.i .i64 0, .i .i64 0, .i .i64 0]),
 on_ (.st 3 (.t 28) (.t 127)),
 oo 29 (.mv (.t 128))]
abbrev i5r25 : List IOper := [
 oo 129 (.mv (.t 22)),
 oo 130 (.mv (.t 24)),
 oo 131 (.eqk true false [.b] (.t 129) (.t 130)),
 ot 132 (.mv (.t 131)),
 og 133 (.mv (.t 23)) 132 false false,
 og 134 (.mv (.t 25)) 132 false false,
 og 135 (.bin .neq (.t 133) (.t 134)) 132 false false,
 oo 136 (.pick (.t 132) (.c (.b true)) (.t 135)),
 ot 137 (.mv (.t 136)),
 og 138 (.ld true 3 (.t 26)) 137 false false,
 og 139 (.ld true 3 (.t 28)) 137 false false,
 og 140 (.eqk true true [.i, .i, .i] (.t 138) (.t 139)) 137 false false,
 oo 141 (.pick (.t 137) (.c (.b true)) (.t 140)),
 ot 142 (.mv (.t 141)),
 og 143 (.mv (.t 27)) 142 false false,
 og 144 (.mv (.t 29)) 142 false false,
 og 145 (.bin .neq (.t 143) (.t 144)) 142 false false,
 ot 146 (.pick (.t 142) (.c (.b true)) (.t 145))]
abbrev i5r26 : List IOper := [
 oo 8 (.mv (.c (.b false)))]
abbrev i5r27 : List IOper := [
 oo 147 (.bin .add (.t 102) (.c (.i .i64 1))),
 oo 102 (.mv (.t 147))]
abbrev i5l28 : ICode := (.seq (.reg i5r19) (.seq (.cond (.t 103) .skip (.exit 4)) (.seq (.block 5 (.seq (.reg i5r20) (.seq (.reg i5r21) (.seq (.reg i5r22) (.seq (.reg i5r23) (.seq (.reg i5r24) (.seq (.reg i5r25) (.cond (.t 146) (.seq (.reg i5r26) .ret) .skip)))))))) (.reg i5r27))))
abbrev i5r29 : List IOper := [
 oo 148 (.bin .add (.t 82) (.c (.i .i64 1))),
 oo 82 (.mv (.t 148))]
abbrev i5l30 : ICode := (.seq (.reg i5r14) (.seq (.cond (.t 83) .skip (.exit 2)) (.seq (.block 3 (.seq (.reg i5r15) (.seq (.seq (.dreg i5r16) (.cond (.t 89) (.seq (.reg i5r17) .ret) .skip)) (.seq (.reg i5r18) (.block 4 (.loop i5l28)))))) (.reg i5r29))))
abbrev i5r31 : List IOper := [
 oo 149 (.call (.c (.fn 17 [])) []),
 oo 8 (.mv (.t 149))]
abbrev i5c : ICode := (.seq (.reg i5r0) (.seq (.reg i5r1) (.seq (.seq (.reg i5r2) (.block 0 (.loop i5l8))) (.seq (.reg i5r9) (.seq (.reg i5r10) (.seq (.seq (.reg i5r11) (.cond (.t 77) (.seq (.reg i5r12) .ret) .skip)) (.seq (.seq (.dreg i5r13) (.block 2 (.loop i5l30))) (.seq (.reg i5r31) .ret))))))))
def i5 : IFn := { np := 4, N := 150, ct := [47, 58, 77, 83, 89, 103, 146], code := i5c, res := [.t 8] }
theorem i5_eq : compF Tryz.prog Tryz.f5 = some i5 := by kernel_rfl
end Go.Proofs.Flz
