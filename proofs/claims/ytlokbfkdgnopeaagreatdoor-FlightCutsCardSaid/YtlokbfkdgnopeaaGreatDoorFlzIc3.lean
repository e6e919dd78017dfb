/- The small language's text of the functions; printed by ShowI.lean. -/
import Derived.Test.YtlokbfkdgnopeaaGreatDoorProg
import Derived.Test.YtlokbfkdgnopeaaGreatDoorAbRuns
namespace Go.Proofs.Flz
open Go.Ab
abbrev i3r0 : List IOper := [
 oo 6 (.box (.t 0)),
 oo 7 (.box (.t 1)),
 oo 12 (.mv (.c (.b false)))]
abbrev i3r1 : List IOper := [
 oo 30 (.fa 2 (.t 6)),
 oo 31 (.ld false 1 (.t 30)),
 oo 32 (.fa 2 (.t 6)),
 oo 33 (.ld false 1 (.t 32)),
 oo 34 (.lenS (.t 33)),
 oo 35 (.mn (.t 34) [.c (.i .i64 4010)]),
 oo 36 (.slS (.t 31) none (some (.t 35))),
 oo 37 (.fa 2 (.t 6)),
 on_ (.st 1 (.t 37) (.t 36))]
abbrev i3r2 : List (IOper × List Nat) := [
 (oo 38 (.ld true 3 (.t 7)), []),
 (oo 39 (.call (.c (.fn 9 [])) [.t 38]), []),
 (oo 40 (.ld true 3 (.t 6)), [0, 1]),
 (oo 41 (.bsl [.i .i64 0, .i .i64 0, .s []] 1 [(0, 3, .t 40)]), [0, 1]),
 (oo 42 (.app 3 32 [.i .i64 0, .i .i64 0, .s []] (.t 39) (.t 41)), []),
 (oo 13 (.mv (.t 42)), [])]
abbrev i3r3 : List IOper := [
 oo 43 (.mv (.t 3)),
 oo 44 (.mv (.t 3)),
 oo 45 (.lenS (.t 44)),
 oo 46 (.mn (.t 45) [.c (.i .i64 1210)]),
 oo 47 (.slS (.t 43) none (some (.t 46))),
 oo 48 (.bsl [.s []] 1 [(0, 1, .t 47)]),
 oo 14 (.mv (.t 48))]
abbrev i3r4 : List IOper := [
 oo 49 (.mv (.t 13)),
 oo 50 (.lenV (.t 49)),
 oo 51 (.mv (.c (.i .i64 0)))]
abbrev i3r5 : List IOper := [
 ot 52 (.bin .lss (.t 51) (.t 50))]
abbrev i3r6 : List IOper := [
 oo 53 (.ixaV 3 (.t 49) (.t 51)),
 oo 54 (.ld true 3 (.t 53)),
 oo 16 (.new [.i .i64 0, .i .i64 0, .s []]),
 on_ (.st 3 (.t 16) (.t 54))]
abbrev i3r7 : List IOper := [
 oo 55 (.mv (.t 2)),
 oo 56 (.mv (.t 4)),
 oo 57 (.i2i .i64 (.t 56)),
 oo 58 (.bin .rem (.t 57) (.c (.i .i64 80))),
 oo 59 (.bin .add (.c (.i .i64 1)) (.t 58)),
 oo 60 (.build [.i .i64 0, .i .i64 0] [(0, 1, .t 55), (1, 1, .t 59)]),
 oo 61 (.mv (.c (.i .i64 0)))]
abbrev i3r8 : List IOper := [
 ot 62 (.bin .lss (.t 61) (.c (.i .i64 2)))]
abbrev i3r9 : List IOper := [
 oo 63 (.ixA 2 1 false (.t 60) (.t 61)),
 oo 18 (.mv (.t 63))]
abbrev i3r10 : List IOper := [
 oo 65 (.ld true 3 (.t 16)),
 oo 66 (.mv (.t 18)),
 oo 67 (.call (.c (.fn 10 [])) [.t 65, .t 66]),
 oo 64 (.mv (.t 67)),
 oo 68 (.ext (.t 64) 0),
 oo 69 (.ext (.t 64) 1),
 oo 19 (.mv (.t 68)),
 oo 20 (.mv (.t 69))]
abbrev i3r11 : List IOper := [
 oo 71 (.ld true 3 (.t 16)),
 oo 72 (.mv (.t 18)),
 oo 73 (.call (.c (.fn 11 [])) [.t 71, .t 72]),
 oo 70 (.mv (.t 73)),
 oo 74 (.ext (.t 70) 0),
 oo 75 (.ext (.t 70) 1),
 oo 21 (.mv (.t 74)),
 oo 22 (.mv (.t 75))]
abbrev i3r12 : List (IOper × List Nat) := [
 (oo 76 (.ld true 3 (.t 16)), []),
 (oo 77 (.call (.c (.fn 12 [])) [.t 76]), []),
 (oo 78 (.ld true 3 (.t 16)), [0, 1]),
 (oo 79 (.call (.c (.fn 13 [])) [.t 78]), []),
 (oo 80 (.bin .neq (.t 77) (.t 79)), []),
 (ot 81 (.mv (.t 80)), []),
 (og 82 (.mv (.t 20)) 81 false false, []),
 (og 83 (.mv (.t 22)) 81 false false, [6]),
 (og 84 (.bin .neq (.t 82) (.t 83)) 81 false false, []),
 (oo 85 (.pick (.t 81) (.c (.b true)) (.t 84)), []),
 (ot 86 (.mv (.t 85)), []),
 (og 87 (.mv (.t 19)) 86 false false, []),
 (og 88 (.mv (.t 21)) 86 false false, [11]),
 (og 89 (.call (.c (.fn 14 [])) [.t 87, .t 88]) 86 false false, []),
 (og 90 (.not (.t 89)) 86 false false, []),
 (ot 91 (.pick (.t 86) (.c (.b true)) (.t 90)), [])]
abbrev i3r13 : List IOper := [
 oo 12 (.mv (.c (.b false)))]
abbrev i3r14 : List IOper := [
 oo 92 (.mv (.t 22)),
 ot 93 (.bin .eql (.t 92) (.c (.i .i64 0)))]
abbrev i3r15 : List IOper := [
 oo 94 (.mv (.t 21)),
 oo 95 (.mv (.t 5)),
 oo 96 (.i2i .i64 (.t 95)),
 oo 97 (.mv (.t 21)),
 oo 98 (.lenV (.t 97)),
 oo 99 (.bin .rem (.t 96) (.t 98)),
 oo 100 (.ixaV 1 (.t 94) (.t 99)),
 oo 101 (.ld false 1 (.t 100)),
 oo 102 (.s2b (.t 101)),
 oo 23 (.mv (.t 102))]
abbrev i3r16 : List (IOper × List Nat) := [
 (oo 103 (.mv (.t 14)), []),
 (oo 104 (.mv (.t 23)), [0]),
 (oo 105 (.b2s (.t 104)), [0]),
 (oo 106 (.mv (.t 23)), [0, 1, 2]),
 (oo 107 (.mv (.t 4)), [0, 1, 2, 3]),
 (oo 108 (.i2i .i64 (.t 107)), [0, 1, 2, 3]),
 (oo 109 (.mv (.t 23)), [0, 1, 2, 3, 4, 5]),
 (oo 110 (.lenV (.t 109)), [0, 1, 2, 3, 4, 5]),
 (oo 111 (.bin .add (.t 110) (.c (.i .i64 1))), [0, 1, 2, 3, 4, 5]),
 (oo 112 (.bin .rem (.t 108) (.t 111)), [0, 1, 2, 3]),
 (oo 113 (.slV 1 (.t 106) none (some (.t 112)) none), [0, 1, 2]),
 (oo 114 (.b2s (.t 113)), [0, 1, 2]),
 (oo 115 (.mv (.t 23)), [0, 1, 2, 3, 4, 5, 6, 7, 8, 9, 10, 11]),
 (oo 116 (.b2s (.t 115)), [0, 1, 2, 3, 4, 5, 6, 7, 8, 9, 10, 11]),
 (oo 117 (.bin .add (.t 116) (.c (.s [120]))), [0, 1, 2, 3, 4, 5, 6, 7, 8, 9, 10, 11]),
 (oo 118 (.bsl [.s [], .s [], .s []] 3 [(0, 1, .t 105), (1, 1, .t 114), (2, 1, .t 117)]), [0]),
 (oo 119 (.app 1 16 [.s []] (.t 103) (.t 118)), []),
 (oo 14 (.mv (.t 119)), [])]
abbrev i3r17 : List IOper := [
 oo 120 (.mv (.t 23)),
 oo 121 (.mv (.t 4)),
 oo 122 (.i2i .i64 (.t 121)),
 oo 123 (.mv (.t 23)),
 oo 124 (.lenV (.t 123)),
 oo 125 (.bin .rem (.t 122) (.t 124)),
 oo 126 (.mv (.t 5)),
 oo 127 (.ixaV 1 (.t 120) (.t 125)),
 on_ (.st 1 (.t 127) (.t 126))]
abbrev i3r18 : List IOper := [
 oo 128 (.mv (.t 14)),
 oo 129 (.mv (.t 23)),
 oo 130 (.b2s (.t 129)),
 oo 131 (.bsl [.s []] 1 [(0, 1, .t 130)]),
 oo 132 (.app 1 16 [.s []] (.t 128) (.t 131)),
 oo 14 (.mv (.t 132))]
abbrev i3r19 : List IOper := [
 oo 133 (.bin .add (.t 61) (.c (.i .i64 1))),
 oo 61 (.mv (.t 133))]
abbrev i3l20 : ICode := (.seq (.reg i3r8) (.seq (.cond (.t 62) .skip (.exit 2)) (.seq (.block 3 (.seq (.reg i3r9) (.seq (.reg i3r10) (.seq (.reg i3r11) (.seq (.seq (.dreg i3r12) (.cond (.t 91) (.seq (.reg i3r13) .ret) .skip)) (.seq (.reg i3r14) (.cond (.t 93) (.seq (.reg i3r15) (.seq (.dreg i3r16) (.seq (.reg i3r17) (.reg i3r18)))) .skip))))))) (.reg i3r19))))
abbrev i3r21 : List IOper := [
 oo 134 (.bin .add (.t 51) (.c (.i .i64 1))),
 oo 51 (.mv (.t 134))]
abbrev i3l22 : ICode := (.seq (.reg i3r5) (.seq (.cond (.t 52) .skip (.exit 0)) (.seq (.block 1 (.seq (.reg i3r6) (.seq (.reg i3r7) (.block 2 (.loop i3l20))))) (.reg i3r21))))
abbrev i3r23 : List IOper := [
 oo 135 (.mv (.t 14)),
 oo 136 (.lenV (.t 135)),
 oo 137 (.mv (.c (.i .i64 0)))]
abbrev i3r24 : List IOper := [
 ot 138 (.bin .lss (.t 137) (.t 136))]
abbrev i3r25 : List IOper := [
 oo 139 (.ixaV 1 (.t 135) (.t 137)),
 oo 140 (.ld false 1 (.t 139)),
 oo 25 (.mv (.t 140))]
abbrev i3r26 : List IOper := [
 oo 142 (.mv (.t 25)),
 oo 143 (.call (.c (.fn 15 [])) [.t 142]),
 oo 141 (.mv (.t 143)),
 oo 144 (.ext (.t 141) 0),
 oo 145 (.ext (.t 141) 1),
 oo 26 (.new [.i .i64 0, .i .i64 0, .i .i64 0, .i .i64 0, .s []]),
 on_ (.st 5 (.t 26) (.t 144)),
 oo 27 (.mv (.t 145))]
abbrev i3r27 : List IOper := [
 oo 147 (.mv (.t 25)),
 oo 148 (.call (.c (.fn 16 [])) [.t 147]),
 oo 146 (.mv (.t 148)),
 oo 149 (.ext (.t 146) 0),
 oo 150 (.ext (.t 146) 1),
 oo 28 (.new [.i .i64 0, .i .i64 0, .i .i64 0, .i .i64 0, .s []]),
 on_ (.st 5 (.t 28) (.t 149)),
 oo 29 (.mv (.t 150))]
abbrev i3r28 : List IOper := [
 oo 151 (.ld true 5 (.t 26)),
 oo 152 (.ld true 5 (.t 28)),
 oo 153 (.eqk true true [.i, .i, .i, .i, .s] (.t 151) (.t 152)),
 ot 154 (.mv (.t 153)),
 og 155 (.mv (.t 27)) 154 false false,
 og 156 (.mv (.t 29)) 154 false false,
 og 157 (.bin .neq (.t 155) (.t 156)) 154 false false,
 ot 158 (.pick (.t 154) (.c (.b true)) (.t 157))]
abbrev i3r29 : List IOper := [
 oo 12 (.mv (.c (.b false)))]
abbrev i3r30 : List IOper := [
 oo 159 (.bin .add (.t 137) (.c (.i .i64 1))),
 oo 137 (.mv (.t 159))]
abbrev i3l31 : ICode := (.seq (.reg i3r24) (.seq (.cond (.t 138) .skip (.exit 4)) (.seq (.block 5 (.seq (.reg i3r25) (.seq (.reg i3r26) (.seq (.reg i3r27) (.seq (.reg i3r28) (.cond (.t 158) (.seq (.reg i3r29) .ret) .skip)))))) (.reg i3r30))))
abbrev i3r32 : List IOper := [
 oo 160 (.call (.c (.fn 17 [])) []),
 oo 12 (.mv (.t 160))]
abbrev i3c : ICode := (.seq (.reg i3r0) (.seq (.reg i3r1) (.seq (.dreg i3r2) (.seq (.reg i3r3) (.seq (.seq (.reg i3r4) (.block 0 (.loop i3l22))) (.seq (.seq (.reg i3r23) (.block 4 (.loop i3l31))) (.seq (.reg i3r32) .ret)))))))
def i3 : IFn := { np := 6, N := 161, ct := [52, 62, 91, 93, 138, 158], code := i3c, res := [.t 12] }
theorem i3_eq : compF Tryz.prog Tryz.f3 = some i3 := by kernel_rfl
end Go.Proofs.Flz
