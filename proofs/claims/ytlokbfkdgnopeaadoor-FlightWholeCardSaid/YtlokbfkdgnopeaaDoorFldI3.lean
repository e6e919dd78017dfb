/- The small language's text of the functions; printed by ShowI.lean. -/
import Derived.Test.YtlokbfkdgnopeaaDoorProg
import Derived.Test.YtlokbfkdgnopeaaDoorAbRuns
namespace Go.Proofs.Fld
open Go.Ab
abbrev i3r0 : List IOper := [
 oo 10 (.mv (.c (.b false)))]
abbrev i3r1 : List IOper := [
 oo 21 (.call (.c (.fn 5 [])) []),
 ot 22 (.not (.t 21))]
abbrev i3r2 : List IOper := [
 oo 10 (.mv (.c (.b false)))]
abbrev i3r3 : List IOper := [
 oo 23 (.mv (.t 2)),
 oo 24 (.mv (.t 2)),
 oo 25 (.lenV (.t 24)),
 oo 26 (.mn (.t 25) [.c (.i .i64 16)]),
 oo 27 (.slV 1 (.t 23) none (some (.t 26)) none),
 oo 28 (.b2s (.t 27)),
 oo 29 (.mv (.t 3)),
 oo 30 (.i2i .i64 (.t 29)),
 oo 31 (.call (.c (.fn 6 [])) [.t 28, .t 30]),
 oo 11 (.mv (.t 31))]
abbrev i3r4 : List IOper := [
 oo 32 (.mv (.t 0)),
 oo 33 (.i2i .i64 (.t 32)),
 oo 34 (.mv (.t 1)),
 oo 35 (.i2i .i64 (.t 34)),
 oo 36 (.mv (.t 11)),
 oo 37 (.mv (.t 11)),
 oo 38 (.lenS (.t 37)),
 oo 39 (.mn (.t 38) [.c (.i .i64 4000)]),
 oo 40 (.slS (.t 36) none (some (.t 39))),
 oo 41 (.build [.i .i64 0, .i .i64 0, .s []] [(0, 1, .t 33), (1, 1, .t 35), (2, 1, .t 40)]),
 oo 12 (.new [.i .i64 0, .i .i64 0, .s []]),
 on_ (.st 3 (.t 12) (.t 41))]
abbrev i3r5 : List IOper := [
 oo 42 (.mv (.t 4)),
 oo 43 (.i2i .i64 (.t 42)),
 oo 44 (.bin .rem (.t 43) (.c (.i .i64 1100))),
 oo 45 (.bin .add (.c (.i .i64 1)) (.t 44)),
 oo 13 (.mv (.t 45))]
abbrev i3r6 : List IOper := [
 oo 47 (.ld true 3 (.t 12)),
 oo 48 (.mv (.t 13)),
 oo 49 (.call (.c (.fn 7 [])) [.t 47, .t 48]),
 oo 46 (.mv (.t 49)),
 oo 50 (.ext (.t 46) 0),
 oo 51 (.ext (.t 46) 1),
 oo 14 (.mv (.t 50)),
 oo 15 (.mv (.t 51))]
abbrev i3r7 : List IOper := [
 oo 52 (.mv (.t 15)),
 oo 53 (.bin .neq (.t 52) (.c (.i .i64 0))),
 ot 54 (.mv (.t 53)),
 og 55 (.mv (.t 14)) 54 false false,
 og 56 (.lenV (.t 55)) 54 false false,
 og 57 (.fa 2 (.t 12)) 54 false false,
 og 58 (.ld false 1 (.t 57)) 54 false false,
 og 59 (.lenS (.t 58)) 54 false false,
 og 60 (.mv (.t 13)) 54 false false,
 og 61 (.bin .add (.t 59) (.t 60)) 54 false false,
 og 62 (.bin .sub (.t 61) (.c (.i .i64 1))) 54 false false,
 og 63 (.mv (.t 13)) 54 false false,
 og 64 (.bin .quo (.t 62) (.t 63)) 54 false false,
 og 65 (.mx (.c (.i .i64 1)) [.t 64]) 54 false false,
 og 66 (.bin .neq (.t 56) (.t 65)) 54 false false,
 ot 67 (.pick (.t 54) (.c (.b true)) (.t 66))]
abbrev i3r8 : List IOper := [
 oo 10 (.mv (.c (.b false)))]
abbrev i3r9 : List IOper := [
 oo 16 (.mv (.c (.s [])))]
abbrev i3r10 : List IOper := [
 oo 68 (.mv (.t 14)),
 oo 69 (.lenV (.t 68)),
 oo 70 (.mv (.c (.i .i64 0)))]
abbrev i3r11 : List IOper := [
 ot 71 (.bin .lss (.t 70) (.t 69))]
abbrev i3r12 : List IOper := [
 oo 72 (.mv (.t 70)),
 oo 73 (.ixaV 1 (.t 68) (.t 70)),
 oo 74 (.ld false 1 (.t 73)),
 oo 17 (.mv (.t 72)),
 oo 18 (.mv (.t 74))]
abbrev i3r13 : List IOper := [
 oo 76 (.mv (.t 18)),
 oo 77 (.call (.c (.fn 8 [])) [.t 76]),
 oo 75 (.mv (.t 77)),
 oo 78 (.ext (.t 75) 0),
 oo 79 (.ext (.t 75) 1),
 oo 19 (.new [.i .i64 0, .i .i64 0, .i .i64 0, .i .i64 0, .s []]),
 on_ (.st 5 (.t 19) (.t 78)),
 oo 20 (.mv (.t 79))]
abbrev i3r14 : List IOper := [
 oo 80 (.mv (.t 20)),
 oo 81 (.bin .neq (.t 80) (.c (.i .i64 0))),
 ot 82 (.mv (.t 81)),
 og 83 (.fa 0 (.t 19)) 82 false false,
 og 84 (.ld false 1 (.t 83)) 82 false false,
 og 85 (.fa 0 (.t 12)) 82 false false,
 og 86 (.ld false 1 (.t 85)) 82 false false,
 og 87 (.bin .neq (.t 84) (.t 86)) 82 false false,
 oo 88 (.pick (.t 82) (.c (.b true)) (.t 87)),
 ot 89 (.mv (.t 88)),
 og 90 (.fa 2 (.t 19)) 89 false false,
 og 91 (.ld false 1 (.t 90)) 89 false false,
 og 92 (.fa 1 (.t 12)) 89 false false,
 og 93 (.ld false 1 (.t 92)) 89 false false,
 og 94 (.bin .neq (.t 91) (.t 93)) 89 false false,
 oo 95 (.pick (.t 89) (.c (.b true)) (.t 94)),
 ot 96 (.mv (.t 95)),
 og 97 (.fa 1 (.t 19)) 96 false false,
 og 98 (.ld false 1 (.t 97)) 96 false false,
 og 99 (.fa 2 (.t 12)) 96 false false,
 og 100 (.ld false 1 (.t 99)) 96 false false,
 og 101 (.lenS (.t 100)) 96 false false,
 og 102 (.bin .neq (.t 98) (.t 101)) 96 false false,
 oo 103 (.pick (.t 96) (.c (.b true)) (.t 102)),
 ot 104 (.mv (.t 103)),
 og 105 (.fa 3 (.t 19)) 104 false false,
 og 106 (.ld false 1 (.t 105)) 104 false false,
 og 107 (.mv (.t 16)) 104 false false,
 og 108 (.lenS (.t 107)) 104 false false,
 og 109 (.bin .neq (.t 106) (.t 108)) 104 false false,
 oo 110 (.pick (.t 104) (.c (.b true)) (.t 109)),
 ot 111 (.mv (.t 110)),
 og 112 (.mv (.t 17)) 111 false false,
 og 113 (.mv (.t 14)) 111 false false,
 og 114 (.lenV (.t 113)) 111 false false,
 og 115 (.bin .sub (.t 114) (.c (.i .i64 1))) 111 false false,
 og 116 (.bin .lss (.t 112) (.t 115)) 111 false false,
 og 117 (.mv (.t 116)) 111 false true,
 og 118 (.fa 4 (.t 19)) 117 true false,
 og 119 (.ld false 1 (.t 118)) 117 true false,
 og 120 (.lenS (.t 119)) 117 true false,
 og 121 (.mv (.t 13)) 117 true false,
 og 122 (.bin .neq (.t 120) (.t 121)) 117 true false,
 og 123 (.pick (.t 117) (.t 122) (.c (.b false))) 111 false false,
 oo 124 (.pick (.t 111) (.c (.b true)) (.t 123)),
 ot 125 (.mv (.t 124)),
 og 126 (.mv (.t 18)) 125 false false,
 og 127 (.lenS (.t 126)) 125 false false,
 og 128 (.fa 4 (.t 19)) 125 false false,
 og 129 (.ld false 1 (.t 128)) 125 false false,
 og 130 (.lenS (.t 129)) 125 false false,
 og 131 (.bin .add (.c (.i .i64 12)) (.t 130)) 125 false false,
 og 132 (.bin .neq (.t 127) (.t 131)) 125 false false,
 ot 133 (.pick (.t 125) (.c (.b true)) (.t 132))]
abbrev i3r15 : List IOper := [
 oo 10 (.mv (.c (.b false)))]
abbrev i3r16 : List IOper := [
 oo 134 (.mv (.t 16)),
 oo 135 (.fa 4 (.t 19)),
 oo 136 (.ld false 1 (.t 135)),
 oo 137 (.bin .add (.t 134) (.t 136)),
 oo 16 (.mv (.t 137))]
abbrev i3r17 : List IOper := [
 oo 138 (.bin .add (.t 70) (.c (.i .i64 1))),
 oo 70 (.mv (.t 138))]
abbrev i3l18 : ICode := (.seq (.reg i3r11) (.seq (.cond (.t 71) .skip (.exit 0)) (.seq (.block 1 (.seq (.reg i3r12) (.seq (.reg i3r13) (.seq (.seq (.reg i3r14) (.cond (.t 133) (.seq (.reg i3r15) .ret) .skip)) (.reg i3r16))))) (.reg i3r17))))
abbrev i3r19 : List IOper := [
 oo 139 (.mv (.t 16)),
 oo 140 (.fa 2 (.t 12)),
 oo 141 (.ld false 1 (.t 140)),
 oo 142 (.bin .eql (.t 139) (.t 141)),
 oo 10 (.mv (.t 142))]
abbrev i3c : ICode := (.seq (.reg i3r0) (.seq (.seq (.reg i3r1) (.cond (.t 22) (.seq (.reg i3r2) .ret) .skip)) (.seq (.reg i3r3) (.seq (.reg i3r4) (.seq (.reg i3r5) (.seq (.reg i3r6) (.seq (.seq (.reg i3r7) (.cond (.t 67) (.seq (.reg i3r8) .ret) .skip)) (.seq (.reg i3r9) (.seq (.seq (.reg i3r10) (.block 0 (.loop i3l18))) (.seq (.reg i3r19) .ret))))))))))
def i3 : IFn := { np := 5, N := 143, ct := [22, 67, 71, 133], code := i3c, res := [.t 10] }
theorem i3_eq : compF Tryd.prog Tryd.f3 = some i3 := by kernel_rfl
end Go.Proofs.Fld
