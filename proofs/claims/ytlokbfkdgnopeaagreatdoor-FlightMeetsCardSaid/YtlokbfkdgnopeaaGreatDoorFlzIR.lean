/- The small language's text of the functions; printed by ShowI.lean. -/
import Derived.Test.YtlokbfkdgnopeaaGreatDoorProg
import Derived.Test.YtlokbfkdgnopeaaGreatDoorAbRuns
namespace Go.Proofs.Flz
open Go.Ab
abbrev i10r0 : List IOper := [
 oo 2 (.box (.t 0)),
 oo 4 (.mv (.c (.ns))),
 oo 5 (.mv (.c (.i .i64 0)))]
abbrev i10r1 : List IOper := [
 oo 9 (.ld true 3 (.t 2)),
 oo 10 (.call (.c (.fn 12 [])) [.t 9]),
 oo 11 (.bin .neq (.t 10) (.c (.i .i64 0))),
 ot 8 (.mv (.t 11))]
abbrev i10r2 : List IOper := [
 oo 4 (.mv (.c (.ns))),
 oo 5 (.mv (.c (.i .i64 190)))]
abbrev i10r3 : List IOper := [
 oo 13 (.mv (.t 1)),
 oo 14 (.bin .lss (.t 13) (.c (.i .i64 1))),
 ot 15 (.mv (.t 14)),
 og 16 (.mv (.t 1)) 15 false false,
 og 17 (.bin .gtr (.t 16) (.c (.i .i64 1100))) 15 false false,
 oo 18 (.pick (.t 15) (.c (.b true)) (.t 17)),
 ot 12 (.mv (.t 18))]
abbrev i10r4 : List IOper := [
 oo 4 (.mv (.c (.ns))),
 oo 5 (.mv (.c (.i .i64 2)))]
abbrev i10r5 : List IOper := [
 oo 6 (.new [.ns])]
abbrev i10r6 : List IOper := [
 oo 19 (.ld true 3 (.t 2)),
 oo 20 (.mv (.t 1)),
 oo 21 (.call (.c (.fn 44 [])) [.t 19, .t 20])]
abbrev i10r7 : List IOper := [
 oo 7 (.new [.i .i64 0, .i .i64 0, .i .i64 0, .i .i64 0, .s []]),
 on_ (.st 5 (.t 7) (.t 22))]
abbrev i10r8 : List (IOper × List Nat) := [
 (oo 23 (.ld false 1 (.t 6)), []),
 (oo 24 (.fa 0 (.t 7)), [0]),
 (oo 25 (.ld false 1 (.t 24)), [0]),
 (oo 26 (.call (.c (.fn 45 [])) [.t 25, .c (.i .i64 1)]), [0]),
 (oo 27 (.fa 1 (.t 7)), [0, 1, 2, 3]),
 (oo 28 (.ld false 1 (.t 27)), [0, 1, 2, 3]),
 (oo 29 (.call (.c (.fn 45 [])) [.t 28, .c (.i .i64 3)]), [0]),
 (oo 30 (.bin .add (.t 26) (.t 29)), [0]),
 (oo 31 (.fa 2 (.t 7)), [0, 1, 2, 3, 4, 5, 6, 7]),
 (oo 32 (.ld false 1 (.t 31)), [0, 1, 2, 3, 4, 5, 6, 7]),
 (oo 33 (.call (.c (.fn 45 [])) [.t 32, .c (.i .i64 2)]), [0, 7]),
 (oo 34 (.bin .add (.t 30) (.t 33)), [0]),
 (oo 35 (.fa 3 (.t 7)), [0, 1, 2, 3, 4, 5, 6, 7, 8, 9, 10, 11]),
 (oo 36 (.ld false 1 (.t 35)), [0, 1, 2, 3, 4, 5, 6, 7, 8, 9, 10, 11]),
 (oo 37 (.call (.c (.fn 45 [])) [.t 36, .c (.i .i64 3)]), [0, 7, 11]),
 (oo 38 (.bin .add (.t 34) (.t 37)), [0]),
 (oo 39 (.fa 4 (.t 7)), [0, 1, 2, 3, 4, 5, 6, 7, 8, 9, 10, 11, 12, 13, 14, 15]),
 (oo 40 (.ld false 1 (.t 39)), [0, 1, 2, 3, 4, 5, 6, 7, 8, 9, 10, 11, 12, 13, 14, 15]),
 (oo 41 (.lenS (.t 40)), [0, 1, 2, 3, 4, 5, 6, 7, 8, 9, 10, 11, 12, 13, 14, 15]),
 (oo 42 (.call (.c (.fn 45 [])) [.t 41, .c (.i .i64 3)]), [0, 7, 11, 15]),
 (oo 43 (.bin .add (.t 38) (.t 42)), [0]),
 (oo 44 (.fa 4 (.t 7)), [0, 1, 2, 3, 4, 5, 6, 7, 8, 9, 10, 11, 12, 13, 14, 15, 16, 17, 18, 19, 20]),
 (oo 45 (.ld false 1 (.t 44)), [0, 1, 2, 3, 4, 5, 6, 7, 8, 9, 10, 11, 12, 13, 14, 15, 16, 17, 18, 19, 20]),
 (oo 46 (.bin .add (.t 43) (.t 45)), [0]),
 (oo 47 (.bsl [.s []] 1 [(0, 1, .t 46)]), [0]),
 (oo 48 (.app 1 16 [.s []] (.t 23) (.t 47)), []),
 (on_ (.st 1 (.t 6) (.t 48)), [])]
abbrev i10a9 : ICode := (.reg i10r7)
abbrev i10b9 : ICode := (.block 2 (.dreg i10r8))
abbrev i10r11 : List IOper := [
 oo 49 (.ld false 1 (.t 6)),
 oo 4 (.mv (.t 49)),
 oo 5 (.mv (.c (.i .i64 0)))]
abbrev i10c : ICode := (.seq (.reg i10r0) (.seq (.block 0 (.seq (.reg i10r1) (.cond (.t 8) (.seq (.reg i10r2) .ret) (.seq (.reg i10r3) (.cond (.t 12) (.seq (.reg i10r4) .ret) .skip))))) (.seq (.reg i10r5) (.seq (.seq (.reg i10r6) (.block 1 (.rfunc (.t 21) [22] i10a9 i10b9))) (.seq (.reg i10r11) .ret)))))
def i10 : IFn := { np := 2, N := 50, ct := [8, 12], code := i10c, res := [.t 4, .t 5] }
theorem i10_eq : compF Tryz.prog Tryz.f10 = some i10 := by kernel_rfl
abbrev i12r0 : List IOper := [
 oo 1 (.box (.t 0)),
 oo 2 (.mv (.c (.i .i64 0)))]
abbrev i12r1 : List IOper := [
 oo 3 (.fa 0 (.t 1)),
 oo 4 (.ld false 1 (.t 3)),
 oo 5 (.call (.c (.fn 48 [])) [.t 4, .c (.i .i64 255)]),
 oo 6 (.not (.t 5)),
 ot 7 (.mv (.t 6)),
 og 8 (.fa 1 (.t 1)) 7 false false,
 og 9 (.ld false 1 (.t 8)) 7 false false,
 og 10 (.call (.c (.fn 48 [])) [.t 9, .c (.i .i64 65535)]) 7 false false,
 og 11 (.not (.t 10)) 7 false false,
 oo 12 (.pick (.t 7) (.c (.b true)) (.t 11)),
 ot 13 (.mv (.t 12)),
 og 14 (.fa 2 (.t 1)) 13 false false,
 og 15 (.ld false 1 (.t 14)) 13 false false,
 og 16 (.lenS (.t 15)) 13 false false,
 og 17 (.bin .gtr (.t 16) (.c (.i .i64 4000))) 13 false false,
 ot 18 (.pick (.t 13) (.c (.b true)) (.t 17))]
abbrev i12r2 : List IOper := [
 oo 2 (.mv (.c (.i .i64 190)))]
abbrev i12r3 : List IOper := [
 oo 2 (.mv (.c (.i .i64 0)))]
abbrev i12c : ICode := (.seq (.reg i12r0) (.seq (.seq (.reg i12r1) (.cond (.t 18) (.seq (.reg i12r2) .ret) .skip)) (.seq (.reg i12r3) .ret)))
def i12 : IFn := { np := 1, N := 19, ct := [18], code := i12c, res := [.t 2] }
theorem i12_eq : compF Tryz.prog Tryz.f12 = some i12 := by kernel_rfl
abbrev i14r0 : List IOper := [
 oo 4 (.mv (.c (.b false)))]
abbrev i14r1 : List IOper := [
 oo 6 (.mv (.t 0)),
 oo 7 (.lenV (.t 6)),
 oo 8 (.mv (.t 1)),
 oo 9 (.lenV (.t 8)),
 ot 10 (.bin .neq (.t 7) (.t 9))]
abbrev i14r2 : List IOper := [
 oo 4 (.mv (.c (.b false)))]
abbrev i14r3 : List IOper := [
 oo 11 (.mv (.t 0)),
 oo 12 (.lenV (.t 11)),
 oo 13 (.mv (.c (.i .i64 0)))]
abbrev i14r4 : List IOper := [
 ot 14 (.bin .lss (.t 13) (.t 12))]
abbrev i14r5 : List IOper := [
 oo 15 (.mv (.t 13)),
 oo 5 (.mv (.t 15))]
abbrev i14r6 : List (IOper × List Nat) := [
 (oo 16 (.mv (.t 0)), []),
 (oo 17 (.mv (.t 5)), [0]),
 (oo 18 (.ixaV 1 (.t 16) (.t 17)), []),
 (oo 19 (.ld false 1 (.t 18)), []),
 (oo 20 (.mv (.t 1)), [0, 1, 2, 3]),
 (oo 21 (.mv (.t 5)), [0, 1, 2, 3, 4]),
 (oo 22 (.ixaV 1 (.t 20) (.t 21)), [0, 1, 2, 3]),
 (oo 23 (.ld false 1 (.t 22)), [0, 1, 2, 3]),
 (ot 24 (.bin .neq (.t 19) (.t 23)), [])]
abbrev i14r7 : List IOper := [
 oo 4 (.mv (.c (.b false)))]
abbrev i14r8 : List IOper := [
 oo 25 (.bin .add (.t 13) (.c (.i .i64 1))),
 oo 13 (.mv (.t 25))]
abbrev i14l9 : ICode := (.seq (.reg i14r4) (.seq (.cond (.t 14) .skip (.exit 0)) (.seq (.block 1 (.seq (.reg i14r5) (.seq (.dreg i14r6) (.cond (.t 24) (.seq (.reg i14r7) .ret) .skip)))) (.reg i14r8))))
abbrev i14r10 : List IOper := [
 oo 4 (.mv (.c (.b true)))]
abbrev i14c : ICode := (.seq (.reg i14r0) (.seq (.seq (.reg i14r1) (.cond (.t 10) (.seq (.reg i14r2) .ret) .skip)) (.seq (.seq (.reg i14r3) (.block 0 (.loop i14l9))) (.seq (.reg i14r10) .ret))))
def i14 : IFn := { np := 2, N := 26, ct := [10, 14, 24], code := i14c, res := [.t 4] }
theorem i14_eq : compF Tryz.prog Tryz.f14 = some i14 := by kernel_rfl
abbrev i15r0 : List IOper := [
 oo 2 (.new [.i .i64 0, .i .i64 0, .i .i64 0, .i .i64 0, .s []]),
 oo 3 (.new [.i .i64 0])]
abbrev i15r1 : List IOper := [
 oo 4 (.mkf 49 [.t 2, .t 3]),
 on_ (.dfr (.t 4) [])]
abbrev i15r2 : List IOper := [
 oo 5 (.mv (.t 0)),
 oo 6 (.call (.c (.fn 50 [])) [.t 5]),
 on_ (.st 5 (.t 2) (.t 6)),
 on_ (.st 1 (.t 3) (.c (.i .i64 0)))]
abbrev i15c : ICode := (.seq (.reg i15r0) (.seq (.reg i15r1) (.seq (.reg i15r2) .ret)))
def i15 : IFn := { np := 1, N := 7, ct := [], code := i15c, res := [.c 2 true 5, .c 3 false 1] }
theorem i15_eq : compF Tryz.prog Tryz.f15 = some i15 := by kernel_rfl
abbrev i21r0 : List IOper := [
 oo 1 (.box (.t 0)),
 oo 2 (.mv (.c (.i .i64 0)))]
abbrev i21r1 : List IOper := [
 oo 3 (.fa 0 (.t 1)),
 oo 4 (.ld false 1 (.t 3)),
 oo 5 (.call (.c (.fn 48 [])) [.t 4, .c (.i .i64 65536)]),
 oo 6 (.not (.t 5)),
 ot 7 (.mv (.t 6)),
 og 8 (.fa 1 (.t 1)) 7 false false,
 og 9 (.ld false 1 (.t 8)) 7 false false,
 og 10 (.mkf 54 [.t 1]) 7 false false,
 og 11 (.call (.c (.fn 53 [])) [.t 9, .t 10]) 7 false false,
 og 12 (.not (.t 11)) 7 false false,
 ot 13 (.pick (.t 7) (.c (.b true)) (.t 12))]
abbrev i21r2 : List IOper := [
 oo 2 (.mv (.c (.i .i64 191)))]
abbrev i21r3 : List IOper := [
 oo 2 (.mv (.c (.i .i64 0)))]
abbrev i21c : ICode := (.seq (.reg i21r0) (.seq (.seq (.reg i21r1) (.cond (.t 13) (.seq (.reg i21r2) .ret) .skip)) (.seq (.reg i21r3) .ret)))
def i21 : IFn := { np := 1, N := 14, ct := [13], code := i21c, res := [.t 2] }
theorem i21_eq : compF Tryz.prog Tryz.f21 = some i21 := by kernel_rfl
abbrev i23r0 : List IOper := [
 oo 2 (.box (.t 0)),
 oo 4 (.new [.i .i64 0, .ns]),
 oo 5 (.new [.ns]),
 oo 6 (.new [.i .i64 0])]
abbrev i23r1 : List IOper := [
 oo 14 (.mkf 58 [.t 4, .t 5, .t 6]),
 on_ (.dfr (.t 14) [])]
abbrev i23r2 : List IOper := [
 oo 15 (.ld true 2 (.t 2)),
 oo 16 (.call (.c (.fn 21 [])) [.t 15]),
 oo 17 (.bin .eql (.t 16) (.c (.i .i64 0))),
 oo 18 (.call (.c (.fn 59 [])) [.t 17, .c (.i .i64 191)])]
abbrev i23r3 : List IOper := [
 oo 19 (.mv (.t 1)),
 oo 20 (.call (.c (.fn 50 [])) [.t 19]),
 oo 7 (.new [.i .i64 0, .i .i64 0, .i .i64 0, .i .i64 0, .s []]),
 on_ (.st 5 (.t 7) (.t 20))]
abbrev i23r4 : List IOper := [
 oo 21 (.fa 0 (.t 2)),
 oo 22 (.ld false 1 (.t 21)),
 oo 23 (.fa 0 (.t 4)),
 on_ (.st 1 (.t 23) (.t 22))]
abbrev i23r5 : List IOper := [
 oo 24 (.fa 1 (.t 2)),
 oo 25 (.ld false 1 (.t 24)),
 oo 26 (.lenV (.t 25)),
 oo 27 (.mv (.c (.i .i64 0)))]
abbrev i23r6 : List IOper := [
 ot 28 (.bin .lss (.t 27) (.t 26))]
abbrev i23r7 : List IOper := [
 oo 29 (.ixaV 5 (.t 25) (.t 27)),
 oo 30 (.ld true 5 (.t 29)),
 oo 9 (.new [.i .i64 0, .i .i64 0, .i .i64 0, .s [], .ns]),
 on_ (.st 5 (.t 9) (.t 30))]
abbrev i23r8 : List IOper := [
 oo 31 (.fa 4 (.t 9)),
 oo 32 (.ld false 1 (.t 31)),
 oo 33 (.call (.c (.fn 60 [])) [.t 32]),
 oo 34 (.fa 4 (.t 9)),
 on_ (.st 1 (.t 34) (.t 33))]
abbrev i23r9 : List IOper := [
 oo 35 (.fa 1 (.t 4)),
 oo 36 (.ld false 1 (.t 35)),
 oo 37 (.ld true 5 (.t 9)),
 oo 38 (.bsl [.i .i64 0, .i .i64 0, .i .i64 0, .s [], .ns] 1 [(0, 5, .t 37)]),
 oo 39 (.app 5 64 [.i .i64 0, .i .i64 0, .i .i64 0, .s [], .ns] (.t 36) (.t 38)),
 oo 40 (.fa 1 (.t 4)),
 on_ (.st 1 (.t 40) (.t 39))]
abbrev i23r10 : List IOper := [
 oo 41 (.bin .add (.t 27) (.c (.i .i64 1))),
 oo 27 (.mv (.t 41))]
abbrev i23l11 : ICode := (.seq (.reg i23r6) (.seq (.cond (.t 28) .skip (.exit 0)) (.seq (.block 1 (.seq (.reg i23r7) (.seq (.reg i23r8) (.reg i23r9)))) (.reg i23r10))))
abbrev i23r12 : List IOper := [
 oo 42 (.fa 2 (.t 7)),
 oo 43 (.ld false 1 (.t 42)),
 oo 44 (.fa 0 (.t 2)),
 oo 45 (.ld false 1 (.t 44)),
 ot 46 (.bin .lss (.t 43) (.t 45))]
abbrev i23r13 : List IOper := [
 oo 47 (.ld true 2 (.t 4)),
 on_ (.st 2 (.t 4) (.t 47)),
 on_ (.st 1 (.t 5) (.c (.ns))),
 on_ (.st 1 (.t 6) (.c (.i .i64 0)))]
abbrev i23r14 : List IOper := [
 oo 48 (.fa 2 (.t 7)),
 oo 49 (.ld false 1 (.t 48)),
 oo 50 (.fa 0 (.t 2)),
 oo 51 (.ld false 1 (.t 50)),
 oo 52 (.bin .add (.t 51) (.c (.i .i64 4))),
 oo 53 (.bin .lss (.t 49) (.t 52)),
 oo 54 (.call (.c (.fn 59 [])) [.t 53, .c (.i .i64 3)])]
abbrev i23r15 : List IOper := [
 oo 56 (.fa 1 (.t 4)),
 oo 57 (.ld false 1 (.t 56)),
 oo 58 (.fa 2 (.t 7)),
 oo 59 (.ld false 1 (.t 58)),
 oo 60 (.call (.c (.fn 61 [])) [.t 57, .t 59, .c (.fn 62 [])]),
 oo 55 (.mv (.t 60)),
 oo 61 (.ext (.t 55) 0),
 oo 62 (.ext (.t 55) 1),
 oo 10 (.mv (.t 61)),
 oo 11 (.mv (.t 62))]
abbrev i23r16 : List IOper := [
 oo 63 (.mv (.t 11)),
 ot 64 (.not (.t 63))]
abbrev i23r17 : List (IOper × List Nat) := [
 (oo 65 (.fa 1 (.t 4)), []),
 (oo 66 (.ld false 1 (.t 65)), []),
 (oo 67 (.mv (.t 10)), [0, 1]),
 (oo 68 (.fa 0 (.t 7)), [0, 1, 2]),
 (oo 69 (.ld false 1 (.t 68)), [0, 1, 2]),
 (oo 70 (.fa 1 (.t 7)), [0, 1, 2, 3, 4]),
 (oo 71 (.ld false 1 (.t 70)), [0, 1, 2, 3, 4]),
 (oo 72 (.fa 2 (.t 7)), [0, 1, 2, 3, 4, 5, 6]),
 (oo 73 (.ld false 1 (.t 72)), [0, 1, 2, 3, 4, 5, 6]),
 (oo 74 (.fa 1 (.t 7)), [0, 1, 2, 3, 4, 5, 6, 7, 8]),
 (oo 75 (.ld false 1 (.t 74)), [0, 1, 2, 3, 4, 5, 6, 7, 8]),
 (oo 76 (.call (.c (.fn 36 [])) [.c (.s [0]), .t 75]), [0, 1, 2, 3, 4, 5, 6, 7, 8]),
 (oo 77 (.build [.i .i64 0, .i .i64 0, .i .i64 0, .s [], .ns] [(0, 1, .t 69), (1, 1, .t 71), (2, 1, .t 73), (3, 1, .t 76)]), [0, 1, 2]),
 (oo 78 (.bsl [.i .i64 0, .i .i64 0, .i .i64 0, .s [], .ns] 1 [(0, 5, .t 77)]), [0, 1, 2]),
 (oo 79 (.call (.c (.fn 64 [])) [.t 66, .t 67, .t 78]), []),
 (oo 80 (.fa 1 (.t 4)), []),
 (on_ (.st 1 (.t 80) (.t 79)), [])]
abbrev i23r18 : List IOper := [
 oo 81 (.fa 1 (.t 4)),
 oo 82 (.ld false 1 (.t 81)),
 oo 83 (.mv (.t 10)),
 oo 84 (.ixaV 5 (.t 82) (.t 83)),
 oo 85 (.ld true 5 (.t 84)),
 oo 86 (.build [.i .i64 0, .i .i64 0, .i .i64 0, .s [], .ns] [(0, 5, .t 85)]),
 oo 12 (.new [.i .i64 0, .i .i64 0, .i .i64 0, .s [], .ns]),
 on_ (.st 5 (.t 12) (.t 86))]
abbrev i23r19 : List IOper := [
 oo 87 (.ld true 5 (.t 7)),
 oo 88 (.call (.c (.fn 65 [])) [.t 12, .t 87])]
abbrev i23r20 : List IOper := [
 oo 89 (.fa 1 (.t 4)),
 oo 90 (.ld false 1 (.t 89)),
 oo 91 (.mv (.t 10)),
 oo 92 (.fa 0 (.t 12)),
 oo 93 (.ld true 5 (.t 92)),
 oo 94 (.ixaV 5 (.t 90) (.t 91)),
 on_ (.st 5 (.t 94) (.t 93))]
abbrev i23r21 : List (IOper × List Nat) := [
 (oo 95 (.fa 1 (.t 4)), []),
 (oo 96 (.ld false 1 (.t 95)), []),
 (oo 97 (.lenV (.t 96)), []),
 (oo 98 (.bin .gtr (.t 97) (.c (.i .i64 0))), []),
 (ot 99 (.mv (.t 98)), []),
 (og 100 (.fa 1 (.t 4)) 99 true false, []),
 (og 101 (.ld false 1 (.t 100)) 99 true false, []),
 (og 102 (.ixaV 5 (.t 101) (.c (.i .i64 0))) 99 true false, []),
 (og 103 (.fa 2 (.t 102)) 99 true false, []),
 (og 104 (.ld false 1 (.t 103)) 99 true false, []),
 (og 105 (.fa 0 (.t 4)) 99 true false, [5, 6, 7, 8, 9]),
 (og 106 (.ld false 1 (.t 105)) 99 true false, [5, 6, 7, 8, 9]),
 (og 107 (.bin .eql (.t 104) (.t 106)) 99 true false, []),
 (oo 108 (.pick (.t 99) (.t 107) (.c (.b false))), []),
 (ot 109 (.mv (.t 108)), []),
 (og 110 (.fa 1 (.t 4)) 109 true false, []),
 (og 111 (.ld false 1 (.t 110)) 109 true false, []),
 (og 112 (.ixaV 5 (.t 111) (.c (.i .i64 0))) 109 true false, []),
 (og 113 (.ld true 5 (.t 112)) 109 true false, []),
 (og 114 (.build [.i .i64 0, .i .i64 0, .i .i64 0, .s [], .ns] [(0, 5, .t 113)]) 109 true false, []),
 (og 115 (.call (.c (.fn 56 [])) [.t 114]) 109 true false, []),
 (ot 116 (.pick (.t 109) (.t 115) (.c (.b false))), [])]
abbrev i23r22 : List IOper := [
 oo 117 (.fa 1 (.t 4)),
 oo 118 (.ld false 1 (.t 117)),
 oo 119 (.ixaV 5 (.t 118) (.c (.i .i64 0))),
 oo 120 (.ld true 5 (.t 119)),
 oo 13 (.new [.i .i64 0, .i .i64 0, .i .i64 0, .s [], .ns]),
 on_ (.st 5 (.t 13) (.t 120))]
abbrev i23r23 : List IOper := [
 oo 121 (.ld false 1 (.t 5)),
 oo 122 (.fa 0 (.t 13)),
 oo 123 (.ld false 1 (.t 122)),
 oo 124 (.fa 2 (.t 13)),
 oo 125 (.ld false 1 (.t 124)),
 oo 126 (.fa 3 (.t 13)),
 oo 127 (.ld false 1 (.t 126)),
 oo 128 (.build [.i .i64 0, .i .i64 0, .s []] [(0, 1, .t 123), (1, 1, .t 125), (2, 1, .t 127)]),
 oo 129 (.bsl [.i .i64 0, .i .i64 0, .s []] 1 [(0, 3, .t 128)]),
 oo 130 (.app 3 32 [.i .i64 0, .i .i64 0, .s []] (.t 121) (.t 129)),
 on_ (.st 1 (.t 5) (.t 130))]
abbrev i23r24 : List IOper := [
 oo 131 (.fa 1 (.t 4)),
 oo 132 (.ld false 1 (.t 131)),
 oo 133 (.slV 5 (.t 132) (some (.c (.i .i64 1))) none none),
 oo 134 (.fa 1 (.t 4)),
 on_ (.st 1 (.t 134) (.t 133))]
abbrev i23r25 : List IOper := [
 oo 135 (.fa 0 (.t 4)),
 oo 136 (.ld false 1 (.t 135)),
 oo 137 (.bin .add (.t 136) (.c (.i .i64 1))),
 oo 138 (.fa 0 (.t 4)),
 on_ (.st 1 (.t 138) (.t 137))]
abbrev i23l26 : ICode := (.seq (.seq (.dreg i23r21) (.cond (.t 116) .skip (.exit 2))) (.block 3 (.seq (.reg i23r22) (.seq (.reg i23r23) (.seq (.reg i23r24) (.reg i23r25))))))
abbrev i23r27 : List (IOper × List Nat) := [
 (oo 139 (.ld true 2 (.t 4)), []),
 (oo 140 (.ld false 1 (.t 5)), [0]),
 (on_ (.st 2 (.t 4) (.t 139)), [1]),
 (on_ (.st 1 (.t 5) (.t 140)), []),
 (on_ (.st 1 (.t 6) (.c (.i .i64 0))), [])]
abbrev i23c : ICode := (.seq (.reg i23r0) (.seq (.reg i23r1) (.seq (.reg i23r2) (.seq (.reg i23r3) (.seq (.reg i23r4) (.seq (.seq (.reg i23r5) (.block 0 (.loop i23l11))) (.seq (.seq (.reg i23r12) (.cond (.t 46) (.seq (.reg i23r13) .ret) .skip)) (.seq (.reg i23r14) (.seq (.reg i23r15) (.seq (.seq (.reg i23r16) (.cond (.t 64) (.dreg i23r17) .skip)) (.seq (.reg i23r18) (.seq (.reg i23r19) (.seq (.reg i23r20) (.seq (.block 2 (.loop i23l26)) (.seq (.dreg i23r27) .ret)))))))))))))))
def i23 : IFn := { np := 2, N := 141, ct := [28, 46, 64, 116], code := i23c, res := [.c 4 true 2, .c 5 false 1, .c 6 false 1] }
theorem i23_eq : compF Tryz.prog Tryz.f23 = some i23 := by kernel_rfl
abbrev i25r0 : List IOper := [
 oo 2 (.box (.t 0)),
 oo 3 (.box (.t 1)),
 oo 4 (.mv (.c (.b false)))]
abbrev i25r1 : List IOper := [
 oo 9 (.fa 0 (.t 2)),
 oo 10 (.ld false 1 (.t 9)),
 oo 11 (.fa 0 (.t 3)),
 oo 12 (.ld false 1 (.t 11)),
 oo 13 (.bin .neq (.t 10) (.t 12)),
 ot 14 (.mv (.t 13)),
 og 15 (.fa 1 (.t 2)) 14 false false,
 og 16 (.ld false 1 (.t 15)) 14 false false,
 og 17 (.lenV (.t 16)) 14 false false,
 og 18 (.fa 1 (.t 3)) 14 false false,
 og 19 (.ld false 1 (.t 18)) 14 false false,
 og 20 (.lenV (.t 19)) 14 false false,
 og 21 (.bin .neq (.t 17) (.t 20)) 14 false false,
 ot 22 (.pick (.t 14) (.c (.b true)) (.t 21))]
abbrev i25r2 : List IOper := [
 oo 4 (.mv (.c (.b false)))]
abbrev i25r3 : List IOper := [
 oo 5 (.mv (.c (.i .i64 0)))]
abbrev i25r4 : List IOper := [
 oo 23 (.mv (.t 5)),
 oo 24 (.fa 1 (.t 2)),
 oo 25 (.ld false 1 (.t 24)),
 oo 26 (.lenV (.t 25)),
 ot 27 (.bin .lss (.t 23) (.t 26))]
abbrev i25r5 : List (IOper × List Nat) := [
 (oo 30 (.fa 1 (.t 2)), []),
 (oo 31 (.ld false 1 (.t 30)), []),
 (oo 32 (.mv (.t 5)), [0, 1]),
 (oo 33 (.ixaV 5 (.t 31) (.t 32)), []),
 (oo 34 (.ld true 5 (.t 33)), []),
 (oo 35 (.fa 1 (.t 3)), [0, 1, 2, 3, 4]),
 (oo 36 (.ld false 1 (.t 35)), [0, 1, 2, 3, 4]),
 (oo 37 (.mv (.t 5)), [0, 1, 2, 3, 4, 5, 6]),
 (oo 38 (.ixaV 5 (.t 36) (.t 37)), [0, 1, 2, 3, 4]),
 (oo 39 (.ld true 5 (.t 38)), [0, 1, 2, 3, 4]),
 (oo 6 (.new [.i .i64 0, .i .i64 0, .i .i64 0, .s [], .ns]), [0, 1, 2, 3, 4, 5, 6, 7, 8, 9]),
 (oo 7 (.new [.i .i64 0, .i .i64 0, .i .i64 0, .s [], .ns]), [0, 1, 2, 3, 4, 5, 6, 7, 8, 9, 10]),
 (on_ (.st 5 (.t 6) (.t 34)), [5, 6, 7, 8, 9]),
 (on_ (.st 5 (.t 7) (.t 39)), [])]
abbrev i25r6 : List IOper := [
 oo 40 (.fa 0 (.t 6)),
 oo 41 (.ld false 1 (.t 40)),
 oo 42 (.fa 0 (.t 7)),
 oo 43 (.ld false 1 (.t 42)),
 oo 44 (.bin .neq (.t 41) (.t 43)),
 ot 45 (.mv (.t 44)),
 og 46 (.fa 1 (.t 6)) 45 false false,
 og 47 (.ld false 1 (.t 46)) 45 false false,
 og 48 (.fa 1 (.t 7)) 45 false false,
 og 49 (.ld false 1 (.t 48)) 45 false false,
 og 50 (.bin .neq (.t 47) (.t 49)) 45 false false,
 oo 51 (.pick (.t 45) (.c (.b true)) (.t 50)),
 ot 52 (.mv (.t 51)),
 og 53 (.fa 2 (.t 6)) 52 false false,
 og 54 (.ld false 1 (.t 53)) 52 false false,
 og 55 (.fa 2 (.t 7)) 52 false false,
 og 56 (.ld false 1 (.t 55)) 52 false false,
 og 57 (.bin .neq (.t 54) (.t 56)) 52 false false,
 oo 58 (.pick (.t 52) (.c (.b true)) (.t 57)),
 ot 59 (.mv (.t 58)),
 og 60 (.fa 3 (.t 6)) 59 false false,
 og 61 (.ld false 1 (.t 60)) 59 false false,
 og 62 (.fa 3 (.t 7)) 59 false false,
 og 63 (.ld false 1 (.t 62)) 59 false false,
 og 64 (.bin .neq (.t 61) (.t 63)) 59 false false,
 oo 65 (.pick (.t 59) (.c (.b true)) (.t 64)),
 ot 66 (.mv (.t 65)),
 og 67 (.fa 4 (.t 6)) 66 false false,
 og 68 (.ld false 1 (.t 67)) 66 false false,
 og 69 (.lenV (.t 68)) 66 false false,
 og 70 (.fa 4 (.t 7)) 66 false false,
 og 71 (.ld false 1 (.t 70)) 66 false false,
 og 72 (.lenV (.t 71)) 66 false false,
 og 73 (.bin .neq (.t 69) (.t 72)) 66 false false,
 ot 74 (.pick (.t 66) (.c (.b true)) (.t 73))]
abbrev i25r7 : List IOper := [
 oo 4 (.mv (.c (.b false)))]
abbrev i25r8 : List IOper := [
 oo 8 (.mv (.c (.i .i64 0)))]
abbrev i25r9 : List IOper := [
 oo 75 (.mv (.t 8)),
 oo 76 (.fa 4 (.t 6)),
 oo 77 (.ld false 1 (.t 76)),
 oo 78 (.lenV (.t 77)),
 ot 79 (.bin .lss (.t 75) (.t 78))]
abbrev i25r10 : List (IOper × List Nat) := [
 (oo 82 (.fa 4 (.t 6)), []),
 (oo 83 (.ld false 1 (.t 82)), []),
 (oo 84 (.mv (.t 8)), [0, 1]),
 (oo 85 (.ixaV 2 (.t 83) (.t 84)), []),
 (oo 86 (.ld true 2 (.t 85)), []),
 (oo 87 (.fa 4 (.t 7)), [0, 1, 2, 3, 4]),
 (oo 88 (.ld false 1 (.t 87)), [0, 1, 2, 3, 4]),
 (oo 89 (.mv (.t 8)), [0, 1, 2, 3, 4, 5, 6]),
 (oo 90 (.ixaV 2 (.t 88) (.t 89)), [0, 1, 2, 3, 4]),
 (oo 91 (.ld true 2 (.t 90)), [0, 1, 2, 3, 4]),
 (ot 92 (.eqk true true [.i, .i] (.t 86) (.t 91)), [])]
abbrev i25r11 : List IOper := [
 oo 4 (.mv (.c (.b false)))]
abbrev i25r12 : List IOper := [
 oo 80 (.mv (.t 8)),
 oo 81 (.bin .add (.t 80) (.c (.i .i64 1))),
 oo 8 (.mv (.t 81))]
abbrev i25l13 : ICode := (.seq (.seq (.reg i25r9) (.cond (.t 79) .skip (.exit 2))) (.seq (.block 3 (.seq (.dreg i25r10) (.cond (.t 92) (.seq (.reg i25r11) .ret) .skip))) (.reg i25r12)))
abbrev i25r14 : List IOper := [
 oo 28 (.mv (.t 5)),
 oo 29 (.bin .add (.t 28) (.c (.i .i64 1))),
 oo 5 (.mv (.t 29))]
abbrev i25l15 : ICode := (.seq (.seq (.reg i25r4) (.cond (.t 27) .skip (.exit 0))) (.seq (.block 1 (.seq (.dreg i25r5) (.seq (.seq (.reg i25r6) (.cond (.t 74) (.seq (.reg i25r7) .ret) .skip)) (.seq (.reg i25r8) (.block 2 (.loop i25l13)))))) (.reg i25r14)))
abbrev i25r16 : List IOper := [
 oo 4 (.mv (.c (.b true)))]
abbrev i25c : ICode := (.seq (.reg i25r0) (.seq (.seq (.reg i25r1) (.cond (.t 22) (.seq (.reg i25r2) .ret) .skip)) (.seq (.seq (.reg i25r3) (.block 0 (.loop i25l15))) (.seq (.reg i25r16) .ret))))
def i25 : IFn := { np := 2, N := 93, ct := [22, 27, 74, 79, 92], code := i25c, res := [.t 4] }
theorem i25_eq : compF Tryz.prog Tryz.f25 = some i25 := by kernel_rfl
abbrev i26r0 : List IOper := [
 oo 4 (.mv (.c (.b false)))]
abbrev i26r1 : List IOper := [
 oo 6 (.mv (.t 0)),
 oo 7 (.lenV (.t 6)),
 oo 8 (.mv (.t 1)),
 oo 9 (.lenV (.t 8)),
 ot 10 (.bin .neq (.t 7) (.t 9))]
abbrev i26r2 : List IOper := [
 oo 4 (.mv (.c (.b false)))]
abbrev i26r3 : List IOper := [
 oo 5 (.mv (.c (.i .i64 0)))]
abbrev i26r4 : List IOper := [
 oo 11 (.mv (.t 5)),
 oo 12 (.mv (.t 0)),
 oo 13 (.lenV (.t 12)),
 ot 14 (.bin .lss (.t 11) (.t 13))]
abbrev i26r5 : List (IOper × List Nat) := [
 (oo 17 (.mv (.t 0)), []),
 (oo 18 (.mv (.t 5)), [0]),
 (oo 19 (.ixaV 3 (.t 17) (.t 18)), []),
 (oo 20 (.ld true 3 (.t 19)), []),
 (oo 21 (.mv (.t 1)), [0, 1, 2, 3]),
 (oo 22 (.mv (.t 5)), [0, 1, 2, 3, 4]),
 (oo 23 (.ixaV 3 (.t 21) (.t 22)), [0, 1, 2, 3]),
 (oo 24 (.ld true 3 (.t 23)), [0, 1, 2, 3]),
 (ot 25 (.eqk true true [.i, .i, .s] (.t 20) (.t 24)), [])]
abbrev i26r6 : List IOper := [
 oo 4 (.mv (.c (.b false)))]
abbrev i26r7 : List IOper := [
 oo 15 (.mv (.t 5)),
 oo 16 (.bin .add (.t 15) (.c (.i .i64 1))),
 oo 5 (.mv (.t 16))]
abbrev i26l8 : ICode := (.seq (.seq (.reg i26r4) (.cond (.t 14) .skip (.exit 0))) (.seq (.block 1 (.seq (.dreg i26r5) (.cond (.t 25) (.seq (.reg i26r6) .ret) .skip))) (.reg i26r7)))
abbrev i26r9 : List IOper := [
 oo 4 (.mv (.c (.b true)))]
abbrev i26c : ICode := (.seq (.reg i26r0) (.seq (.seq (.reg i26r1) (.cond (.t 10) (.seq (.reg i26r2) .ret) .skip)) (.seq (.seq (.reg i26r3) (.block 0 (.loop i26l8))) (.seq (.reg i26r9) .ret))))
def i26 : IFn := { np := 2, N := 26, ct := [10, 14, 25], code := i26c, res := [.t 4] }
theorem i26_eq : compF Tryz.prog Tryz.f26 = some i26 := by kernel_rfl
abbrev i29r0 : List IOper := [
 oo 2 (.new [.i .i64 0, .i .i64 0, .i .i64 0]),
 oo 3 (.mv (.c (.i .i64 0)))]
abbrev i29r1 : List IOper := [
 oo 4 (.mv (.t 0)),
 oo 5 (.call (.c (.fn 48 [])) [.t 4, .c (.i .i64 1099511627776)]),
 ot 6 (.not (.t 5))]
abbrev i29r2 : List IOper := [
 oo 7 (.build [.i .i64 0, .i .i64 0, .i .i64 0] []),
 on_ (.st 3 (.t 2) (.t 7)),
 oo 3 (.mv (.c (.i .i64 2)))]
abbrev i29r3 : List IOper := [
 oo 8 (.mv (.t 0)),
 oo 9 (.bin .add (.t 8) (.c (.i .i64 400))),
 oo 10 (.build [.i .i64 0, .i .i64 0, .i .i64 0] [(0, 1, .t 9), (1, 1, .c (.i .i64 400)), (2, 1, .c (.i .i64 1))]),
 on_ (.st 3 (.t 2) (.t 10)),
 oo 3 (.mv (.c (.i .i64 0)))]
abbrev i29c : ICode := (.seq (.reg i29r0) (.seq (.seq (.reg i29r1) (.cond (.t 6) (.seq (.reg i29r2) .ret) .skip)) (.seq (.reg i29r3) .ret)))
def i29 : IFn := { np := 1, N := 11, ct := [6], code := i29c, res := [.c 2 true 3, .t 3] }
theorem i29_eq : compF Tryz.prog Tryz.f29 = some i29 := by kernel_rfl
abbrev i31r0 : List IOper := [
 oo 1 (.box (.t 0)),
 oo 2 (.mv (.c (.i .i64 0)))]
abbrev i31r1 : List IOper := [
 oo 4 (.ld true 3 (.t 1)),
 oo 5 (.build [.i .i64 0, .i .i64 0, .i .i64 0] [(0, 1, .c (.i .i64 (-1)))]),
 oo 6 (.eqk false true [.i, .i, .i] (.t 4) (.t 5)),
 oo 3 (.mv (.t 6))]
abbrev i31r2 : List (IOper × List Nat) := [
 (oo 7 (.mv (.t 3)), []),
 (oo 8 (.not (.t 7)), []),
 (ot 9 (.mv (.t 8)), []),
 (og 10 (.fa 0 (.t 1)) 9 true false, []),
 (og 11 (.ld false 1 (.t 10)) 9 true false, []),
 (og 12 (.bin .lss (.t 11) (.c (.i .i64 0))) 9 true false, []),
 (og 13 (.mv (.t 12)) 9 true true, []),
 (og 14 (.fa 2 (.t 1)) 13 false false, []),
 (og 15 (.ld false 1 (.t 14)) 13 false false, []),
 (og 16 (.bin .lss (.t 15) (.c (.i .i64 1))) 13 false false, []),
 (og 17 (.pick (.t 13) (.c (.b true)) (.t 16)) 9 true false, []),
 (og 18 (.mv (.t 17)) 9 true true, []),
 (og 19 (.fa 2 (.t 1)) 18 false false, []),
 (og 20 (.ld false 1 (.t 19)) 18 false false, []),
 (og 21 (.bin .gtr (.t 20) (.c (.i .i64 8))) 18 false false, []),
 (og 22 (.pick (.t 18) (.c (.b true)) (.t 21)) 9 true false, []),
 (og 23 (.mv (.t 22)) 9 true true, []),
 (og 24 (.fa 1 (.t 1)) 23 false false, []),
 (og 25 (.ld false 1 (.t 24)) 23 false false, []),
 (og 26 (.fa 2 (.t 1)) 23 false false, [17, 18]),
 (og 27 (.ld false 1 (.t 26)) 23 false false, [17, 18]),
 (og 28 (.call (.c (.fn 68 [])) [.t 27]) 23 false false, [17, 18]),
 (og 29 (.bin .neq (.t 25) (.t 28)) 23 false false, []),
 (og 30 (.pick (.t 23) (.c (.b true)) (.t 29)) 9 true false, []),
 (ot 31 (.pick (.t 9) (.t 30) (.c (.b false))), [])]
abbrev i31r3 : List IOper := [
 oo 2 (.mv (.c (.i .i64 192)))]
abbrev i31r4 : List IOper := [
 oo 2 (.mv (.c (.i .i64 0)))]
abbrev i31c : ICode := (.seq (.reg i31r0) (.seq (.reg i31r1) (.seq (.seq (.dreg i31r2) (.cond (.t 31) (.seq (.reg i31r3) .ret) .skip)) (.seq (.reg i31r4) .ret))))
def i31 : IFn := { np := 1, N := 32, ct := [31], code := i31c, res := [.t 2] }
theorem i31_eq : compF Tryz.prog Tryz.f31 = some i31 := by kernel_rfl
abbrev i33r0 : List IOper := [
 oo 2 (.box (.t 0)),
 oo 4 (.mv (.c (.b false))),
 oo 5 (.mv (.c (.i .i64 0)))]
abbrev i33r1 : List IOper := [
 oo 7 (.ld true 3 (.t 2)),
 oo 8 (.call (.c (.fn 31 [])) [.t 7]),
 oo 9 (.bin .neq (.t 8) (.c (.i .i64 0))),
 ot 6 (.mv (.t 9))]
abbrev i33r2 : List IOper := [
 oo 4 (.mv (.c (.b false))),
 oo 5 (.mv (.c (.i .i64 192)))]
abbrev i33r3 : List IOper := [
 oo 11 (.mv (.t 1)),
 oo 12 (.call (.c (.fn 48 [])) [.t 11, .c (.i .i64 1099511627776)]),
 oo 13 (.not (.t 12)),
 ot 10 (.mv (.t 13))]
abbrev i33r4 : List IOper := [
 oo 4 (.mv (.c (.b false))),
 oo 5 (.mv (.c (.i .i64 2)))]
abbrev i33r5 : List IOper := [
 oo 14 (.fa 0 (.t 2)),
 oo 15 (.ld false 1 (.t 14)),
 oo 16 (.mv (.t 1)),
 oo 17 (.call (.c (.fn 48 [])) [.t 15, .t 16]),
 oo 4 (.mv (.t 17)),
 oo 5 (.mv (.c (.i .i64 0)))]
abbrev i33c : ICode := (.seq (.reg i33r0) (.seq (.block 0 (.seq (.reg i33r1) (.cond (.t 6) (.seq (.reg i33r2) .ret) (.seq (.reg i33r3) (.cond (.t 10) (.seq (.reg i33r4) .ret) .skip))))) (.seq (.reg i33r5) .ret)))
def i33 : IFn := { np := 2, N := 18, ct := [6, 10], code := i33c, res := [.t 4, .t 5] }
theorem i33_eq : compF Tryz.prog Tryz.f33 = some i33 := by kernel_rfl
abbrev i35r0 : List IOper := [
 oo 2 (.box (.t 0)),
 oo 4 (.new [.i .i64 0, .i .i64 0, .i .i64 0]),
 oo 5 (.mv (.c (.i .i64 0)))]
abbrev i35r1 : List IOper := [
 oo 10 (.ld true 3 (.t 2)),
 oo 11 (.mv (.t 1)),
 oo 12 (.call (.c (.fn 33 [])) [.t 10, .t 11]),
 oo 9 (.mv (.t 12)),
 oo 13 (.ext (.t 9) 0),
 oo 14 (.ext (.t 9) 1),
 oo 6 (.mv (.t 13)),
 oo 7 (.mv (.t 14))]
abbrev i35r2 : List IOper := [
 oo 16 (.mv (.t 7)),
 oo 17 (.bin .neq (.t 16) (.c (.i .i64 0))),
 ot 15 (.mv (.t 17))]
abbrev i35r3 : List IOper := [
 oo 18 (.build [.i .i64 0, .i .i64 0, .i .i64 0] []),
 oo 19 (.mv (.t 7)),
 on_ (.st 3 (.t 4) (.t 18)),
 oo 5 (.mv (.t 19))]
abbrev i35r4 : List IOper := [
 oo 21 (.mv (.t 6)),
 oo 22 (.not (.t 21)),
 ot 20 (.mv (.t 22))]
abbrev i35r5 : List IOper := [
 oo 23 (.build [.i .i64 0, .i .i64 0, .i .i64 0] []),
 on_ (.st 3 (.t 4) (.t 23)),
 oo 5 (.mv (.c (.i .i64 8)))]
abbrev i35r6 : List IOper := [
 oo 25 (.fa 2 (.t 2)),
 oo 26 (.ld false 1 (.t 25)),
 oo 27 (.bin .eql (.t 26) (.c (.i .i64 8))),
 ot 24 (.mv (.t 27))]
abbrev i35r7 : List IOper := [
 oo 28 (.build [.i .i64 0, .i .i64 0, .i .i64 0] []),
 on_ (.st 3 (.t 4) (.t 28)),
 oo 5 (.mv (.c (.i .i64 4)))]
abbrev i35r8 : List IOper := [
 oo 29 (.fa 2 (.t 2)),
 oo 30 (.ld false 1 (.t 29)),
 oo 31 (.bin .add (.t 30) (.c (.i .i64 1))),
 oo 32 (.call (.c (.fn 68 [])) [.t 31]),
 oo 8 (.mv (.t 32))]
abbrev i35r9 : List IOper := [
 oo 33 (.mv (.t 1)),
 oo 34 (.mv (.t 8)),
 oo 35 (.bin .add (.t 33) (.t 34)),
 oo 36 (.mv (.t 8)),
 oo 37 (.fa 2 (.t 2)),
 oo 38 (.ld false 1 (.t 37)),
 oo 39 (.bin .add (.t 38) (.c (.i .i64 1))),
 oo 40 (.build [.i .i64 0, .i .i64 0, .i .i64 0] [(0, 1, .t 35), (1, 1, .t 36), (2, 1, .t 39)]),
 on_ (.st 3 (.t 4) (.t 40)),
 oo 5 (.mv (.c (.i .i64 0)))]
abbrev i35c : ICode := (.seq (.reg i35r0) (.seq (.reg i35r1) (.seq (.block 0 (.seq (.reg i35r2) (.cond (.t 15) (.seq (.reg i35r3) .ret) (.seq (.reg i35r4) (.cond (.t 20) (.seq (.reg i35r5) .ret) (.seq (.reg i35r6) (.cond (.t 24) (.seq (.reg i35r7) .ret) .skip))))))) (.seq (.reg i35r8) (.seq (.reg i35r9) .ret)))))
def i35 : IFn := { np := 2, N := 41, ct := [15, 20, 24], code := i35c, res := [.c 4 true 3, .t 5] }
theorem i35_eq : compF Tryz.prog Tryz.f35 = some i35 := by kernel_rfl
abbrev i39r0 : List IOper := [
 oo 10 (.mv (.c (.s [])))]
abbrev i39r1 : List IOper := [
 oo 11 (.mv (.t 0)),
 oo 12 (.mv (.t 1)),
 oo 13 (.mv (.t 2)),
 oo 14 (.mv (.t 3)),
 oo 15 (.mv (.t 4)),
 oo 16 (.lenS (.t 15)),
 oo 17 (.i2i .u8 (.t 16)),
 oo 18 (.bsl [.i .u8 0, .i .u8 0, .i .u8 0, .i .u8 0, .i .u8 0, .i .u8 0, .i .u8 0, .i .u8 0, .i .u8 0, .i .u8 0, .i .u8 0, .i .u8 0] 12 [(0, 1, .t 11), (1, 1, .c (.i .u8 0)), (2, 1, .c (.i .u8 0)), (3, 1, .t 12), (4, 1, .c (.i .u8 0)), (5, 1, .t 13), (6, 1, .c (.i .u8 0)), (7, 1, .c (.i .u8 0)), (8, 1, .t 14), (9, 1, .c (.i .u8 0)), (10, 1, .c (.i .u8 0)), (11, 1, .t 17)]),
 oo 19 (.b2s (.t 18)),
 oo 20 (.mv (.t 4)),
 oo 21 (.bin .add (.t 19) (.t 20)),
 oo 10 (.mv (.t 21))]
abbrev i39c : ICode := (.seq (.reg i39r0) (.seq (.reg i39r1) .ret))
def i39 : IFn := { np := 5, N := 22, ct := [], code := i39c, res := [.t 10] }
theorem i39_eq : compF Tryz.prog Tryz.f39 = some i39 := by kernel_rfl
abbrev i44r0 : List IOper := [
 oo 2 (.box (.t 0)),
 oo 3 (.box (.t 1)),
 oo 4 (.mv (.c (.nf)))]
abbrev i44r1 : List IOper := [
 oo 5 (.mkf 76 [.t 2, .t 3]),
 oo 4 (.mv (.t 5))]
abbrev i44c : ICode := (.seq (.reg i44r0) (.seq (.reg i44r1) .ret))
def i44 : IFn := { np := 2, N := 6, ct := [], code := i44c, res := [.t 4] }
theorem i44_eq : compF Tryz.prog Tryz.f44 = some i44 := by kernel_rfl
abbrev i45r0 : List IOper := [
 oo 4 (.mv (.c (.s [])))]
abbrev i45r1 : List IOper := [
 oo 7 (.mv (.t 1)),
 oo 8 (.mks 1 1 [.i .u8 0] (.t 7) (.t 7)),
 oo 5 (.mv (.t 8))]
abbrev i45r2 : List IOper := [
 oo 9 (.mv (.t 5)),
 oo 10 (.lenV (.t 9)),
 oo 11 (.mv (.c (.i .i64 0)))]
abbrev i45r3 : List IOper := [
 ot 12 (.bin .lss (.t 11) (.t 10))]
abbrev i45r4 : List IOper := [
 oo 13 (.mv (.t 11)),
 oo 6 (.mv (.t 13))]
abbrev i45r5 : List IOper := [
 oo 14 (.mv (.t 5)),
 oo 15 (.mv (.t 1)),
 oo 16 (.bin .sub (.t 15) (.c (.i .i64 1))),
 oo 17 (.mv (.t 6)),
 oo 18 (.bin .sub (.t 16) (.t 17)),
 oo 19 (.mv (.t 0)),
 oo 20 (.mv (.t 6)),
 oo 21 (.bin .mul (.c (.i .i64 8)) (.t 20)),
 oo 22 (.bin .shr (.t 19) (.t 21)),
 oo 23 (.i2i .u8 (.t 22)),
 oo 24 (.ixaV 1 (.t 14) (.t 18)),
 on_ (.st 1 (.t 24) (.t 23))]
abbrev i45r6 : List IOper := [
 oo 25 (.bin .add (.t 11) (.c (.i .i64 1))),
 oo 11 (.mv (.t 25))]
abbrev i45l7 : ICode := (.seq (.reg i45r3) (.seq (.cond (.t 12) .skip (.exit 0)) (.seq (.block 1 (.seq (.reg i45r4) (.reg i45r5))) (.reg i45r6))))
abbrev i45r8 : List IOper := [
 oo 26 (.mv (.t 5)),
 oo 27 (.b2s (.t 26)),
 oo 4 (.mv (.t 27))]
abbrev i45c : ICode := (.seq (.reg i45r0) (.seq (.reg i45r1) (.seq (.seq (.reg i45r2) (.block 0 (.loop i45l7))) (.seq (.reg i45r8) .ret))))
def i45 : IFn := { np := 2, N := 28, ct := [12], code := i45c, res := [.t 4] }
theorem i45_eq : compF Tryz.prog Tryz.f45 = some i45 := by kernel_rfl
abbrev i48r0 : List IOper := [
 oo 4 (.mv (.c (.b false)))]
abbrev i48r1 : List IOper := [
 oo 5 (.mv (.t 0)),
 oo 6 (.bin .geq (.t 5) (.c (.i .i64 0))),
 ot 7 (.mv (.t 6)),
 og 8 (.mv (.t 0)) 7 true false,
 og 9 (.mv (.t 1)) 7 true false,
 og 10 (.bin .leq (.t 8) (.t 9)) 7 true false,
 oo 11 (.pick (.t 7) (.t 10) (.c (.b false))),
 oo 4 (.mv (.t 11))]
abbrev i48c : ICode := (.seq (.reg i48r0) (.seq (.reg i48r1) .ret))
def i48 : IFn := { np := 2, N := 12, ct := [], code := i48c, res := [.t 4] }
theorem i48_eq : compF Tryz.prog Tryz.f48 = some i48 := by kernel_rfl
abbrev i49r0 : List IOper := [
 oo 5 .rcv,
 oo 6 (.tas 94 (.agg [.i .i64 0]) (.t 5)),
 oo 4 (.mv (.t 6)),
 oo 7 (.ext (.t 4) 0),
 oo 8 (.ext (.t 4) 1),
 oo 2 (.new [.i .i64 0]),
 on_ (.st 1 (.t 2) (.t 7)),
 oo 3 (.mv (.t 8))]
abbrev i49r1 : List IOper := [
 ot 9 (.mv (.t 3))]
abbrev i49r2 : List (IOper × List Nat) := [
 (oo 10 (.build [.i .i64 0, .i .i64 0, .i .i64 0, .i .i64 0, .s []] []), []),
 (oo 11 (.fa 0 (.t 2)), [0]),
 (oo 12 (.ld false 1 (.t 11)), [0]),
 (on_ (.st 5 (.t 0) (.t 10)), [1, 2]),
 (on_ (.st 1 (.t 1) (.t 12)), [])]
abbrev i49c : ICode := (.seq (.reg i49r0) (.seq (.reg i49r1) (.cond (.t 9) (.dreg i49r2) .skip)))
def i49 : IFn := { np := 2, N := 13, ct := [9], code := i49c, res := [] }
theorem i49_eq : compF Tryz.prog Tryz.f49 = some i49 := by kernel_rfl
abbrev i50r0 : List IOper := [
 oo 2 (.new [.i .i64 0, .i .i64 0, .i .i64 0, .i .i64 0, .s []])]
abbrev i50r1 : List IOper := [
 oo 9 (.mv (.t 0)),
 oo 10 (.lenS (.t 9)),
 oo 11 (.bin .leq (.t 10) (.c (.i .i64 1200))),
 oo 12 (.call (.c (.fn 59 [])) [.t 11, .c (.i .i64 3)])]
abbrev i50r2 : List IOper := [
 oo 13 (.mv (.t 0)),
 oo 14 (.lenS (.t 13)),
 oo 15 (.bin .geq (.t 14) (.c (.i .i64 12))),
 oo 16 (.call (.c (.fn 59 [])) [.t 15, .c (.i .i64 7)])]
abbrev i50r3 : List IOper := [
 oo 17 (.mv (.t 0)),
 oo 18 (.mkm 78 [.t 17]),
 oo 3 (.mv (.t 18))]
abbrev i50r4 : List IOper := [
 oo 19 (.mv (.t 3)),
 oo 20 (.call (.t 19) [.c (.i .i64 9), .c (.i .i64 12)]),
 oo 4 (.mv (.t 20))]
abbrev i50r5 : List IOper := [
 oo 21 (.mv (.t 0)),
 oo 22 (.lenS (.t 21)),
 oo 23 (.bin .sub (.t 22) (.c (.i .i64 12))),
 oo 24 (.mv (.t 4)),
 oo 25 (.bin .geq (.t 23) (.t 24)),
 oo 26 (.call (.c (.fn 59 [])) [.t 25, .c (.i .i64 7)])]
abbrev i50r6 : List IOper := [
 oo 27 (.mv (.t 0)),
 oo 28 (.lenS (.t 27)),
 oo 29 (.bin .sub (.t 28) (.c (.i .i64 12))),
 oo 30 (.mv (.t 4)),
 oo 31 (.bin .eql (.t 29) (.t 30)),
 oo 32 (.call (.c (.fn 59 [])) [.t 31, .c (.i .i64 5)])]
abbrev i50r7 : List IOper := [
 oo 5 (.new [.i .i64 0, .i .i64 0, .i .i64 0, .i .i64 0, .s []])]
abbrev i50r8 : List IOper := [
 oo 33 (.fa 0 (.t 5)),
 oo 34 (.fa 1 (.t 5)),
 oo 35 (.fa 2 (.t 5)),
 oo 36 (.fa 3 (.t 5)),
 oo 37 (.build [.np, .np, .np, .np] [(0, 1, .t 33), (1, 1, .t 34), (2, 1, .t 35), (3, 1, .t 36)]),
 oo 38 (.mv (.c (.i .i64 0)))]
abbrev i50r9 : List IOper := [
 ot 39 (.bin .lss (.t 38) (.c (.i .i64 4)))]
abbrev i50r10 : List IOper := [
 oo 40 (.mv (.t 38)),
 oo 41 (.ixA 4 1 false (.t 37) (.t 38)),
 oo 6 (.mv (.t 40)),
 oo 7 (.mv (.t 41))]
abbrev i50r11 : List IOper := [
 oo 42 (.build [.i .i64 0, .i .i64 0, .i .i64 0, .i .i64 0, .i .i64 0] [(0, 1, .c (.i .i64 0)), (1, 1, .c (.i .i64 1)), (2, 1, .c (.i .i64 4)), (3, 1, .c (.i .i64 6)), (4, 1, .c (.i .i64 9))]),
 oo 8 (.new [.i .i64 0, .i .i64 0, .i .i64 0, .i .i64 0, .i .i64 0]),
 on_ (.st 5 (.t 8) (.t 42))]
abbrev i50r12 : List (IOper × List Nat) := [
 (oo 43 (.mv (.t 7)), []),
 (oo 44 (.mv (.t 3)), [0]),
 (oo 45 (.mv (.t 6)), [0, 1]),
 (oo 46 (.ixaA 5 1 (.t 8) (.t 45)), [0, 1]),
 (oo 47 (.ld false 1 (.t 46)), [0, 1]),
 (oo 48 (.mv (.t 6)), [0, 1, 2, 3, 4]),
 (oo 49 (.bin .add (.t 48) (.c (.i .i64 1))), [0, 1, 2, 3, 4]),
 (oo 50 (.ixaA 5 1 (.t 8) (.t 49)), [0, 1, 2, 3, 4]),
 (oo 51 (.ld false 1 (.t 50)), [0, 1, 2, 3, 4]),
 (oo 52 (.call (.t 44) [.t 47, .t 51]), [0]),
 (oo 53 (.nck (.t 43)), []),
 (on_ (.st 1 (.t 53) (.t 52)), [])]
abbrev i50r13 : List IOper := [
 oo 54 (.bin .add (.t 38) (.c (.i .i64 1))),
 oo 38 (.mv (.t 54))]
abbrev i50l14 : ICode := (.seq (.reg i50r9) (.seq (.cond (.t 39) .skip (.exit 0)) (.seq (.block 1 (.seq (.reg i50r10) (.seq (.reg i50r11) (.dreg i50r12)))) (.reg i50r13))))
abbrev i50r15 : List IOper := [
 oo 55 (.mv (.t 0)),
 oo 56 (.slS (.t 55) (some (.c (.i .i64 12))) none),
 oo 57 (.fa 4 (.t 5)),
 on_ (.st 1 (.t 57) (.t 56))]
abbrev i50r16 : List IOper := [
 oo 58 (.fa 1 (.t 5)),
 oo 59 (.ld false 1 (.t 58)),
 oo 60 (.bin .leq (.t 59) (.c (.i .i64 4000))),
 ot 61 (.mv (.t 60)),
 og 62 (.mv (.t 4)) 61 true false,
 og 63 (.bin .leq (.t 62) (.c (.i .i64 1100))) 61 true false,
 oo 64 (.pick (.t 61) (.t 63) (.c (.b false))),
 ot 65 (.mv (.t 64)),
 og 66 (.fa 3 (.t 5)) 65 true false,
 og 67 (.ld false 1 (.t 66)) 65 true false,
 og 68 (.mv (.t 4)) 65 true false,
 og 69 (.bin .add (.t 67) (.t 68)) 65 true false,
 og 70 (.fa 1 (.t 5)) 65 true false,
 og 71 (.ld false 1 (.t 70)) 65 true false,
 og 72 (.bin .leq (.t 69) (.t 71)) 65 true false,
 oo 73 (.pick (.t 65) (.t 72) (.c (.b false))),
 ot 74 (.mv (.t 73)),
 og 75 (.mv (.t 4)) 74 true false,
 og 76 (.bin .eql (.t 75) (.c (.i .i64 0))) 74 true false,
 og 77 (.fa 1 (.t 5)) 74 true false,
 og 78 (.ld false 1 (.t 77)) 74 true false,
 og 79 (.bin .eql (.t 78) (.c (.i .i64 0))) 74 true false,
 og 80 (.eqk false false [.b] (.t 76) (.t 79)) 74 true false,
 oo 81 (.pick (.t 74) (.t 80) (.c (.b false))),
 oo 82 (.call (.c (.fn 59 [])) [.t 81, .c (.i .i64 5)])]
abbrev i50r17 : List IOper := [
 oo 83 (.ld true 5 (.t 5)),
 on_ (.st 5 (.t 2) (.t 83))]
abbrev i50c : ICode := (.seq (.reg i50r0) (.seq (.reg i50r1) (.seq (.reg i50r2) (.seq (.reg i50r3) (.seq (.reg i50r4) (.seq (.reg i50r5) (.seq (.reg i50r6) (.seq (.reg i50r7) (.seq (.seq (.reg i50r8) (.block 0 (.loop i50l14))) (.seq (.reg i50r15) (.seq (.reg i50r16) (.seq (.reg i50r17) .ret))))))))))))
def i50 : IFn := { np := 1, N := 84, ct := [39], code := i50c, res := [.c 2 true 5] }
theorem i50_eq : compF Tryz.prog Tryz.f50 = some i50 := by kernel_rfl
abbrev i54r0 : List IOper := [
 oo 4 (.box (.t 1)),
 oo 5 (.mv (.c (.b false)))]
abbrev i54r1 : List IOper := [
 oo 7 (.ld true 5 (.t 4)),
 oo 8 (.build [.i .i64 0, .i .i64 0, .i .i64 0, .s [], .ns] [(0, 5, .t 7)]),
 oo 6 (.new [.i .i64 0, .i .i64 0, .i .i64 0, .s [], .ns]),
 on_ (.st 5 (.t 6) (.t 8))]
abbrev i54r2 : List (IOper × List Nat) := [
 (oo 9 (.fa 2 (.t 4)), []),
 (oo 10 (.ld false 1 (.t 9)), []),
 (oo 11 (.fa 0 (.t 2)), [0, 1]),
 (oo 12 (.ld false 1 (.t 11)), [0, 1]),
 (oo 13 (.bin .geq (.t 10) (.t 12)), []),
 (ot 14 (.mv (.t 13)), []),
 (og 15 (.fa 2 (.t 4)) 14 true false, []),
 (og 16 (.ld false 1 (.t 15)) 14 true false, []),
 (og 17 (.fa 0 (.t 2)) 14 true false, [6, 7]),
 (og 18 (.ld false 1 (.t 17)) 14 true false, [6, 7]),
 (og 19 (.bin .add (.t 18) (.c (.i .i64 4))) 14 true false, [6, 7]),
 (og 20 (.mn (.t 19) [.c (.i .i64 65536)]) 14 true false, [6, 7]),
 (og 21 (.bin .lss (.t 16) (.t 20)) 14 true false, []),
 (oo 22 (.pick (.t 14) (.t 21) (.c (.b false))), []),
 (ot 23 (.mv (.t 22)), []),
 (og 24 (.mv (.t 0)) 23 true false, []),
 (og 25 (.eqn false 0 (.t 24) (.c (.np))) 23 true false, []),
 (og 26 (.mv (.t 25)) 23 true true, []),
 (og 27 (.fa 2 (.t 4)) 26 false false, []),
 (og 28 (.ld false 1 (.t 27)) 26 false false, []),
 (og 29 (.mv (.t 0)) 26 false false, [18, 19]),
 (og 30 (.nck (.t 29)) 26 false false, [18, 19]),
 (og 31 (.fa 2 (.t 30)) 26 false false, [18, 19]),
 (og 32 (.ld false 1 (.t 31)) 26 false false, [18, 19]),
 (og 33 (.bin .gtr (.t 28) (.t 32)) 26 false false, []),
 (og 34 (.pick (.t 26) (.c (.b true)) (.t 33)) 23 true false, []),
 (oo 35 (.pick (.t 23) (.t 34) (.c (.b false))), []),
 (ot 36 (.mv (.t 35)), []),
 (og 37 (.ld true 5 (.t 6)) 36 true false, []),
 (og 38 (.call (.c (.fn 55 [])) [.t 37]) 36 true false, []),
 (oo 39 (.pick (.t 36) (.t 38) (.c (.b false))), []),
 (ot 40 (.mv (.t 39)), []),
 (og 41 (.fa 2 (.t 4)) 40 true false, []),
 (og 42 (.ld false 1 (.t 41)) 40 true false, []),
 (og 43 (.fa 0 (.t 2)) 40 true false, [32, 33]),
 (og 44 (.ld false 1 (.t 43)) 40 true false, [32, 33]),
 (og 45 (.bin .gtr (.t 42) (.t 44)) 40 true false, []),
 (og 46 (.mv (.t 45)) 40 true true, []),
 (og 47 (.ld true 5 (.t 6)) 46 false false, []),
 (og 48 (.call (.c (.fn 56 [])) [.t 47]) 46 false false, []),
 (og 49 (.not (.t 48)) 46 false false, []),
 (og 50 (.pick (.t 46) (.c (.b true)) (.t 49)) 40 true false, []),
 (oo 51 (.pick (.t 40) (.t 50) (.c (.b false))), []),
 (oo 5 (.mv (.t 51)), [])]
abbrev i54c : ICode := (.seq (.reg i54r0) (.seq (.reg i54r1) (.seq (.dreg i54r2) .ret)))
def i54 : IFn := { np := 3, N := 52, ct := [], code := i54c, res := [.t 5] }
theorem i54_eq : compF Tryz.prog Tryz.f54 = some i54 := by kernel_rfl
abbrev i55r0 : List IOper := [
 oo 1 (.box (.t 0)),
 oo 2 (.mv (.c (.b false)))]
abbrev i55r1 : List IOper := [
 oo 6 (.fa 0 (.t 1)),
 oo 7 (.fa 0 (.t 6)),
 oo 8 (.ld false 1 (.t 7)),
 oo 9 (.call (.c (.fn 48 [])) [.t 8, .c (.i .i64 255)]),
 oo 10 (.not (.t 9)),
 ot 11 (.mv (.t 10)),
 og 12 (.fa 0 (.t 1)) 11 false false,
 og 13 (.fa 1 (.t 12)) 11 false false,
 og 14 (.ld false 1 (.t 13)) 11 false false,
 og 15 (.call (.c (.fn 48 [])) [.t 14, .c (.i .i64 4000)]) 11 false false,
 og 16 (.not (.t 15)) 11 false false,
 oo 17 (.pick (.t 11) (.c (.b true)) (.t 16)),
 ot 18 (.mv (.t 17)),
 og 19 (.fa 0 (.t 1)) 18 false false,
 og 20 (.fa 3 (.t 19)) 18 false false,
 og 21 (.ld false 1 (.t 20)) 18 false false,
 og 22 (.lenS (.t 21)) 18 false false,
 og 23 (.fa 0 (.t 1)) 18 false false,
 og 24 (.fa 1 (.t 23)) 18 false false,
 og 25 (.ld false 1 (.t 24)) 18 false false,
 og 26 (.bin .neq (.t 22) (.t 25)) 18 false false,
 oo 27 (.pick (.t 18) (.c (.b true)) (.t 26)),
 ot 28 (.mv (.t 27)),
 og 29 (.fa 0 (.t 1)) 28 false false,
 og 30 (.fa 4 (.t 29)) 28 false false,
 og 31 (.ld false 1 (.t 30)) 28 false false,
 og 32 (.lenV (.t 31)) 28 false false,
 og 33 (.bin .eql (.t 32) (.c (.i .i64 0))) 28 false false,
 og 34 (.fa 0 (.t 1)) 28 false false,
 og 35 (.fa 1 (.t 34)) 28 false false,
 og 36 (.ld false 1 (.t 35)) 28 false false,
 og 37 (.bin .eql (.t 36) (.c (.i .i64 0))) 28 false false,
 og 38 (.eqk true false [.b] (.t 33) (.t 37)) 28 false false,
 ot 39 (.pick (.t 28) (.c (.b true)) (.t 38))]
abbrev i55r2 : List IOper := [
 oo 2 (.mv (.c (.b false)))]
abbrev i55r3 : List IOper := [
 oo 40 (.fa 0 (.t 1)),
 oo 41 (.fa 4 (.t 40)),
 oo 42 (.ld false 1 (.t 41)),
 oo 43 (.mkf 80 [.t 1]),
 oo 44 (.call (.c (.fn 79 [])) [.t 42, .t 43]),
 ot 45 (.not (.t 44))]
abbrev i55r4 : List IOper := [
 oo 2 (.mv (.c (.b false)))]
abbrev i55r5 : List IOper := [
 oo 3 (.mv (.c (.i .i64 0)))]
abbrev i55r6 : List (IOper × List Nat) := [
 (oo 46 (.fa 0 (.t 1)), []),
 (oo 47 (.fa 4 (.t 46)), []),
 (oo 48 (.ld false 1 (.t 47)), []),
 (oo 49 (.call (.c (.fn 60 [])) [.t 48]), []),
 (oo 50 (.fa 0 (.t 1)), [0, 1, 2, 3]),
 (oo 51 (.fa 1 (.t 50)), [0, 1, 2, 3]),
 (oo 52 (.ld false 1 (.t 51)), [0, 1, 2, 3]),
 (oo 53 (.fa 0 (.t 1)), [0, 1, 2, 3, 4, 5, 6]),
 (oo 54 (.fa 1 (.t 53)), [0, 1, 2, 3, 4, 5, 6]),
 (oo 55 (.ld false 1 (.t 54)), [0, 1, 2, 3, 4, 5, 6]),
 (oo 56 (.build [.i .i64 0, .i .i64 0] [(0, 1, .t 52), (1, 1, .t 55)]), [0, 1, 2, 3]),
 (oo 57 (.bsl [.i .i64 0, .i .i64 0] 1 [(0, 2, .t 56)]), [0, 1, 2, 3]),
 (oo 58 (.app 2 16 [.i .i64 0, .i .i64 0] (.t 49) (.t 57)), []),
 (oo 59 (.lenV (.t 58)), []),
 (oo 60 (.mv (.c (.i .i64 0))), [0, 1, 2, 3, 4, 5, 6, 7, 8, 9, 10, 11, 12, 13])]
abbrev i55r7 : List IOper := [
 ot 61 (.bin .lss (.t 60) (.t 59))]
abbrev i55r8 : List IOper := [
 oo 62 (.ixaV 2 (.t 58) (.t 60)),
 oo 63 (.ld true 2 (.t 62)),
 oo 5 (.new [.i .i64 0, .i .i64 0]),
 on_ (.st 2 (.t 5) (.t 63))]
abbrev i55r9 : List IOper := [
 oo 64 (.fa 0 (.t 1)),
 oo 65 (.fa 3 (.t 64)),
 oo 66 (.ld false 1 (.t 65)),
 oo 67 (.mv (.t 3)),
 oo 68 (.ixaA 2 1 (.t 5) (.c (.i .i64 0))),
 oo 69 (.ld false 1 (.t 68)),
 oo 70 (.slS (.t 66) (some (.t 67)) (some (.t 69))),
 oo 71 (.call (.c (.fn 81 [])) [.t 70, .c (.s [0])]),
 ot 72 (.bin .neq (.t 71) (.c (.s [])))]
abbrev i55r10 : List IOper := [
 oo 2 (.mv (.c (.b false)))]
abbrev i55r11 : List IOper := [
 oo 73 (.ixaA 2 1 (.t 5) (.c (.i .i64 1))),
 oo 74 (.ld false 1 (.t 73)),
 oo 3 (.mv (.t 74))]
abbrev i55r12 : List IOper := [
 oo 75 (.bin .add (.t 60) (.c (.i .i64 1))),
 oo 60 (.mv (.t 75))]
abbrev i55l13 : ICode := (.seq (.reg i55r7) (.seq (.cond (.t 61) .skip (.exit 0)) (.seq (.block 1 (.seq (.reg i55r8) (.seq (.seq (.reg i55r9) (.cond (.t 72) (.seq (.reg i55r10) .ret) .skip)) (.reg i55r11)))) (.reg i55r12))))
abbrev i55r14 : List IOper := [
 oo 2 (.mv (.c (.b true)))]
abbrev i55c : ICode := (.seq (.reg i55r0) (.seq (.seq (.reg i55r1) (.cond (.t 39) (.seq (.reg i55r2) .ret) .skip)) (.seq (.seq (.reg i55r3) (.cond (.t 45) (.seq (.reg i55r4) .ret) .skip)) (.seq (.reg i55r5) (.seq (.seq (.dreg i55r6) (.block 0 (.loop i55l13))) (.seq (.reg i55r14) .ret))))))
def i55 : IFn := { np := 1, N := 76, ct := [39, 45, 61, 72], code := i55c, res := [.t 2] }
theorem i55_eq : compF Tryz.prog Tryz.f55 = some i55 := by kernel_rfl
abbrev i56r0 : List IOper := [
 oo 1 (.box (.t 0)),
 oo 2 (.mv (.c (.b false)))]
abbrev i56r1 : List (IOper × List Nat) := [
 (oo 3 (.fa 0 (.t 1)), []),
 (oo 4 (.fa 1 (.t 3)), []),
 (oo 5 (.ld false 1 (.t 4)), []),
 (oo 6 (.bin .eql (.t 5) (.c (.i .i64 0))), []),
 (ot 7 (.mv (.t 6)), []),
 (og 8 (.fa 0 (.t 1)) 7 false false, []),
 (og 9 (.fa 4 (.t 8)) 7 false false, []),
 (og 10 (.ld false 1 (.t 9)) 7 false false, []),
 (og 11 (.lenV (.t 10)) 7 false false, []),
 (og 12 (.bin .eql (.t 11) (.c (.i .i64 1))) 7 false false, []),
 (og 13 (.mv (.t 12)) 7 false true, []),
 (og 14 (.fa 0 (.t 1)) 13 true false, []),
 (og 15 (.fa 4 (.t 14)) 13 true false, []),
 (og 16 (.ld false 1 (.t 15)) 13 true false, []),
 (og 17 (.ixaV 2 (.t 16) (.c (.i .i64 0))) 13 true false, []),
 (og 18 (.ld true 2 (.t 17)) 13 true false, []),
 (og 19 (.fa 0 (.t 1)) 13 true false, [11, 12, 13, 14, 15]),
 (og 20 (.fa 1 (.t 19)) 13 true false, [11, 12, 13, 14, 15]),
 (og 21 (.ld false 1 (.t 20)) 13 true false, [11, 12, 13, 14, 15]),
 (og 22 (.build [.i .i64 0, .i .i64 0] [(0, 1, .c (.i .i64 0)), (1, 1, .t 21)]) 13 true false, [11, 12, 13, 14, 15]),
 (og 23 (.eqk false true [.i, .i] (.t 18) (.t 22)) 13 true false, []),
 (og 24 (.pick (.t 13) (.t 23) (.c (.b false))) 7 false false, []),
 (oo 25 (.pick (.t 7) (.c (.b true)) (.t 24)), []),
 (oo 2 (.mv (.t 25)), [])]
abbrev i56c : ICode := (.seq (.reg i56r0) (.seq (.dreg i56r1) .ret))
def i56 : IFn := { np := 1, N := 26, ct := [], code := i56c, res := [.t 2] }
theorem i56_eq : compF Tryz.prog Tryz.f56 = some i56 := by kernel_rfl
abbrev i58r0 : List IOper := [
 oo 6 .rcv,
 oo 7 (.tas 94 (.agg [.i .i64 0]) (.t 6)),
 oo 5 (.mv (.t 7)),
 oo 8 (.ext (.t 5) 0),
 oo 9 (.ext (.t 5) 1),
 oo 3 (.new [.i .i64 0]),
 on_ (.st 1 (.t 3) (.t 8)),
 oo 4 (.mv (.t 9))]
abbrev i58r1 : List IOper := [
 ot 10 (.mv (.t 4))]
abbrev i58r2 : List (IOper × List Nat) := [
 (oo 11 (.build [.i .i64 0, .ns] []), []),
 (oo 12 (.fa 0 (.t 3)), [0]),
 (oo 13 (.ld false 1 (.t 12)), [0]),
 (on_ (.st 2 (.t 0) (.t 11)), [1, 2]),
 (on_ (.st 1 (.t 1) (.c (.ns))), [1, 2]),
 (on_ (.st 1 (.t 2) (.t 13)), [])]
abbrev i58c : ICode := (.seq (.reg i58r0) (.seq (.reg i58r1) (.cond (.t 10) (.dreg i58r2) .skip)))
def i58 : IFn := { np := 3, N := 14, ct := [10], code := i58c, res := [] }
theorem i58_eq : compF Tryz.prog Tryz.f58 = some i58 := by kernel_rfl
abbrev i59r0 : List IOper := [
 oo 4 (.mv (.t 0)),
 ot 5 (.not (.t 4))]
abbrev i59r1 : List IOper := [
 oo 6 (.mv (.t 1)),
 oo 7 (.build [.i .i64 0] [(0, 1, .t 6)]),
 oo 8 (.mki 94 (.t 7)),
 on_ (.pan (.t 8))]
abbrev i59c : ICode := (.seq (.reg i59r0) (.cond (.t 5) (.reg i59r1) .skip))
def i59 : IFn := { np := 2, N := 9, ct := [5], code := i59c, res := [] }
theorem i59_eq : compF Tryz.prog Tryz.f59 = some i59 := by kernel_rfl
abbrev i60r0 : List IOper := [
 oo 2 (.mv (.c (.ns)))]
abbrev i60r1 : List IOper := [
 oo 3 (.mv (.t 0)),
 ot 4 (.eqn false 1 (.t 3) (.c (.ns)))]
abbrev i60r2 : List IOper := [
 oo 2 (.mv (.c (.ns)))]
abbrev i60r3 : List IOper := [
 oo 5 (.bsl [] 0 []),
 oo 6 (.mv (.t 0)),
 oo 7 (.app 2 16 [.i .i64 0, .i .i64 0] (.t 5) (.t 6)),
 oo 2 (.mv (.t 7))]
abbrev i60c : ICode := (.seq (.reg i60r0) (.seq (.seq (.reg i60r1) (.cond (.t 4) (.seq (.reg i60r2) .ret) .skip)) (.seq (.reg i60r3) .ret)))
def i60 : IFn := { np := 1, N := 8, ct := [4], code := i60c, res := [.t 2] }
theorem i60_eq : compF Tryz.prog Tryz.f60 = some i60 := by kernel_rfl
abbrev i61r0 : List IOper := [
 oo 6 (.mv (.c (.i .i64 0))),
 oo 7 (.mv (.c (.b false)))]
abbrev i61r1 : List IOper := [
 oo 12 (.mv (.t 0)),
 oo 13 (.lenV (.t 12)),
 oo 8 (.mv (.t 13))]
abbrev i61r2 : List IOper := [
 oo 14 (.mv (.t 8)),
 oo 9 (.mv (.c (.i .i64 0))),
 oo 10 (.mv (.t 14))]
abbrev i61r3 : List IOper := [
 oo 15 (.mv (.t 9)),
 oo 16 (.mv (.t 10)),
 ot 17 (.bin .lss (.t 15) (.t 16))]
abbrev i61r4 : List IOper := [
 oo 18 (.mv (.t 9)),
 oo 19 (.mv (.t 10)),
 oo 20 (.bin .add (.t 18) (.t 19)),
 oo 21 (.i2i .u64 (.t 20)),
 oo 22 (.bin .shr (.t 21) (.c (.i .u64 1))),
 oo 23 (.i2i .i64 (.t 22)),
 oo 11 (.mv (.t 23))]
abbrev i61r5 : List IOper := [
 oo 24 (.mv (.t 2)),
 oo 25 (.mv (.t 0)),
 oo 26 (.mv (.t 11)),
 oo 27 (.ixaV 5 (.t 25) (.t 26)),
 oo 28 (.ld true 5 (.t 27)),
 oo 29 (.mv (.t 1)),
 oo 30 (.call (.t 24) [.t 28, .t 29]),
 ot 31 (.bin .lss (.t 30) (.c (.i .i64 0)))]
abbrev i61r6 : List IOper := [
 oo 32 (.mv (.t 11)),
 oo 33 (.bin .add (.t 32) (.c (.i .i64 1))),
 oo 9 (.mv (.t 33))]
abbrev i61r7 : List IOper := [
 oo 34 (.mv (.t 11)),
 oo 10 (.mv (.t 34))]
abbrev i61l8 : ICode := (.seq (.seq (.reg i61r3) (.cond (.t 17) .skip (.exit 0))) (.block 1 (.seq (.reg i61r4) (.seq (.reg i61r5) (.cond (.t 31) (.reg i61r6) (.reg i61r7))))))
abbrev i61r9 : List IOper := [
 oo 35 (.mv (.t 9)),
 oo 36 (.mv (.t 9)),
 oo 37 (.mv (.t 8)),
 oo 38 (.bin .lss (.t 36) (.t 37)),
 ot 39 (.mv (.t 38)),
 og 40 (.mv (.t 2)) 39 true false,
 og 41 (.mv (.t 0)) 39 true false,
 og 42 (.mv (.t 9)) 39 true false,
 og 43 (.ixaV 5 (.t 41) (.t 42)) 39 true false,
 og 44 (.ld true 5 (.t 43)) 39 true false,
 og 45 (.mv (.t 1)) 39 true false,
 og 46 (.call (.t 40) [.t 44, .t 45]) 39 true false,
 og 47 (.bin .eql (.t 46) (.c (.i .i64 0))) 39 true false,
 oo 48 (.pick (.t 39) (.t 47) (.c (.b false))),
 oo 6 (.mv (.t 35)),
 oo 7 (.mv (.t 48))]
abbrev i61c : ICode := (.seq (.reg i61r0) (.seq (.reg i61r1) (.seq (.reg i61r2) (.seq (.block 0 (.loop i61l8)) (.seq (.reg i61r9) .ret)))))
def i61 : IFn := { np := 3, N := 49, ct := [17, 31], code := i61c, res := [.t 6, .t 7] }
theorem i61_eq : compF Tryz.prog Tryz.f61 = some i61 := by kernel_rfl
abbrev i62r0 : List IOper := [
 oo 2 (.box (.t 0)),
 oo 4 (.mv (.c (.i .i64 0)))]
abbrev i62r1 : List IOper := [
 oo 5 (.fa 2 (.t 2)),
 oo 6 (.ld false 1 (.t 5)),
 oo 7 (.mv (.t 1)),
 oo 8 (.call (.c (.fn 63 [])) [.t 6, .t 7]),
 oo 4 (.mv (.t 8))]
abbrev i62c : ICode := (.seq (.reg i62r0) (.seq (.reg i62r1) .ret))
def i62 : IFn := { np := 2, N := 9, ct := [], code := i62c, res := [.t 4] }
theorem i62_eq : compF Tryz.prog Tryz.f62 = some i62 := by kernel_rfl
abbrev i63r0 : List IOper := [
 oo 4 (.mv (.c (.i .i64 0)))]
abbrev i63r1 : List IOper := [
 oo 7 (.mv (.t 0)),
 oo 8 (.call (.c (.fn 84 [])) [.t 7]),
 oo 5 (.mv (.t 8))]
abbrev i63r2 : List IOper := [
 oo 9 (.mv (.t 1)),
 oo 10 (.call (.c (.fn 84 [])) [.t 9]),
 oo 6 (.mv (.t 10))]
abbrev i63r3 : List IOper := [
 ot 11 (.mv (.t 5))]
abbrev i63r4 : List IOper := [
 ot 12 (.mv (.t 6))]
abbrev i63r5 : List IOper := [
 oo 4 (.mv (.c (.i .i64 0)))]
abbrev i63r6 : List IOper := [
 oo 4 (.mv (.c (.i .i64 (-1))))]
abbrev i63r7 : List IOper := [
 ot 13 (.mv (.t 6))]
abbrev i63r8 : List IOper := [
 oo 4 (.mv (.c (.i .i64 1)))]
abbrev i63r9 : List IOper := [
 oo 14 (.mv (.t 0)),
 oo 15 (.mv (.t 1)),
 ot 16 (.bin .lss (.t 14) (.t 15))]
abbrev i63r10 : List IOper := [
 oo 4 (.mv (.c (.i .i64 (-1))))]
abbrev i63r11 : List IOper := [
 oo 17 (.mv (.t 0)),
 oo 18 (.mv (.t 1)),
 ot 19 (.bin .gtr (.t 17) (.t 18))]
abbrev i63r12 : List IOper := [
 oo 4 (.mv (.c (.i .i64 1)))]
abbrev i63r13 : List IOper := [
 oo 4 (.mv (.c (.i .i64 0)))]
abbrev i63c : ICode := (.seq (.reg i63r0) (.seq (.reg i63r1) (.seq (.reg i63r2) (.seq (.seq (.reg i63r3) (.cond (.t 11) (.seq (.seq (.reg i63r4) (.cond (.t 12) (.seq (.reg i63r5) .ret) .skip)) (.seq (.reg i63r6) .ret)) .skip)) (.seq (.seq (.reg i63r7) (.cond (.t 13) (.seq (.reg i63r8) .ret) .skip)) (.seq (.seq (.reg i63r9) (.cond (.t 16) (.seq (.reg i63r10) .ret) .skip)) (.seq (.seq (.reg i63r11) (.cond (.t 19) (.seq (.reg i63r12) .ret) .skip)) (.seq (.reg i63r13) .ret))))))))
def i63 : IFn := { np := 2, N := 20, ct := [11, 12, 13, 16, 19], code := i63c, res := [.t 4] }
theorem i63_eq : compF Tryz.prog Tryz.f63 = some i63 := by kernel_rfl
abbrev i64r0 : List IOper := [
 oo 6 (.mv (.c (.ns)))]
abbrev i64r1 : List IOper := [
 oo 10 (.mv (.t 0)),
 oo 11 (.mv (.t 1)),
 oo 12 (.slV 5 (.t 10) (some (.t 11)) none none)]
abbrev i64r2 : List IOper := [
 oo 13 (.mv (.t 2)),
 oo 14 (.lenV (.t 13)),
 oo 7 (.mv (.t 14))]
abbrev i64r3 : List IOper := [
 oo 15 (.mv (.t 7)),
 ot 16 (.bin .eql (.t 15) (.c (.i .i64 0)))]
abbrev i64r4 : List IOper := [
 oo 17 (.mv (.t 0)),
 oo 6 (.mv (.t 17))]
abbrev i64r5 : List IOper := [
 oo 18 (.mv (.t 0)),
 oo 19 (.lenV (.t 18)),
 oo 8 (.mv (.t 19))]
abbrev i64r6 : List IOper := [
 oo 20 (.mv (.t 1)),
 oo 21 (.mv (.t 8)),
 ot 22 (.bin .eql (.t 20) (.t 21))]
abbrev i64r7 : List IOper := [
 oo 23 (.mv (.t 0)),
 oo 24 (.mv (.t 2)),
 oo 25 (.app 5 64 [.i .i64 0, .i .i64 0, .i .i64 0, .s [], .ns] (.t 23) (.t 24)),
 oo 6 (.mv (.t 25))]
abbrev i64r8 : List IOper := [
 oo 26 (.mv (.t 8)),
 oo 27 (.mv (.t 7)),
 oo 28 (.bin .add (.t 26) (.t 27)),
 oo 29 (.mv (.t 0)),
 oo 30 (.capV (.t 29)),
 ot 31 (.bin .gtr (.t 28) (.t 30))]
abbrev i64r9 : List IOper := [
 oo 32 (.mv (.t 0)),
 oo 33 (.mv (.t 1)),
 oo 34 (.slV 5 (.t 32) none (some (.t 33)) none),
 oo 35 (.mv (.t 8)),
 oo 36 (.mv (.t 7)),
 oo 37 (.bin .add (.t 35) (.t 36)),
 oo 38 (.mv (.t 1)),
 oo 39 (.bin .sub (.t 37) (.t 38)),
 oo 40 (.apz 5 64 [.i .i64 0, .i .i64 0, .i .i64 0, .s [], .ns] (.t 34) (.t 39)),
 oo 9 (.mv (.t 40))]
abbrev i64r10 : List IOper := [
 oo 41 (.mv (.t 9)),
 oo 42 (.mv (.t 1)),
 oo 43 (.slV 5 (.t 41) (some (.t 42)) none none),
 oo 44 (.mv (.t 2)),
 oo 45 (.cpy 5 (.t 43) (.t 44))]
abbrev i64r11 : List (IOper × List Nat) := [
 (oo 46 (.mv (.t 9)), []),
 (oo 47 (.mv (.t 1)), [0]),
 (oo 48 (.mv (.t 7)), [0, 1]),
 (oo 49 (.bin .add (.t 47) (.t 48)), [0]),
 (oo 50 (.slV 5 (.t 46) (some (.t 49)) none none), []),
 (oo 51 (.mv (.t 0)), [0, 1, 2, 3, 4]),
 (oo 52 (.mv (.t 1)), [0, 1, 2, 3, 4, 5]),
 (oo 53 (.slV 5 (.t 51) (some (.t 52)) none none), [0, 1, 2, 3, 4]),
 (oo 54 (.cpy 5 (.t 50) (.t 53)), [])]
abbrev i64r12 : List IOper := [
 oo 55 (.mv (.t 9)),
 oo 6 (.mv (.t 55))]
abbrev i64r13 : List IOper := [
 oo 56 (.mv (.t 0)),
 oo 57 (.mv (.t 8)),
 oo 58 (.mv (.t 7)),
 oo 59 (.bin .add (.t 57) (.t 58)),
 oo 60 (.slV 5 (.t 56) none (some (.t 59)) none),
 oo 0 (.mv (.t 60))]
abbrev i64r14 : List IOper := [
 oo 61 (.mv (.t 2)),
 oo 62 (.mv (.t 0)),
 oo 63 (.mv (.t 1)),
 oo 64 (.mv (.t 7)),
 oo 65 (.bin .add (.t 63) (.t 64)),
 oo 66 (.slV 5 (.t 62) (some (.t 65)) none none),
 oo 67 (.call (.c (.fn 85 [])) [.t 61, .t 66]),
 ot 68 (.not (.t 67))]
abbrev i64r15 : List (IOper × List Nat) := [
 (oo 69 (.mv (.t 0)), []),
 (oo 70 (.mv (.t 1)), [0]),
 (oo 71 (.mv (.t 7)), [0, 1]),
 (oo 72 (.bin .add (.t 70) (.t 71)), [0]),
 (oo 73 (.slV 5 (.t 69) (some (.t 72)) none none), []),
 (oo 74 (.mv (.t 0)), [0, 1, 2, 3, 4]),
 (oo 75 (.mv (.t 1)), [0, 1, 2, 3, 4, 5]),
 (oo 76 (.slV 5 (.t 74) (some (.t 75)) none none), [0, 1, 2, 3, 4]),
 (oo 77 (.cpy 5 (.t 73) (.t 76)), [])]
abbrev i64r16 : List IOper := [
 oo 78 (.mv (.t 0)),
 oo 79 (.mv (.t 1)),
 oo 80 (.slV 5 (.t 78) (some (.t 79)) none none),
 oo 81 (.mv (.t 2)),
 oo 82 (.cpy 5 (.t 80) (.t 81))]
abbrev i64r17 : List IOper := [
 oo 83 (.mv (.t 0)),
 oo 6 (.mv (.t 83))]
abbrev i64r18 : List IOper := [
 oo 84 (.mv (.t 0)),
 oo 85 (.mv (.t 8)),
 oo 86 (.slV 5 (.t 84) (some (.t 85)) none none),
 oo 87 (.mv (.t 2)),
 oo 88 (.cpy 5 (.t 86) (.t 87))]
abbrev i64r19 : List IOper := [
 oo 89 (.mv (.t 0)),
 oo 90 (.mv (.t 1)),
 oo 91 (.slV 5 (.t 89) (some (.t 90)) none none),
 oo 92 (.mv (.t 7)),
 oo 93 (.call (.c (.fn 86 [])) [.t 91, .t 92])]
abbrev i64r20 : List IOper := [
 oo 94 (.mv (.t 0)),
 oo 6 (.mv (.t 94))]
abbrev i64c : ICode := (.seq (.reg i64r0) (.seq (.reg i64r1) (.seq (.reg i64r2) (.seq (.seq (.reg i64r3) (.cond (.t 16) (.seq (.reg i64r4) .ret) .skip)) (.seq (.reg i64r5) (.seq (.seq (.reg i64r6) (.cond (.t 22) (.seq (.reg i64r7) .ret) .skip)) (.seq (.seq (.reg i64r8) (.cond (.t 31) (.seq (.reg i64r9) (.seq (.reg i64r10) (.seq (.dreg i64r11) (.seq (.reg i64r12) .ret)))) .skip)) (.seq (.reg i64r13) (.seq (.seq (.reg i64r14) (.cond (.t 68) (.seq (.dreg i64r15) (.seq (.reg i64r16) (.seq (.reg i64r17) .ret))) .skip)) (.seq (.reg i64r18) (.seq (.reg i64r19) (.seq (.reg i64r20) .ret))))))))))))
def i64 : IFn := { np := 3, N := 95, ct := [16, 22, 31, 68], code := i64c, res := [.t 6] }
theorem i64_eq : compF Tryz.prog Tryz.f64 = some i64 := by kernel_rfl
abbrev i65r0 : List IOper := [
 oo 3 (.box (.t 1))]
abbrev i65r1 : List (IOper × List Nat) := [
 (oo 13 (.mv (.t 0)), []),
 (oo 14 (.nck (.t 13)), []),
 (oo 15 (.fa 0 (.t 14)), []),
 (oo 16 (.fa 0 (.t 15)), []),
 (oo 17 (.ld false 1 (.t 16)), []),
 (oo 18 (.fa 0 (.t 3)), [0, 1, 2, 3, 4]),
 (oo 19 (.ld false 1 (.t 18)), [0, 1, 2, 3, 4]),
 (oo 20 (.bin .eql (.t 17) (.t 19)), []),
 (ot 21 (.mv (.t 20)), []),
 (og 22 (.mv (.t 0)) 21 true false, []),
 (og 23 (.nck (.t 22)) 21 true false, []),
 (og 24 (.fa 0 (.t 23)) 21 true false, []),
 (og 25 (.fa 1 (.t 24)) 21 true false, []),
 (og 26 (.ld false 1 (.t 25)) 21 true false, []),
 (og 27 (.fa 1 (.t 3)) 21 true false, [9, 10, 11, 12, 13]),
 (og 28 (.ld false 1 (.t 27)) 21 true false, [9, 10, 11, 12, 13]),
 (og 29 (.bin .eql (.t 26) (.t 28)) 21 true false, []),
 (oo 30 (.pick (.t 21) (.t 29) (.c (.b false))), []),
 (oo 31 (.call (.c (.fn 59 [])) [.t 30, .c (.i .i64 5)]), [])]
abbrev i65r2 : List IOper := [
 oo 32 (.fa 3 (.t 3)),
 oo 33 (.ld false 1 (.t 32)),
 oo 34 (.fa 4 (.t 3)),
 oo 35 (.ld false 1 (.t 34)),
 oo 36 (.lenS (.t 35)),
 oo 37 (.bin .add (.t 33) (.t 36)),
 oo 4 (.mv (.t 37))]
abbrev i65r3 : List IOper := [
 oo 38 (.mv (.t 0)),
 oo 39 (.nck (.t 38)),
 oo 40 (.fa 0 (.t 39)),
 oo 41 (.fa 4 (.t 40)),
 oo 42 (.ld false 1 (.t 41)),
 oo 43 (.lenV (.t 42)),
 oo 44 (.mv (.c (.i .i64 0)))]
abbrev i65r4 : List IOper := [
 ot 45 (.bin .lss (.t 44) (.t 43))]
abbrev i65r5 : List IOper := [
 oo 46 (.ixaV 2 (.t 42) (.t 44)),
 oo 47 (.ld true 2 (.t 46)),
 oo 6 (.new [.i .i64 0, .i .i64 0]),
 on_ (.st 2 (.t 6) (.t 47))]
abbrev i65r6 : List (IOper × List Nat) := [
 (oo 48 (.ixaA 2 1 (.t 6) (.c (.i .i64 0))), []),
 (oo 49 (.ld false 1 (.t 48)), []),
 (oo 50 (.fa 3 (.t 3)), [0, 1]),
 (oo 51 (.ld false 1 (.t 50)), [0, 1]),
 (oo 52 (.mx (.t 49) [.t 51]), []),
 (oo 53 (.ixaA 2 1 (.t 6) (.c (.i .i64 1))), [0, 1, 2, 3, 4]),
 (oo 54 (.ld false 1 (.t 53)), [0, 1, 2, 3, 4]),
 (oo 55 (.mv (.t 4)), [0, 1, 2, 3, 4, 5, 6]),
 (oo 56 (.mn (.t 54) [.t 55]), [0, 1, 2, 3, 4]),
 (oo 7 (.mv (.t 52)), [5, 6, 7, 8]),
 (oo 8 (.mv (.t 56)), [])]
abbrev i65r7 : List (IOper × List Nat) := [
 (oo 57 (.mv (.t 7)), []),
 (oo 58 (.mv (.t 8)), [0]),
 (oo 59 (.bin .geq (.t 57) (.t 58)), []),
 (ot 60 (.mv (.t 59)), []),
 (og 61 (.mv (.t 0)) 60 false false, []),
 (og 62 (.nck (.t 61)) 60 false false, []),
 (og 63 (.fa 0 (.t 62)) 60 false false, []),
 (og 64 (.fa 3 (.t 63)) 60 false false, []),
 (og 65 (.ld false 1 (.t 64)) 60 false false, []),
 (og 66 (.mv (.t 7)) 60 false false, [4, 5, 6, 7, 8]),
 (og 67 (.mv (.t 8)) 60 false false, [4, 5, 6, 7, 8, 9]),
 (og 68 (.slS (.t 65) (some (.t 66)) (some (.t 67))) 60 false false, []),
 (og 69 (.fa 4 (.t 3)) 60 false false, [4, 5, 6, 7, 8, 9, 10, 11]),
 (og 70 (.ld false 1 (.t 69)) 60 false false, [4, 5, 6, 7, 8, 9, 10, 11]),
 (og 71 (.mv (.t 7)) 60 false false, [4, 5, 6, 7, 8, 9, 10, 11, 12, 13]),
 (og 72 (.fa 3 (.t 3)) 60 false false, [4, 5, 6, 7, 8, 9, 10, 11, 12, 13, 14]),
 (og 73 (.ld false 1 (.t 72)) 60 false false, [4, 5, 6, 7, 8, 9, 10, 11, 12, 13, 14]),
 (og 74 (.bin .sub (.t 71) (.t 73)) 60 false false, [4, 5, 6, 7, 8, 9, 10, 11, 12, 13]),
 (og 75 (.mv (.t 8)) 60 false false, [4, 5, 6, 7, 8, 9, 10, 11, 12, 13, 14, 15, 16, 17]),
 (og 76 (.fa 3 (.t 3)) 60 false false, [4, 5, 6, 7, 8, 9, 10, 11, 12, 13, 14, 15, 16, 17, 18]),
 (og 77 (.ld false 1 (.t 76)) 60 false false, [4, 5, 6, 7, 8, 9, 10, 11, 12, 13, 14, 15, 16, 17, 18]),
 (og 78 (.bin .sub (.t 75) (.t 77)) 60 false false, [4, 5, 6, 7, 8, 9, 10, 11, 12, 13, 14, 15, 16, 17]),
 (og 79 (.slS (.t 70) (some (.t 74)) (some (.t 78))) 60 false false, [4, 5, 6, 7, 8, 9, 10, 11]),
 (og 80 (.bin .eql (.t 68) (.t 79)) 60 false false, []),
 (oo 81 (.pick (.t 60) (.c (.b true)) (.t 80)), []),
 (oo 82 (.call (.c (.fn 59 [])) [.t 81, .c (.i .i64 5)]), [])]
abbrev i65r8 : List IOper := [
 oo 83 (.bin .add (.t 44) (.c (.i .i64 1))),
 oo 44 (.mv (.t 83))]
abbrev i65l9 : ICode := (.seq (.reg i65r4) (.seq (.cond (.t 45) .skip (.exit 0)) (.seq (.block 1 (.seq (.reg i65r5) (.seq (.dreg i65r6) (.dreg i65r7)))) (.reg i65r8))))
abbrev i65r10 : List (IOper × List Nat) := [
 (oo 84 (.mv (.t 0)), []),
 (oo 85 (.mv (.t 0)), [0]),
 (oo 86 (.nck (.t 85)), [0]),
 (oo 87 (.fa 0 (.t 86)), [0]),
 (oo 88 (.fa 3 (.t 87)), [0]),
 (oo 89 (.ld false 1 (.t 88)), [0]),
 (oo 90 (.fa 3 (.t 3)), [0, 1, 2, 3, 4, 5]),
 (oo 91 (.ld false 1 (.t 90)), [0, 1, 2, 3, 4, 5]),
 (oo 92 (.slS (.t 89) none (some (.t 91))), [0]),
 (oo 93 (.fa 4 (.t 3)), [0, 1, 2, 3, 4, 5, 6, 7, 8]),
 (oo 94 (.ld false 1 (.t 93)), [0, 1, 2, 3, 4, 5, 6, 7, 8]),
 (oo 95 (.bin .add (.t 92) (.t 94)), [0]),
 (oo 96 (.mv (.t 0)), [0, 1, 2, 3, 4, 5, 6, 7, 8, 9, 10, 11]),
 (oo 97 (.nck (.t 96)), [0, 1, 2, 3, 4, 5, 6, 7, 8, 9, 10, 11]),
 (oo 98 (.fa 0 (.t 97)), [0, 1, 2, 3, 4, 5, 6, 7, 8, 9, 10, 11]),
 (oo 99 (.fa 3 (.t 98)), [0, 1, 2, 3, 4, 5, 6, 7, 8, 9, 10, 11]),
 (oo 100 (.ld false 1 (.t 99)), [0, 1, 2, 3, 4, 5, 6, 7, 8, 9, 10, 11]),
 (oo 101 (.mv (.t 4)), [0, 1, 2, 3, 4, 5, 6, 7, 8, 9, 10, 11, 12, 13, 14, 15, 16]),
 (oo 102 (.slS (.t 100) (some (.t 101)) none), [0, 1, 2, 3, 4, 5, 6, 7, 8, 9, 10, 11]),
 (oo 103 (.bin .add (.t 95) (.t 102)), [0]),
 (oo 104 (.nck (.t 84)), []),
 (oo 105 (.fa 0 (.t 104)), []),
 (oo 106 (.fa 3 (.t 105)), []),
 (on_ (.st 1 (.t 106) (.t 103)), [])]
abbrev i65r11 : List IOper := [
 oo 107 (.fa 4 (.t 3)),
 oo 108 (.ld false 1 (.t 107)),
 ot 109 (.bin .eql (.t 108) (.c (.s [])))]
abbrev i65r12 : List IOper := [
 oo 110 (.fa 3 (.t 3)),
 oo 111 (.ld false 1 (.t 110)),
 oo 112 (.mv (.t 4)),
 oo 113 (.build [.i .i64 0, .i .i64 0] [(0, 1, .t 111), (1, 1, .t 112)]),
 oo 9 (.new [.i .i64 0, .i .i64 0]),
 on_ (.st 2 (.t 9) (.t 113))]
abbrev i65r13 : List IOper := [
 oo 10 (.mv (.c (.ns)))]
abbrev i65r14 : List IOper := [
 oo 114 (.mv (.t 0)),
 oo 115 (.nck (.t 114)),
 oo 116 (.fa 0 (.t 115)),
 oo 117 (.fa 4 (.t 116)),
 oo 118 (.ld false 1 (.t 117)),
 oo 119 (.lenV (.t 118)),
 oo 120 (.mv (.c (.i .i64 0)))]
abbrev i65r15 : List IOper := [
 ot 121 (.bin .lss (.t 120) (.t 119))]
abbrev i65r16 : List IOper := [
 oo 122 (.ixaV 2 (.t 118) (.t 120)),
 oo 123 (.ld true 2 (.t 122)),
 oo 12 (.new [.i .i64 0, .i .i64 0]),
 on_ (.st 2 (.t 12) (.t 123))]
abbrev i65r17 : List IOper := [
 oo 124 (.ixaA 2 1 (.t 12) (.c (.i .i64 1))),
 oo 125 (.ld false 1 (.t 124)),
 oo 126 (.ixaA 2 1 (.t 9) (.c (.i .i64 0))),
 oo 127 (.ld false 1 (.t 126)),
 oo 128 (.bin .lss (.t 125) (.t 127)),
 ot 129 (.mv (.t 128)),
 og 130 (.ixaA 2 1 (.t 12) (.c (.i .i64 0))) 129 false false,
 og 131 (.ld false 1 (.t 130)) 129 false false,
 og 132 (.ixaA 2 1 (.t 9) (.c (.i .i64 1))) 129 false false,
 og 133 (.ld false 1 (.t 132)) 129 false false,
 og 134 (.bin .gtr (.t 131) (.t 133)) 129 false false,
 ot 135 (.pick (.t 129) (.c (.b true)) (.t 134))]
abbrev i65r18 : List IOper := [
 oo 136 (.mv (.t 10)),
 oo 137 (.ld true 2 (.t 12)),
 oo 138 (.bsl [.i .i64 0, .i .i64 0] 1 [(0, 2, .t 137)]),
 oo 139 (.app 2 16 [.i .i64 0, .i .i64 0] (.t 136) (.t 138)),
 oo 10 (.mv (.t 139))]
abbrev i65r19 : List IOper := [
 oo 140 (.ixaA 2 1 (.t 9) (.c (.i .i64 0))),
 oo 141 (.ld false 1 (.t 140)),
 oo 142 (.ixaA 2 1 (.t 12) (.c (.i .i64 0))),
 oo 143 (.ld false 1 (.t 142)),
 oo 144 (.mn (.t 141) [.t 143]),
 oo 145 (.ixaA 2 1 (.t 9) (.c (.i .i64 1))),
 oo 146 (.ld false 1 (.t 145)),
 oo 147 (.ixaA 2 1 (.t 12) (.c (.i .i64 1))),
 oo 148 (.ld false 1 (.t 147)),
 oo 149 (.mx (.t 146) [.t 148]),
 oo 150 (.build [.i .i64 0, .i .i64 0] [(0, 1, .t 144), (1, 1, .t 149)]),
 on_ (.st 2 (.t 9) (.t 150))]
abbrev i65r20 : List IOper := [
 oo 151 (.bin .add (.t 120) (.c (.i .i64 1))),
 oo 120 (.mv (.t 151))]
abbrev i65l21 : ICode := (.seq (.reg i65r15) (.seq (.cond (.t 121) .skip (.exit 2)) (.seq (.block 3 (.seq (.reg i65r16) (.seq (.reg i65r17) (.cond (.t 135) (.reg i65r18) (.reg i65r19))))) (.reg i65r20))))
abbrev i65r22 : List IOper := [
 oo 152 (.mv (.t 10)),
 oo 153 (.ld true 2 (.t 9)),
 oo 154 (.bsl [.i .i64 0, .i .i64 0] 1 [(0, 2, .t 153)]),
 oo 155 (.app 2 16 [.i .i64 0, .i .i64 0] (.t 152) (.t 154)),
 oo 10 (.mv (.t 155))]
abbrev i65r23 : List IOper := [
 oo 156 (.mv (.t 10)),
 oo 157 (.call (.c (.fn 87 [])) [.t 156, .c (.fn 88 [])])]
abbrev i65r24 : List IOper := [
 oo 158 (.mv (.t 0)),
 oo 159 (.mv (.t 10)),
 oo 160 (.nck (.t 158)),
 oo 161 (.fa 0 (.t 160)),
 oo 162 (.fa 4 (.t 161)),
 on_ (.st 1 (.t 162) (.t 159))]
abbrev i65c : ICode := (.seq (.reg i65r0) (.seq (.dreg i65r1) (.seq (.reg i65r2) (.seq (.seq (.reg i65r3) (.block 0 (.loop i65l9))) (.seq (.dreg i65r10) (.seq (.seq (.reg i65r11) (.cond (.t 109) .ret .skip)) (.seq (.reg i65r12) (.seq (.reg i65r13) (.seq (.seq (.reg i65r14) (.block 2 (.loop i65l21))) (.seq (.reg i65r22) (.seq (.reg i65r23) (.reg i65r24))))))))))))
def i65 : IFn := { np := 2, N := 163, ct := [45, 109, 121, 135], code := i65c, res := [] }
theorem i65_eq : compF Tryz.prog Tryz.f65 = some i65 := by kernel_rfl
abbrev i68r0 : List IOper := [
 oo 2 (.mv (.c (.i .i64 0)))]
abbrev i68r1 : List IOper := [
 oo 3 (.mv (.t 0)),
 oo 4 (.bin .sub (.t 3) (.c (.i .i64 1))),
 oo 5 (.bin .shl (.c (.i .i64 400)) (.t 4)),
 oo 6 (.mn (.t 5) [.c (.i .i64 6400)]),
 oo 2 (.mv (.t 6))]
abbrev i68c : ICode := (.seq (.reg i68r0) (.seq (.reg i68r1) .ret))
def i68 : IFn := { np := 1, N := 7, ct := [], code := i68c, res := [.t 2] }
theorem i68_eq : compF Tryz.prog Tryz.f68 = some i68 := by kernel_rfl
abbrev i76r0 : List IOper := [
 oo 6 (.fa 0 (.t 1)),
 oo 7 (.ld false 1 (.t 6)),
 oo 8 (.fa 2 (.t 1)),
 oo 9 (.ld false 1 (.t 8)),
 oo 10 (.lenS (.t 9)),
 oo 11 (.fa 1 (.t 1)),
 oo 12 (.ld false 1 (.t 11)),
 oo 13 (.build [.i .i64 0, .i .i64 0, .i .i64 0, .i .i64 0, .s []] [(0, 1, .t 7), (1, 1, .t 10), (2, 1, .t 12)]),
 oo 4 (.new [.i .i64 0, .i .i64 0, .i .i64 0, .i .i64 0, .s []]),
 on_ (.st 5 (.t 4) (.t 13))]
abbrev i76r1 : List IOper := [
 oo 5 (.mv (.c (.b true)))]
abbrev i76r2 : List IOper := [
 oo 14 (.mv (.t 5)),
 ot 15 (.mv (.t 14)),
 og 16 (.fa 3 (.t 4)) 15 false false,
 og 17 (.ld false 1 (.t 16)) 15 false false,
 og 18 (.fa 1 (.t 4)) 15 false false,
 og 19 (.ld false 1 (.t 18)) 15 false false,
 og 20 (.bin .lss (.t 17) (.t 19)) 15 false false,
 ot 21 (.pick (.t 15) (.c (.b true)) (.t 20))]
abbrev i76r3 : List IOper := [
 oo 22 (.fa 2 (.t 1)),
 oo 23 (.ld false 1 (.t 22)),
 oo 24 (.fa 3 (.t 4)),
 oo 25 (.ld false 1 (.t 24)),
 oo 26 (.fa 3 (.t 4)),
 oo 27 (.ld false 1 (.t 26)),
 oo 28 (.ld false 1 (.t 2)),
 oo 29 (.bin .add (.t 27) (.t 28)),
 oo 30 (.fa 1 (.t 4)),
 oo 31 (.ld false 1 (.t 30)),
 oo 32 (.mn (.t 29) [.t 31]),
 oo 33 (.slS (.t 23) (some (.t 25)) (some (.t 32))),
 oo 34 (.fa 4 (.t 4)),
 on_ (.st 1 (.t 34) (.t 33))]
abbrev i76r4 : List IOper := [
 oo 35 (.mv (.t 0)),
 oo 36 (.ld true 5 (.t 4)),
 oo 37 (.call (.t 35) [.t 36]),
 ot 38 (.not (.t 37))]
abbrev i76r5 : List IOper := [
 oo 39 (.fa 3 (.t 4)),
 oo 40 (.ld false 1 (.t 39)),
 oo 41 (.fa 4 (.t 4)),
 oo 42 (.ld false 1 (.t 41)),
 oo 43 (.lenS (.t 42)),
 oo 44 (.bin .add (.t 40) (.t 43)),
 oo 45 (.fa 3 (.t 4)),
 on_ (.st 1 (.t 45) (.t 44))]
abbrev i76r6 : List IOper := [
 oo 5 (.mv (.c (.b false)))]
abbrev i76l7 : ICode := (.seq (.seq (.reg i76r2) (.cond (.t 21) .skip (.exit 0))) (.seq (.block 1 (.seq (.reg i76r3) (.seq (.seq (.reg i76r4) (.cond (.t 38) .ret .skip)) (.reg i76r5)))) (.reg i76r6)))
abbrev i76c : ICode := (.seq (.reg i76r0) (.seq (.reg i76r1) (.block 0 (.loop i76l7))))
def i76 : IFn := { np := 3, N := 46, ct := [21, 38], code := i76c, res := [] }
theorem i76_eq : compF Tryz.prog Tryz.f76 = some i76 := by kernel_rfl
abbrev i78r0 : List IOper := [
 oo 6 (.mv (.c (.i .i64 0)))]
abbrev i78r1 : List IOper := [
 oo 7 (.mv (.c (.i .i64 0)))]
abbrev i78r2 : List IOper := [
 oo 9 (.mv (.t 1)),
 oo 8 (.mv (.t 9))]
abbrev i78r3 : List IOper := [
 oo 10 (.mv (.t 8)),
 oo 11 (.mv (.t 2)),
 ot 12 (.bin .lss (.t 10) (.t 11))]
abbrev i78r4 : List IOper := [
 oo 15 (.mv (.t 7)),
 oo 16 (.bin .shl (.t 15) (.c (.i .u64 8))),
 oo 17 (.mv (.t 0)),
 oo 18 (.mv (.t 8)),
 oo 19 (.ixS (.t 17) (.t 18)),
 oo 20 (.i2i .i64 (.t 19)),
 oo 21 (.bin .or (.t 16) (.t 20)),
 oo 7 (.mv (.t 21))]
abbrev i78r5 : List IOper := [
 oo 13 (.mv (.t 8)),
 oo 14 (.bin .add (.t 13) (.c (.i .i64 1))),
 oo 8 (.mv (.t 14))]
abbrev i78l6 : ICode := (.seq (.seq (.reg i78r3) (.cond (.t 12) .skip (.exit 0))) (.seq (.block 1 (.reg i78r4)) (.reg i78r5)))
abbrev i78r7 : List IOper := [
 oo 22 (.mv (.t 7)),
 oo 6 (.mv (.t 22))]
abbrev i78c : ICode := (.seq (.reg i78r0) (.seq (.reg i78r1) (.seq (.seq (.reg i78r2) (.block 0 (.loop i78l6))) (.seq (.reg i78r7) .ret))))
def i78 : IFn := { np := 3, N := 23, ct := [12], code := i78c, res := [.t 6] }
theorem i78_eq : compF Tryz.prog Tryz.f78 = some i78 := by kernel_rfl
abbrev i80r0 : List IOper := [
 oo 4 (.box (.t 1)),
 oo 5 (.mv (.c (.b false)))]
abbrev i80r1 : List (IOper × List Nat) := [
 (oo 6 (.ixaA 2 1 (.t 4) (.c (.i .i64 0))), []),
 (oo 7 (.ld false 1 (.t 6)), []),
 (oo 8 (.bin .geq (.t 7) (.c (.i .i64 0))), []),
 (ot 9 (.mv (.t 8)), []),
 (og 10 (.ixaA 2 1 (.t 4) (.c (.i .i64 0))) 9 true false, []),
 (og 11 (.ld false 1 (.t 10)) 9 true false, []),
 (og 12 (.ixaA 2 1 (.t 4) (.c (.i .i64 1))) 9 true false, [4, 5]),
 (og 13 (.ld false 1 (.t 12)) 9 true false, [4, 5]),
 (og 14 (.bin .lss (.t 11) (.t 13)) 9 true false, []),
 (oo 15 (.pick (.t 9) (.t 14) (.c (.b false))), []),
 (ot 16 (.mv (.t 15)), []),
 (og 17 (.ixaA 2 1 (.t 4) (.c (.i .i64 1))) 16 true false, []),
 (og 18 (.ld false 1 (.t 17)) 16 true false, []),
 (og 19 (.fa 0 (.t 2)) 16 true false, [11, 12]),
 (og 20 (.fa 1 (.t 19)) 16 true false, [11, 12]),
 (og 21 (.ld false 1 (.t 20)) 16 true false, [11, 12]),
 (og 22 (.bin .leq (.t 18) (.t 21)) 16 true false, []),
 (oo 23 (.pick (.t 16) (.t 22) (.c (.b false))), []),
 (ot 24 (.mv (.t 23)), []),
 (og 25 (.mv (.t 0)) 24 true false, []),
 (og 26 (.eqn false 0 (.t 25) (.c (.np))) 24 true false, []),
 (og 27 (.mv (.t 26)) 24 true true, []),
 (og 28 (.ixaA 2 1 (.t 4) (.c (.i .i64 0))) 27 false false, []),
 (og 29 (.ld false 1 (.t 28)) 27 false false, []),
 (og 30 (.mv (.t 0)) 27 false false, [22, 23]),
 (og 31 (.nck (.t 30)) 27 false false, [22, 23]),
 (og 32 (.ixaA 2 1 (.t 31) (.c (.i .i64 1))) 27 false false, [22, 23]),
 (og 33 (.ld false 1 (.t 32)) 27 false false, [22, 23]),
 (og 34 (.bin .gtr (.t 29) (.t 33)) 27 false false, []),
 (og 35 (.pick (.t 27) (.c (.b true)) (.t 34)) 24 true false, []),
 (oo 36 (.pick (.t 24) (.t 35) (.c (.b false))), []),
 (oo 5 (.mv (.t 36)), [])]
abbrev i80c : ICode := (.seq (.reg i80r0) (.seq (.dreg i80r1) .ret))
def i80 : IFn := { np := 3, N := 37, ct := [], code := i80c, res := [.t 5] }
theorem i80_eq : compF Tryz.prog Tryz.f80 = some i80 := by kernel_rfl
abbrev i84r0 : List IOper := [
 oo 2 (.mv (.c (.b false)))]
abbrev i84r1 : List IOper := [
 oo 3 (.mv (.t 0)),
 oo 4 (.mv (.t 0)),
 oo 5 (.bin .neq (.t 3) (.t 4)),
 oo 2 (.mv (.t 5))]
abbrev i84c : ICode := (.seq (.reg i84r0) (.seq (.reg i84r1) .ret))
def i84 : IFn := { np := 1, N := 6, ct := [], code := i84c, res := [.t 2] }
theorem i84_eq : compF Tryz.prog Tryz.f84 = some i84 := by kernel_rfl
end Go.Proofs.Flz
