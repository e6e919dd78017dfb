/- The small language's text of the functions; printed by ShowI.lean. -/
import Derived.Test.YtkpiibllomjeaaaProg
import Derived.Test.YtkpiibllomjeaaaAbRuns
namespace Go.Proofs.Lys
open Go.Ab
abbrev i8r0 : List IOper := [
 oo 1 (.box (.t 0)),
 oo 2 (.new [.ns, .i .i64 0, .i .i64 0, .i .i64 0, .i .i64 0, .i .i64 0, .i .i64 0, .i .i64 0, .i .i64 0, .b false, .i .i64 0, .i .i64 0, .i .i64 0, .i .i64 0, .i .i64 0, .i .i64 0, .i .i64 0, .i .i64 0, .ns, .ns, .ns, .i .i64 0, .i .i64 0, .i .i64 0])]
abbrev i8r1 : List IOper := [
 oo 10 (.ld true 21 (.t 1)),
 oo 11 (.call (.c (.fn 45 [])) [.t 10]),
 oo 3 (.new [.ns, .i .i64 0, .i .i64 0, .i .i64 0, .i .i64 0, .i .i64 0, .i .i64 0, .i .i64 0, .i .i64 0, .b false, .i .i64 0, .i .i64 0, .i .i64 0, .i .i64 0, .i .i64 0, .i .i64 0, .i .i64 0, .i .i64 0, .ns, .ns, .ns, .i .i64 0, .i .i64 0, .i .i64 0]),
 on_ (.st 24 (.t 3) (.t 11))]
abbrev i8r2 : List IOper := [
 oo 4 (.mv (.c (.i .i64 0)))]
abbrev i8r3 : List IOper := [
 oo 12 (.mv (.t 4)),
 oo 13 (.fa 20 (.t 1)),
 oo 14 (.ld false 1 (.t 13)),
 oo 15 (.lenV (.t 14)),
 oo 16 (.bin .lss (.t 12) (.t 15)),
 ot 17 (.mv (.t 16)),
 og 18 (.mv (.t 4)) 17 true false,
 og 19 (.bin .lss (.t 18) (.c (.i .i64 40))) 17 true false,
 ot 20 (.pick (.t 17) (.t 19) (.c (.b false)))]
abbrev i8r4 : List (IOper × List Nat) := [
 (oo 24 (.ld true 24 (.t 3)), []),
 (oo 25 (.fa 20 (.t 1)), [0]),
 (oo 26 (.ld false 1 (.t 25)), [0]),
 (oo 27 (.mv (.t 4)), [0, 1, 2]),
 (oo 28 (.ixaV 4 (.t 26) (.t 27)), [0]),
 (oo 29 (.ld true 4 (.t 28)), [0]),
 (oo 30 (.call (.c (.fn 20 [])) [.t 24, .t 29]), []),
 (oo 23 (.mv (.t 30)), []),
 (oo 31 (.ext (.t 23) 0), []),
 (oo 32 (.ext (.t 23) 1), [8]),
 (oo 33 (.ext (.t 23) 2), [8, 9]),
 (oo 5 (.new [.ns, .i .i64 0, .i .i64 0, .i .i64 0, .i .i64 0, .i .i64 0, .i .i64 0, .i .i64 0, .i .i64 0, .b false, .i .i64 0, .i .i64 0, .i .i64 0, .i .i64 0, .i .i64 0, .i .i64 0, .i .i64 0, .i .i64 0, .ns, .ns, .ns, .i .i64 0, .i .i64 0, .i .i64 0]), [0, 1, 2, 3, 4, 5, 6, 7, 8, 9, 10]),
 (oo 6 (.new [.b false, .i .i64 0, .i .i64 0, .i .i64 0, .i .i64 0, .ns, .ns, .i .i64 0, .s []]), [0, 1, 2, 3, 4, 5, 6, 7, 8, 9, 10, 11]),
 (on_ (.st 24 (.t 5) (.t 31)), [9, 10]),
 (on_ (.st 9 (.t 6) (.t 32)), [10]),
 (oo 7 (.mv (.t 33)), [])]
abbrev i8r5 : List IOper := [
 oo 34 (.ld true 24 (.t 5)),
 on_ (.st 24 (.t 3) (.t 34))]
abbrev i8r6 : List IOper := [
 ot 35 (.mv (.t 7))]
abbrev i8r7 : List IOper := [
 oo 37 (.fa 0 (.t 3)),
 oo 38 (.ld true 18 (.t 37)),
 oo 39 (.ld true 9 (.t 6)),
 oo 40 (.call (.c (.fn 23 [])) [.t 38, .t 39]),
 oo 36 (.mv (.t 40)),
 oo 41 (.ext (.t 36) 0),
 oo 42 (.ext (.t 36) 1),
 oo 43 (.ext (.t 36) 2),
 oo 44 (.fa 0 (.t 3)),
 on_ (.st 18 (.t 44) (.t 41))]
abbrev i8r8 : List IOper := [
 oo 45 (.fa 20 (.t 1)),
 oo 46 (.ld false 1 (.t 45)),
 oo 47 (.mv (.t 4)),
 oo 48 (.ixaV 4 (.t 46) (.t 47)),
 oo 49 (.fa 0 (.t 48)),
 oo 50 (.ld false 1 (.t 49)),
 oo 51 (.bin .rem (.t 50) (.c (.i .u8 8))),
 ot 52 (.bin .eql (.t 51) (.c (.i .u8 7)))]
abbrev i8r9 : List IOper := [
 oo 54 (.fa 20 (.t 1)),
 oo 55 (.ld false 1 (.t 54)),
 oo 56 (.mv (.t 4)),
 oo 57 (.ixaV 4 (.t 55) (.t 56)),
 oo 58 (.ld true 4 (.t 57)),
 oo 59 (.call (.c (.fn 25 [])) [.t 58]),
 oo 53 (.mv (.t 59)),
 oo 60 (.ext (.t 53) 0),
 oo 61 (.ext (.t 53) 1),
 oo 8 (.mv (.t 60)),
 oo 9 (.mv (.t 61))]
abbrev i8r10 : List IOper := [
 oo 63 (.fa 0 (.t 3)),
 oo 64 (.ld true 18 (.t 63)),
 oo 65 (.mv (.t 8)),
 oo 66 (.mv (.t 9)),
 oo 67 (.call (.c (.fn 15 [])) [.t 64, .t 65, .t 66]),
 oo 62 (.mv (.t 67)),
 oo 68 (.ext (.t 62) 0),
 oo 69 (.ext (.t 62) 1),
 oo 70 (.fa 0 (.t 3)),
 on_ (.st 18 (.t 70) (.t 68))]
abbrev i8r11 : List IOper := [
 oo 21 (.mv (.t 4)),
 oo 22 (.bin .add (.t 21) (.c (.i .i64 1))),
 oo 4 (.mv (.t 22))]
abbrev i8l12 : ICode := (.seq (.seq (.reg i8r3) (.cond (.t 20) .skip (.exit 0))) (.seq (.block 1 (.seq (.dreg i8r4) (.seq (.reg i8r5) (.seq (.reg i8r6) (.cond (.t 35) (.reg i8r7) (.seq (.reg i8r8) (.cond (.t 52) (.seq (.reg i8r9) (.reg i8r10)) .skip))))))) (.reg i8r11)))
abbrev i8r13 : List IOper := [
 oo 71 (.ld true 24 (.t 3)),
 on_ (.st 24 (.t 2) (.t 71))]
abbrev i8c : ICode := (.seq (.reg i8r0) (.seq (.reg i8r1) (.seq (.seq (.reg i8r2) (.block 0 (.loop i8l12))) (.seq (.reg i8r13) .ret))))
def i8 : IFn := { np := 1, N := 72, ct := [20, 35, 52], code := i8c, res := [.c 2 true 24] }
abbrev i10r0 : List IOper := [
 oo 1 (.box (.t 0)),
 oo 2 (.mv (.c (.i .i64 0))),
 oo 3 (.mv (.c (.i .i64 0)))]
abbrev i10r1 : List IOper := [
 oo 5 (.ld true 18 (.t 1)),
 oo 6 (.call (.c (.fn 12 [])) [.t 5]),
 oo 7 (.bin .neq (.t 6) (.c (.i .i64 0))),
 ot 4 (.mv (.t 7))]
abbrev i10r2 : List IOper := [
 oo 2 (.mv (.c (.i .i64 0))),
 oo 3 (.mv (.c (.i .i64 410)))]
abbrev i10r3 : List IOper := [
 oo 9 (.fa 4 (.t 1)),
 oo 10 (.ld false 1 (.t 9)),
 oo 11 (.bin .lss (.t 10) (.c (.i .i64 0))),
 ot 12 (.mv (.t 11)),
 og 13 (.fa 4 (.t 1)) 12 false false,
 og 14 (.ld false 1 (.t 13)) 12 false false,
 og 15 (.fa 3 (.t 1)) 12 false false,
 og 16 (.ld false 1 (.t 15)) 12 false false,
 og 17 (.bin .eql (.t 14) (.t 16)) 12 false false,
 oo 18 (.pick (.t 12) (.c (.b true)) (.t 17)),
 ot 8 (.mv (.t 18))]
abbrev i10r4 : List IOper := [
 oo 2 (.mv (.c (.i .i64 0))),
 oo 3 (.mv (.c (.i .i64 4)))]
abbrev i10r5 : List IOper := [
 oo 19 (.fa 4 (.t 1)),
 oo 20 (.ld false 1 (.t 19)),
 oo 2 (.mv (.t 20)),
 oo 3 (.mv (.c (.i .i64 0)))]
abbrev i10c : ICode := (.seq (.reg i10r0) (.seq (.block 0 (.seq (.reg i10r1) (.cond (.t 4) (.seq (.reg i10r2) .ret) (.seq (.reg i10r3) (.cond (.t 8) (.seq (.reg i10r4) .ret) .skip))))) (.seq (.reg i10r5) .ret)))
def i10 : IFn := { np := 1, N := 21, ct := [4, 8], code := i10c, res := [.t 2, .t 3] }
theorem i10_eq : compF Try.prog Try.f10 = some i10 := by kernel_rfl
abbrev i12r0 : List IOper := [
 oo 1 (.box (.t 0)),
 oo 2 (.mv (.c (.i .i64 0)))]
abbrev i12r1 : List IOper := [
 oo 5 (.fa 0 (.t 1)),
 oo 6 (.ld false 1 (.t 5)),
 oo 7 (.lenV (.t 6)),
 oo 3 (.mv (.t 7))]
abbrev i12r2 : List IOper := [
 oo 8 (.mv (.t 3)),
 oo 9 (.call (.c (.fn 49 [])) [.c (.i .i64 1), .t 8, .c (.i .i64 3)]),
 ot 10 (.mv (.t 9)),
 og 11 (.fa 0 (.t 1)) 10 true false,
 og 12 (.ld false 1 (.t 11)) 10 true false,
 og 13 (.call (.c (.fn 50 [])) [.t 12]) 10 true false,
 oo 14 (.pick (.t 10) (.t 13) (.c (.b false))),
 ot 15 (.mv (.t 14)),
 og 16 (.fa 1 (.t 1)) 15 true false,
 og 17 (.ld false 1 (.t 16)) 15 true false,
 og 18 (.bsl [.i .i64 0] 1 [(0, 1, .t 17)]) 15 true false,
 og 19 (.call (.c (.fn 50 [])) [.t 18]) 15 true false,
 oo 20 (.pick (.t 15) (.t 19) (.c (.b false))),
 ot 21 (.mv (.t 20)),
 og 22 (.fa 2 (.t 1)) 21 true false,
 og 23 (.ld false 1 (.t 22)) 21 true false,
 og 24 (.call (.c (.fn 49 [])) [.c (.i .i64 1), .t 23, .c (.i .i64 90000)]) 21 true false,
 oo 25 (.pick (.t 21) (.t 24) (.c (.b false))),
 ot 26 (.mv (.t 25)),
 og 27 (.fa 3 (.t 1)) 26 true false,
 og 28 (.ld false 1 (.t 27)) 26 true false,
 og 29 (.mv (.t 3)) 26 true false,
 og 30 (.bin .sub (.t 29) (.c (.i .i64 1))) 26 true false,
 og 31 (.call (.c (.fn 49 [])) [.c (.i .i64 (-1)), .t 28, .t 30]) 26 true false,
 oo 32 (.pick (.t 26) (.t 31) (.c (.b false))),
 ot 33 (.mv (.t 32)),
 og 34 (.fa 4 (.t 1)) 33 true false,
 og 35 (.ld false 1 (.t 34)) 33 true false,
 og 36 (.mv (.t 3)) 33 true false,
 og 37 (.bin .sub (.t 36) (.c (.i .i64 1))) 33 true false,
 og 38 (.call (.c (.fn 49 [])) [.c (.i .i64 (-1)), .t 35, .t 37]) 33 true false,
 oo 39 (.pick (.t 33) (.t 38) (.c (.b false))),
 oo 4 (.mv (.t 39))]
abbrev i12r3 : List IOper := [
 oo 40 (.mv (.t 4)),
 oo 41 (.not (.t 40)),
 ot 42 (.mv (.t 41)),
 og 43 (.fa 5 (.t 1)) 42 false false,
 og 44 (.ld false 1 (.t 43)) 42 false false,
 og 45 (.call (.c (.fn 49 [])) [.c (.i .i64 0), .t 44, .c (.i .i64 3)]) 42 false false,
 og 46 (.not (.t 45)) 42 false false,
 oo 47 (.pick (.t 42) (.c (.b true)) (.t 46)),
 ot 48 (.mv (.t 47)),
 og 49 (.fa 6 (.t 1)) 48 false false,
 og 50 (.ld false 1 (.t 49)) 48 false false,
 og 51 (.call (.c (.fn 49 [])) [.c (.i .i64 0), .t 50, .c (.i .i64 3)]) 48 false false,
 og 52 (.not (.t 51)) 48 false false,
 oo 53 (.pick (.t 48) (.c (.b true)) (.t 52)),
 ot 54 (.mv (.t 53)),
 og 55 (.ld true 18 (.t 1)) 54 false false,
 og 56 (.call (.c (.fn 52 [])) [.t 55]) 54 false false,
 og 57 (.call (.c (.fn 51 [])) [.t 56]) 54 false false,
 og 58 (.not (.t 57)) 54 false false,
 oo 59 (.pick (.t 54) (.c (.b true)) (.t 58)),
 ot 60 (.mv (.t 59)),
 og 61 (.fa 14 (.t 1)) 60 false false,
 og 62 (.ld true 4 (.t 61)) 60 false false,
 og 63 (.call (.c (.fn 51 [])) [.t 62]) 60 false false,
 og 64 (.not (.t 63)) 60 false false,
 oo 65 (.pick (.t 60) (.c (.b true)) (.t 64)),
 ot 66 (.mv (.t 65)),
 og 67 (.fa 7 (.t 1)) 66 false false,
 og 68 (.ld false 1 (.t 67)) 66 false false,
 og 69 (.fa 8 (.t 1)) 66 false false,
 og 70 (.ld false 1 (.t 69)) 66 false false,
 og 71 (.build [.i .i64 0, .i .i64 0, .i .i64 0, .i .i64 0] [(0, 1, .t 68), (2, 1, .t 70)]) 66 false false,
 og 72 (.call (.c (.fn 51 [])) [.t 71]) 66 false false,
 og 73 (.not (.t 72)) 66 false false,
 ot 74 (.pick (.t 66) (.c (.b true)) (.t 73))]
abbrev i12r4 : List IOper := [
 oo 2 (.mv (.c (.i .i64 410)))]
abbrev i12r5 : List IOper := [
 oo 75 (.fa 3 (.t 1)),
 oo 76 (.ld false 1 (.t 75)),
 oo 77 (.bin .lss (.t 76) (.c (.i .i64 0))),
 ot 78 (.mv (.t 77)),
 og 79 (.fa 5 (.t 1)) 78 true false,
 og 80 (.ld false 1 (.t 79)) 78 true false,
 og 81 (.bin .neq (.t 80) (.c (.i .i64 0))) 78 true false,
 og 82 (.mv (.t 81)) 78 true true,
 og 83 (.fa 7 (.t 1)) 82 false false,
 og 84 (.ld false 1 (.t 83)) 82 false false,
 og 85 (.bin .neq (.t 84) (.c (.i .i64 0))) 82 false false,
 og 86 (.pick (.t 82) (.c (.b true)) (.t 85)) 78 true false,
 og 87 (.mv (.t 86)) 78 true true,
 og 88 (.fa 8 (.t 1)) 87 false false,
 og 89 (.ld false 1 (.t 88)) 87 false false,
 og 90 (.bin .neq (.t 89) (.c (.i .i64 0))) 87 false false,
 og 91 (.pick (.t 87) (.c (.b true)) (.t 90)) 78 true false,
 og 92 (.mv (.t 91)) 78 true true,
 og 93 (.fa 9 (.t 1)) 92 false false,
 og 94 (.ld false 1 (.t 93)) 92 false false,
 og 95 (.pick (.t 92) (.c (.b true)) (.t 94)) 78 true false,
 og 96 (.mv (.t 95)) 78 true true,
 og 97 (.ld true 18 (.t 1)) 96 false false,
 og 98 (.call (.c (.fn 52 [])) [.t 97]) 96 false false,
 og 99 (.build [.i .i64 0, .i .i64 0, .i .i64 0, .i .i64 0] []) 96 false false,
 og 100 (.eqk true true [.i, .i, .i, .i] (.t 98) (.t 99)) 96 false false,
 og 101 (.pick (.t 96) (.c (.b true)) (.t 100)) 78 true false,
 ot 102 (.pick (.t 78) (.t 101) (.c (.b false)))]
abbrev i12r6 : List IOper := [
 oo 2 (.mv (.c (.i .i64 410)))]
abbrev i12r7 : List IOper := [
 oo 2 (.mv (.c (.i .i64 0)))]
abbrev i12c : ICode := (.seq (.reg i12r0) (.seq (.reg i12r1) (.seq (.reg i12r2) (.seq (.seq (.reg i12r3) (.cond (.t 74) (.seq (.reg i12r4) .ret) .skip)) (.seq (.seq (.reg i12r5) (.cond (.t 102) (.seq (.reg i12r6) .ret) .skip)) (.seq (.reg i12r7) .ret))))))
def i12 : IFn := { np := 1, N := 103, ct := [74, 102], code := i12c, res := [.t 2] }
theorem i12_eq : compF Try.prog Try.f12 = some i12 := by kernel_rfl
abbrev i14r0 : List IOper := [
 oo 3 (.box (.t 0)),
 oo 6 (.new [.ns, .i .i64 0, .i .i64 0, .i .i64 0, .i .i64 0, .i .i64 0, .i .i64 0, .i .i64 0, .i .i64 0, .b false, .i .i64 0, .i .i64 0, .i .i64 0, .i .i64 0, .i .i64 0, .i .i64 0, .i .i64 0, .i .i64 0]),
 oo 7 (.mv (.c (.i .i64 0)))]
abbrev i14r1 : List IOper := [
 oo 9 (.ld true 18 (.t 3)),
 oo 10 (.call (.c (.fn 12 [])) [.t 9]),
 oo 11 (.bin .neq (.t 10) (.c (.i .i64 0))),
 ot 8 (.mv (.t 11))]
abbrev i14r2 : List IOper := [
 oo 12 (.build [.ns, .i .i64 0, .i .i64 0, .i .i64 0, .i .i64 0, .i .i64 0, .i .i64 0, .i .i64 0, .i .i64 0, .b false, .i .i64 0, .i .i64 0, .i .i64 0, .i .i64 0, .i .i64 0, .i .i64 0, .i .i64 0, .i .i64 0] []),
 on_ (.st 18 (.t 6) (.t 12)),
 oo 7 (.mv (.c (.i .i64 410)))]
abbrev i14r3 : List IOper := [
 oo 14 (.mv (.t 1)),
 oo 15 (.fa 0 (.t 3)),
 oo 16 (.ld false 1 (.t 15)),
 oo 17 (.lenV (.t 16)),
 oo 18 (.bin .sub (.t 17) (.c (.i .i64 1))),
 oo 19 (.call (.c (.fn 49 [])) [.c (.i .i64 (-1)), .t 14, .t 18]),
 oo 20 (.not (.t 19)),
 ot 21 (.mv (.t 20)),
 og 22 (.mv (.t 2)) 21 false false,
 og 23 (.call (.c (.fn 49 [])) [.c (.i .i64 0), .t 22, .c (.i .i64 3)]) 21 false false,
 og 24 (.not (.t 23)) 21 false false,
 oo 25 (.pick (.t 21) (.c (.b true)) (.t 24)),
 ot 13 (.mv (.t 25))]
abbrev i14r4 : List IOper := [
 oo 26 (.build [.ns, .i .i64 0, .i .i64 0, .i .i64 0, .i .i64 0, .i .i64 0, .i .i64 0, .i .i64 0, .i .i64 0, .b false, .i .i64 0, .i .i64 0, .i .i64 0, .i .i64 0, .i .i64 0, .i .i64 0, .i .i64 0, .i .i64 0] []),
 on_ (.st 18 (.t 6) (.t 26)),
 oo 7 (.mv (.c (.i .i64 2)))]
abbrev i14r5 : List IOper := [
 oo 28 (.mv (.t 1)),
 oo 29 (.bin .lss (.t 28) (.c (.i .i64 0))),
 ot 27 (.mv (.t 29))]
abbrev i14r6 : List (IOper × List Nat) := [
 (oo 30 (.fa 0 (.t 3)), []),
 (oo 31 (.ld false 1 (.t 30)), []),
 (oo 32 (.call (.c (.fn 53 [])) [.t 31]), []),
 (oo 33 (.fa 1 (.t 3)), [0, 1, 2]),
 (oo 34 (.ld false 1 (.t 33)), [0, 1, 2]),
 (oo 35 (.fa 2 (.t 3)), [0, 1, 2, 3, 4]),
 (oo 36 (.ld false 1 (.t 35)), [0, 1, 2, 3, 4]),
 (oo 37 (.mv (.t 2)), [0, 1, 2, 3, 4, 5, 6]),
 (oo 38 (.fa 14 (.t 3)), [0, 1, 2, 3, 4, 5, 6, 7]),
 (oo 39 (.ld true 4 (.t 38)), [0, 1, 2, 3, 4, 5, 6, 7]),
 (oo 40 (.build [.ns, .i .i64 0, .i .i64 0, .i .i64 0, .i .i64 0, .i .i64 0, .i .i64 0, .i .i64 0, .i .i64 0, .b false, .i .i64 0, .i .i64 0, .i .i64 0, .i .i64 0, .i .i64 0, .i .i64 0, .i .i64 0, .i .i64 0] [(0, 1, .t 32), (1, 1, .t 34), (2, 1, .t 36), (3, 1, .c (.i .i64 (-1))), (4, 1, .c (.i .i64 (-1))), (6, 1, .t 37), (14, 4, .t 39)]), []),
 (on_ (.st 18 (.t 6) (.t 40)), []),
 (oo 7 (.mv (.c (.i .i64 0))), [])]
abbrev i14r7 : List IOper := [
 oo 41 (.fa 0 (.t 3)),
 oo 42 (.ld false 1 (.t 41)),
 oo 43 (.call (.c (.fn 53 [])) [.t 42]),
 oo 44 (.mv (.t 1)),
 oo 45 (.mv (.t 2)),
 oo 46 (.fa 0 (.t 3)),
 on_ (.st 1 (.t 46) (.t 43)),
 oo 47 (.fa 4 (.t 3)),
 on_ (.st 1 (.t 47) (.t 44)),
 oo 48 (.fa 6 (.t 3)),
 on_ (.st 1 (.t 48) (.t 45))]
abbrev i14r8 : List IOper := [
 oo 49 (.ld true 18 (.t 3)),
 on_ (.st 18 (.t 6) (.t 49)),
 oo 7 (.mv (.c (.i .i64 0)))]
abbrev i14c : ICode := (.seq (.reg i14r0) (.seq (.block 0 (.seq (.reg i14r1) (.cond (.t 8) (.seq (.reg i14r2) .ret) (.seq (.reg i14r3) (.cond (.t 13) (.seq (.reg i14r4) .ret) (.seq (.reg i14r5) (.cond (.t 27) (.seq (.dreg i14r6) .ret) .skip))))))) (.seq (.reg i14r7) (.seq (.reg i14r8) .ret))))
def i14 : IFn := { np := 3, N := 50, ct := [8, 13, 27], code := i14c, res := [.c 6 true 18, .t 7] }
theorem i14_eq : compF Try.prog Try.f14 = some i14 := by kernel_rfl
abbrev i16r0 : List IOper := [
 oo 2 (.box (.t 0)),
 oo 3 (.box (.t 1)),
 oo 4 (.mv (.c (.b false)))]
abbrev i16r1 : List IOper := [
 oo 6 (.fa 0 (.t 2)),
 oo 7 (.ld false 1 (.t 6)),
 oo 8 (.lenV (.t 7)),
 oo 9 (.fa 0 (.t 3)),
 oo 10 (.ld false 1 (.t 9)),
 oo 11 (.lenV (.t 10)),
 ot 12 (.bin .neq (.t 8) (.t 11))]
abbrev i16r2 : List IOper := [
 oo 4 (.mv (.c (.b false)))]
abbrev i16r3 : List IOper := [
 oo 5 (.mv (.c (.i .i64 0)))]
abbrev i16r4 : List IOper := [
 oo 13 (.mv (.t 5)),
 oo 14 (.fa 0 (.t 2)),
 oo 15 (.ld false 1 (.t 14)),
 oo 16 (.lenV (.t 15)),
 ot 17 (.bin .lss (.t 13) (.t 16))]
abbrev i16r5 : List (IOper × List Nat) := [
 (oo 20 (.fa 0 (.t 2)), []),
 (oo 21 (.ld false 1 (.t 20)), []),
 (oo 22 (.mv (.t 5)), [0, 1]),
 (oo 23 (.ixaV 1 (.t 21) (.t 22)), []),
 (oo 24 (.ld false 1 (.t 23)), []),
 (oo 25 (.fa 0 (.t 3)), [0, 1, 2, 3, 4]),
 (oo 26 (.ld false 1 (.t 25)), [0, 1, 2, 3, 4]),
 (oo 27 (.mv (.t 5)), [0, 1, 2, 3, 4, 5, 6]),
 (oo 28 (.ixaV 1 (.t 26) (.t 27)), [0, 1, 2, 3, 4]),
 (oo 29 (.ld false 1 (.t 28)), [0, 1, 2, 3, 4]),
 (ot 30 (.bin .neq (.t 24) (.t 29)), [])]
abbrev i16r6 : List IOper := [
 oo 4 (.mv (.c (.b false)))]
abbrev i16r7 : List IOper := [
 oo 18 (.mv (.t 5)),
 oo 19 (.bin .add (.t 18) (.c (.i .i64 1))),
 oo 5 (.mv (.t 19))]
abbrev i16l8 : ICode := (.seq (.seq (.reg i16r4) (.cond (.t 17) .skip (.exit 0))) (.seq (.block 1 (.seq (.dreg i16r5) (.cond (.t 30) (.seq (.reg i16r6) .ret) .skip))) (.reg i16r7)))
abbrev i16r9 : List (IOper × List Nat) := [
 (oo 31 (.fa 1 (.t 2)), []),
 (oo 32 (.ld false 1 (.t 31)), []),
 (oo 33 (.fa 1 (.t 3)), [0, 1]),
 (oo 34 (.ld false 1 (.t 33)), [0, 1]),
 (oo 35 (.bin .eql (.t 32) (.t 34)), []),
 (ot 36 (.mv (.t 35)), []),
 (og 37 (.fa 2 (.t 2)) 36 true false, []),
 (og 38 (.ld false 1 (.t 37)) 36 true false, []),
 (og 39 (.fa 2 (.t 3)) 36 true false, [6, 7]),
 (og 40 (.ld false 1 (.t 39)) 36 true false, [6, 7]),
 (og 41 (.bin .eql (.t 38) (.t 40)) 36 true false, []),
 (oo 42 (.pick (.t 36) (.t 41) (.c (.b false))), []),
 (ot 43 (.mv (.t 42)), []),
 (og 44 (.fa 3 (.t 2)) 43 true false, []),
 (og 45 (.ld false 1 (.t 44)) 43 true false, []),
 (og 46 (.fa 3 (.t 3)) 43 true false, [13, 14]),
 (og 47 (.ld false 1 (.t 46)) 43 true false, [13, 14]),
 (og 48 (.bin .eql (.t 45) (.t 47)) 43 true false, []),
 (oo 49 (.pick (.t 43) (.t 48) (.c (.b false))), []),
 (ot 50 (.mv (.t 49)), []),
 (og 51 (.fa 4 (.t 2)) 50 true false, []),
 (og 52 (.ld false 1 (.t 51)) 50 true false, []),
 (og 53 (.fa 4 (.t 3)) 50 true false, [20, 21]),
 (og 54 (.ld false 1 (.t 53)) 50 true false, [20, 21]),
 (og 55 (.bin .eql (.t 52) (.t 54)) 50 true false, []),
 (oo 56 (.pick (.t 50) (.t 55) (.c (.b false))), []),
 (ot 57 (.mv (.t 56)), []),
 (og 58 (.fa 5 (.t 2)) 57 true false, []),
 (og 59 (.ld false 1 (.t 58)) 57 true false, []),
 (og 60 (.fa 5 (.t 3)) 57 true false, [27, 28]),
 (og 61 (.ld false 1 (.t 60)) 57 true false, [27, 28]),
 (og 62 (.bin .eql (.t 59) (.t 61)) 57 true false, []),
 (oo 63 (.pick (.t 57) (.t 62) (.c (.b false))), []),
 (ot 64 (.mv (.t 63)), []),
 (og 65 (.fa 6 (.t 2)) 64 true false, []),
 (og 66 (.ld false 1 (.t 65)) 64 true false, []),
 (og 67 (.fa 6 (.t 3)) 64 true false, [34, 35]),
 (og 68 (.ld false 1 (.t 67)) 64 true false, [34, 35]),
 (og 69 (.bin .eql (.t 66) (.t 68)) 64 true false, []),
 (oo 70 (.pick (.t 64) (.t 69) (.c (.b false))), []),
 (ot 71 (.mv (.t 70)), []),
 (og 72 (.fa 7 (.t 2)) 71 true false, []),
 (og 73 (.ld false 1 (.t 72)) 71 true false, []),
 (og 74 (.fa 7 (.t 3)) 71 true false, [41, 42]),
 (og 75 (.ld false 1 (.t 74)) 71 true false, [41, 42]),
 (og 76 (.bin .eql (.t 73) (.t 75)) 71 true false, []),
 (oo 77 (.pick (.t 71) (.t 76) (.c (.b false))), []),
 (ot 78 (.mv (.t 77)), []),
 (og 79 (.fa 8 (.t 2)) 78 true false, []),
 (og 80 (.ld false 1 (.t 79)) 78 true false, []),
 (og 81 (.fa 8 (.t 3)) 78 true false, [48, 49]),
 (og 82 (.ld false 1 (.t 81)) 78 true false, [48, 49]),
 (og 83 (.bin .eql (.t 80) (.t 82)) 78 true false, []),
 (oo 84 (.pick (.t 78) (.t 83) (.c (.b false))), []),
 (ot 85 (.mv (.t 84)), []),
 (og 86 (.fa 9 (.t 2)) 85 true false, []),
 (og 87 (.ld false 1 (.t 86)) 85 true false, []),
 (og 88 (.fa 9 (.t 3)) 85 true false, [55, 56]),
 (og 89 (.ld false 1 (.t 88)) 85 true false, [55, 56]),
 (og 90 (.eqk false false [.b] (.t 87) (.t 89)) 85 true false, []),
 (oo 91 (.pick (.t 85) (.t 90) (.c (.b false))), []),
 (ot 92 (.mv (.t 91)), []),
 (og 93 (.ld true 18 (.t 2)) 92 true false, []),
 (og 94 (.call (.c (.fn 56 [])) [.t 93]) 92 true false, []),
 (og 95 (.ld true 18 (.t 3)) 92 true false, [62, 63]),
 (og 96 (.call (.c (.fn 56 [])) [.t 95]) 92 true false, []),
 (og 97 (.eqk false true [.i, .i, .i, .i] (.t 94) (.t 96)) 92 true false, []),
 (oo 98 (.pick (.t 92) (.t 97) (.c (.b false))), []),
 (ot 99 (.mv (.t 98)), []),
 (og 100 (.fa 14 (.t 2)) 99 true false, []),
 (og 101 (.ld true 4 (.t 100)) 99 true false, []),
 (og 102 (.fa 14 (.t 3)) 99 true false, [69, 70]),
 (og 103 (.ld true 4 (.t 102)) 99 true false, [69, 70]),
 (og 104 (.eqk false true [.i, .i, .i, .i] (.t 101) (.t 103)) 99 true false, []),
 (oo 105 (.pick (.t 99) (.t 104) (.c (.b false))), []),
 (oo 4 (.mv (.t 105)), [])]
abbrev i16c : ICode := (.seq (.reg i16r0) (.seq (.seq (.reg i16r1) (.cond (.t 12) (.seq (.reg i16r2) .ret) .skip)) (.seq (.seq (.reg i16r3) (.block 0 (.loop i16l8))) (.seq (.dreg i16r9) .ret))))
def i16 : IFn := { np := 2, N := 106, ct := [12, 17, 30], code := i16c, res := [.t 4] }
abbrev i17r0 : List IOper := [
 oo 7 (.box (.t 3)),
 oo 8 (.new [.ns, .i .i64 0, .i .i64 0, .i .i64 0, .i .i64 0, .i .i64 0, .i .i64 0, .i .i64 0, .i .i64 0, .b false, .i .i64 0, .i .i64 0, .i .i64 0, .i .i64 0, .i .i64 0, .i .i64 0, .i .i64 0, .i .i64 0]),
 oo 9 (.mv (.c (.i .i64 0)))]
abbrev i17r1 : List (IOper × List Nat) := [
 (oo 11 (.mv (.t 0)), []),
 (oo 12 (.call (.c (.fn 53 [])) [.t 11]), []),
 (oo 13 (.mv (.t 1)), [0, 1]),
 (oo 14 (.mv (.t 2)), [0, 1, 2]),
 (oo 15 (.ld true 4 (.t 7)), [0, 1, 2, 3]),
 (oo 16 (.build [.ns, .i .i64 0, .i .i64 0, .i .i64 0, .i .i64 0, .i .i64 0, .i .i64 0, .i .i64 0, .i .i64 0, .b false, .i .i64 0, .i .i64 0, .i .i64 0, .i .i64 0, .i .i64 0, .i .i64 0, .i .i64 0, .i .i64 0] [(0, 1, .t 12), (1, 1, .t 13), (2, 1, .t 14), (3, 1, .c (.i .i64 (-1))), (4, 1, .c (.i .i64 (-1))), (14, 4, .t 15)]), []),
 (oo 10 (.new [.ns, .i .i64 0, .i .i64 0, .i .i64 0, .i .i64 0, .i .i64 0, .i .i64 0, .i .i64 0, .i .i64 0, .b false, .i .i64 0, .i .i64 0, .i .i64 0, .i .i64 0, .i .i64 0, .i .i64 0, .i .i64 0, .i .i64 0]), [0, 1, 2, 3, 4, 5]),
 (on_ (.st 18 (.t 10) (.t 16)), [])]
abbrev i17r2 : List IOper := [
 oo 17 (.ld true 18 (.t 10)),
 oo 18 (.call (.c (.fn 12 [])) [.t 17]),
 ot 19 (.bin .neq (.t 18) (.c (.i .i64 0)))]
abbrev i17r3 : List IOper := [
 oo 20 (.build [.ns, .i .i64 0, .i .i64 0, .i .i64 0, .i .i64 0, .i .i64 0, .i .i64 0, .i .i64 0, .i .i64 0, .b false, .i .i64 0, .i .i64 0, .i .i64 0, .i .i64 0, .i .i64 0, .i .i64 0, .i .i64 0, .i .i64 0] []),
 on_ (.st 18 (.t 8) (.t 20)),
 oo 9 (.mv (.c (.i .i64 2)))]
abbrev i17r4 : List IOper := [
 oo 21 (.ld true 18 (.t 10)),
 on_ (.st 18 (.t 8) (.t 21)),
 oo 9 (.mv (.c (.i .i64 0)))]
abbrev i17c : ICode := (.seq (.reg i17r0) (.seq (.dreg i17r1) (.seq (.seq (.reg i17r2) (.cond (.t 19) (.seq (.reg i17r3) .ret) .skip)) (.seq (.reg i17r4) .ret))))
def i17 : IFn := { np := 4, N := 22, ct := [19], code := i17c, res := [.c 8 true 18, .t 9] }
theorem i17_eq : compF Try.prog Try.f17 = some i17 := by kernel_rfl
abbrev i18r0 : List IOper := [
 oo 7 (.box (.t 3)),
 oo 8 (.new [.ns, .i .i64 0, .i .i64 0, .i .i64 0, .i .i64 0, .i .i64 0, .i .i64 0, .i .i64 0, .i .i64 0, .b false, .i .i64 0, .i .i64 0, .i .i64 0, .i .i64 0, .i .i64 0, .i .i64 0, .i .i64 0, .i .i64 0]),
 oo 9 (.mv (.c (.i .i64 0)))]
abbrev i18r1 : List IOper := [
 oo 11 (.mv (.t 1)),
 oo 12 (.mv (.t 2)),
 oo 13 (.ld true 4 (.t 7)),
 oo 14 (.build [.ns, .i .i64 0, .i .i64 0, .i .i64 0, .i .i64 0, .i .i64 0, .i .i64 0, .i .i64 0, .i .i64 0, .b false, .i .i64 0, .i .i64 0, .i .i64 0, .i .i64 0, .i .i64 0, .i .i64 0, .i .i64 0, .i .i64 0] [(1, 1, .t 11), (2, 1, .t 12), (3, 1, .c (.i .i64 (-1))), (4, 1, .c (.i .i64 (-1))), (14, 4, .t 13)]),
 oo 10 (.new [.ns, .i .i64 0, .i .i64 0, .i .i64 0, .i .i64 0, .i .i64 0, .i .i64 0, .i .i64 0, .i .i64 0, .b false, .i .i64 0, .i .i64 0, .i .i64 0, .i .i64 0, .i .i64 0, .i .i64 0, .i .i64 0, .i .i64 0]),
 on_ (.st 18 (.t 10) (.t 14))]
abbrev i18r2 : List IOper := [
 oo 15 (.fa 0 (.t 10)),
 oo 16 (.ld false 1 (.t 15)),
 oo 17 (.mv (.t 0)),
 oo 18 (.app 1 8 [.i .i64 0] (.t 16) (.t 17)),
 oo 19 (.fa 0 (.t 10)),
 on_ (.st 1 (.t 19) (.t 18))]
abbrev i18r3 : List IOper := [
 oo 20 (.ld true 18 (.t 10)),
 oo 21 (.call (.c (.fn 48 [])) [.t 20]),
 ot 22 (.not (.t 21))]
abbrev i18r4 : List IOper := [
 oo 23 (.build [.ns, .i .i64 0, .i .i64 0, .i .i64 0, .i .i64 0, .i .i64 0, .i .i64 0, .i .i64 0, .i .i64 0, .b false, .i .i64 0, .i .i64 0, .i .i64 0, .i .i64 0, .i .i64 0, .i .i64 0, .i .i64 0, .i .i64 0] []),
 on_ (.st 18 (.t 8) (.t 23)),
 oo 9 (.mv (.c (.i .i64 2)))]
abbrev i18r5 : List IOper := [
 oo 24 (.ld true 18 (.t 10)),
 on_ (.st 18 (.t 8) (.t 24)),
 oo 9 (.mv (.c (.i .i64 0)))]
abbrev i18c : ICode := (.seq (.reg i18r0) (.seq (.reg i18r1) (.seq (.reg i18r2) (.seq (.seq (.reg i18r3) (.cond (.t 22) (.seq (.reg i18r4) .ret) .skip)) (.seq (.reg i18r5) .ret)))))
def i18 : IFn := { np := 4, N := 25, ct := [22], code := i18c, res := [.c 8 true 18, .t 9] }
theorem i18_eq : compF Try.prog Try.f18 = some i18 := by kernel_rfl
abbrev i19r0 : List IOper := [
 oo 0 (.mv (.c (.b false)))]
abbrev i19r1 : List IOper := [
 oo 41 (.bsl [.i .i64 0, .i .i64 0] 2 [(0, 1, .c (.i .i64 10)), (1, 1, .c (.i .i64 20))]),
 oo 42 (.build [.i .i64 0, .i .i64 0, .i .i64 0, .i .i64 0] [(0, 1, .c (.i .i64 99)), (1, 1, .c (.i .i64 1000)), (2, 1, .c (.i .i64 9)), (3, 1, .c (.i .i64 4))]),
 oo 43 (.call (.c (.fn 17 [])) [.t 41, .c (.i .i64 5), .c (.i .i64 3000), .t 42]),
 oo 40 (.mv (.t 43)),
 oo 44 (.ext (.t 40) 0),
 oo 45 (.ext (.t 40) 1),
 oo 1 (.new [.ns, .i .i64 0, .i .i64 0, .i .i64 0, .i .i64 0, .i .i64 0, .i .i64 0, .i .i64 0, .i .i64 0, .b false, .i .i64 0, .i .i64 0, .i .i64 0, .i .i64 0, .i .i64 0, .i .i64 0, .i .i64 0, .i .i64 0]),
 on_ (.st 18 (.t 1) (.t 44)),
 oo 2 (.mv (.t 45))]
abbrev i19r2 : List IOper := [
 oo 46 (.build [.b false, .b false, .b false, .b false, .i .i64 0, .i .i64 0, .i .i64 0, .i .i64 0] [(1, 1, .c (.b true)), (4, 1, .c (.i .i64 300)), (5, 1, .c (.i .i64 7))]),
 oo 47 (.call (.c (.fn 27 [])) [.c (.i .i64 10), .c (.i .i64 500), .c (.i .i64 70000), .t 46]),
 oo 3 (.new [.b false, .i .i64 0, .i .i64 0, .i .i64 0, .i .i64 0, .ns, .ns, .i .i64 0, .s []]),
 on_ (.st 9 (.t 3) (.t 47))]
abbrev i19r3 : List IOper := [
 oo 49 (.ld true 18 (.t 1)),
 oo 50 (.ld true 9 (.t 3)),
 oo 51 (.call (.c (.fn 28 [])) [.t 49, .t 50]),
 oo 48 (.mv (.t 51)),
 oo 52 (.ext (.t 48) 0),
 oo 53 (.ext (.t 48) 1),
 oo 54 (.ext (.t 48) 2),
 oo 4 (.new [.b false, .i .i64 0, .i .i64 0, .i .i64 0, .i .i64 0, .ns, .ns, .i .i64 0, .s []]),
 on_ (.st 18 (.t 1) (.t 52)),
 on_ (.st 9 (.t 4) (.t 53)),
 oo 5 (.mv (.t 54))]
abbrev i19r4 : List IOper := [
 oo 56 (.ld true 18 (.t 1)),
 oo 57 (.call (.c (.fn 10 [])) [.t 56]),
 oo 55 (.mv (.t 57)),
 oo 58 (.ext (.t 55) 0),
 oo 59 (.ext (.t 55) 1),
 oo 6 (.mv (.t 58)),
 oo 7 (.mv (.t 59))]
abbrev i19r5 : List IOper := [
 oo 61 (.ld true 18 (.t 1)),
 oo 62 (.call (.c (.fn 14 [])) [.t 61, .c (.i .i64 0), .c (.i .i64 1)]),
 oo 60 (.mv (.t 62)),
 oo 63 (.ext (.t 60) 0),
 oo 64 (.ext (.t 60) 1),
 on_ (.st 18 (.t 1) (.t 63)),
 oo 8 (.mv (.t 64))]
abbrev i19r6 : List IOper := [
 oo 66 (.ld true 18 (.t 1)),
 oo 67 (.call (.c (.fn 10 [])) [.t 66]),
 oo 65 (.mv (.t 67)),
 oo 68 (.ext (.t 65) 0),
 oo 69 (.ext (.t 65) 1),
 oo 9 (.mv (.t 68)),
 oo 10 (.mv (.t 69))]
abbrev i19r7 : List IOper := [
 oo 71 (.ld true 18 (.t 1)),
 oo 72 (.ld true 9 (.t 3)),
 oo 73 (.call (.c (.fn 28 [])) [.t 71, .t 72]),
 oo 70 (.mv (.t 73)),
 oo 74 (.ext (.t 70) 0),
 oo 75 (.ext (.t 70) 1),
 oo 76 (.ext (.t 70) 2),
 oo 11 (.new [.b false, .i .i64 0, .i .i64 0, .i .i64 0, .i .i64 0, .ns, .ns, .i .i64 0, .s []]),
 on_ (.st 18 (.t 1) (.t 74)),
 on_ (.st 9 (.t 11) (.t 75)),
 oo 12 (.mv (.t 76))]
abbrev i19r8 : List (IOper × List Nat) := [
 (oo 78 (.ld true 18 (.t 1)), []),
 (oo 79 (.build [.b false, .b false, .b false, .b false, .i .i64 0, .i .i64 0, .i .i64 0, .i .i64 0] [(4, 1, .c (.i .i64 301)), (5, 1, .c (.i .i64 7)), (6, 1, .c (.i .i64 1))]), [0]),
 (oo 80 (.call (.c (.fn 27 [])) [.c (.i .i64 10), .c (.i .i64 501), .c (.i .i64 73000), .t 79]), [0]),
 (oo 81 (.call (.c (.fn 28 [])) [.t 78, .t 80]), []),
 (oo 77 (.mv (.t 81)), []),
 (oo 82 (.ext (.t 77) 0), []),
 (oo 83 (.ext (.t 77) 1), [5]),
 (oo 84 (.ext (.t 77) 2), [5, 6]),
 (oo 13 (.new [.b false, .i .i64 0, .i .i64 0, .i .i64 0, .i .i64 0, .ns, .ns, .i .i64 0, .s []]), [0, 1, 2, 3, 4, 5, 6, 7]),
 (on_ (.st 18 (.t 1) (.t 82)), [6, 7]),
 (on_ (.st 9 (.t 13) (.t 83)), [7]),
 (oo 14 (.mv (.t 84)), [])]
abbrev i19r9 : List (IOper × List Nat) := [
 (oo 86 (.ld true 18 (.t 1)), []),
 (oo 87 (.build [.b false, .b false, .b false, .b false, .i .i64 0, .i .i64 0, .i .i64 0, .i .i64 0] [(4, 1, .c (.i .i64 302)), (5, 1, .c (.i .i64 8))]), [0]),
 (oo 88 (.call (.c (.fn 27 [])) [.c (.i .i64 10), .c (.i .i64 502), .c (.i .i64 76000), .t 87]), [0]),
 (oo 89 (.call (.c (.fn 28 [])) [.t 86, .t 88]), []),
 (oo 85 (.mv (.t 89)), []),
 (oo 90 (.ext (.t 85) 0), []),
 (oo 91 (.ext (.t 85) 1), [5]),
 (oo 92 (.ext (.t 85) 2), [5, 6]),
 (oo 15 (.new [.b false, .i .i64 0, .i .i64 0, .i .i64 0, .i .i64 0, .ns, .ns, .i .i64 0, .s []]), [0, 1, 2, 3, 4, 5, 6, 7]),
 (on_ (.st 18 (.t 1) (.t 90)), [6, 7]),
 (on_ (.st 9 (.t 15) (.t 91)), [7]),
 (oo 16 (.mv (.t 92)), [])]
abbrev i19r10 : List IOper := [
 oo 93 (.build [.b false, .b false, .b false, .b false, .i .i64 0, .i .i64 0, .i .i64 0, .i .i64 0] [(4, 1, .c (.i .i64 303)), (5, 1, .c (.i .i64 8)), (6, 1, .c (.i .i64 1)), (2, 1, .c (.b true))]),
 oo 94 (.call (.c (.fn 27 [])) [.c (.i .i64 10), .c (.i .i64 503), .c (.i .i64 79000), .t 93]),
 oo 17 (.new [.b false, .i .i64 0, .i .i64 0, .i .i64 0, .i .i64 0, .ns, .ns, .i .i64 0, .s []]),
 on_ (.st 9 (.t 17) (.t 94))]
abbrev i19r11 : List IOper := [
 oo 96 (.ld true 18 (.t 1)),
 oo 97 (.ld true 9 (.t 17)),
 oo 98 (.call (.c (.fn 28 [])) [.t 96, .t 97]),
 oo 95 (.mv (.t 98)),
 oo 99 (.ext (.t 95) 0),
 oo 100 (.ext (.t 95) 1),
 oo 101 (.ext (.t 95) 2),
 oo 18 (.new [.b false, .i .i64 0, .i .i64 0, .i .i64 0, .i .i64 0, .ns, .ns, .i .i64 0, .s []]),
 on_ (.st 18 (.t 1) (.t 99)),
 on_ (.st 9 (.t 18) (.t 100)),
 oo 19 (.mv (.t 101))]
abbrev i19r12 : List IOper := [
 oo 103 (.ld true 18 (.t 1)),
 oo 104 (.ld true 9 (.t 17)),
 oo 105 (.call (.c (.fn 28 [])) [.t 103, .t 104]),
 oo 102 (.mv (.t 105)),
 oo 106 (.ext (.t 102) 0),
 oo 107 (.ext (.t 102) 1),
 oo 108 (.ext (.t 102) 2),
 oo 20 (.new [.b false, .i .i64 0, .i .i64 0, .i .i64 0, .i .i64 0, .ns, .ns, .i .i64 0, .s []]),
 on_ (.st 18 (.t 1) (.t 106)),
 on_ (.st 9 (.t 20) (.t 107)),
 oo 21 (.mv (.t 108))]
abbrev i19r13 : List (IOper × List Nat) := [
 (oo 110 (.ld true 18 (.t 1)), []),
 (oo 111 (.build [.b false, .b false, .b false, .b false, .i .i64 0, .i .i64 0, .i .i64 0, .i .i64 0] [(4, 1, .c (.i .i64 302)), (5, 1, .c (.i .i64 8))]), [0]),
 (oo 112 (.call (.c (.fn 27 [])) [.c (.i .i64 10), .c (.i .i64 502), .c (.i .i64 76000), .t 111]), [0]),
 (oo 113 (.call (.c (.fn 28 [])) [.t 110, .t 112]), []),
 (oo 109 (.mv (.t 113)), []),
 (oo 114 (.ext (.t 109) 0), []),
 (oo 115 (.ext (.t 109) 1), [5]),
 (oo 116 (.ext (.t 109) 2), [5, 6]),
 (oo 22 (.new [.b false, .i .i64 0, .i .i64 0, .i .i64 0, .i .i64 0, .ns, .ns, .i .i64 0, .s []]), [0, 1, 2, 3, 4, 5, 6, 7]),
 (on_ (.st 18 (.t 1) (.t 114)), [6, 7]),
 (on_ (.st 9 (.t 22) (.t 115)), [7]),
 (oo 23 (.mv (.t 116)), [])]
abbrev i19r14 : List IOper := [
 oo 118 (.ld true 18 (.t 1)),
 oo 119 (.call (.c (.fn 14 [])) [.t 118, .c (.i .i64 1), .c (.i .i64 1)]),
 oo 117 (.mv (.t 119)),
 oo 120 (.ext (.t 117) 0),
 oo 121 (.ext (.t 117) 1),
 on_ (.st 18 (.t 1) (.t 120)),
 oo 24 (.mv (.t 121))]
abbrev i19r15 : List (IOper × List Nat) := [
 (oo 123 (.ld true 18 (.t 1)), []),
 (oo 124 (.build [.b false, .b false, .b false, .b false, .i .i64 0, .i .i64 0, .i .i64 0, .i .i64 0] [(4, 1, .c (.i .i64 304)), (5, 1, .c (.i .i64 9))]), [0]),
 (oo 125 (.call (.c (.fn 27 [])) [.c (.i .i64 10), .c (.i .i64 504), .c (.i .i64 82000), .t 124]), [0]),
 (oo 126 (.call (.c (.fn 28 [])) [.t 123, .t 125]), []),
 (oo 122 (.mv (.t 126)), []),
 (oo 127 (.ext (.t 122) 0), []),
 (oo 128 (.ext (.t 122) 1), [5]),
 (oo 129 (.ext (.t 122) 2), [5, 6]),
 (oo 25 (.new [.b false, .i .i64 0, .i .i64 0, .i .i64 0, .i .i64 0, .ns, .ns, .i .i64 0, .s []]), [0, 1, 2, 3, 4, 5, 6, 7]),
 (on_ (.st 18 (.t 1) (.t 127)), [6, 7]),
 (on_ (.st 9 (.t 25) (.t 128)), [7]),
 (oo 26 (.mv (.t 129)), [])]
abbrev i19r16 : List (IOper × List Nat) := [
 (oo 131 (.ld true 18 (.t 1)), []),
 (oo 132 (.build [.b false, .b false, .b false, .b false, .i .i64 0, .i .i64 0, .i .i64 0, .i .i64 0] [(1, 1, .c (.b true)), (5, 1, .c (.i .i64 200))]), [0]),
 (oo 133 (.call (.c (.fn 27 [])) [.c (.i .i64 20), .c (.i .i64 7), .c (.i .i64 5), .t 132]), [0]),
 (oo 134 (.call (.c (.fn 28 [])) [.t 131, .t 133]), []),
 (oo 130 (.mv (.t 134)), []),
 (oo 135 (.ext (.t 130) 0), []),
 (oo 136 (.ext (.t 130) 1), [5]),
 (oo 137 (.ext (.t 130) 2), [5, 6]),
 (oo 27 (.new [.ns, .i .i64 0, .i .i64 0, .i .i64 0, .i .i64 0, .i .i64 0, .i .i64 0, .i .i64 0, .i .i64 0, .b false, .i .i64 0, .i .i64 0, .i .i64 0, .i .i64 0, .i .i64 0, .i .i64 0, .i .i64 0, .i .i64 0]), [0, 1, 2, 3, 4, 5, 6, 7]),
 (oo 28 (.new [.b false, .i .i64 0, .i .i64 0, .i .i64 0, .i .i64 0, .ns, .ns, .i .i64 0, .s []]), [0, 1, 2, 3, 4, 5, 6, 7, 8]),
 (on_ (.st 18 (.t 27) (.t 135)), [6, 7]),
 (on_ (.st 9 (.t 28) (.t 136)), [7]),
 (oo 29 (.mv (.t 137)), [])]
abbrev i19r17 : List IOper := [
 oo 139 (.ld true 18 (.t 1)),
 oo 140 (.build [.b false, .i .i64 0, .i .i64 0, .i .i64 0, .i .i64 0, .ns, .ns, .i .i64 0, .s []] [(4, 1, .c (.i .i64 30))]),
 oo 141 (.call (.c (.fn 22 [])) [.t 139, .t 140]),
 oo 138 (.mv (.t 141)),
 oo 142 (.ext (.t 138) 0),
 oo 143 (.ext (.t 138) 1),
 oo 144 (.ext (.t 138) 2),
 oo 30 (.new [.ns, .i .i64 0, .i .i64 0, .i .i64 0, .i .i64 0, .i .i64 0, .i .i64 0, .i .i64 0, .i .i64 0, .b false, .i .i64 0, .i .i64 0, .i .i64 0, .i .i64 0, .i .i64 0, .i .i64 0, .i .i64 0, .i .i64 0]),
 on_ (.st 18 (.t 30) (.t 142)),
 oo 31 (.mv (.t 143)),
 oo 32 (.mv (.t 144))]
abbrev i19r18 : List IOper := [
 oo 146 (.ld true 18 (.t 1)),
 oo 147 (.build [.b false, .i .i64 0, .i .i64 0, .i .i64 0, .i .i64 0, .ns, .ns, .i .i64 0, .s []] [(4, 1, .c (.i .i64 10)), (8, 1, .c (.s [97, 98, 99, 100]))]),
 oo 148 (.call (.c (.fn 22 [])) [.t 146, .t 147]),
 oo 145 (.mv (.t 148)),
 oo 149 (.ext (.t 145) 0),
 oo 150 (.ext (.t 145) 1),
 oo 151 (.ext (.t 145) 2),
 oo 33 (.new [.ns, .i .i64 0, .i .i64 0, .i .i64 0, .i .i64 0, .i .i64 0, .i .i64 0, .i .i64 0, .i .i64 0, .b false, .i .i64 0, .i .i64 0, .i .i64 0, .i .i64 0, .i .i64 0, .i .i64 0, .i .i64 0, .i .i64 0]),
 on_ (.st 18 (.t 33) (.t 149)),
 oo 34 (.mv (.t 150)),
 oo 35 (.mv (.t 151))]
abbrev i19r19 : List IOper := [
 oo 153 (.ld true 18 (.t 1)),
 oo 154 (.call (.c (.fn 14 [])) [.t 153, .c (.i .i64 2), .c (.i .i64 0)]),
 oo 152 (.mv (.t 154)),
 oo 155 (.ext (.t 152) 0),
 oo 156 (.ext (.t 152) 1),
 oo 36 (.new [.ns, .i .i64 0, .i .i64 0, .i .i64 0, .i .i64 0, .i .i64 0, .i .i64 0, .i .i64 0, .i .i64 0, .b false, .i .i64 0, .i .i64 0, .i .i64 0, .i .i64 0, .i .i64 0, .i .i64 0, .i .i64 0, .i .i64 0]),
 on_ (.st 18 (.t 36) (.t 155)),
 oo 37 (.mv (.t 156))]
abbrev i19r20 : List IOper := [
 oo 157 (.mv (.t 2)),
 oo 158 (.bin .eql (.t 157) (.c (.i .i64 0))),
 ot 159 (.mv (.t 158)),
 og 160 (.mv (.t 5)) 159 true false,
 oo 161 (.pick (.t 159) (.t 160) (.c (.b false))),
 ot 162 (.mv (.t 161)),
 og 163 (.mv (.t 7)) 162 true false,
 og 164 (.bin .eql (.t 163) (.c (.i .i64 4))) 162 true false,
 oo 165 (.pick (.t 162) (.t 164) (.c (.b false))),
 ot 166 (.mv (.t 165)),
 og 167 (.mv (.t 8)) 166 true false,
 og 168 (.bin .eql (.t 167) (.c (.i .i64 0))) 166 true false,
 oo 169 (.pick (.t 166) (.t 168) (.c (.b false))),
 ot 170 (.mv (.t 169)),
 og 171 (.mv (.t 9)) 170 true false,
 og 172 (.bin .eql (.t 171) (.c (.i .i64 0))) 170 true false,
 oo 173 (.pick (.t 170) (.t 172) (.c (.b false))),
 ot 174 (.mv (.t 173)),
 og 175 (.mv (.t 10)) 174 true false,
 og 176 (.bin .eql (.t 175) (.c (.i .i64 0))) 174 true false,
 oo 177 (.pick (.t 174) (.t 176) (.c (.b false))),
 ot 178 (.mv (.t 177)),
 og 179 (.mv (.t 12)) 178 true false,
 oo 180 (.pick (.t 178) (.t 179) (.c (.b false))),
 ot 181 (.mv (.t 180)),
 og 182 (.mv (.t 14)) 181 true false,
 oo 183 (.pick (.t 181) (.t 182) (.c (.b false))),
 ot 184 (.mv (.t 183)),
 og 185 (.mv (.t 16)) 184 true false,
 oo 186 (.pick (.t 184) (.t 185) (.c (.b false))),
 ot 187 (.mv (.t 186)),
 og 188 (.mv (.t 19)) 187 true false,
 oo 189 (.pick (.t 187) (.t 188) (.c (.b false))),
 ot 190 (.mv (.t 189)),
 og 191 (.mv (.t 21)) 190 true false,
 oo 192 (.pick (.t 190) (.t 191) (.c (.b false))),
 ot 193 (.mv (.t 192)),
 og 194 (.mv (.t 23)) 193 true false,
 oo 195 (.pick (.t 193) (.t 194) (.c (.b false))),
 ot 196 (.mv (.t 195)),
 og 197 (.mv (.t 24)) 196 true false,
 og 198 (.bin .eql (.t 197) (.c (.i .i64 0))) 196 true false,
 oo 199 (.pick (.t 196) (.t 198) (.c (.b false))),
 ot 200 (.mv (.t 199)),
 og 201 (.mv (.t 26)) 200 true false,
 oo 202 (.pick (.t 200) (.t 201) (.c (.b false))),
 ot 203 (.mv (.t 202)),
 og 204 (.mv (.t 29)) 203 true false,
 oo 205 (.pick (.t 203) (.t 204) (.c (.b false))),
 oo 38 (.mv (.t 205))]
abbrev i19r21 : List IOper := [
 oo 206 (.fa 8 (.t 4)),
 oo 207 (.ld false 1 (.t 206)),
 oo 208 (.lenS (.t 207)),
 oo 209 (.bin .eql (.t 208) (.c (.i .i64 0))),
 ot 210 (.mv (.t 209)),
 og 211 (.ld true 9 (.t 11)) 210 true false,
 og 212 (.call (.c (.fn 29 [])) [.t 211, .c (.i .i64 100), .c (.i .i64 4000), .c (.i .i64 10), .c (.i .i64 5)]) 210 true false,
 oo 213 (.pick (.t 210) (.t 212) (.c (.b false))),
 ot 214 (.mv (.t 213)),
 og 215 (.fa 8 (.t 13)) 214 true false,
 og 216 (.ld false 1 (.t 215)) 214 true false,
 og 217 (.lenS (.t 216)) 214 true false,
 og 218 (.bin .eql (.t 217) (.c (.i .i64 0))) 214 true false,
 oo 219 (.pick (.t 214) (.t 218) (.c (.b false))),
 ot 220 (.mv (.t 219)),
 og 221 (.ld true 9 (.t 15)) 220 true false,
 og 222 (.call (.c (.fn 29 [])) [.t 221, .c (.i .i64 101), .c (.i .i64 10000), .c (.i .i64 11), .c (.i .i64 6)]) 220 true false,
 oo 223 (.pick (.t 220) (.t 222) (.c (.b false))),
 ot 224 (.mv (.t 223)),
 og 225 (.ld true 9 (.t 18)) 224 true false,
 og 226 (.call (.c (.fn 29 [])) [.t 225, .c (.i .i64 102), .c (.i .i64 13000), .c (.i .i64 12), .c (.i .i64 6)]) 224 true false,
 oo 227 (.pick (.t 224) (.t 226) (.c (.b false))),
 ot 228 (.mv (.t 227)),
 og 229 (.fa 8 (.t 20)) 228 true false,
 og 230 (.ld false 1 (.t 229)) 228 true false,
 og 231 (.lenS (.t 230)) 228 true false,
 og 232 (.fa 8 (.t 22)) 228 true false,
 og 233 (.ld false 1 (.t 232)) 228 true false,
 og 234 (.lenS (.t 233)) 228 true false,
 og 235 (.bin .add (.t 231) (.t 234)) 228 true false,
 og 236 (.bin .eql (.t 235) (.c (.i .i64 0))) 228 true false,
 oo 237 (.pick (.t 228) (.t 236) (.c (.b false))),
 ot 238 (.mv (.t 237)),
 og 239 (.ld true 9 (.t 25)) 238 true false,
 og 240 (.call (.c (.fn 29 [])) [.t 239, .c (.i .i64 103), .c (.i .i64 16000), .c (.i .i64 13), .c (.i .i64 7)]) 238 true false,
 oo 241 (.pick (.t 238) (.t 240) (.c (.b false))),
 ot 242 (.mv (.t 241)),
 og 243 (.ld true 9 (.t 28)) 242 true false,
 og 244 (.call (.c (.fn 29 [])) [.t 243, .c (.i .i64 104), .c (.i .i64 19000), .c (.i .i64 14), .c (.i .i64 8)]) 242 true false,
 oo 245 (.pick (.t 242) (.t 244) (.c (.b false))),
 ot 246 (.mv (.t 245)),
 og 247 (.fa 3 (.t 27)) 246 true false,
 og 248 (.ld false 1 (.t 247)) 246 true false,
 og 249 (.bin .eql (.t 248) (.c (.i .i64 1))) 246 true false,
 oo 250 (.pick (.t 246) (.t 249) (.c (.b false))),
 oo 39 (.mv (.t 250))]
abbrev i19r22 : List IOper := [
 oo 251 (.mv (.t 38)),
 ot 252 (.mv (.t 251)),
 og 253 (.mv (.t 39)) 252 true false,
 oo 254 (.pick (.t 252) (.t 253) (.c (.b false))),
 ot 255 (.mv (.t 254)),
 og 256 (.mv (.t 32)) 255 true false,
 og 257 (.bin .eql (.t 256) (.c (.i .i64 4))) 255 true false,
 oo 258 (.pick (.t 255) (.t 257) (.c (.b false))),
 ot 259 (.mv (.t 258)),
 og 260 (.mv (.t 35)) 259 true false,
 og 261 (.bin .eql (.t 260) (.c (.i .i64 7))) 259 true false,
 oo 262 (.pick (.t 259) (.t 261) (.c (.b false))),
 ot 263 (.mv (.t 262)),
 og 264 (.mv (.t 37)) 263 true false,
 og 265 (.bin .eql (.t 264) (.c (.i .i64 2))) 263 true false,
 oo 266 (.pick (.t 263) (.t 265) (.c (.b false))),
 oo 0 (.mv (.t 266))]
abbrev i19c : ICode := (.seq (.reg i19r0) (.seq (.reg i19r1) (.seq (.reg i19r2) (.seq (.reg i19r3) (.seq (.reg i19r4) (.seq (.reg i19r5) (.seq (.reg i19r6) (.seq (.reg i19r7) (.seq (.dreg i19r8) (.seq (.dreg i19r9) (.seq (.reg i19r10) (.seq (.reg i19r11) (.seq (.reg i19r12) (.seq (.dreg i19r13) (.seq (.reg i19r14) (.seq (.dreg i19r15) (.seq (.dreg i19r16) (.seq (.reg i19r17) (.seq (.reg i19r18) (.seq (.reg i19r19) (.seq (.reg i19r20) (.seq (.reg i19r21) (.seq (.reg i19r22) .ret)))))))))))))))))))))))
def i19 : IFn := { np := 0, N := 267, ct := [], code := i19c, res := [.t 0] }
theorem i19_eq : compF Try.prog Try.f19 = some i19 := by kernel_rfl
abbrev i20r0 : List IOper := [
 oo 2 (.box (.t 0)),
 oo 3 (.box (.t 1)),
 oo 4 (.new [.ns, .i .i64 0, .i .i64 0, .i .i64 0, .i .i64 0, .i .i64 0, .i .i64 0, .i .i64 0, .i .i64 0, .b false, .i .i64 0, .i .i64 0, .i .i64 0, .i .i64 0, .i .i64 0, .i .i64 0, .i .i64 0, .i .i64 0, .ns, .ns, .ns, .i .i64 0, .i .i64 0, .i .i64 0]),
 oo 5 (.new [.b false, .i .i64 0, .i .i64 0, .i .i64 0, .i .i64 0, .ns, .ns, .i .i64 0, .s []]),
 oo 6 (.mv (.c (.b false)))]
abbrev i20r1 : List IOper := [
 oo 8 (.fa 0 (.t 3)),
 oo 9 (.ld false 1 (.t 8)),
 oo 10 (.bin .rem (.t 9) (.c (.i .u8 8))),
 oo 11 (.i2i .i64 (.t 10)),
 oo 12 (.bin .rem (.t 11) (.c (.i .i64 3))),
 oo 7 (.mv (.t 12))]
abbrev i20r2 : List IOper := [
 oo 13 (.fa 0 (.t 3)),
 oo 14 (.ld false 1 (.t 13)),
 oo 15 (.bin .rem (.t 14) (.c (.i .u8 8))),
 oo 16 (.bin .eql (.t 15) (.c (.i .u8 6))),
 ot 17 (.mv (.t 16)),
 og 18 (.mv (.t 7)) 17 true false,
 og 19 (.fa 21 (.t 2)) 17 true false,
 og 20 (.ixaA 3 1 (.t 19) (.t 18)) 17 true false,
 og 21 (.ld false 1 (.t 20)) 17 true false,
 og 22 (.bin .gtr (.t 21) (.c (.i .i64 0))) 17 true false,
 ot 23 (.pick (.t 17) (.t 22) (.c (.b false)))]
abbrev i20r3 : List (IOper × List Nat) := [
 (oo 24 (.ld true 24 (.t 2)), []),
 (oo 25 (.mv (.t 7)), [0]),
 (oo 26 (.fa 18 (.t 2)), [0, 1]),
 (oo 27 (.ixaA 3 1 (.t 26) (.t 25)), [0]),
 (oo 28 (.ld false 1 (.t 27)), [0]),
 (oo 29 (.fa 1 (.t 3)), [0, 1, 2, 3, 4]),
 (oo 30 (.ld false 1 (.t 29)), [0, 1, 2, 3, 4]),
 (oo 31 (.i2i .i64 (.t 30)), [0, 1, 2, 3, 4]),
 (oo 32 (.mv (.t 7)), [0, 1, 2, 3, 4, 5, 6, 7]),
 (oo 33 (.fa 21 (.t 2)), [0, 1, 2, 3, 4, 5, 6, 7, 8]),
 (oo 34 (.ixaA 3 1 (.t 33) (.t 32)), [0, 1, 2, 3, 4, 5, 6, 7]),
 (oo 35 (.ld false 1 (.t 34)), [0, 1, 2, 3, 4, 5, 6, 7]),
 (oo 36 (.bin .rem (.t 31) (.t 35)), [0, 1, 2, 3, 4]),
 (oo 37 (.ixaV 9 (.t 28) (.t 36)), [0]),
 (oo 38 (.ld true 9 (.t 37)), [0]),
 (on_ (.st 24 (.t 4) (.t 24)), [1, 2, 3, 4, 5, 6, 7, 8, 9, 10, 11, 12, 13, 14]),
 (on_ (.st 9 (.t 5) (.t 38)), []),
 (oo 6 (.mv (.c (.b true))), [])]
abbrev i20r4 : List (IOper × List Nat) := [
 (oo 39 (.fa 0 (.t 3)), []),
 (oo 40 (.ld false 1 (.t 39)), []),
 (oo 41 (.bin .rem (.t 40) (.c (.i .u8 8))), []),
 (oo 42 (.bin .lss (.t 41) (.c (.i .u8 6))), []),
 (ot 43 (.mv (.t 42)), []),
 (og 44 (.mv (.t 7)) 43 true false, []),
 (og 45 (.fa 21 (.t 2)) 43 true false, [5]),
 (og 46 (.ixaA 3 1 (.t 45) (.t 44)) 43 true false, []),
 (og 47 (.ld false 1 (.t 46)) 43 true false, []),
 (og 48 (.mv (.t 7)) 43 true false, [5, 6, 7, 8]),
 (og 49 (.fa 18 (.t 2)) 43 true false, [5, 6, 7, 8, 9]),
 (og 50 (.ixaA 3 1 (.t 49) (.t 48)) 43 true false, [5, 6, 7, 8]),
 (og 51 (.ld false 1 (.t 50)) 43 true false, [5, 6, 7, 8]),
 (og 52 (.lenV (.t 51)) 43 true false, [5, 6, 7, 8]),
 (og 53 (.bin .lss (.t 47) (.t 52)) 43 true false, []),
 (ot 54 (.pick (.t 43) (.t 53) (.c (.b false))), [])]
abbrev i20r5 : List IOper := [
 oo 55 (.mv (.t 7)),
 oo 56 (.fa 21 (.t 2)),
 oo 57 (.ixaA 3 1 (.t 56) (.t 55)),
 oo 58 (.ld false 1 (.t 57)),
 oo 59 (.bin .add (.t 58) (.c (.i .i64 1))),
 oo 60 (.fa 21 (.t 2)),
 oo 61 (.ixaA 3 1 (.t 60) (.t 55)),
 on_ (.st 1 (.t 61) (.t 59))]
abbrev i20r6 : List (IOper × List Nat) := [
 (oo 62 (.ld true 24 (.t 2)), []),
 (oo 63 (.mv (.t 7)), [0]),
 (oo 64 (.fa 18 (.t 2)), [0, 1]),
 (oo 65 (.ixaA 3 1 (.t 64) (.t 63)), [0]),
 (oo 66 (.ld false 1 (.t 65)), [0]),
 (oo 67 (.mv (.t 7)), [0, 1, 2, 3, 4]),
 (oo 68 (.fa 21 (.t 2)), [0, 1, 2, 3, 4, 5]),
 (oo 69 (.ixaA 3 1 (.t 68) (.t 67)), [0, 1, 2, 3, 4]),
 (oo 70 (.ld false 1 (.t 69)), [0, 1, 2, 3, 4]),
 (oo 71 (.bin .sub (.t 70) (.c (.i .i64 1))), [0, 1, 2, 3, 4]),
 (oo 72 (.ixaV 9 (.t 66) (.t 71)), [0]),
 (oo 73 (.ld true 9 (.t 72)), [0]),
 (on_ (.st 24 (.t 4) (.t 62)), [1, 2, 3, 4, 5, 6, 7, 8, 9, 10, 11]),
 (on_ (.st 9 (.t 5) (.t 73)), []),
 (oo 6 (.mv (.c (.b true))), [])]
abbrev i20r7 : List IOper := [
 oo 74 (.ld true 24 (.t 2)),
 oo 75 (.build [.b false, .i .i64 0, .i .i64 0, .i .i64 0, .i .i64 0, .ns, .ns, .i .i64 0, .s []] []),
 on_ (.st 24 (.t 4) (.t 74)),
 on_ (.st 9 (.t 5) (.t 75)),
 oo 6 (.mv (.c (.b false)))]
abbrev i20c : ICode := (.seq (.reg i20r0) (.seq (.reg i20r1) (.seq (.seq (.reg i20r2) (.cond (.t 23) (.seq (.dreg i20r3) .ret) .skip)) (.seq (.seq (.dreg i20r4) (.cond (.t 54) (.seq (.reg i20r5) (.seq (.dreg i20r6) .ret)) .skip)) (.seq (.reg i20r7) .ret)))))
def i20 : IFn := { np := 2, N := 76, ct := [23, 54], code := i20c, res := [.c 4 true 24, .c 5 true 9, .t 6] }
theorem i20_eq : compF Try.prog Try.f20 = some i20 := by kernel_rfl
abbrev i22r0 : List IOper := [
 oo 2 (.box (.t 0)),
 oo 3 (.box (.t 1)),
 oo 4 (.new [.ns, .i .i64 0, .i .i64 0, .i .i64 0, .i .i64 0, .i .i64 0, .i .i64 0, .i .i64 0, .i .i64 0, .b false, .i .i64 0, .i .i64 0, .i .i64 0, .i .i64 0, .i .i64 0, .i .i64 0, .i .i64 0, .i .i64 0]),
 oo 5 (.mv (.c (.ns))),
 oo 6 (.mv (.c (.i .i64 0)))]
abbrev i22r1 : List IOper := [
 oo 14 (.ld true 18 (.t 2)),
 oo 15 (.call (.c (.fn 12 [])) [.t 14]),
 oo 7 (.mv (.t 15))]
abbrev i22r2 : List IOper := [
 oo 16 (.mv (.t 7)),
 ot 17 (.bin .neq (.t 16) (.c (.i .i64 0)))]
abbrev i22r3 : List IOper := [
 oo 18 (.build [.ns, .i .i64 0, .i .i64 0, .i .i64 0, .i .i64 0, .i .i64 0, .i .i64 0, .i .i64 0, .i .i64 0, .b false, .i .i64 0, .i .i64 0, .i .i64 0, .i .i64 0, .i .i64 0, .i .i64 0, .i .i64 0, .i .i64 0] []),
 oo 19 (.mv (.t 7)),
 on_ (.st 18 (.t 4) (.t 18)),
 oo 5 (.mv (.c (.ns))),
 oo 6 (.mv (.t 19))]
abbrev i22r4 : List IOper := [
 oo 20 (.ld true 9 (.t 3)),
 oo 21 (.call (.c (.fn 57 [])) [.t 20]),
 oo 8 (.mv (.t 21))]
abbrev i22r5 : List IOper := [
 oo 22 (.mv (.t 8)),
 ot 23 (.bin .neq (.t 22) (.c (.i .i64 0)))]
abbrev i22r6 : List IOper := [
 oo 24 (.build [.ns, .i .i64 0, .i .i64 0, .i .i64 0, .i .i64 0, .i .i64 0, .i .i64 0, .i .i64 0, .i .i64 0, .b false, .i .i64 0, .i .i64 0, .i .i64 0, .i .i64 0, .i .i64 0, .i .i64 0, .i .i64 0, .i .i64 0] []),
 oo 25 (.mv (.t 8)),
 on_ (.st 18 (.t 4) (.t 24)),
 oo 5 (.mv (.c (.ns))),
 oo 6 (.mv (.t 25))]
abbrev i22r7 : List IOper := [
 oo 26 (.fa 0 (.t 2)),
 oo 27 (.ld false 1 (.t 26)),
 oo 28 (.fa 4 (.t 3)),
 oo 29 (.ld false 1 (.t 28)),
 oo 30 (.call (.c (.fn 58 [])) [.t 27, .t 29]),
 oo 9 (.mv (.t 30))]
abbrev i22r8 : List IOper := [
 oo 31 (.mv (.t 9)),
 ot 32 (.bin .lss (.t 31) (.c (.i .i64 0)))]
abbrev i22r9 : List IOper := [
 oo 33 (.build [.ns, .i .i64 0, .i .i64 0, .i .i64 0, .i .i64 0, .i .i64 0, .i .i64 0, .i .i64 0, .i .i64 0, .b false, .i .i64 0, .i .i64 0, .i .i64 0, .i .i64 0, .i .i64 0, .i .i64 0, .i .i64 0, .i .i64 0] []),
 on_ (.st 18 (.t 4) (.t 33)),
 oo 5 (.mv (.c (.ns))),
 oo 6 (.mv (.c (.i .i64 4)))]
abbrev i22r10 : List IOper := [
 oo 35 (.fa 8 (.t 3)),
 oo 36 (.ld false 1 (.t 35)),
 oo 37 (.call (.c (.fn 46 [])) [.t 36]),
 oo 34 (.mv (.t 37)),
 oo 38 (.ext (.t 34) 0),
 oo 39 (.ext (.t 34) 1),
 oo 40 (.ext (.t 34) 2),
 oo 10 (.new [.b false, .b false, .b false, .b false, .i .i64 0, .i .i64 0, .i .i64 0, .i .i64 0]),
 on_ (.st 8 (.t 10) (.t 38)),
 oo 11 (.mv (.t 39)),
 oo 12 (.mv (.t 40))]
abbrev i22r11 : List IOper := [
 oo 41 (.mv (.t 12)),
 ot 42 (.bin .neq (.t 41) (.c (.i .i64 0)))]
abbrev i22r12 : List IOper := [
 oo 43 (.build [.ns, .i .i64 0, .i .i64 0, .i .i64 0, .i .i64 0, .i .i64 0, .i .i64 0, .i .i64 0, .i .i64 0, .b false, .i .i64 0, .i .i64 0, .i .i64 0, .i .i64 0, .i .i64 0, .i .i64 0, .i .i64 0, .i .i64 0] []),
 oo 44 (.mv (.t 12)),
 on_ (.st 18 (.t 4) (.t 43)),
 oo 5 (.mv (.c (.ns))),
 oo 6 (.mv (.t 44))]
abbrev i22r13 : List IOper := [
 oo 45 (.fa 0 (.t 2)),
 oo 46 (.ld false 1 (.t 45)),
 oo 47 (.call (.c (.fn 53 [])) [.t 46]),
 oo 48 (.fa 0 (.t 2)),
 on_ (.st 1 (.t 48) (.t 47))]
abbrev i22r14 : List IOper := [
 oo 49 (.ld true 18 (.t 2)),
 oo 50 (.mv (.t 9)),
 oo 51 (.ld true 9 (.t 3)),
 oo 52 (.ld true 8 (.t 10)),
 oo 53 (.build [.ns, .i .i64 0, .i .i64 0, .i .i64 0, .i .i64 0, .i .i64 0, .i .i64 0, .i .i64 0, .i .i64 0, .b false, .i .i64 0, .i .i64 0, .i .i64 0, .i .i64 0, .i .i64 0, .i .i64 0, .i .i64 0, .i .i64 0, .i .i64 0, .b false, .i .i64 0, .i .i64 0, .i .i64 0, .i .i64 0, .ns, .ns, .i .i64 0, .s [], .b false, .b false, .b false, .b false, .i .i64 0, .i .i64 0, .i .i64 0, .i .i64 0, .ns] [(0, 18, .t 49), (18, 1, .t 50), (19, 9, .t 51), (28, 8, .t 52)]),
 oo 54 (.box (.t 53)),
 oo 13 (.mv (.t 54))]
abbrev i22r15 : List IOper := [
 oo 55 (.mv (.t 13)),
 oo 56 (.call (.c (.fn 59 [])) [.t 55])]
abbrev i22r16 : List (IOper × List Nat) := [
 (oo 57 (.mv (.t 13)), []),
 (oo 58 (.nck (.t 57)), []),
 (oo 59 (.fa 0 (.t 58)), []),
 (oo 60 (.ld true 18 (.t 59)), []),
 (oo 61 (.mv (.t 13)), [0, 1, 2, 3]),
 (oo 62 (.nck (.t 61)), [0, 1, 2, 3]),
 (oo 63 (.fa 36 (.t 62)), [0, 1, 2, 3]),
 (oo 64 (.ld false 1 (.t 63)), [0, 1, 2, 3]),
 (on_ (.st 18 (.t 4) (.t 60)), [4, 5, 6, 7]),
 (oo 5 (.mv (.t 64)), []),
 (oo 6 (.mv (.c (.i .i64 0))), [])]
abbrev i22c : ICode := (.seq (.reg i22r0) (.seq (.seq (.reg i22r1) (.seq (.reg i22r2) (.cond (.t 17) (.seq (.reg i22r3) .ret) .skip))) (.seq (.seq (.reg i22r4) (.seq (.reg i22r5) (.cond (.t 23) (.seq (.reg i22r6) .ret) .skip))) (.seq (.reg i22r7) (.seq (.seq (.reg i22r8) (.cond (.t 32) (.seq (.reg i22r9) .ret) .skip)) (.seq (.reg i22r10) (.seq (.seq (.reg i22r11) (.cond (.t 42) (.seq (.reg i22r12) .ret) .skip)) (.seq (.reg i22r13) (.seq (.reg i22r14) (.seq (.reg i22r15) (.seq (.dreg i22r16) .ret)))))))))))
def i22 : IFn := { np := 2, N := 65, ct := [17, 23, 32, 42], code := i22c, res := [.c 4 true 18, .t 5, .t 6] }
theorem i22_eq : compF Try.prog Try.f22 = some i22 := by kernel_rfl
abbrev i25r0 : List IOper := [
 oo 1 (.box (.t 0)),
 oo 2 (.mv (.c (.i .i64 0))),
 oo 3 (.mv (.c (.i .i64 0)))]
abbrev i25r1 : List (IOper × List Nat) := [
 (oo 4 (.fa 2 (.t 1)), []),
 (oo 5 (.ld false 1 (.t 4)), []),
 (oo 6 (.bin .rem (.t 5) (.c (.i .u8 4))), []),
 (oo 7 (.i2i .i64 (.t 6)), []),
 (oo 8 (.bin .sub (.t 7) (.c (.i .i64 1))), []),
 (oo 9 (.fa 3 (.t 1)), [0, 1, 2, 3, 4]),
 (oo 10 (.ld false 1 (.t 9)), [0, 1, 2, 3, 4]),
 (oo 11 (.bin .rem (.t 10) (.c (.i .u8 4))), [0, 1, 2, 3, 4]),
 (oo 12 (.i2i .i64 (.t 11)), [0, 1, 2, 3, 4]),
 (oo 2 (.mv (.t 8)), [5, 6, 7, 8]),
 (oo 3 (.mv (.t 12)), [])]
abbrev i25c : ICode := (.seq (.reg i25r0) (.seq (.dreg i25r1) .ret))
def i25 : IFn := { np := 1, N := 13, ct := [], code := i25c, res := [.t 2, .t 3] }
theorem i25_eq : compF Try.prog Try.f25 = some i25 := by kernel_rfl
abbrev i26r0 : List IOper := [
 oo 0 (.mv (.c (.ns)))]
abbrev i26r1 : List IOper := [
 oo 1 (.bsl [.i .i64 0, .i .i64 0, .i .i64 0] 3 [(0, 1, .c (.i .i64 10)), (1, 1, .c (.i .i64 20)), (2, 1, .c (.i .i64 30))]),
 oo 0 (.mv (.t 1))]
abbrev i26c : ICode := (.seq (.reg i26r0) (.seq (.reg i26r1) .ret))
def i26 : IFn := { np := 0, N := 2, ct := [], code := i26c, res := [.t 0] }
theorem i26_eq : compF Try.prog Try.f26 = some i26 := by kernel_rfl
abbrev i27r0 : List IOper := [
 oo 7 (.box (.t 3)),
 oo 8 (.new [.b false, .i .i64 0, .i .i64 0, .i .i64 0, .i .i64 0, .ns, .ns, .i .i64 0, .s []])]
abbrev i27r1 : List IOper := [
 oo 11 (.fa 0 (.t 7)),
 on_ (.st 1 (.t 11) (.c (.b true))),
 oo 12 (.fa 3 (.t 7)),
 on_ (.st 1 (.t 12) (.c (.b true)))]
abbrev i27r2 : List IOper := [
 oo 14 (.ld true 8 (.t 7)),
 oo 15 (.call (.c (.fn 65 [])) [.t 14]),
 oo 13 (.mv (.t 15)),
 oo 16 (.ext (.t 13) 0),
 oo 17 (.ext (.t 13) 1),
 oo 9 (.mv (.t 16)),
 oo 10 (.mv (.t 17))]
abbrev i27r3 : List IOper := [
 oo 18 (.mv (.t 1)),
 oo 19 (.mv (.t 2)),
 oo 20 (.mv (.t 0)),
 oo 21 (.mv (.t 9)),
 oo 22 (.bin .add (.t 21) (.c (.s [97]))),
 oo 23 (.build [.b false, .i .i64 0, .i .i64 0, .i .i64 0, .i .i64 0, .ns, .ns, .i .i64 0, .s []] [(1, 1, .c (.i .i64 96)), (2, 1, .t 18), (3, 1, .t 19), (4, 1, .t 20), (8, 1, .t 22)]),
 on_ (.st 9 (.t 8) (.t 23))]
abbrev i27c : ICode := (.seq (.reg i27r0) (.seq (.reg i27r1) (.seq (.reg i27r2) (.seq (.reg i27r3) .ret))))
def i27 : IFn := { np := 4, N := 24, ct := [], code := i27c, res := [.c 8 true 9] }
theorem i27_eq : compF Try.prog Try.f27 = some i27 := by kernel_rfl
abbrev i28r0 : List IOper := [
 oo 2 (.box (.t 0)),
 oo 3 (.box (.t 1)),
 oo 4 (.new [.ns, .i .i64 0, .i .i64 0, .i .i64 0, .i .i64 0, .i .i64 0, .i .i64 0, .i .i64 0, .i .i64 0, .b false, .i .i64 0, .i .i64 0, .i .i64 0, .i .i64 0, .i .i64 0, .i .i64 0, .i .i64 0, .i .i64 0]),
 oo 5 (.new [.b false, .i .i64 0, .i .i64 0, .i .i64 0, .i .i64 0, .ns, .ns, .i .i64 0, .s []]),
 oo 6 (.mv (.c (.b false)))]
abbrev i28r1 : List IOper := [
 oo 11 (.ld true 18 (.t 2)),
 oo 12 (.ld true 9 (.t 3)),
 oo 13 (.call (.c (.fn 22 [])) [.t 11, .t 12]),
 oo 10 (.mv (.t 13)),
 oo 14 (.ext (.t 10) 0),
 oo 15 (.ext (.t 10) 1),
 oo 16 (.ext (.t 10) 2),
 oo 7 (.new [.ns, .i .i64 0, .i .i64 0, .i .i64 0, .i .i64 0, .i .i64 0, .i .i64 0, .i .i64 0, .i .i64 0, .b false, .i .i64 0, .i .i64 0, .i .i64 0, .i .i64 0, .i .i64 0, .i .i64 0, .i .i64 0, .i .i64 0]),
 on_ (.st 18 (.t 7) (.t 14)),
 oo 8 (.mv (.t 15)),
 oo 9 (.mv (.t 16))]
abbrev i28r2 : List IOper := [
 oo 17 (.mv (.t 9)),
 oo 18 (.bin .neq (.t 17) (.c (.i .i64 0))),
 ot 19 (.mv (.t 18)),
 og 20 (.mv (.t 8)) 19 false false,
 og 21 (.lenV (.t 20)) 19 false false,
 og 22 (.bin .gtr (.t 21) (.c (.i .i64 1))) 19 false false,
 ot 23 (.pick (.t 19) (.c (.b true)) (.t 22))]
abbrev i28r3 : List IOper := [
 oo 24 (.ld true 18 (.t 7)),
 oo 25 (.build [.b false, .i .i64 0, .i .i64 0, .i .i64 0, .i .i64 0, .ns, .ns, .i .i64 0, .s []] []),
 on_ (.st 18 (.t 4) (.t 24)),
 on_ (.st 9 (.t 5) (.t 25)),
 oo 6 (.mv (.c (.b false)))]
abbrev i28r4 : List IOper := [
 oo 26 (.mv (.t 8)),
 oo 27 (.lenV (.t 26)),
 ot 28 (.bin .eql (.t 27) (.c (.i .i64 0)))]
abbrev i28r5 : List IOper := [
 oo 29 (.ld true 18 (.t 7)),
 oo 30 (.build [.b false, .i .i64 0, .i .i64 0, .i .i64 0, .i .i64 0, .ns, .ns, .i .i64 0, .s []] []),
 on_ (.st 18 (.t 4) (.t 29)),
 on_ (.st 9 (.t 5) (.t 30)),
 oo 6 (.mv (.c (.b true)))]
abbrev i28r6 : List (IOper × List Nat) := [
 (oo 31 (.ld true 18 (.t 7)), []),
 (oo 32 (.mv (.t 8)), [0]),
 (oo 33 (.ixaV 9 (.t 32) (.c (.i .i64 0))), [0]),
 (oo 34 (.ld true 9 (.t 33)), [0]),
 (on_ (.st 18 (.t 4) (.t 31)), [1, 2, 3]),
 (on_ (.st 9 (.t 5) (.t 34)), []),
 (oo 6 (.mv (.c (.b true))), [])]
abbrev i28c : ICode := (.seq (.reg i28r0) (.seq (.reg i28r1) (.seq (.seq (.reg i28r2) (.cond (.t 23) (.seq (.reg i28r3) .ret) .skip)) (.seq (.seq (.reg i28r4) (.cond (.t 28) (.seq (.reg i28r5) .ret) .skip)) (.seq (.dreg i28r6) .ret)))))
def i28 : IFn := { np := 2, N := 35, ct := [23, 28], code := i28c, res := [.c 4 true 18, .c 5 true 9, .t 6] }
theorem i28_eq : compF Try.prog Try.f28 = some i28 := by kernel_rfl
abbrev i29r0 : List IOper := [
 oo 5 (.box (.t 0)),
 oo 10 (.mv (.c (.b false)))]
abbrev i29r1 : List IOper := [
 oo 15 (.fa 8 (.t 5)),
 oo 16 (.ld false 1 (.t 15)),
 oo 17 (.call (.c (.fn 46 [])) [.t 16]),
 oo 14 (.mv (.t 17)),
 oo 18 (.ext (.t 14) 0),
 oo 19 (.ext (.t 14) 1),
 oo 20 (.ext (.t 14) 2),
 oo 11 (.new [.b false, .b false, .b false, .b false, .i .i64 0, .i .i64 0, .i .i64 0, .i .i64 0]),
 on_ (.st 8 (.t 11) (.t 18)),
 oo 12 (.mv (.t 19)),
 oo 13 (.mv (.t 20))]
abbrev i29r2 : List IOper := [
 oo 21 (.mv (.t 13)),
 oo 22 (.bin .eql (.t 21) (.c (.i .i64 0))),
 ot 23 (.mv (.t 22)),
 og 24 (.mv (.t 12)) 23 true false,
 og 25 (.bin .eql (.t 24) (.c (.s [97]))) 23 true false,
 oo 26 (.pick (.t 23) (.t 25) (.c (.b false))),
 ot 27 (.mv (.t 26)),
 og 28 (.fa 4 (.t 5)) 27 true false,
 og 29 (.ld false 1 (.t 28)) 27 true false,
 og 30 (.bin .eql (.t 29) (.c (.i .i64 5))) 27 true false,
 oo 31 (.pick (.t 27) (.t 30) (.c (.b false))),
 ot 32 (.mv (.t 31)),
 og 33 (.fa 2 (.t 5)) 32 true false,
 og 34 (.ld false 1 (.t 33)) 32 true false,
 og 35 (.mv (.t 1)) 32 true false,
 og 36 (.bin .eql (.t 34) (.t 35)) 32 true false,
 oo 37 (.pick (.t 32) (.t 36) (.c (.b false))),
 ot 38 (.mv (.t 37)),
 og 39 (.fa 3 (.t 5)) 38 true false,
 og 40 (.ld false 1 (.t 39)) 38 true false,
 og 41 (.mv (.t 2)) 38 true false,
 og 42 (.bin .eql (.t 40) (.t 41)) 38 true false,
 oo 43 (.pick (.t 38) (.t 42) (.c (.b false))),
 ot 44 (.mv (.t 43)),
 og 45 (.fa 4 (.t 11)) 44 true false,
 og 46 (.ld false 1 (.t 45)) 44 true false,
 og 47 (.mv (.t 3)) 44 true false,
 og 48 (.bin .eql (.t 46) (.t 47)) 44 true false,
 oo 49 (.pick (.t 44) (.t 48) (.c (.b false))),
 ot 50 (.mv (.t 49)),
 og 51 (.fa 5 (.t 11)) 50 true false,
 og 52 (.ld false 1 (.t 51)) 50 true false,
 og 53 (.mv (.t 4)) 50 true false,
 og 54 (.bin .eql (.t 52) (.t 53)) 50 true false,
 oo 55 (.pick (.t 50) (.t 54) (.c (.b false))),
 oo 10 (.mv (.t 55))]
abbrev i29c : ICode := (.seq (.reg i29r0) (.seq (.reg i29r1) (.seq (.reg i29r2) .ret)))
def i29 : IFn := { np := 5, N := 56, ct := [], code := i29c, res := [.t 10] }
theorem i29_eq : compF Try.prog Try.f29 = some i29 := by kernel_rfl
abbrev i45r0 : List IOper := [
 oo 1 (.box (.t 0)),
 oo 2 (.new [.ns, .i .i64 0, .i .i64 0, .i .i64 0, .i .i64 0, .i .i64 0, .i .i64 0, .i .i64 0, .i .i64 0, .b false, .i .i64 0, .i .i64 0, .i .i64 0, .i .i64 0, .i .i64 0, .i .i64 0, .i .i64 0, .i .i64 0, .ns, .ns, .ns, .i .i64 0, .i .i64 0, .i .i64 0])]
abbrev i45r1 : List IOper := [
 oo 5 (.ld true 21 (.t 1)),
 oo 6 (.call (.c (.fn 66 [])) [.t 5]),
 oo 7 (.build [.ns, .i .i64 0, .i .i64 0, .i .i64 0, .i .i64 0, .i .i64 0, .i .i64 0, .i .i64 0, .i .i64 0, .b false, .i .i64 0, .i .i64 0, .i .i64 0, .i .i64 0, .i .i64 0, .i .i64 0, .i .i64 0, .i .i64 0, .ns, .ns, .ns, .i .i64 0, .i .i64 0, .i .i64 0] [(0, 18, .t 6)]),
 oo 3 (.new [.ns, .i .i64 0, .i .i64 0, .i .i64 0, .i .i64 0, .i .i64 0, .i .i64 0, .i .i64 0, .i .i64 0, .b false, .i .i64 0, .i .i64 0, .i .i64 0, .i .i64 0, .i .i64 0, .i .i64 0, .i .i64 0, .i .i64 0, .ns, .ns, .ns, .i .i64 0, .i .i64 0, .i .i64 0]),
 on_ (.st 24 (.t 3) (.t 7))]
abbrev i45r2 : List IOper := [
 oo 4 (.mv (.c (.i .i64 0)))]
abbrev i45r3 : List IOper := [
 oo 8 (.mv (.t 4)),
 ot 9 (.bin .lss (.t 8) (.c (.i .i64 3)))]
abbrev i45r4 : List (IOper × List Nat) := [
 (oo 12 (.mv (.t 4)), []),
 (oo 13 (.mv (.t 4)), [0]),
 (oo 14 (.fa 0 (.t 1)), [0, 1]),
 (oo 15 (.ixaA 3 5 (.t 14) (.t 13)), [0]),
 (oo 16 (.ld true 5 (.t 15)), [0]),
 (oo 17 (.call (.c (.fn 26 [])) []), [0, 1, 2, 3, 4]),
 (oo 18 (.mv (.t 4)), [0, 1, 2, 3, 4, 5]),
 (oo 19 (.ixaV 1 (.t 17) (.t 18)), [0, 1, 2, 3, 4]),
 (oo 20 (.ld false 1 (.t 19)), [0, 1, 2, 3, 4]),
 (oo 21 (.call (.c (.fn 67 [])) [.t 16, .t 20]), [0]),
 (oo 22 (.fa 18 (.t 3)), [0, 1, 2, 3, 4, 5, 6, 7, 8, 9]),
 (oo 23 (.ixaA 3 1 (.t 22) (.t 12)), []),
 (on_ (.st 1 (.t 23) (.t 21)), [])]
abbrev i45r5 : List IOper := [
 oo 10 (.mv (.t 4)),
 oo 11 (.bin .add (.t 10) (.c (.i .i64 1))),
 oo 4 (.mv (.t 11))]
abbrev i45l6 : ICode := (.seq (.seq (.reg i45r3) (.cond (.t 9) .skip (.exit 0))) (.seq (.block 1 (.dreg i45r4)) (.reg i45r5)))
abbrev i45r7 : List IOper := [
 oo 24 (.ld true 24 (.t 3)),
 on_ (.st 24 (.t 2) (.t 24))]
abbrev i45c : ICode := (.seq (.reg i45r0) (.seq (.reg i45r1) (.seq (.seq (.reg i45r2) (.block 0 (.loop i45l6))) (.seq (.reg i45r7) .ret))))
def i45 : IFn := { np := 1, N := 25, ct := [9], code := i45c, res := [.c 2 true 24] }
theorem i45_eq : compF Try.prog Try.f45 = some i45 := by kernel_rfl
abbrev i46r0 : List IOper := [
 oo 2 (.new [.b false, .b false, .b false, .b false, .i .i64 0, .i .i64 0, .i .i64 0, .i .i64 0]),
 oo 3 (.mv (.c (.s []))),
 oo 4 (.mv (.c (.i .i64 0)))]
abbrev i46r1 : List IOper := [
 oo 7 (.mv (.t 0)),
 oo 8 (.lenS (.t 7)),
 ot 9 (.bin .lss (.t 8) (.c (.i .i64 5)))]
abbrev i46r2 : List IOper := [
 oo 10 (.build [.b false, .b false, .b false, .b false, .i .i64 0, .i .i64 0, .i .i64 0, .i .i64 0] []),
 on_ (.st 8 (.t 2) (.t 10)),
 oo 3 (.mv (.c (.s []))),
 oo 4 (.mv (.c (.i .i64 7)))]
abbrev i46r3 : List (IOper × List Nat) := [
 (oo 11 (.mv (.t 0)), []),
 (oo 12 (.ixS (.t 11) (.c (.i .i64 0))), []),
 (oo 13 (.mv (.t 0)), [0, 1]),
 (oo 14 (.ixS (.t 13) (.c (.i .i64 4))), [0, 1]),
 (oo 5 (.mv (.t 12)), [2, 3]),
 (oo 6 (.mv (.t 14)), [])]
abbrev i46r4 : List (IOper × List Nat) := [
 (oo 15 (.mv (.t 5)), []),
 (oo 16 (.bin .and (.t 15) (.c (.i .u8 64))), []),
 (oo 17 (.bin .neq (.t 16) (.c (.i .u8 0))), []),
 (oo 18 (.mv (.t 5)), [0, 1, 2]),
 (oo 19 (.bin .and (.t 18) (.c (.i .u8 32))), [0, 1, 2]),
 (oo 20 (.bin .neq (.t 19) (.c (.i .u8 0))), [0, 1, 2]),
 (oo 21 (.mv (.t 5)), [0, 1, 2, 3, 4, 5]),
 (oo 22 (.bin .and (.t 21) (.c (.i .u8 16))), [0, 1, 2, 3, 4, 5]),
 (oo 23 (.bin .neq (.t 22) (.c (.i .u8 0))), [0, 1, 2, 3, 4, 5]),
 (oo 24 (.mv (.t 5)), [0, 1, 2, 3, 4, 5, 6, 7, 8]),
 (oo 25 (.bin .and (.t 24) (.c (.i .u8 8))), [0, 1, 2, 3, 4, 5, 6, 7, 8]),
 (oo 26 (.bin .neq (.t 25) (.c (.i .u8 0))), [0, 1, 2, 3, 4, 5, 6, 7, 8]),
 (oo 27 (.mv (.t 0)), [0, 1, 2, 3, 4, 5, 6, 7, 8, 9, 10, 11]),
 (oo 28 (.ixS (.t 27) (.c (.i .i64 1))), [0, 1, 2, 3, 4, 5, 6, 7, 8, 9, 10, 11]),
 (oo 29 (.bin .and (.t 28) (.c (.i .u8 127))), [0, 1, 2, 3, 4, 5, 6, 7, 8, 9, 10, 11]),
 (oo 30 (.i2i .i64 (.t 29)), [0, 1, 2, 3, 4, 5, 6, 7, 8, 9, 10, 11]),
 (oo 31 (.bin .shl (.t 30) (.c (.i .u64 8))), [0, 1, 2, 3, 4, 5, 6, 7, 8, 9, 10, 11]),
 (oo 32 (.mv (.t 0)), [0, 1, 2, 3, 4, 5, 6, 7, 8, 9, 10, 11, 12, 13, 14, 15, 16]),
 (oo 33 (.ixS (.t 32) (.c (.i .i64 2))), [0, 1, 2, 3, 4, 5, 6, 7, 8, 9, 10, 11, 12, 13, 14, 15, 16]),
 (oo 34 (.i2i .i64 (.t 33)), [0, 1, 2, 3, 4, 5, 6, 7, 8, 9, 10, 11, 12, 13, 14, 15, 16]),
 (oo 35 (.bin .or (.t 31) (.t 34)), [0, 1, 2, 3, 4, 5, 6, 7, 8, 9, 10, 11]),
 (oo 36 (.mv (.t 0)), [0, 1, 2, 3, 4, 5, 6, 7, 8, 9, 10, 11, 12, 13, 14, 15, 16, 17, 18, 19, 20]),
 (oo 37 (.ixS (.t 36) (.c (.i .i64 3))), [0, 1, 2, 3, 4, 5, 6, 7, 8, 9, 10, 11, 12, 13, 14, 15, 16, 17, 18, 19, 20]),
 (oo 38 (.i2i .i64 (.t 37)), [0, 1, 2, 3, 4, 5, 6, 7, 8, 9, 10, 11, 12, 13, 14, 15, 16, 17, 18, 19, 20]),
 (oo 39 (.mv (.t 6)), [0, 1, 2, 3, 4, 5, 6, 7, 8, 9, 10, 11, 12, 13, 14, 15, 16, 17, 18, 19, 20, 21, 22, 23]),
 (oo 40 (.bin .shr (.t 39) (.c (.i .u64 6))), [0, 1, 2, 3, 4, 5, 6, 7, 8, 9, 10, 11, 12, 13, 14, 15, 16, 17, 18, 19, 20, 21, 22, 23]),
 (oo 41 (.i2i .i64 (.t 40)), [0, 1, 2, 3, 4, 5, 6, 7, 8, 9, 10, 11, 12, 13, 14, 15, 16, 17, 18, 19, 20, 21, 22, 23]),
 (oo 42 (.mv (.t 6)), [0, 1, 2, 3, 4, 5, 6, 7, 8, 9, 10, 11, 12, 13, 14, 15, 16, 17, 18, 19, 20, 21, 22, 23, 24, 25, 26]),
 (oo 43 (.bin .shr (.t 42) (.c (.i .u64 4))), [0, 1, 2, 3, 4, 5, 6, 7, 8, 9, 10, 11, 12, 13, 14, 15, 16, 17, 18, 19, 20, 21, 22, 23, 24, 25, 26]),
 (oo 44 (.bin .and (.t 43) (.c (.i .u8 3))), [0, 1, 2, 3, 4, 5, 6, 7, 8, 9, 10, 11, 12, 13, 14, 15, 16, 17, 18, 19, 20, 21, 22, 23, 24, 25, 26]),
 (oo 45 (.i2i .i64 (.t 44)), [0, 1, 2, 3, 4, 5, 6, 7, 8, 9, 10, 11, 12, 13, 14, 15, 16, 17, 18, 19, 20, 21, 22, 23, 24, 25, 26]),
 (oo 46 (.build [.b false, .b false, .b false, .b false, .i .i64 0, .i .i64 0, .i .i64 0, .i .i64 0] [(0, 1, .t 17), (1, 1, .t 20), (2, 1, .t 23), (3, 1, .t 26), (4, 1, .t 35), (5, 1, .t 38), (6, 1, .t 41), (7, 1, .t 45)]), []),
 (on_ (.st 8 (.t 2) (.t 46)), [])]
abbrev i46r5 : List IOper := [
 oo 47 (.mv (.t 5)),
 oo 48 (.bin .and (.t 47) (.c (.i .u8 135))),
 oo 49 (.bin .neq (.t 48) (.c (.i .u8 128))),
 ot 50 (.mv (.t 49)),
 og 51 (.mv (.t 0)) 50 false false,
 og 52 (.ixS (.t 51) (.c (.i .i64 1))) 50 false false,
 og 53 (.bin .lss (.t 52) (.c (.i .u8 128))) 50 false false,
 oo 54 (.pick (.t 50) (.c (.b true)) (.t 53)),
 ot 55 (.mv (.t 54)),
 og 56 (.mv (.t 6)) 55 false false,
 og 57 (.bin .and (.t 56) (.c (.i .u8 15))) 55 false false,
 og 58 (.bin .neq (.t 57) (.c (.i .u8 0))) 55 false false,
 oo 59 (.pick (.t 55) (.c (.b true)) (.t 58)),
 ot 60 (.mv (.t 59)),
 og 61 (.ld true 8 (.t 2)) 60 false false,
 og 62 (.call (.c (.fn 68 [])) [.t 61]) 60 false false,
 og 63 (.bin .neq (.t 62) (.c (.i .i64 0))) 60 false false,
 ot 64 (.pick (.t 60) (.c (.b true)) (.t 63))]
abbrev i46r6 : List IOper := [
 oo 65 (.build [.b false, .b false, .b false, .b false, .i .i64 0, .i .i64 0, .i .i64 0, .i .i64 0] []),
 on_ (.st 8 (.t 2) (.t 65)),
 oo 3 (.mv (.c (.s []))),
 oo 4 (.mv (.c (.i .i64 5)))]
abbrev i46r7 : List (IOper × List Nat) := [
 (oo 66 (.ld true 8 (.t 2)), []),
 (oo 67 (.mv (.t 0)), [0]),
 (oo 68 (.slS (.t 67) (some (.c (.i .i64 5))) none), [0]),
 (on_ (.st 8 (.t 2) (.t 66)), [1, 2]),
 (oo 3 (.mv (.t 68)), []),
 (oo 4 (.mv (.c (.i .i64 0))), [])]
abbrev i46c : ICode := (.seq (.reg i46r0) (.seq (.seq (.reg i46r1) (.cond (.t 9) (.seq (.reg i46r2) .ret) .skip)) (.seq (.dreg i46r3) (.seq (.dreg i46r4) (.seq (.seq (.reg i46r5) (.cond (.t 64) (.seq (.reg i46r6) .ret) .skip)) (.seq (.dreg i46r7) .ret))))))
def i46 : IFn := { np := 1, N := 69, ct := [9, 64], code := i46c, res := [.c 2 true 8, .t 3, .t 4] }
theorem i46_eq : compF Try.prog Try.f46 = some i46 := by kernel_rfl
abbrev i47r0 : List IOper := [
 oo 2 (.box (.t 0)),
 oo 3 (.box (.t 1)),
 oo 4 (.new [.b false, .i .i64 0, .i .i64 0, .i .i64 0, .b false, .i .i64 0, .i .i64 0, .i .i64 0, .b false, .i .i64 0, .i .i64 0, .i .i64 0]),
 oo 5 (.mv (.c (.b false))),
 oo 6 (.mv (.c (.i .i64 0)))]
abbrev i47r1 : List IOper := [
 oo 10 (.ld true 12 (.t 2)),
 oo 11 (.call (.c (.fn 69 [])) [.t 10]),
 oo 7 (.mv (.t 11))]
abbrev i47r2 : List IOper := [
 oo 12 (.mv (.t 7)),
 ot 13 (.bin .neq (.t 12) (.c (.i .i64 0)))]
abbrev i47r3 : List IOper := [
 oo 14 (.build [.b false, .i .i64 0, .i .i64 0, .i .i64 0, .b false, .i .i64 0, .i .i64 0, .i .i64 0, .b false, .i .i64 0, .i .i64 0, .i .i64 0] []),
 oo 15 (.mv (.t 7)),
 on_ (.st 12 (.t 4) (.t 14)),
 oo 5 (.mv (.c (.b false))),
 oo 6 (.mv (.t 15))]
abbrev i47r4 : List IOper := [
 oo 16 (.ld true 8 (.t 3)),
 oo 17 (.call (.c (.fn 68 [])) [.t 16]),
 oo 8 (.mv (.t 17))]
abbrev i47r5 : List IOper := [
 oo 18 (.mv (.t 8)),
 ot 19 (.bin .neq (.t 18) (.c (.i .i64 0)))]
abbrev i47r6 : List IOper := [
 oo 20 (.build [.b false, .i .i64 0, .i .i64 0, .i .i64 0, .b false, .i .i64 0, .i .i64 0, .i .i64 0, .b false, .i .i64 0, .i .i64 0, .i .i64 0] []),
 oo 21 (.mv (.t 8)),
 on_ (.st 12 (.t 4) (.t 20)),
 oo 5 (.mv (.c (.b false))),
 oo 6 (.mv (.t 21))]
abbrev i47r7 : List IOper := [
 oo 22 (.ld true 12 (.t 2)),
 oo 23 (.ld true 8 (.t 3)),
 oo 24 (.build [.b false, .i .i64 0, .i .i64 0, .i .i64 0, .b false, .i .i64 0, .i .i64 0, .i .i64 0, .b false, .i .i64 0, .i .i64 0, .i .i64 0, .b false, .b false, .b false, .b false, .i .i64 0, .i .i64 0, .i .i64 0, .i .i64 0] [(0, 12, .t 22), (12, 8, .t 23)]),
 oo 25 (.box (.t 24)),
 oo 9 (.mv (.t 25))]
abbrev i47r8 : List IOper := [
 oo 26 (.mv (.t 9)),
 oo 27 (.call (.c (.fn 70 [])) [.t 26]),
 oo 5 (.mv (.t 27))]
abbrev i47r9 : List IOper := [
 oo 28 (.mv (.t 9)),
 oo 29 (.nck (.t 28)),
 oo 30 (.fa 0 (.t 29)),
 oo 31 (.ld true 12 (.t 30)),
 oo 32 (.mv (.t 5)),
 on_ (.st 12 (.t 4) (.t 31)),
 oo 5 (.mv (.t 32)),
 oo 6 (.mv (.c (.i .i64 0)))]
abbrev i47c : ICode := (.seq (.reg i47r0) (.seq (.seq (.reg i47r1) (.seq (.reg i47r2) (.cond (.t 13) (.seq (.reg i47r3) .ret) .skip))) (.seq (.seq (.reg i47r4) (.seq (.reg i47r5) (.cond (.t 19) (.seq (.reg i47r6) .ret) .skip))) (.seq (.reg i47r7) (.seq (.reg i47r8) (.seq (.reg i47r9) .ret))))))
def i47 : IFn := { np := 2, N := 33, ct := [13, 19], code := i47c, res := [.c 4 true 12, .t 5, .t 6] }
theorem i47_eq : compF Try.prog Try.f47 = some i47 := by kernel_rfl
abbrev i48r0 : List IOper := [
 oo 1 (.box (.t 0)),
 oo 2 (.mv (.c (.b false)))]
abbrev i48r1 : List IOper := [
 oo 6 (.fa 0 (.t 1)),
 oo 7 (.ld false 1 (.t 6)),
 oo 8 (.lenV (.t 7)),
 oo 3 (.mv (.t 8))]
abbrev i48r2 : List IOper := [
 oo 9 (.mv (.t 3)),
 oo 10 (.bin .lss (.t 9) (.c (.i .i64 1))),
 ot 11 (.mv (.t 10)),
 og 12 (.mv (.t 3)) 11 false false,
 og 13 (.bin .gtr (.t 12) (.c (.i .i64 3))) 11 false false,
 oo 14 (.pick (.t 11) (.c (.b true)) (.t 13)),
 ot 15 (.mv (.t 14)),
 og 16 (.fa 1 (.t 1)) 15 false false,
 og 17 (.ld false 1 (.t 16)) 15 false false,
 og 18 (.call (.c (.fn 54 [])) [.t 17, .c (.i .i64 4294967296)]) 15 false false,
 og 19 (.not (.t 18)) 15 false false,
 oo 20 (.pick (.t 15) (.c (.b true)) (.t 19)),
 ot 21 (.mv (.t 20)),
 og 22 (.fa 2 (.t 1)) 21 false false,
 og 23 (.ld false 1 (.t 22)) 21 false false,
 og 24 (.bin .lss (.t 23) (.c (.i .i64 1))) 21 false false,
 oo 25 (.pick (.t 21) (.c (.b true)) (.t 24)),
 ot 26 (.mv (.t 25)),
 og 27 (.fa 2 (.t 1)) 26 false false,
 og 28 (.ld false 1 (.t 27)) 26 false false,
 og 29 (.bin .gtr (.t 28) (.c (.i .i64 90000))) 26 false false,
 oo 30 (.pick (.t 26) (.c (.b true)) (.t 29)),
 ot 31 (.mv (.t 30)),
 og 32 (.fa 3 (.t 1)) 31 false false,
 og 33 (.ld false 1 (.t 32)) 31 false false,
 og 34 (.bin .lss (.t 33) (.c (.i .i64 (-1)))) 31 false false,
 oo 35 (.pick (.t 31) (.c (.b true)) (.t 34)),
 ot 36 (.mv (.t 35)),
 og 37 (.fa 3 (.t 1)) 36 false false,
 og 38 (.ld false 1 (.t 37)) 36 false false,
 og 39 (.mv (.t 3)) 36 false false,
 og 40 (.bin .geq (.t 38) (.t 39)) 36 false false,
 oo 41 (.pick (.t 36) (.c (.b true)) (.t 40)),
 ot 42 (.mv (.t 41)),
 og 43 (.fa 4 (.t 1)) 42 false false,
 og 44 (.ld false 1 (.t 43)) 42 false false,
 og 45 (.bin .lss (.t 44) (.c (.i .i64 (-1)))) 42 false false,
 oo 46 (.pick (.t 42) (.c (.b true)) (.t 45)),
 ot 47 (.mv (.t 46)),
 og 48 (.fa 4 (.t 1)) 47 false false,
 og 49 (.ld false 1 (.t 48)) 47 false false,
 og 50 (.mv (.t 3)) 47 false false,
 og 51 (.bin .geq (.t 49) (.t 50)) 47 false false,
 oo 52 (.pick (.t 47) (.c (.b true)) (.t 51)),
 ot 53 (.mv (.t 52)),
 og 54 (.fa 5 (.t 1)) 53 false false,
 og 55 (.ld false 1 (.t 54)) 53 false false,
 og 56 (.call (.c (.fn 54 [])) [.t 55, .c (.i .i64 4)]) 53 false false,
 og 57 (.not (.t 56)) 53 false false,
 oo 58 (.pick (.t 53) (.c (.b true)) (.t 57)),
 ot 59 (.mv (.t 58)),
 og 60 (.fa 6 (.t 1)) 59 false false,
 og 61 (.ld false 1 (.t 60)) 59 false false,
 og 62 (.call (.c (.fn 54 [])) [.t 61, .c (.i .i64 4)]) 59 false false,
 og 63 (.not (.t 62)) 59 false false,
 oo 64 (.pick (.t 59) (.c (.b true)) (.t 63)),
 ot 65 (.mv (.t 64)),
 og 66 (.fa 7 (.t 1)) 65 false false,
 og 67 (.ld false 1 (.t 66)) 65 false false,
 og 68 (.call (.c (.fn 54 [])) [.t 67, .c (.i .i64 65536)]) 65 false false,
 og 69 (.not (.t 68)) 65 false false,
 oo 70 (.pick (.t 65) (.c (.b true)) (.t 69)),
 ot 71 (.mv (.t 70)),
 og 72 (.fa 8 (.t 1)) 71 false false,
 og 73 (.ld false 1 (.t 72)) 71 false false,
 og 74 (.call (.c (.fn 54 [])) [.t 73, .c (.i .i64 32768)]) 71 false false,
 og 75 (.not (.t 74)) 71 false false,
 oo 76 (.pick (.t 71) (.c (.b true)) (.t 75)),
 ot 77 (.mv (.t 76)),
 og 78 (.ld true 18 (.t 1)) 77 false false,
 og 79 (.call (.c (.fn 56 [])) [.t 78]) 77 false false,
 og 80 (.call (.c (.fn 71 [])) [.t 79]) 77 false false,
 og 81 (.not (.t 80)) 77 false false,
 oo 82 (.pick (.t 77) (.c (.b true)) (.t 81)),
 ot 83 (.mv (.t 82)),
 og 84 (.fa 14 (.t 1)) 83 false false,
 og 85 (.ld true 4 (.t 84)) 83 false false,
 og 86 (.call (.c (.fn 71 [])) [.t 85]) 83 false false,
 og 87 (.not (.t 86)) 83 false false,
 ot 88 (.pick (.t 83) (.c (.b true)) (.t 87))]
abbrev i48r3 : List IOper := [
 oo 2 (.mv (.c (.b false)))]
abbrev i48r4 : List IOper := [
 oo 4 (.mv (.c (.i .i64 0)))]
abbrev i48r5 : List IOper := [
 oo 89 (.mv (.t 4)),
 oo 90 (.mv (.t 3)),
 ot 91 (.bin .lss (.t 89) (.t 90))]
abbrev i48r6 : List IOper := [
 oo 94 (.fa 0 (.t 1)),
 oo 95 (.ld false 1 (.t 94)),
 oo 96 (.mv (.t 4)),
 oo 97 (.ixaV 1 (.t 95) (.t 96)),
 oo 98 (.ld false 1 (.t 97)),
 oo 99 (.call (.c (.fn 54 [])) [.t 98, .c (.i .i64 4294967296)]),
 ot 100 (.not (.t 99))]
abbrev i48r7 : List IOper := [
 oo 2 (.mv (.c (.b false)))]
abbrev i48r8 : List IOper := [
 oo 5 (.mv (.c (.i .i64 0)))]
abbrev i48r9 : List IOper := [
 oo 101 (.mv (.t 5)),
 oo 102 (.mv (.t 4)),
 ot 103 (.bin .lss (.t 101) (.t 102))]
abbrev i48r10 : List (IOper × List Nat) := [
 (oo 106 (.fa 0 (.t 1)), []),
 (oo 107 (.ld false 1 (.t 106)), []),
 (oo 108 (.mv (.t 4)), [0, 1]),
 (oo 109 (.ixaV 1 (.t 107) (.t 108)), []),
 (oo 110 (.ld false 1 (.t 109)), []),
 (oo 111 (.fa 0 (.t 1)), [0, 1, 2, 3, 4]),
 (oo 112 (.ld false 1 (.t 111)), [0, 1, 2, 3, 4]),
 (oo 113 (.mv (.t 5)), [0, 1, 2, 3, 4, 5, 6]),
 (oo 114 (.ixaV 1 (.t 112) (.t 113)), [0, 1, 2, 3, 4]),
 (oo 115 (.ld false 1 (.t 114)), [0, 1, 2, 3, 4]),
 (ot 116 (.bin .eql (.t 110) (.t 115)), [])]
abbrev i48r11 : List IOper := [
 oo 2 (.mv (.c (.b false)))]
abbrev i48r12 : List IOper := [
 oo 104 (.mv (.t 5)),
 oo 105 (.bin .add (.t 104) (.c (.i .i64 1))),
 oo 5 (.mv (.t 105))]
abbrev i48l13 : ICode := (.seq (.seq (.reg i48r9) (.cond (.t 103) .skip (.exit 2))) (.seq (.block 3 (.seq (.dreg i48r10) (.cond (.t 116) (.seq (.reg i48r11) .ret) .skip))) (.reg i48r12)))
abbrev i48r14 : List IOper := [
 oo 92 (.mv (.t 4)),
 oo 93 (.bin .add (.t 92) (.c (.i .i64 1))),
 oo 4 (.mv (.t 93))]
abbrev i48l15 : ICode := (.seq (.seq (.reg i48r5) (.cond (.t 91) .skip (.exit 0))) (.seq (.block 1 (.seq (.seq (.reg i48r6) (.cond (.t 100) (.seq (.reg i48r7) .ret) .skip)) (.seq (.reg i48r8) (.block 2 (.loop i48l13))))) (.reg i48r14)))
abbrev i48r16 : List IOper := [
 oo 117 (.fa 3 (.t 1)),
 oo 118 (.ld false 1 (.t 117)),
 oo 119 (.bin .geq (.t 118) (.c (.i .i64 0))),
 ot 120 (.mv (.t 119)),
 og 121 (.fa 5 (.t 1)) 120 false false,
 og 122 (.ld false 1 (.t 121)) 120 false false,
 og 123 (.bin .eql (.t 122) (.c (.i .i64 0))) 120 false false,
 og 124 (.mv (.t 123)) 120 false true,
 og 125 (.fa 7 (.t 1)) 124 true false,
 og 126 (.ld false 1 (.t 125)) 124 true false,
 og 127 (.bin .eql (.t 126) (.c (.i .i64 0))) 124 true false,
 og 128 (.pick (.t 124) (.t 127) (.c (.b false))) 120 false false,
 og 129 (.mv (.t 128)) 120 false true,
 og 130 (.fa 8 (.t 1)) 129 true false,
 og 131 (.ld false 1 (.t 130)) 129 true false,
 og 132 (.bin .eql (.t 131) (.c (.i .i64 0))) 129 true false,
 og 133 (.pick (.t 129) (.t 132) (.c (.b false))) 120 false false,
 og 134 (.mv (.t 133)) 120 false true,
 og 135 (.ld true 18 (.t 1)) 134 true false,
 og 136 (.call (.c (.fn 56 [])) [.t 135]) 134 true false,
 og 137 (.build [.i .i64 0, .i .i64 0, .i .i64 0, .i .i64 0] []) 134 true false,
 og 138 (.eqk false true [.i, .i, .i, .i] (.t 136) (.t 137)) 134 true false,
 og 139 (.pick (.t 134) (.t 138) (.c (.b false))) 120 false false,
 og 140 (.mv (.t 139)) 120 false true,
 og 141 (.fa 9 (.t 1)) 140 true false,
 og 142 (.ld false 1 (.t 141)) 140 true false,
 og 143 (.not (.t 142)) 140 true false,
 og 144 (.pick (.t 140) (.t 143) (.c (.b false))) 120 false false,
 oo 145 (.pick (.t 120) (.c (.b true)) (.t 144)),
 oo 2 (.mv (.t 145))]
abbrev i48c : ICode := (.seq (.reg i48r0) (.seq (.reg i48r1) (.seq (.seq (.reg i48r2) (.cond (.t 88) (.seq (.reg i48r3) .ret) .skip)) (.seq (.seq (.reg i48r4) (.block 0 (.loop i48l15))) (.seq (.reg i48r16) .ret)))))
def i48 : IFn := { np := 1, N := 146, ct := [88, 91, 100, 103, 116], code := i48c, res := [.t 2] }
theorem i48_eq : compF Try.prog Try.f48 = some i48 := by kernel_rfl
abbrev i49r0 : List IOper := [
 oo 6 (.mv (.c (.b false)))]
abbrev i49r1 : List IOper := [
 oo 7 (.mv (.t 1)),
 oo 8 (.mv (.t 0)),
 oo 9 (.bin .geq (.t 7) (.t 8)),
 ot 10 (.mv (.t 9)),
 og 11 (.mv (.t 1)) 10 true false,
 og 12 (.mv (.t 2)) 10 true false,
 og 13 (.bin .leq (.t 11) (.t 12)) 10 true false,
 oo 14 (.pick (.t 10) (.t 13) (.c (.b false))),
 oo 6 (.mv (.t 14))]
abbrev i49c : ICode := (.seq (.reg i49r0) (.seq (.reg i49r1) .ret))
def i49 : IFn := { np := 3, N := 15, ct := [], code := i49c, res := [.t 6] }
theorem i49_eq : compF Try.prog Try.f49 = some i49 := by kernel_rfl
abbrev i50r0 : List IOper := [
 oo 2 (.mv (.c (.b false)))]
abbrev i50r1 : List IOper := [
 oo 5 (.mv (.t 0)),
 oo 6 (.lenV (.t 5)),
 oo 7 (.mv (.c (.i .i64 0)))]
abbrev i50r2 : List IOper := [
 ot 8 (.bin .lss (.t 7) (.t 6))]
abbrev i50r3 : List IOper := [
 oo 9 (.mv (.t 7)),
 oo 10 (.ixaV 1 (.t 5) (.t 7)),
 oo 11 (.ld false 1 (.t 10)),
 oo 3 (.mv (.t 9)),
 oo 4 (.mv (.t 11))]
abbrev i50r4 : List IOper := [
 oo 12 (.mv (.t 4)),
 oo 13 (.mv (.t 4)),
 oo 14 (.i2i .u32 (.t 13)),
 oo 15 (.i2i .i64 (.t 14)),
 oo 16 (.bin .neq (.t 12) (.t 15)),
 ot 17 (.mv (.t 16)),
 og 18 (.mv (.t 0)) 17 false false,
 og 19 (.mv (.t 3)) 17 false false,
 og 20 (.slV 1 (.t 18) none (some (.t 19)) none) 17 false false,
 og 21 (.mv (.t 4)) 17 false false,
 og 22 (.call (.c (.fn 72 [])) [.t 20, .t 21]) 17 false false,
 ot 23 (.pick (.t 17) (.c (.b true)) (.t 22))]
abbrev i50r5 : List IOper := [
 oo 2 (.mv (.c (.b false)))]
abbrev i50r6 : List IOper := [
 oo 24 (.bin .add (.t 7) (.c (.i .i64 1))),
 oo 7 (.mv (.t 24))]
abbrev i50l7 : ICode := (.seq (.reg i50r2) (.seq (.cond (.t 8) .skip (.exit 0)) (.seq (.block 1 (.seq (.reg i50r3) (.seq (.reg i50r4) (.cond (.t 23) (.seq (.reg i50r5) .ret) .skip)))) (.reg i50r6))))
abbrev i50r8 : List IOper := [
 oo 2 (.mv (.c (.b true)))]
abbrev i50c : ICode := (.seq (.reg i50r0) (.seq (.seq (.reg i50r1) (.block 0 (.loop i50l7))) (.seq (.reg i50r8) .ret)))
def i50 : IFn := { np := 1, N := 25, ct := [8, 23], code := i50c, res := [.t 2] }
theorem i50_eq : compF Try.prog Try.f50 = some i50 := by kernel_rfl
abbrev i51r0 : List IOper := [
 oo 1 (.box (.t 0)),
 oo 2 (.mv (.c (.b false)))]
abbrev i51r1 : List IOper := [
 oo 3 (.fa 0 (.t 1)),
 oo 4 (.ld false 1 (.t 3)),
 oo 5 (.fa 0 (.t 1)),
 oo 6 (.ld false 1 (.t 5)),
 oo 7 (.i2i .u16 (.t 6)),
 oo 8 (.i2i .i64 (.t 7)),
 oo 9 (.bin .eql (.t 4) (.t 8)),
 ot 10 (.mv (.t 9)),
 og 11 (.fa 1 (.t 1)) 10 true false,
 og 12 (.ld false 1 (.t 11)) 10 true false,
 og 13 (.fa 1 (.t 1)) 10 true false,
 og 14 (.ld false 1 (.t 13)) 10 true false,
 og 15 (.i2i .u32 (.t 14)) 10 true false,
 og 16 (.i2i .i64 (.t 15)) 10 true false,
 og 17 (.bin .eql (.t 12) (.t 16)) 10 true false,
 oo 18 (.pick (.t 10) (.t 17) (.c (.b false))),
 ot 19 (.mv (.t 18)),
 og 20 (.fa 2 (.t 1)) 19 true false,
 og 21 (.ld false 1 (.t 20)) 19 true false,
 og 22 (.fa 2 (.t 1)) 19 true false,
 og 23 (.ld false 1 (.t 22)) 19 true false,
 og 24 (.bin .and (.t 23) (.c (.i .i64 32767))) 19 true false,
 og 25 (.bin .eql (.t 21) (.t 24)) 19 true false,
 oo 26 (.pick (.t 19) (.t 25) (.c (.b false))),
 ot 27 (.mv (.t 26)),
 og 28 (.fa 3 (.t 1)) 27 true false,
 og 29 (.ld false 1 (.t 28)) 27 true false,
 og 30 (.fa 3 (.t 1)) 27 true false,
 og 31 (.ld false 1 (.t 30)) 27 true false,
 og 32 (.i2i .u8 (.t 31)) 27 true false,
 og 33 (.i2i .i64 (.t 32)) 27 true false,
 og 34 (.bin .eql (.t 29) (.t 33)) 27 true false,
 oo 35 (.pick (.t 27) (.t 34) (.c (.b false))),
 oo 2 (.mv (.t 35))]
abbrev i51c : ICode := (.seq (.reg i51r0) (.seq (.reg i51r1) .ret))
def i51 : IFn := { np := 1, N := 36, ct := [], code := i51c, res := [.t 2] }
theorem i51_eq : compF Try.prog Try.f51 = some i51 := by kernel_rfl
abbrev i52r0 : List IOper := [
 oo 1 (.box (.t 0)),
 oo 2 (.new [.i .i64 0, .i .i64 0, .i .i64 0, .i .i64 0])]
abbrev i52r1 : List IOper := [
 oo 3 (.fa 10 (.t 1)),
 oo 4 (.ld false 1 (.t 3)),
 oo 5 (.fa 11 (.t 1)),
 oo 6 (.ld false 1 (.t 5)),
 oo 7 (.fa 12 (.t 1)),
 oo 8 (.ld false 1 (.t 7)),
 oo 9 (.fa 13 (.t 1)),
 oo 10 (.ld false 1 (.t 9)),
 oo 11 (.build [.i .i64 0, .i .i64 0, .i .i64 0, .i .i64 0] [(0, 1, .t 4), (1, 1, .t 6), (2, 1, .t 8), (3, 1, .t 10)]),
 on_ (.st 4 (.t 2) (.t 11))]
abbrev i52c : ICode := (.seq (.reg i52r0) (.seq (.reg i52r1) .ret))
def i52 : IFn := { np := 1, N := 12, ct := [], code := i52c, res := [.c 2 true 4] }
theorem i52_eq : compF Try.prog Try.f52 = some i52 := by kernel_rfl
abbrev i53r0 : List IOper := [
 oo 2 (.mv (.c (.ns)))]
abbrev i53r1 : List IOper := [
 oo 3 (.mv (.t 0)),
 ot 4 (.eqn false 1 (.t 3) (.c (.ns)))]
abbrev i53r2 : List IOper := [
 oo 2 (.mv (.c (.ns)))]
abbrev i53r3 : List IOper := [
 oo 5 (.bsl [] 0 []),
 oo 6 (.mv (.t 0)),
 oo 7 (.app 1 8 [.i .i64 0] (.t 5) (.t 6)),
 oo 2 (.mv (.t 7))]
abbrev i53c : ICode := (.seq (.reg i53r0) (.seq (.seq (.reg i53r1) (.cond (.t 4) (.seq (.reg i53r2) .ret) .skip)) (.seq (.reg i53r3) .ret)))
def i53 : IFn := { np := 1, N := 8, ct := [4], code := i53c, res := [.t 2] }
theorem i53_eq : compF Try.prog Try.f53 = some i53 := by kernel_rfl
abbrev i54r0 : List IOper := [
 oo 4 (.mv (.c (.b false)))]
abbrev i54r1 : List IOper := [
 oo 5 (.mv (.t 0)),
 oo 6 (.bin .geq (.t 5) (.c (.i .i64 0))),
 ot 7 (.mv (.t 6)),
 og 8 (.mv (.t 0)) 7 true false,
 og 9 (.mv (.t 1)) 7 true false,
 og 10 (.bin .lss (.t 8) (.t 9)) 7 true false,
 oo 11 (.pick (.t 7) (.t 10) (.c (.b false))),
 oo 4 (.mv (.t 11))]
abbrev i54c : ICode := (.seq (.reg i54r0) (.seq (.reg i54r1) .ret))
def i54 : IFn := { np := 2, N := 12, ct := [], code := i54c, res := [.t 4] }
theorem i54_eq : compF Try.prog Try.f54 = some i54 := by kernel_rfl
abbrev i56r0 : List IOper := [
 oo 1 (.box (.t 0)),
 oo 2 (.new [.i .i64 0, .i .i64 0, .i .i64 0, .i .i64 0])]
abbrev i56r1 : List IOper := [
 oo 3 (.fa 10 (.t 1)),
 oo 4 (.ld false 1 (.t 3)),
 oo 5 (.fa 11 (.t 1)),
 oo 6 (.ld false 1 (.t 5)),
 oo 7 (.fa 12 (.t 1)),
 oo 8 (.ld false 1 (.t 7)),
 oo 9 (.fa 13 (.t 1)),
 oo 10 (.ld false 1 (.t 9)),
 oo 11 (.build [.i .i64 0, .i .i64 0, .i .i64 0, .i .i64 0] [(0, 1, .t 4), (1, 1, .t 6), (2, 1, .t 8), (3, 1, .t 10)]),
 on_ (.st 4 (.t 2) (.t 11))]
abbrev i56c : ICode := (.seq (.reg i56r0) (.seq (.reg i56r1) .ret))
def i56 : IFn := { np := 1, N := 12, ct := [], code := i56c, res := [.c 2 true 4] }
theorem i56_eq : compF Try.prog Try.f56 = some i56 := by kernel_rfl
abbrev i57r0 : List IOper := [
 oo 1 (.box (.t 0)),
 oo 2 (.mv (.c (.i .i64 0)))]
abbrev i57r1 : List IOper := [
 oo 6 (.fa 1 (.t 1)),
 oo 7 (.ld false 1 (.t 6)),
 oo 8 (.bsl [.i .i64 0] 1 [(0, 1, .t 7)]),
 oo 9 (.call (.c (.fn 73 [])) [.c (.i .i64 7), .t 8]),
 ot 10 (.mv (.t 9)),
 og 11 (.fa 2 (.t 1)) 10 true false,
 og 12 (.ld false 1 (.t 11)) 10 true false,
 og 13 (.bsl [.i .i64 0] 1 [(0, 1, .t 12)]) 10 true false,
 og 14 (.call (.c (.fn 73 [])) [.c (.i .i64 16), .t 13]) 10 true false,
 oo 15 (.pick (.t 10) (.t 14) (.c (.b false))),
 ot 16 (.mv (.t 15)),
 og 17 (.fa 3 (.t 1)) 16 true false,
 og 18 (.ld false 1 (.t 17)) 16 true false,
 og 19 (.fa 4 (.t 1)) 16 true false,
 og 20 (.ld false 1 (.t 19)) 16 true false,
 og 21 (.bsl [.i .i64 0, .i .i64 0] 2 [(0, 1, .t 18), (1, 1, .t 20)]) 16 true false,
 og 22 (.call (.c (.fn 73 [])) [.c (.i .i64 32), .t 21]) 16 true false,
 oo 23 (.pick (.t 16) (.t 22) (.c (.b false))),
 ot 24 (.mv (.t 23)),
 og 25 (.fa 5 (.t 1)) 24 true false,
 og 26 (.ld false 1 (.t 25)) 24 true false,
 og 27 (.call (.c (.fn 73 [])) [.c (.i .i64 32), .t 26]) 24 true false,
 oo 28 (.pick (.t 24) (.t 27) (.c (.b false))),
 ot 29 (.mv (.t 28)),
 og 30 (.fa 7 (.t 1)) 29 true false,
 og 31 (.ld false 1 (.t 30)) 29 true false,
 og 32 (.bsl [.i .i64 0] 1 [(0, 1, .t 31)]) 29 true false,
 og 33 (.call (.c (.fn 73 [])) [.c (.i .i64 8), .t 32]) 29 true false,
 oo 34 (.pick (.t 29) (.t 33) (.c (.b false))),
 ot 35 (.mv (.t 34)),
 og 36 (.fa 5 (.t 1)) 35 true false,
 og 37 (.ld false 1 (.t 36)) 35 true false,
 og 38 (.lenV (.t 37)) 35 true false,
 og 39 (.bin .leq (.t 38) (.c (.i .i64 15))) 35 true false,
 oo 40 (.pick (.t 35) (.t 39) (.c (.b false))),
 ot 41 (.mv (.t 40)),
 og 42 (.fa 6 (.t 1)) 41 true false,
 og 43 (.ld false 1 (.t 42)) 41 true false,
 og 44 (.lenV (.t 43)) 41 true false,
 og 45 (.bin .leq (.t 44) (.c (.i .i64 16))) 41 true false,
 oo 46 (.pick (.t 41) (.t 45) (.c (.b false))),
 oo 3 (.mv (.t 46))]
abbrev i57r2 : List IOper := [
 oo 47 (.fa 6 (.t 1)),
 oo 48 (.ld false 1 (.t 47)),
 oo 49 (.lenV (.t 48)),
 oo 50 (.mv (.c (.i .i64 0)))]
abbrev i57r3 : List IOper := [
 ot 51 (.bin .lss (.t 50) (.t 49))]
abbrev i57r4 : List IOper := [
 oo 52 (.mv (.t 50)),
 oo 53 (.ixaV 2 (.t 48) (.t 50)),
 oo 54 (.ld true 2 (.t 53)),
 oo 5 (.new [.i .i64 0, .s []]),
 oo 4 (.mv (.t 52)),
 on_ (.st 2 (.t 5) (.t 54))]
abbrev i57r5 : List (IOper × List Nat) := [
 (oo 55 (.mv (.t 3)), []),
 (ot 56 (.mv (.t 55)), []),
 (og 57 (.fa 0 (.t 5)) 56 true false, []),
 (og 58 (.ld false 1 (.t 57)) 56 true false, []),
 (og 59 (.fa 1 (.t 5)) 56 true false, [2, 3]),
 (og 60 (.ld false 1 (.t 59)) 56 true false, [2, 3]),
 (og 61 (.lenS (.t 60)) 56 true false, [2, 3]),
 (og 62 (.bsl [.i .i64 0, .i .i64 0] 2 [(0, 1, .t 58), (1, 1, .t 61)]) 56 true false, []),
 (og 63 (.call (.c (.fn 73 [])) [.c (.i .i64 8), .t 62]) 56 true false, []),
 (oo 64 (.pick (.t 56) (.t 63) (.c (.b false))), []),
 (ot 65 (.mv (.t 64)), []),
 (og 66 (.fa 0 (.t 5)) 65 true false, []),
 (og 67 (.ld false 1 (.t 66)) 65 true false, []),
 (og 68 (.bin .gtr (.t 67) (.c (.i .i64 0))) 65 true false, []),
 (oo 69 (.pick (.t 65) (.t 68) (.c (.b false))), []),
 (ot 70 (.mv (.t 69)), []),
 (og 71 (.mv (.t 4)) 70 true false, []),
 (og 72 (.bin .eql (.t 71) (.c (.i .i64 0))) 70 true false, []),
 (og 73 (.mv (.t 72)) 70 true true, []),
 (og 74 (.fa 0 (.t 5)) 73 false false, []),
 (og 75 (.ld false 1 (.t 74)) 73 false false, []),
 (og 76 (.fa 6 (.t 1)) 73 false false, [19, 20]),
 (og 77 (.ld false 1 (.t 76)) 73 false false, [19, 20]),
 (og 78 (.mv (.t 4)) 73 false false, [19, 20, 21, 22]),
 (og 79 (.bin .sub (.t 78) (.c (.i .i64 1))) 73 false false, [19, 20, 21, 22]),
 (og 80 (.ixaV 2 (.t 77) (.t 79)) 73 false false, [19, 20]),
 (og 81 (.fa 0 (.t 80)) 73 false false, [19, 20]),
 (og 82 (.ld false 1 (.t 81)) 73 false false, [19, 20]),
 (og 83 (.bin .gtr (.t 75) (.t 82)) 73 false false, []),
 (og 84 (.pick (.t 73) (.c (.b true)) (.t 83)) 70 true false, []),
 (oo 85 (.pick (.t 70) (.t 84) (.c (.b false))), []),
 (oo 3 (.mv (.t 85)), [])]
abbrev i57r6 : List IOper := [
 oo 86 (.bin .add (.t 50) (.c (.i .i64 1))),
 oo 50 (.mv (.t 86))]
abbrev i57l7 : ICode := (.seq (.reg i57r3) (.seq (.cond (.t 51) .skip (.exit 0)) (.seq (.block 1 (.seq (.reg i57r4) (.dreg i57r5))) (.reg i57r6))))
abbrev i57r8 : List IOper := [
 oo 87 (.mv (.t 3)),
 ot 88 (.not (.t 87))]
abbrev i57r9 : List IOper := [
 oo 2 (.mv (.c (.i .i64 230)))]
abbrev i57r10 : List IOper := [
 oo 2 (.mv (.c (.i .i64 0)))]
abbrev i57c : ICode := (.seq (.reg i57r0) (.seq (.reg i57r1) (.seq (.seq (.reg i57r2) (.block 0 (.loop i57l7))) (.seq (.seq (.reg i57r8) (.cond (.t 88) (.seq (.reg i57r9) .ret) .skip)) (.seq (.reg i57r10) .ret)))))
def i57 : IFn := { np := 1, N := 89, ct := [51, 88], code := i57c, res := [.t 2] }
theorem i57_eq : compF Try.prog Try.f57 = some i57 := by kernel_rfl
abbrev i58r0 : List IOper := [
 oo 4 (.mv (.c (.i .i64 0)))]
abbrev i58r1 : List IOper := [
 oo 6 (.mv (.t 0)),
 oo 7 (.lenV (.t 6)),
 oo 8 (.mv (.c (.i .i64 0)))]
abbrev i58r2 : List IOper := [
 ot 9 (.bin .lss (.t 8) (.t 7))]
abbrev i58r3 : List IOper := [
 oo 10 (.mv (.t 8)),
 oo 5 (.mv (.t 10))]
abbrev i58r4 : List IOper := [
 oo 11 (.mv (.t 1)),
 oo 12 (.mv (.t 0)),
 oo 13 (.mv (.t 5)),
 oo 14 (.ixaV 1 (.t 12) (.t 13)),
 oo 15 (.ld false 1 (.t 14)),
 ot 16 (.bin .eql (.t 11) (.t 15))]
abbrev i58r5 : List IOper := [
 oo 17 (.mv (.t 5)),
 oo 4 (.mv (.t 17))]
abbrev i58r6 : List IOper := [
 oo 18 (.bin .add (.t 8) (.c (.i .i64 1))),
 oo 8 (.mv (.t 18))]
abbrev i58l7 : ICode := (.seq (.reg i58r2) (.seq (.cond (.t 9) .skip (.exit 0)) (.seq (.block 1 (.seq (.reg i58r3) (.seq (.reg i58r4) (.cond (.t 16) (.seq (.reg i58r5) .ret) .skip)))) (.reg i58r6))))
abbrev i58r8 : List IOper := [
 oo 4 (.mv (.c (.i .i64 (-1))))]
abbrev i58c : ICode := (.seq (.reg i58r0) (.seq (.seq (.reg i58r1) (.block 0 (.loop i58l7))) (.seq (.reg i58r8) .ret)))
def i58 : IFn := { np := 2, N := 19, ct := [9, 16], code := i58c, res := [.t 4] }
theorem i58_eq : compF Try.prog Try.f58 = some i58 := by kernel_rfl
abbrev i59r0 : List IOper := [
 on_ (.dfr (.c (.fn 74 [])) [])]
abbrev i59r1 : List IOper := [
 oo 4 (.mv (.t 0)),
 oo 5 (.mkm 75 [.t 4]),
 oo 6 (.mv (.t 0)),
 oo 7 (.mkm 76 [.t 6]),
 oo 8 (.mv (.t 0)),
 oo 9 (.mkm 77 [.t 8]),
 oo 10 (.mv (.t 0)),
 oo 11 (.mkm 78 [.t 10]),
 oo 12 (.mv (.t 0)),
 oo 13 (.mkm 79 [.t 12]),
 oo 14 (.build [.nf, .nf, .nf, .nf, .nf] [(0, 1, .t 5), (1, 1, .t 7), (2, 1, .t 9), (3, 1, .t 11), (4, 1, .t 13)]),
 oo 15 (.mv (.c (.i .i64 0)))]
abbrev i59r2 : List IOper := [
 ot 16 (.bin .lss (.t 15) (.c (.i .i64 5)))]
abbrev i59r3 : List IOper := [
 oo 17 (.ixA 5 1 false (.t 14) (.t 15)),
 oo 3 (.mv (.t 17))]
abbrev i59r4 : List IOper := [
 oo 18 (.mv (.t 3)),
 oo 19 (.call (.t 18) [])]
abbrev i59r5 : List IOper := [
 oo 20 (.bin .add (.t 15) (.c (.i .i64 1))),
 oo 15 (.mv (.t 20))]
abbrev i59l6 : ICode := (.seq (.reg i59r2) (.seq (.cond (.t 16) .skip (.exit 0)) (.seq (.block 1 (.seq (.reg i59r3) (.reg i59r4))) (.reg i59r5))))
abbrev i59c : ICode := (.seq (.reg i59r0) (.seq (.reg i59r1) (.block 0 (.loop i59l6))))
def i59 : IFn := { np := 1, N := 21, ct := [16], code := i59c, res := [] }
theorem i59_eq : compF Try.prog Try.f59 = some i59 := by kernel_rfl
abbrev i64r0 : List IOper := [
 oo 2 (.box (.t 0)),
 oo 3 (.box (.t 1)),
 oo 4 (.mv (.c (.b false)))]
abbrev i64r1 : List IOper := [
 oo 7 (.fa 0 (.t 2)),
 oo 8 (.ld false 1 (.t 7)),
 oo 9 (.fa 0 (.t 3)),
 oo 10 (.ld false 1 (.t 9)),
 oo 11 (.eqk true false [.b] (.t 8) (.t 10)),
 ot 12 (.mv (.t 11)),
 og 13 (.fa 1 (.t 2)) 12 false false,
 og 14 (.ld false 1 (.t 13)) 12 false false,
 og 15 (.fa 1 (.t 3)) 12 false false,
 og 16 (.ld false 1 (.t 15)) 12 false false,
 og 17 (.bin .neq (.t 14) (.t 16)) 12 false false,
 oo 18 (.pick (.t 12) (.c (.b true)) (.t 17)),
 ot 19 (.mv (.t 18)),
 og 20 (.fa 2 (.t 2)) 19 false false,
 og 21 (.ld false 1 (.t 20)) 19 false false,
 og 22 (.fa 2 (.t 3)) 19 false false,
 og 23 (.ld false 1 (.t 22)) 19 false false,
 og 24 (.bin .neq (.t 21) (.t 23)) 19 false false,
 oo 25 (.pick (.t 19) (.c (.b true)) (.t 24)),
 ot 26 (.mv (.t 25)),
 og 27 (.fa 3 (.t 2)) 26 false false,
 og 28 (.ld false 1 (.t 27)) 26 false false,
 og 29 (.fa 3 (.t 3)) 26 false false,
 og 30 (.ld false 1 (.t 29)) 26 false false,
 og 31 (.bin .neq (.t 28) (.t 30)) 26 false false,
 oo 32 (.pick (.t 26) (.c (.b true)) (.t 31)),
 ot 33 (.mv (.t 32)),
 og 34 (.fa 4 (.t 2)) 33 false false,
 og 35 (.ld false 1 (.t 34)) 33 false false,
 og 36 (.fa 4 (.t 3)) 33 false false,
 og 37 (.ld false 1 (.t 36)) 33 false false,
 og 38 (.bin .neq (.t 35) (.t 37)) 33 false false,
 oo 39 (.pick (.t 33) (.c (.b true)) (.t 38)),
 ot 40 (.mv (.t 39)),
 og 41 (.fa 7 (.t 2)) 40 false false,
 og 42 (.ld false 1 (.t 41)) 40 false false,
 og 43 (.fa 7 (.t 3)) 40 false false,
 og 44 (.ld false 1 (.t 43)) 40 false false,
 og 45 (.bin .neq (.t 42) (.t 44)) 40 false false,
 oo 46 (.pick (.t 40) (.c (.b true)) (.t 45)),
 ot 47 (.mv (.t 46)),
 og 48 (.fa 8 (.t 2)) 47 false false,
 og 49 (.ld false 1 (.t 48)) 47 false false,
 og 50 (.fa 8 (.t 3)) 47 false false,
 og 51 (.ld false 1 (.t 50)) 47 false false,
 og 52 (.bin .neq (.t 49) (.t 51)) 47 false false,
 oo 53 (.pick (.t 47) (.c (.b true)) (.t 52)),
 ot 54 (.mv (.t 53)),
 og 55 (.fa 5 (.t 2)) 54 false false,
 og 56 (.ld false 1 (.t 55)) 54 false false,
 og 57 (.lenV (.t 56)) 54 false false,
 og 58 (.fa 5 (.t 3)) 54 false false,
 og 59 (.ld false 1 (.t 58)) 54 false false,
 og 60 (.lenV (.t 59)) 54 false false,
 og 61 (.bin .neq (.t 57) (.t 60)) 54 false false,
 oo 62 (.pick (.t 54) (.c (.b true)) (.t 61)),
 ot 63 (.mv (.t 62)),
 og 64 (.fa 6 (.t 2)) 63 false false,
 og 65 (.ld false 1 (.t 64)) 63 false false,
 og 66 (.lenV (.t 65)) 63 false false,
 og 67 (.fa 6 (.t 3)) 63 false false,
 og 68 (.ld false 1 (.t 67)) 63 false false,
 og 69 (.lenV (.t 68)) 63 false false,
 og 70 (.bin .neq (.t 66) (.t 69)) 63 false false,
 ot 71 (.pick (.t 63) (.c (.b true)) (.t 70))]
abbrev i64r2 : List IOper := [
 oo 4 (.mv (.c (.b false)))]
abbrev i64r3 : List IOper := [
 oo 5 (.mv (.c (.i .i64 0)))]
abbrev i64r4 : List IOper := [
 oo 72 (.mv (.t 5)),
 oo 73 (.fa 5 (.t 2)),
 oo 74 (.ld false 1 (.t 73)),
 oo 75 (.lenV (.t 74)),
 ot 76 (.bin .lss (.t 72) (.t 75))]
abbrev i64r5 : List (IOper × List Nat) := [
 (oo 79 (.fa 5 (.t 2)), []),
 (oo 80 (.ld false 1 (.t 79)), []),
 (oo 81 (.mv (.t 5)), [0, 1]),
 (oo 82 (.ixaV 1 (.t 80) (.t 81)), []),
 (oo 83 (.ld false 1 (.t 82)), []),
 (oo 84 (.fa 5 (.t 3)), [0, 1, 2, 3, 4]),
 (oo 85 (.ld false 1 (.t 84)), [0, 1, 2, 3, 4]),
 (oo 86 (.mv (.t 5)), [0, 1, 2, 3, 4, 5, 6]),
 (oo 87 (.ixaV 1 (.t 85) (.t 86)), [0, 1, 2, 3, 4]),
 (oo 88 (.ld false 1 (.t 87)), [0, 1, 2, 3, 4]),
 (ot 89 (.bin .neq (.t 83) (.t 88)), [])]
abbrev i64r6 : List IOper := [
 oo 4 (.mv (.c (.b false)))]
abbrev i64r7 : List IOper := [
 oo 77 (.mv (.t 5)),
 oo 78 (.bin .add (.t 77) (.c (.i .i64 1))),
 oo 5 (.mv (.t 78))]
abbrev i64l8 : ICode := (.seq (.seq (.reg i64r4) (.cond (.t 76) .skip (.exit 0))) (.seq (.block 1 (.seq (.dreg i64r5) (.cond (.t 89) (.seq (.reg i64r6) .ret) .skip))) (.reg i64r7)))
abbrev i64r9 : List IOper := [
 oo 6 (.mv (.c (.i .i64 0)))]
abbrev i64r10 : List IOper := [
 oo 90 (.mv (.t 6)),
 oo 91 (.fa 6 (.t 2)),
 oo 92 (.ld false 1 (.t 91)),
 oo 93 (.lenV (.t 92)),
 ot 94 (.bin .lss (.t 90) (.t 93))]
abbrev i64r11 : List (IOper × List Nat) := [
 (oo 97 (.fa 6 (.t 2)), []),
 (oo 98 (.ld false 1 (.t 97)), []),
 (oo 99 (.mv (.t 6)), [0, 1]),
 (oo 100 (.ixaV 2 (.t 98) (.t 99)), []),
 (oo 101 (.ld true 2 (.t 100)), []),
 (oo 102 (.fa 6 (.t 3)), [0, 1, 2, 3, 4]),
 (oo 103 (.ld false 1 (.t 102)), [0, 1, 2, 3, 4]),
 (oo 104 (.mv (.t 6)), [0, 1, 2, 3, 4, 5, 6]),
 (oo 105 (.ixaV 2 (.t 103) (.t 104)), [0, 1, 2, 3, 4]),
 (oo 106 (.ld true 2 (.t 105)), [0, 1, 2, 3, 4]),
 (ot 107 (.eqk true true [.i, .s] (.t 101) (.t 106)), [])]
abbrev i64r12 : List IOper := [
 oo 4 (.mv (.c (.b false)))]
abbrev i64r13 : List IOper := [
 oo 95 (.mv (.t 6)),
 oo 96 (.bin .add (.t 95) (.c (.i .i64 1))),
 oo 6 (.mv (.t 96))]
abbrev i64l14 : ICode := (.seq (.seq (.reg i64r10) (.cond (.t 94) .skip (.exit 2))) (.seq (.block 3 (.seq (.dreg i64r11) (.cond (.t 107) (.seq (.reg i64r12) .ret) .skip))) (.reg i64r13)))
abbrev i64r15 : List IOper := [
 oo 4 (.mv (.c (.b true)))]
abbrev i64c : ICode := (.seq (.reg i64r0) (.seq (.seq (.reg i64r1) (.cond (.t 71) (.seq (.reg i64r2) .ret) .skip)) (.seq (.seq (.reg i64r3) (.block 0 (.loop i64l8))) (.seq (.seq (.reg i64r9) (.block 2 (.loop i64l14))) (.seq (.reg i64r15) .ret)))))
def i64 : IFn := { np := 2, N := 108, ct := [71, 76, 89, 94, 107], code := i64c, res := [.t 4] }
abbrev i65r0 : List IOper := [
 oo 1 (.box (.t 0)),
 oo 2 (.mv (.c (.s []))),
 oo 3 (.mv (.c (.i .i64 0)))]
abbrev i65r1 : List IOper := [
 oo 5 (.ld true 8 (.t 1)),
 oo 6 (.call (.c (.fn 68 [])) [.t 5]),
 oo 4 (.mv (.t 6))]
abbrev i65r2 : List IOper := [
 oo 7 (.mv (.t 4)),
 ot 8 (.bin .neq (.t 7) (.c (.i .i64 0)))]
abbrev i65r3 : List IOper := [
 oo 9 (.mv (.t 4)),
 oo 2 (.mv (.c (.s []))),
 oo 3 (.mv (.t 9))]
abbrev i65r4 : List IOper := [
 oo 10 (.ld true 8 (.t 1)),
 oo 11 (.call (.c (.fn 84 [])) [.t 10]),
 oo 2 (.mv (.t 11)),
 oo 3 (.mv (.c (.i .i64 0)))]
abbrev i65c : ICode := (.seq (.reg i65r0) (.seq (.seq (.reg i65r1) (.seq (.reg i65r2) (.cond (.t 8) (.seq (.reg i65r3) .ret) .skip))) (.seq (.reg i65r4) .ret)))
def i65 : IFn := { np := 1, N := 12, ct := [8], code := i65c, res := [.t 2, .t 3] }
theorem i65_eq : compF Try.prog Try.f65 = some i65 := by kernel_rfl
abbrev i66r0 : List IOper := [
 oo 1 (.box (.t 0)),
 oo 2 (.new [.ns, .i .i64 0, .i .i64 0, .i .i64 0, .i .i64 0, .i .i64 0, .i .i64 0, .i .i64 0, .i .i64 0, .b false, .i .i64 0, .i .i64 0, .i .i64 0, .i .i64 0, .i .i64 0, .i .i64 0, .i .i64 0, .i .i64 0])]
abbrev i66r1 : List (IOper × List Nat) := [
 (oo 6 (.call (.c (.fn 26 [])) []), []),
 (oo 7 (.fa 19 (.t 1)), [0]),
 (oo 8 (.ld false 1 (.t 7)), [0]),
 (oo 9 (.i2i .i64 (.t 8)), [0]),
 (oo 10 (.bin .add (.c (.i .i64 1)) (.t 9)), [0]),
 (oo 11 (.fa 15 (.t 1)), [0, 1, 2, 3, 4]),
 (oo 12 (.ixaA 4 1 (.t 11) (.c (.i .i64 0))), [0, 1, 2, 3, 4]),
 (oo 13 (.ld false 1 (.t 12)), [0, 1, 2, 3, 4]),
 (oo 14 (.i2i .i64 (.t 13)), [0, 1, 2, 3, 4]),
 (oo 15 (.fa 15 (.t 1)), [0, 1, 2, 3, 4, 5, 6, 7, 8]),
 (oo 16 (.ixaA 4 1 (.t 15) (.c (.i .i64 1))), [0, 1, 2, 3, 4, 5, 6, 7, 8]),
 (oo 17 (.ld false 1 (.t 16)), [0, 1, 2, 3, 4, 5, 6, 7, 8]),
 (oo 18 (.i2i .i64 (.t 17)), [0, 1, 2, 3, 4, 5, 6, 7, 8]),
 (oo 19 (.bin .mul (.t 18) (.c (.i .i64 65537))), [0, 1, 2, 3, 4, 5, 6, 7, 8]),
 (oo 20 (.fa 15 (.t 1)), [0, 1, 2, 3, 4, 5, 6, 7, 8, 9, 10, 11, 12, 13]),
 (oo 21 (.ixaA 4 1 (.t 20) (.c (.i .i64 2))), [0, 1, 2, 3, 4, 5, 6, 7, 8, 9, 10, 11, 12, 13]),
 (oo 22 (.ld false 1 (.t 21)), [0, 1, 2, 3, 4, 5, 6, 7, 8, 9, 10, 11, 12, 13]),
 (oo 23 (.i2i .i64 (.t 22)), [0, 1, 2, 3, 4, 5, 6, 7, 8, 9, 10, 11, 12, 13]),
 (oo 24 (.bin .rem (.t 23) (.c (.i .i64 32768))), [0, 1, 2, 3, 4, 5, 6, 7, 8, 9, 10, 11, 12, 13]),
 (oo 25 (.fa 15 (.t 1)), [0, 1, 2, 3, 4, 5, 6, 7, 8, 9, 10, 11, 12, 13, 14, 15, 16, 17, 18]),
 (oo 26 (.ixaA 4 1 (.t 25) (.c (.i .i64 3))), [0, 1, 2, 3, 4, 5, 6, 7, 8, 9, 10, 11, 12, 13, 14, 15, 16, 17, 18]),
 (oo 27 (.ld false 1 (.t 26)), [0, 1, 2, 3, 4, 5, 6, 7, 8, 9, 10, 11, 12, 13, 14, 15, 16, 17, 18]),
 (oo 28 (.i2i .i64 (.t 27)), [0, 1, 2, 3, 4, 5, 6, 7, 8, 9, 10, 11, 12, 13, 14, 15, 16, 17, 18]),
 (oo 29 (.bin .rem (.t 28) (.c (.i .i64 256))), [0, 1, 2, 3, 4, 5, 6, 7, 8, 9, 10, 11, 12, 13, 14, 15, 16, 17, 18]),
 (oo 30 (.build [.i .i64 0, .i .i64 0, .i .i64 0, .i .i64 0] [(0, 1, .t 14), (1, 1, .t 19), (2, 1, .t 24), (3, 1, .t 29)]), [0, 1, 2, 3, 4]),
 (oo 31 (.call (.c (.fn 18 [])) [.t 6, .c (.i .i64 5), .t 10, .t 30]), []),
 (oo 5 (.mv (.t 31)), []),
 (oo 32 (.ext (.t 5) 0), []),
 (oo 33 (.ext (.t 5) 1), [27]),
 (oo 3 (.new [.ns, .i .i64 0, .i .i64 0, .i .i64 0, .i .i64 0, .i .i64 0, .i .i64 0, .i .i64 0, .i .i64 0, .b false, .i .i64 0, .i .i64 0, .i .i64 0, .i .i64 0, .i .i64 0, .i .i64 0, .i .i64 0, .i .i64 0]), [0, 1, 2, 3, 4, 5, 6, 7, 8, 9, 10, 11, 12, 13, 14, 15, 16, 17, 18, 19, 20, 21, 22, 23, 24, 25, 26, 27, 28]),
 (on_ (.st 18 (.t 3) (.t 32)), [28]),
 (oo 4 (.mv (.t 33)), [])]
abbrev i66r2 : List IOper := [
 oo 34 (.ld true 18 (.t 3)),
 on_ (.st 18 (.t 2) (.t 34))]
abbrev i66c : ICode := (.seq (.reg i66r0) (.seq (.dreg i66r1) (.seq (.reg i66r2) .ret)))
def i66 : IFn := { np := 1, N := 35, ct := [], code := i66c, res := [.c 2 true 18] }
theorem i66_eq : compF Try.prog Try.f66 = some i66 := by kernel_rfl
abbrev i67r0 : List IOper := [
 oo 2 (.box (.t 0)),
 oo 4 (.mv (.c (.ns)))]
abbrev i67r1 : List IOper := [
 oo 5 (.mv (.c (.ns)))]
abbrev i67r2 : List (IOper × List Nat) := [
 (oo 14 (.fa 0 (.t 2)), []),
 (oo 15 (.ld false 1 (.t 14)), []),
 (oo 16 (.i2i .i64 (.t 15)), []),
 (oo 17 (.fa 3 (.t 2)), [0, 1, 2]),
 (oo 18 (.ld false 1 (.t 17)), [0, 1, 2]),
 (oo 19 (.i2i .i64 (.t 18)), [0, 1, 2]),
 (oo 6 (.mv (.t 16)), [3, 4, 5]),
 (oo 7 (.mv (.c (.i .i64 0))), [3, 4, 5]),
 (oo 8 (.mv (.t 19)), [])]
abbrev i67r3 : List IOper := [
 oo 9 (.mv (.c (.i .i64 0)))]
abbrev i67r4 : List IOper := [
 oo 20 (.mv (.t 9)),
 oo 21 (.fa 4 (.t 2)),
 oo 22 (.ld false 1 (.t 21)),
 oo 23 (.lenV (.t 22)),
 oo 24 (.bin .leq (.t 20) (.t 23)),
 ot 25 (.mv (.t 24)),
 og 26 (.mv (.t 9)) 25 true false,
 og 27 (.bin .lss (.t 26) (.c (.i .i64 24))) 25 true false,
 ot 28 (.pick (.t 25) (.t 27) (.c (.b false)))]
abbrev i67r5 : List IOper := [
 oo 10 (.mv (.c (.i .i64 7)))]
abbrev i67r6 : List IOper := [
 oo 31 (.mv (.t 9)),
 ot 32 (.bin .gtr (.t 31) (.c (.i .i64 0)))]
abbrev i67r7 : List IOper := [
 oo 33 (.fa 4 (.t 2)),
 oo 34 (.ld false 1 (.t 33)),
 oo 35 (.mv (.t 9)),
 oo 36 (.bin .sub (.t 35) (.c (.i .i64 1))),
 oo 37 (.ixaV 1 (.t 34) (.t 36)),
 oo 38 (.ld false 1 (.t 37)),
 oo 39 (.i2i .i64 (.t 38)),
 oo 10 (.mv (.t 39))]
abbrev i67r8 : List IOper := [
 oo 40 (.fa 1 (.t 2)),
 oo 41 (.ld false 1 (.t 40)),
 oo 42 (.i2i .i64 (.t 41)),
 oo 43 (.mv (.t 9)),
 oo 44 (.bin .add (.t 42) (.t 43)),
 oo 45 (.bin .rem (.t 44) (.c (.i .i64 32768))),
 oo 46 (.build [.b false, .b false, .b false, .b false, .i .i64 0, .i .i64 0, .i .i64 0, .i .i64 0] [(4, 1, .t 45)]),
 oo 11 (.new [.b false, .b false, .b false, .b false, .i .i64 0, .i .i64 0, .i .i64 0, .i .i64 0]),
 on_ (.st 8 (.t 11) (.t 46))]
abbrev i67r9 : List IOper := [
 oo 58 (.mv (.t 10)),
 oo 59 (.bin .rem (.t 58) (.c (.i .i64 8))),
 oo 60 (.bin .eql (.t 59) (.c (.i .i64 7))),
 ot 57 (.mv (.t 60))]
abbrev i67r10 : List IOper := [
 oo 61 (.fa 1 (.t 11)),
 on_ (.st 1 (.t 61) (.c (.b true))),
 oo 7 (.mv (.c (.i .i64 0)))]
abbrev i67r11 : List IOper := [
 oo 62 (.mv (.t 8)),
 oo 63 (.bin .add (.t 62) (.c (.i .i64 1))),
 oo 64 (.bin .rem (.t 63) (.c (.i .i64 256))),
 oo 8 (.mv (.t 64))]
abbrev i67r12 : List IOper := [
 oo 66 (.mv (.t 10)),
 oo 67 (.bin .rem (.t 66) (.c (.i .i64 8))),
 oo 68 (.bin .lss (.t 67) (.c (.i .i64 4))),
 ot 65 (.mv (.t 68))]
abbrev i67r13 : List IOper := [
 oo 69 (.mv (.t 8)),
 oo 70 (.bin .add (.t 69) (.c (.i .i64 1))),
 oo 71 (.bin .rem (.t 70) (.c (.i .i64 256))),
 oo 8 (.mv (.t 71))]
abbrev i67r14 : List IOper := [
 oo 73 (.mv (.t 10)),
 oo 74 (.bin .rem (.t 73) (.c (.i .i64 8))),
 oo 75 (.bin .eql (.t 74) (.c (.i .i64 4))),
 ot 72 (.mv (.t 75))]
abbrev i67r15 : List IOper := [
 oo 76 (.mv (.t 7)),
 oo 77 (.mv (.t 10)),
 oo 78 (.bin .quo (.t 77) (.c (.i .i64 8))),
 oo 79 (.bin .rem (.t 78) (.c (.i .i64 3))),
 oo 80 (.bin .add (.c (.i .i64 1)) (.t 79)),
 oo 81 (.mn (.t 76) [.t 80]),
 oo 82 (.fa 6 (.t 11)),
 on_ (.st 1 (.t 82) (.t 81))]
abbrev i67r16 : List IOper := [
 oo 83 (.mv (.t 7)),
 ot 84 (.bin .eql (.t 83) (.c (.i .i64 0)))]
abbrev i67r17 : List IOper := [
 oo 85 (.mv (.t 8)),
 oo 86 (.bin .add (.t 85) (.c (.i .i64 1))),
 oo 87 (.bin .rem (.t 86) (.c (.i .i64 256))),
 oo 8 (.mv (.t 87))]
abbrev i67r18 : List IOper := [
 oo 47 (.mv (.t 7)),
 oo 48 (.bin .add (.t 47) (.c (.i .i64 1))),
 oo 49 (.mv (.t 10)),
 oo 50 (.bin .quo (.t 49) (.c (.i .i64 8))),
 oo 51 (.bin .rem (.t 50) (.c (.i .i64 3))),
 oo 52 (.bin .add (.c (.i .i64 1)) (.t 51)),
 oo 53 (.mn (.t 48) [.t 52]),
 oo 7 (.mv (.t 53))]
abbrev i67r19 : List IOper := [
 oo 54 (.mv (.t 7)),
 oo 55 (.fa 6 (.t 11)),
 on_ (.st 1 (.t 55) (.t 54)),
 oo 56 (.fa 2 (.t 11)),
 on_ (.st 1 (.t 56) (.c (.b true)))]
abbrev i67r20 : List IOper := [
 oo 88 (.mv (.t 8)),
 oo 89 (.fa 5 (.t 11)),
 on_ (.st 1 (.t 89) (.t 88))]
abbrev i67r21 : List IOper := [
 oo 90 (.mv (.t 10)),
 oo 91 (.bin .quo (.t 90) (.c (.i .i64 32))),
 oo 92 (.bin .rem (.t 91) (.c (.i .i64 3))),
 oo 93 (.bin .add (.c (.i .i64 1)) (.t 92)),
 oo 12 (.mv (.t 93))]
abbrev i67r22 : List IOper := [
 oo 13 (.mv (.c (.i .i64 0)))]
abbrev i67r23 : List IOper := [
 oo 94 (.mv (.t 13)),
 oo 95 (.mv (.t 12)),
 ot 96 (.bin .lss (.t 94) (.t 95))]
abbrev i67r24 : List IOper := [
 oo 99 (.mv (.t 13)),
 oo 100 (.bin .eql (.t 99) (.c (.i .i64 0))),
 oo 101 (.mv (.t 13)),
 oo 102 (.mv (.t 12)),
 oo 103 (.bin .sub (.t 102) (.c (.i .i64 1))),
 oo 104 (.bin .eql (.t 101) (.t 103)),
 oo 105 (.fa 0 (.t 11)),
 on_ (.st 1 (.t 105) (.t 100)),
 oo 106 (.fa 3 (.t 11)),
 on_ (.st 1 (.t 106) (.t 104))]
abbrev i67r25 : List (IOper × List Nat) := [
 (oo 107 (.mv (.t 5)), []),
 (oo 108 (.fa 3 (.t 11)), [0]),
 (oo 109 (.ld false 1 (.t 108)), [0]),
 (oo 110 (.mv (.t 6)), [0, 1, 2]),
 (oo 111 (.bin .rem (.t 110) (.c (.i .i64 65536))), [0, 1, 2]),
 (oo 112 (.fa 2 (.t 2)), [0, 1, 2, 3, 4]),
 (oo 113 (.ld false 1 (.t 112)), [0, 1, 2, 3, 4]),
 (oo 114 (.i2i .i64 (.t 113)), [0, 1, 2, 3, 4]),
 (oo 115 (.mv (.t 9)), [0, 1, 2, 3, 4, 5, 6, 7]),
 (oo 116 (.bin .mul (.c (.i .i64 3000)) (.t 115)), [0, 1, 2, 3, 4, 5, 6, 7]),
 (oo 117 (.bin .add (.t 114) (.t 116)), [0, 1, 2, 3, 4]),
 (oo 118 (.bin .rem (.t 117) (.c (.i .i64 4294967296))), [0, 1, 2, 3, 4]),
 (oo 119 (.mv (.t 1)), [0, 1, 2, 3, 4, 5, 6, 7, 8, 9, 10, 11]),
 (oo 120 (.ld true 8 (.t 11)), [0, 1, 2, 3, 4, 5, 6, 7, 8, 9, 10, 11, 12]),
 (oo 121 (.call (.c (.fn 81 [])) [.t 120]), [0, 1, 2, 3, 4, 5, 6, 7, 8, 9, 10, 11, 12]),
 (oo 122 (.mv (.t 9)), [0, 1, 2, 3, 4, 5, 6, 7, 8, 9, 10, 11, 12, 13, 14]),
 (oo 123 (.i2i .u8 (.t 122)), [0, 1, 2, 3, 4, 5, 6, 7, 8, 9, 10, 11, 12, 13, 14]),
 (oo 124 (.mv (.t 13)), [0, 1, 2, 3, 4, 5, 6, 7, 8, 9, 10, 11, 12, 13, 14, 15, 16]),
 (oo 125 (.i2i .u8 (.t 124)), [0, 1, 2, 3, 4, 5, 6, 7, 8, 9, 10, 11, 12, 13, 14, 15, 16]),
 (oo 126 (.bsl [.i .u8 0, .i .u8 0] 2 [(0, 1, .t 123), (1, 1, .t 125)]), [0, 1, 2, 3, 4, 5, 6, 7, 8, 9, 10, 11, 12, 13, 14]),
 (oo 127 (.b2s (.t 126)), [0, 1, 2, 3, 4, 5, 6, 7, 8, 9, 10, 11, 12, 13, 14]),
 (oo 128 (.bin .add (.t 121) (.t 127)), [0, 1, 2, 3, 4, 5, 6, 7, 8, 9, 10, 11, 12]),
 (oo 129 (.build [.b false, .i .i64 0, .i .i64 0, .i .i64 0, .i .i64 0, .ns, .ns, .i .i64 0, .s []] [(0, 1, .t 109), (1, 1, .c (.i .i64 96)), (2, 1, .t 111), (3, 1, .t 118), (4, 1, .t 119), (8, 1, .t 128)]), [0]),
 (oo 130 (.bsl [.b false, .i .i64 0, .i .i64 0, .i .i64 0, .i .i64 0, .ns, .ns, .i .i64 0, .s []] 1 [(0, 9, .t 129)]), [0]),
 (oo 131 (.app 9 112 [.b false, .i .i64 0, .i .i64 0, .i .i64 0, .i .i64 0, .ns, .ns, .i .i64 0, .s []] (.t 107) (.t 130)), []),
 (oo 5 (.mv (.t 131)), [])]
abbrev i67r26 : List IOper := [
 oo 132 (.mv (.t 6)),
 oo 133 (.bin .add (.t 132) (.c (.i .i64 1))),
 oo 6 (.mv (.t 133))]
abbrev i67r27 : List IOper := [
 oo 97 (.mv (.t 13)),
 oo 98 (.bin .add (.t 97) (.c (.i .i64 1))),
 oo 13 (.mv (.t 98))]
abbrev i67l28 : ICode := (.seq (.seq (.reg i67r23) (.cond (.t 96) .skip (.exit 3))) (.seq (.block 4 (.seq (.reg i67r24) (.seq (.dreg i67r25) (.reg i67r26)))) (.reg i67r27)))
abbrev i67r29 : List IOper := [
 oo 29 (.mv (.t 9)),
 oo 30 (.bin .add (.t 29) (.c (.i .i64 1))),
 oo 9 (.mv (.t 30))]
abbrev i67l30 : ICode := (.seq (.seq (.reg i67r4) (.cond (.t 28) .skip (.exit 0))) (.seq (.block 1 (.seq (.reg i67r5) (.seq (.seq (.reg i67r6) (.cond (.t 32) (.reg i67r7) .skip)) (.seq (.reg i67r8) (.seq (.block 2 (.seq (.reg i67r9) (.cond (.t 57) (.seq (.reg i67r10) (.reg i67r11)) (.seq (.reg i67r12) (.cond (.t 65) (.reg i67r13) (.seq (.reg i67r14) (.cond (.t 72) (.seq (.reg i67r15) (.seq (.reg i67r16) (.cond (.t 84) (.reg i67r17) .skip))) (.seq (.reg i67r18) (.reg i67r19))))))))) (.seq (.reg i67r20) (.seq (.reg i67r21) (.seq (.reg i67r22) (.block 3 (.loop i67l28)))))))))) (.reg i67r29)))
abbrev i67r31 : List IOper := [
 oo 134 (.mv (.t 5)),
 oo 4 (.mv (.t 134))]
abbrev i67c : ICode := (.seq (.reg i67r0) (.seq (.reg i67r1) (.seq (.dreg i67r2) (.seq (.seq (.reg i67r3) (.block 0 (.loop i67l30))) (.seq (.reg i67r31) .ret)))))
def i67 : IFn := { np := 2, N := 135, ct := [28, 32, 57, 65, 72, 84, 96], code := i67c, res := [.t 4] }
theorem i67_eq : compF Try.prog Try.f67 = some i67 := by kernel_rfl
abbrev i68r0 : List IOper := [
 oo 1 (.box (.t 0)),
 oo 2 (.mv (.c (.i .i64 0)))]
abbrev i68r1 : List IOper := [
 oo 3 (.fa 4 (.t 1)),
 oo 4 (.ld false 1 (.t 3)),
 oo 5 (.call (.c (.fn 85 [])) [.c (.i .i64 32767), .t 4]),
 oo 6 (.not (.t 5)),
 ot 7 (.mv (.t 6)),
 og 8 (.fa 5 (.t 1)) 7 false false,
 og 9 (.ld false 1 (.t 8)) 7 false false,
 og 10 (.call (.c (.fn 85 [])) [.c (.i .i64 255), .t 9]) 7 false false,
 og 11 (.not (.t 10)) 7 false false,
 oo 12 (.pick (.t 7) (.c (.b true)) (.t 11)),
 ot 13 (.mv (.t 12)),
 og 14 (.fa 6 (.t 1)) 13 false false,
 og 15 (.ld false 1 (.t 14)) 13 false false,
 og 16 (.call (.c (.fn 85 [])) [.c (.i .i64 3), .t 15]) 13 false false,
 og 17 (.not (.t 16)) 13 false false,
 oo 18 (.pick (.t 13) (.c (.b true)) (.t 17)),
 ot 19 (.mv (.t 18)),
 og 20 (.fa 7 (.t 1)) 19 false false,
 og 21 (.ld false 1 (.t 20)) 19 false false,
 og 22 (.call (.c (.fn 85 [])) [.c (.i .i64 2), .t 21]) 19 false false,
 og 23 (.not (.t 22)) 19 false false,
 oo 24 (.pick (.t 19) (.c (.b true)) (.t 23)),
 ot 25 (.mv (.t 24)),
 og 26 (.fa 1 (.t 1)) 25 false false,
 og 27 (.ld false 1 (.t 26)) 25 false false,
 og 28 (.mv (.t 27)) 25 false true,
 og 29 (.fa 6 (.t 1)) 28 true false,
 og 30 (.ld false 1 (.t 29)) 28 true false,
 og 31 (.bin .gtr (.t 30) (.c (.i .i64 0))) 28 true false,
 og 32 (.pick (.t 28) (.t 31) (.c (.b false))) 25 false false,
 oo 33 (.pick (.t 25) (.c (.b true)) (.t 32)),
 ot 34 (.mv (.t 33)),
 og 35 (.fa 2 (.t 1)) 34 false false,
 og 36 (.ld false 1 (.t 35)) 34 false false,
 og 37 (.mv (.t 36)) 34 false true,
 og 38 (.fa 6 (.t 1)) 37 true false,
 og 39 (.ld false 1 (.t 38)) 37 true false,
 og 40 (.bin .eql (.t 39) (.c (.i .i64 0))) 37 true false,
 og 41 (.pick (.t 37) (.t 40) (.c (.b false))) 34 false false,
 ot 42 (.pick (.t 34) (.c (.b true)) (.t 41))]
abbrev i68r2 : List IOper := [
 oo 2 (.mv (.c (.i .i64 400)))]
abbrev i68r3 : List IOper := [
 oo 2 (.mv (.c (.i .i64 0)))]
abbrev i68c : ICode := (.seq (.reg i68r0) (.seq (.seq (.reg i68r1) (.cond (.t 42) (.seq (.reg i68r2) .ret) .skip)) (.seq (.reg i68r3) .ret)))
def i68 : IFn := { np := 1, N := 43, ct := [42], code := i68c, res := [.t 2] }
theorem i68_eq : compF Try.prog Try.f68 = some i68 := by kernel_rfl
abbrev i69r0 : List IOper := [
 oo 1 (.box (.t 0)),
 oo 2 (.mv (.c (.i .i64 0)))]
abbrev i69r1 : List IOper := [
 oo 6 (.fa 0 (.t 1)),
 oo 7 (.ld true 12 (.t 6)),
 oo 8 (.build [.b false, .i .i64 0, .i .i64 0, .i .i64 0, .b false, .i .i64 0, .i .i64 0, .i .i64 0, .b false, .i .i64 0, .i .i64 0, .i .i64 0] []),
 ot 9 (.eqk false true [.b, .i, .i, .i, .b, .i, .i, .i, .b, .i, .i, .i] (.t 7) (.t 8))]
abbrev i69r2 : List IOper := [
 oo 2 (.mv (.c (.i .i64 0)))]
abbrev i69r3 : List IOper := [
 oo 10 (.fa 0 (.t 1)),
 oo 11 (.ld true 12 (.t 10)),
 oo 12 (.mv (.c (.i .i64 0)))]
abbrev i69r4 : List IOper := [
 ot 13 (.bin .lss (.t 12) (.c (.i .i64 3)))]
abbrev i69r5 : List IOper := [
 oo 14 (.mv (.t 12)),
 oo 15 (.ixA 3 4 true (.t 11) (.t 12)),
 oo 4 (.new [.b false, .i .i64 0, .i .i64 0, .i .i64 0]),
 oo 3 (.mv (.t 14)),
 on_ (.st 4 (.t 4) (.t 15))]
abbrev i69r6 : List IOper := [
 oo 16 (.fa 1 (.t 4)),
 oo 17 (.ld false 1 (.t 16)),
 oo 18 (.call (.c (.fn 85 [])) [.c (.i .i64 32767), .t 17]),
 ot 19 (.mv (.t 18)),
 og 20 (.fa 2 (.t 4)) 19 true false,
 og 21 (.ld false 1 (.t 20)) 19 true false,
 og 22 (.call (.c (.fn 85 [])) [.c (.i .i64 255), .t 21]) 19 true false,
 oo 23 (.pick (.t 19) (.t 22) (.c (.b false))),
 ot 24 (.mv (.t 23)),
 og 25 (.fa 3 (.t 4)) 24 true false,
 og 26 (.ld false 1 (.t 25)) 24 true false,
 og 27 (.call (.c (.fn 85 [])) [.c (.i .i64 3), .t 26]) 24 true false,
 oo 28 (.pick (.t 24) (.t 27) (.c (.b false))),
 ot 29 (.mv (.t 28)),
 og 30 (.fa 0 (.t 4)) 29 true false,
 og 31 (.ld false 1 (.t 30)) 29 true false,
 og 32 (.mv (.t 31)) 29 true true,
 og 33 (.ld true 4 (.t 4)) 32 false false,
 og 34 (.build [.b false, .i .i64 0, .i .i64 0, .i .i64 0] []) 32 false false,
 og 35 (.eqk false true [.b, .i, .i, .i] (.t 33) (.t 34)) 32 false false,
 og 36 (.pick (.t 32) (.c (.b true)) (.t 35)) 29 true false,
 oo 37 (.pick (.t 29) (.t 36) (.c (.b false))),
 oo 5 (.mv (.t 37))]
abbrev i69r7 : List IOper := [
 oo 38 (.mv (.t 5)),
 oo 39 (.not (.t 38)),
 ot 40 (.mv (.t 39)),
 og 41 (.fa 0 (.t 4)) 40 false false,
 og 42 (.ld false 1 (.t 41)) 40 false false,
 og 43 (.mv (.t 42)) 40 false true,
 og 44 (.mv (.t 3)) 43 true false,
 og 45 (.bin .gtr (.t 44) (.c (.i .i64 0))) 43 true false,
 og 46 (.pick (.t 43) (.t 45) (.c (.b false))) 40 false false,
 og 47 (.mv (.t 46)) 40 false true,
 og 48 (.mv (.t 3)) 47 true false,
 og 49 (.bin .sub (.t 48) (.c (.i .i64 1))) 47 true false,
 og 50 (.fa 0 (.t 1)) 47 true false,
 og 51 (.ixaA 3 4 (.t 50) (.t 49)) 47 true false,
 og 52 (.fa 0 (.t 51)) 47 true false,
 og 53 (.ld false 1 (.t 52)) 47 true false,
 og 54 (.not (.t 53)) 47 true false,
 og 55 (.pick (.t 47) (.t 54) (.c (.b false))) 40 false false,
 ot 56 (.pick (.t 40) (.c (.b true)) (.t 55))]
abbrev i69r8 : List IOper := [
 oo 2 (.mv (.c (.i .i64 402)))]
abbrev i69r9 : List IOper := [
 oo 57 (.bin .add (.t 12) (.c (.i .i64 1))),
 oo 12 (.mv (.t 57))]
abbrev i69l10 : ICode := (.seq (.reg i69r4) (.seq (.cond (.t 13) .skip (.exit 0)) (.seq (.block 1 (.seq (.reg i69r5) (.seq (.reg i69r6) (.seq (.reg i69r7) (.cond (.t 56) (.seq (.reg i69r8) .ret) .skip))))) (.reg i69r9))))
abbrev i69r11 : List IOper := [
 oo 2 (.mv (.c (.i .i64 0)))]
abbrev i69c : ICode := (.seq (.reg i69r0) (.seq (.seq (.reg i69r1) (.cond (.t 9) (.seq (.reg i69r2) .ret) .skip)) (.seq (.seq (.reg i69r3) (.block 0 (.loop i69l10))) (.seq (.reg i69r11) .ret))))
def i69 : IFn := { np := 1, N := 58, ct := [9, 13, 56], code := i69c, res := [.t 2] }
theorem i69_eq : compF Try.prog Try.f69 = some i69 := by kernel_rfl
abbrev i70r0 : List IOper := [
 oo 2 (.mv (.c (.b false)))]
abbrev i70r1 : List (IOper × List Nat) := [
 (oo 9 (.mv (.t 0)), []),
 (oo 10 (.nck (.t 9)), []),
 (oo 11 (.fa 12 (.t 10)), []),
 (oo 12 (.ld true 8 (.t 11)), []),
 (oo 13 (.mv (.t 0)), [0, 1, 2, 3]),
 (oo 14 (.mv (.t 0)), [0, 1, 2, 3, 4]),
 (oo 15 (.nck (.t 14)), [0, 1, 2, 3, 4]),
 (oo 16 (.fa 12 (.t 15)), [0, 1, 2, 3, 4]),
 (oo 17 (.fa 7 (.t 16)), [0, 1, 2, 3, 4]),
 (oo 18 (.ld false 1 (.t 17)), [0, 1, 2, 3, 4]),
 (oo 19 (.nck (.t 13)), [0, 1, 2, 3, 5, 6, 7, 8, 9]),
 (oo 20 (.fa 0 (.t 19)), [0, 1, 2, 3, 5, 6, 7, 8, 9]),
 (oo 21 (.fa 0 (.t 20)), [0, 1, 2, 3, 5, 6, 7, 8, 9]),
 (oo 22 (.ixaA 3 4 (.t 21) (.t 18)), [0, 1, 2, 3]),
 (oo 3 (.new [.b false, .b false, .b false, .b false, .i .i64 0, .i .i64 0, .i .i64 0, .i .i64 0]), [0, 1, 2, 3, 4, 5, 6, 7, 8, 9, 10, 11, 12, 13]),
 (on_ (.st 8 (.t 3) (.t 12)), [4, 5, 6, 7, 8, 9, 10, 11, 12, 13]),
 (oo 4 (.mv (.t 22)), [])]
abbrev i70r2 : List (IOper × List Nat) := [
 (oo 24 (.fa 4 (.t 3)), []),
 (oo 25 (.ld false 1 (.t 24)), []),
 (oo 26 (.mv (.t 4)), [0, 1]),
 (oo 27 (.nck (.t 26)), [0, 1]),
 (oo 28 (.fa 1 (.t 27)), [0, 1]),
 (oo 29 (.ld false 1 (.t 28)), [0, 1]),
 (oo 30 (.call (.c (.fn 86 [])) [.t 25, .t 29, .c (.i .i64 15)]), []),
 (oo 23 (.mv (.t 30)), []),
 (oo 31 (.ext (.t 23) 0), []),
 (oo 32 (.ext (.t 23) 1), [8]),
 (oo 5 (.mv (.t 31)), [9]),
 (oo 6 (.mv (.t 32)), [])]
abbrev i70r3 : List IOper := [
 oo 33 (.mv (.t 4)),
 oo 34 (.nck (.t 33)),
 oo 35 (.fa 0 (.t 34)),
 oo 36 (.ld false 1 (.t 35)),
 ot 37 (.mv (.t 36)),
 og 38 (.mv (.t 5)) 37 true false,
 og 39 (.bin .gtr (.t 38) (.c (.i .i64 0))) 37 true false,
 oo 40 (.pick (.t 37) (.t 39) (.c (.b false))),
 oo 7 (.mv (.t 40))]
abbrev i70r4 : List IOper := [
 oo 98 (.fa 1 (.t 3)),
 oo 99 (.ld false 1 (.t 98)),
 ot 97 (.mv (.t 99))]
abbrev i70r5 : List IOper := [
 oo 100 (.mv (.t 0)),
 oo 101 (.call (.c (.fn 87 [])) [.t 100]),
 ot 102 (.not (.t 101))]
abbrev i70r6 : List IOper := [
 oo 2 (.mv (.c (.b false)))]
abbrev i70r7 : List IOper := [
 oo 103 (.mv (.t 0)),
 oo 104 (.call (.c (.fn 88 [])) [.t 103])]
abbrev i70r8 : List IOper := [
 oo 105 (.mv (.t 4)),
 oo 106 (.fa 4 (.t 3)),
 oo 107 (.ld false 1 (.t 106)),
 oo 108 (.fa 5 (.t 3)),
 oo 109 (.ld false 1 (.t 108)),
 oo 110 (.build [.b false, .i .i64 0, .i .i64 0, .i .i64 0] [(0, 1, .c (.b true)), (1, 1, .t 107), (2, 1, .t 109)]),
 oo 111 (.nck (.t 105)),
 on_ (.st 4 (.t 111) (.t 110))]
abbrev i70r9 : List IOper := [
 oo 113 (.fa 6 (.t 3)),
 oo 114 (.ld false 1 (.t 113)),
 oo 115 (.bin .eql (.t 114) (.c (.i .i64 0))),
 ot 112 (.mv (.t 115))]
abbrev i70r10 : List IOper := [
 oo 116 (.mv (.t 7)),
 ot 117 (.not (.t 116))]
abbrev i70r11 : List IOper := [
 oo 2 (.mv (.c (.b false)))]
abbrev i70r12 : List (IOper × List Nat) := [
 (oo 118 (.mv (.t 0)), []),
 (oo 119 (.call (.c (.fn 87 [])) [.t 118]), []),
 (oo 120 (.not (.t 119)), []),
 (ot 121 (.mv (.t 120)), []),
 (og 122 (.fa 5 (.t 3)) 121 false false, []),
 (og 123 (.ld false 1 (.t 122)) 121 false false, []),
 (og 124 (.mv (.t 4)) 121 false false, [4, 5]),
 (og 125 (.nck (.t 124)) 121 false false, [4, 5]),
 (og 126 (.fa 2 (.t 125)) 121 false false, [4, 5]),
 (og 127 (.ld false 1 (.t 126)) 121 false false, [4, 5]),
 (og 128 (.bin .add (.t 127) (.c (.i .i64 1))) 121 false false, [4, 5]),
 (og 129 (.bin .and (.t 128) (.c (.i .i64 255))) 121 false false, [4, 5]),
 (og 130 (.bin .neq (.t 123) (.t 129)) 121 false false, []),
 (ot 131 (.pick (.t 121) (.c (.b true)) (.t 130)), [])]
abbrev i70r13 : List IOper := [
 oo 132 (.mv (.t 0)),
 oo 133 (.call (.c (.fn 88 [])) [.t 132])]
abbrev i70r14 : List IOper := [
 oo 2 (.mv (.c (.b false)))]
abbrev i70r15 : List (IOper × List Nat) := [
 (oo 134 (.mv (.t 4)), []),
 (oo 135 (.mv (.t 4)), [0]),
 (oo 136 (.fa 4 (.t 3)), [0, 1]),
 (oo 137 (.ld false 1 (.t 136)), [0, 1]),
 (oo 138 (.fa 5 (.t 3)), [0, 1, 2, 3]),
 (oo 139 (.ld false 1 (.t 138)), [0, 1, 2, 3]),
 (oo 140 (.nck (.t 134)), [1, 4, 5]),
 (oo 141 (.fa 1 (.t 140)), [1, 4, 5]),
 (on_ (.st 1 (.t 141) (.t 137)), [1, 4, 5]),
 (oo 142 (.nck (.t 135)), []),
 (oo 143 (.fa 2 (.t 142)), []),
 (on_ (.st 1 (.t 143) (.t 139)), [])]
abbrev i70r16 : List (IOper × List Nat) := [
 (oo 41 (.fa 2 (.t 3)), []),
 (oo 42 (.ld false 1 (.t 41)), []),
 (ot 43 (.mv (.t 42)), []),
 (og 44 (.fa 6 (.t 3)) 43 true false, []),
 (og 45 (.ld false 1 (.t 44)) 43 true false, []),
 (og 46 (.mv (.t 4)) 43 true false, [3, 4]),
 (og 47 (.nck (.t 46)) 43 true false, [3, 4]),
 (og 48 (.fa 3 (.t 47)) 43 true false, [3, 4]),
 (og 49 (.ld false 1 (.t 48)) 43 true false, [3, 4]),
 (og 50 (.bin .add (.t 49) (.c (.i .i64 1))) 43 true false, [3, 4]),
 (og 51 (.bin .eql (.t 45) (.t 50)) 43 true false, []),
 (oo 52 (.pick (.t 43) (.t 51) (.c (.b false))), []),
 (oo 8 (.mv (.t 52)), [])]
abbrev i70r17 : List (IOper × List Nat) := [
 (oo 53 (.mv (.t 7)), []),
 (oo 54 (.not (.t 53)), []),
 (ot 55 (.mv (.t 54)), []),
 (og 56 (.mv (.t 0)) 55 false false, []),
 (og 57 (.call (.c (.fn 87 [])) [.t 56]) 55 false false, []),
 (og 58 (.not (.t 57)) 55 false false, []),
 (oo 59 (.pick (.t 55) (.c (.b true)) (.t 58)), []),
 (ot 60 (.mv (.t 59)), []),
 (og 61 (.fa 5 (.t 3)) 60 false false, []),
 (og 62 (.ld false 1 (.t 61)) 60 false false, []),
 (og 63 (.mv (.t 4)) 60 false false, [8, 9]),
 (og 64 (.nck (.t 63)) 60 false false, [8, 9]),
 (og 65 (.fa 2 (.t 64)) 60 false false, [8, 9]),
 (og 66 (.ld false 1 (.t 65)) 60 false false, [8, 9]),
 (og 67 (.bin .neq (.t 62) (.t 66)) 60 false false, []),
 (oo 68 (.pick (.t 60) (.c (.b true)) (.t 67)), []),
 (ot 69 (.mv (.t 68)), []),
 (og 70 (.fa 6 (.t 3)) 69 false false, []),
 (og 71 (.ld false 1 (.t 70)) 69 false false, []),
 (og 72 (.mv (.t 4)) 69 false false, [17, 18]),
 (og 73 (.nck (.t 72)) 69 false false, [17, 18]),
 (og 74 (.fa 3 (.t 73)) 69 false false, [17, 18]),
 (og 75 (.ld false 1 (.t 74)) 69 false false, [17, 18]),
 (og 76 (.bin .gtr (.t 71) (.t 75)) 69 false false, []),
 (og 77 (.mv (.t 76)) 69 false true, []),
 (og 78 (.mv (.t 8)) 77 true false, []),
 (og 79 (.not (.t 78)) 77 true false, []),
 (og 80 (.pick (.t 77) (.t 79) (.c (.b false))) 69 false false, []),
 (ot 81 (.pick (.t 69) (.c (.b true)) (.t 80)), [])]
abbrev i70r18 : List IOper := [
 oo 2 (.mv (.c (.b false)))]
abbrev i70r19 : List (IOper × List Nat) := [
 (oo 82 (.mv (.t 4)), []),
 (oo 83 (.mv (.t 4)), [0]),
 (oo 84 (.fa 4 (.t 3)), [0, 1]),
 (oo 85 (.ld false 1 (.t 84)), [0, 1]),
 (oo 86 (.mv (.t 4)), [0, 1, 2, 3]),
 (oo 87 (.nck (.t 86)), [0, 1, 2, 3]),
 (oo 88 (.fa 3 (.t 87)), [0, 1, 2, 3]),
 (oo 89 (.ld false 1 (.t 88)), [0, 1, 2, 3]),
 (oo 90 (.fa 6 (.t 3)), [0, 1, 2, 3, 4, 5, 6, 7]),
 (oo 91 (.ld false 1 (.t 90)), [0, 1, 2, 3, 4, 5, 6, 7]),
 (oo 92 (.mx (.t 89) [.t 91]), [0, 1, 2, 3]),
 (oo 93 (.nck (.t 82)), [1, 8, 9, 10]),
 (oo 94 (.fa 1 (.t 93)), [1, 8, 9, 10]),
 (on_ (.st 1 (.t 94) (.t 85)), [1, 8, 9, 10]),
 (oo 95 (.nck (.t 83)), []),
 (oo 96 (.fa 3 (.t 95)), []),
 (on_ (.st 1 (.t 96) (.t 92)), [])]
abbrev i70r20 : List IOper := [
 oo 2 (.mv (.c (.b true)))]
abbrev i70c : ICode := (.seq (.reg i70r0) (.seq (.dreg i70r1) (.seq (.dreg i70r2) (.seq (.reg i70r3) (.seq (.block 0 (.seq (.reg i70r4) (.cond (.t 97) (.seq (.seq (.reg i70r5) (.cond (.t 102) (.seq (.reg i70r6) .ret) .skip)) (.seq (.reg i70r7) (.reg i70r8))) (.seq (.reg i70r9) (.cond (.t 112) (.seq (.seq (.reg i70r10) (.cond (.t 117) (.seq (.reg i70r11) .ret) .skip)) (.seq (.seq (.dreg i70r12) (.cond (.t 131) (.seq (.reg i70r13) (.seq (.reg i70r14) .ret)) .skip)) (.dreg i70r15))) (.seq (.dreg i70r16) (.seq (.seq (.dreg i70r17) (.cond (.t 81) (.seq (.reg i70r18) .ret) .skip)) (.dreg i70r19)))))))) (.seq (.reg i70r20) .ret))))))
def i70 : IFn := { np := 1, N := 144, ct := [97, 102, 112, 117, 131, 81], code := i70c, res := [.t 2] }
theorem i70_eq : compF Try.prog Try.f70 = some i70 := by kernel_rfl
abbrev i71r0 : List IOper := [
 oo 1 (.box (.t 0)),
 oo 2 (.mv (.c (.b false)))]
abbrev i71r1 : List IOper := [
 oo 3 (.fa 0 (.t 1)),
 oo 4 (.ld false 1 (.t 3)),
 oo 5 (.call (.c (.fn 54 [])) [.t 4, .c (.i .i64 65536)]),
 ot 6 (.mv (.t 5)),
 og 7 (.fa 1 (.t 1)) 6 true false,
 og 8 (.ld false 1 (.t 7)) 6 true false,
 og 9 (.call (.c (.fn 54 [])) [.t 8, .c (.i .i64 4294967296)]) 6 true false,
 oo 10 (.pick (.t 6) (.t 9) (.c (.b false))),
 ot 11 (.mv (.t 10)),
 og 12 (.fa 2 (.t 1)) 11 true false,
 og 13 (.ld false 1 (.t 12)) 11 true false,
 og 14 (.call (.c (.fn 54 [])) [.t 13, .c (.i .i64 32768)]) 11 true false,
 oo 15 (.pick (.t 11) (.t 14) (.c (.b false))),
 ot 16 (.mv (.t 15)),
 og 17 (.fa 3 (.t 1)) 16 true false,
 og 18 (.ld false 1 (.t 17)) 16 true false,
 og 19 (.call (.c (.fn 54 [])) [.t 18, .c (.i .i64 256)]) 16 true false,
 oo 20 (.pick (.t 16) (.t 19) (.c (.b false))),
 oo 2 (.mv (.t 20))]
abbrev i71c : ICode := (.seq (.reg i71r0) (.seq (.reg i71r1) .ret))
def i71 : IFn := { np := 1, N := 21, ct := [], code := i71c, res := [.t 2] }
theorem i71_eq : compF Try.prog Try.f71 = some i71 := by kernel_rfl
abbrev i72r0 : List IOper := [
 oo 4 (.mv (.c (.b false)))]
abbrev i72r1 : List IOper := [
 oo 5 (.mv (.t 0)),
 oo 6 (.mv (.t 1)),
 oo 7 (.call (.c (.fn 58 [])) [.t 5, .t 6]),
 oo 8 (.bin .geq (.t 7) (.c (.i .i64 0))),
 oo 4 (.mv (.t 8))]
abbrev i72c : ICode := (.seq (.reg i72r0) (.seq (.reg i72r1) .ret))
def i72 : IFn := { np := 2, N := 9, ct := [], code := i72c, res := [.t 4] }
theorem i72_eq : compF Try.prog Try.f72 = some i72 := by kernel_rfl
abbrev i73r0 : List IOper := [
 oo 2 (.box (.t 0)),
 oo 4 (.mv (.c (.b false)))]
abbrev i73r1 : List IOper := [
 oo 5 (.mv (.t 1)),
 oo 6 (.mkf 90 [.t 2]),
 oo 7 (.call (.c (.fn 89 [])) [.t 5, .t 6]),
 oo 8 (.not (.t 7)),
 oo 4 (.mv (.t 8))]
abbrev i73c : ICode := (.seq (.reg i73r0) (.seq (.reg i73r1) .ret))
def i73 : IFn := { np := 2, N := 9, ct := [], code := i73c, res := [.t 4] }
theorem i73_eq : compF Try.prog Try.f73 = some i73 := by kernel_rfl
abbrev i74r0 : List IOper := [
 oo 3 .rcv,
 oo 0 (.mv (.t 3))]
abbrev i74r1 : List IOper := [
 oo 4 (.mv (.t 0)),
 ot 5 (.eqi true (.t 4))]
abbrev i74r2 : List IOper := [
 oo 7 (.mv (.t 0)),
 oo 8 (.tas 131 (.agg []) (.t 7)),
 oo 6 (.mv (.t 8)),
 oo 9 (.ext (.t 6) 0),
 oo 10 (.ext (.t 6) 1),
 oo 1 (.new []),
 on_ (.st 0 (.t 1) (.t 9)),
 oo 2 (.mv (.t 10))]
abbrev i74r3 : List IOper := [
 oo 11 (.mv (.t 2)),
 ot 12 (.not (.t 11))]
abbrev i74r4 : List IOper := [
 oo 13 (.mv (.t 0)),
 on_ (.pan (.t 13))]
abbrev i74c : ICode := (.seq (.reg i74r0) (.seq (.reg i74r1) (.cond (.t 5) (.seq (.reg i74r2) (.seq (.reg i74r3) (.cond (.t 12) (.reg i74r4) .skip))) .skip)))
def i74 : IFn := { np := 0, N := 14, ct := [5, 12], code := i74c, res := [] }
theorem i74_eq : compF Try.prog Try.f74 = some i74 := by kernel_rfl
end Go.Proofs.Lys
