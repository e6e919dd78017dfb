/- The small language's text of the functions; printed by ShowI.lean. -/
import Derived.Test.YtlokbfkdgnopeaaGreatDoorProg
import Derived.Test.YtlokbfkdgnopeaaGreatDoorAbRuns
namespace Go.Proofs.Flz
open Go.Ab
abbrev i9r0 : List IOper := [
 oo 1 (.box (.t 0)),
 oo 2 (.mv (.c (.ns)))]
abbrev i9r1 : List IOper := [
 oo 3 (.mv (.c (.ns)))]
abbrev i9r2 : List IOper := [
 oo 4 (.mv (.c (.i .i64 0)))]
abbrev i9r3 : List IOper := [
 oo 6 (.mv (.t 4)),
 oo 7 (.fa 2 (.t 1)),
 oo 8 (.ld false 1 (.t 7)),
 oo 9 (.lenV (.t 8)),
 oo 10 (.bin .lss (.t 6) (.t 9)),
 ot 11 (.mv (.t 10)),
 og 12 (.mv (.t 4)) 11 true false,
 og 13 (.bin .lss (.t 12) (.c (.i .i64 5))) 11 true false,
 ot 14 (.pick (.t 11) (.t 13) (.c (.b false)))]
abbrev i9r4 : List (IOper × List Nat) := [
 (oo 17 (.fa 0 (.t 1)), []),
 (oo 18 (.ld false 1 (.t 17)), []),
 (oo 19 (.i2i .i64 (.t 18)), []),
 (oo 20 (.mv (.t 4)), [0, 1, 2]),
 (oo 21 (.bin .add (.t 19) (.t 20)), []),
 (oo 22 (.fa 2 (.t 1)), [0, 1, 2, 3, 4]),
 (oo 23 (.ld false 1 (.t 22)), [0, 1, 2, 3, 4]),
 (oo 24 (.mv (.t 4)), [0, 1, 2, 3, 4, 5, 6]),
 (oo 25 (.ixaV 1 (.t 23) (.t 24)), [0, 1, 2, 3, 4]),
 (oo 26 (.ld false 1 (.t 25)), [0, 1, 2, 3, 4]),
 (oo 27 (.fa 2 (.t 1)), [0, 1, 2, 3, 4, 5, 6, 7, 8, 9]),
 (oo 28 (.ld false 1 (.t 27)), [0, 1, 2, 3, 4, 5, 6, 7, 8, 9]),
 (oo 29 (.mv (.t 4)), [0, 1, 2, 3, 4, 5, 6, 7, 8, 9, 10, 11]),
 (oo 30 (.ixaV 1 (.t 28) (.t 29)), [0, 1, 2, 3, 4, 5, 6, 7, 8, 9]),
 (oo 31 (.ld false 1 (.t 30)), [0, 1, 2, 3, 4, 5, 6, 7, 8, 9]),
 (oo 32 (.lenV (.t 31)), [0, 1, 2, 3, 4, 5, 6, 7, 8, 9]),
 (oo 33 (.mn (.t 32) [.c (.i .i64 60)]), [0, 1, 2, 3, 4, 5, 6, 7, 8, 9]),
 (oo 34 (.slV 1 (.t 26) none (some (.t 33)) none), [0, 1, 2, 3, 4]),
 (oo 35 (.b2s (.t 34)), [0, 1, 2, 3, 4]),
 (oo 36 (.build [.i .i64 0, .i .i64 0, .s []] [(0, 1, .c (.i .i64 1)), (1, 1, .t 21), (2, 1, .t 35)]), []),
 (oo 5 (.new [.i .i64 0, .i .i64 0, .s []]), [0, 1, 2, 3, 4, 5, 6, 7, 8, 9, 10, 11, 12, 13, 14, 15, 16, 17, 18, 19]),
 (on_ (.st 3 (.t 5) (.t 36)), [])]
abbrev i9r5 : List IOper := [
 oo 37 (.mv (.t 4)),
 oo 38 (.fa 1 (.t 1)),
 oo 39 (.ld false 1 (.t 38)),
 oo 40 (.lenV (.t 39)),
 ot 41 (.bin .lss (.t 37) (.t 40))]
abbrev i9r6 : List IOper := [
 oo 42 (.fa 1 (.t 1)),
 oo 43 (.ld false 1 (.t 42)),
 oo 44 (.mv (.t 4)),
 oo 45 (.ixaV 1 (.t 43) (.t 44)),
 oo 46 (.ld false 1 (.t 45)),
 oo 47 (.i2i .i64 (.t 46)),
 oo 48 (.fa 0 (.t 5)),
 on_ (.st 1 (.t 48) (.t 47))]
abbrev i9r7 : List IOper := [
 oo 49 (.fa 1 (.t 5)),
 oo 50 (.ld false 1 (.t 49)),
 ot 51 (.bin .lss (.t 50) (.c (.i .i64 65536)))]
abbrev i9r8 : List IOper := [
 oo 52 (.mv (.t 3)),
 oo 53 (.ld true 3 (.t 5)),
 oo 54 (.bsl [.i .i64 0, .i .i64 0, .s []] 1 [(0, 3, .t 53)]),
 oo 55 (.app 3 32 [.i .i64 0, .i .i64 0, .s []] (.t 52) (.t 54)),
 oo 3 (.mv (.t 55))]
abbrev i9r9 : List IOper := [
 oo 15 (.mv (.t 4)),
 oo 16 (.bin .add (.t 15) (.c (.i .i64 1))),
 oo 4 (.mv (.t 16))]
abbrev i9l10 : ICode := (.seq (.seq (.reg i9r3) (.cond (.t 14) .skip (.exit 0))) (.seq (.block 1 (.seq (.dreg i9r4) (.seq (.seq (.reg i9r5) (.cond (.t 41) (.reg i9r6) .skip)) (.seq (.reg i9r7) (.cond (.t 51) (.reg i9r8) .skip))))) (.reg i9r9)))
abbrev i9r11 : List IOper := [
 oo 56 (.mv (.t 3)),
 oo 2 (.mv (.t 56))]
abbrev i9c : ICode := (.seq (.reg i9r0) (.seq (.reg i9r1) (.seq (.seq (.reg i9r2) (.block 0 (.loop i9l10))) (.seq (.reg i9r11) .ret))))
def i9 : IFn := { np := 1, N := 57, ct := [14, 41, 51], code := i9c, res := [.t 2] }
theorem i9_eq : compF Tryz.prog Tryz.f9 = some i9 := by kernel_rfl
abbrev i16r0 : List IOper := [
 oo 2 (.new [.i .i64 0, .i .i64 0, .i .i64 0, .i .i64 0, .s []]),
 oo 3 (.mv (.c (.i .i64 0)))]
abbrev i16r1 : List IOper := [
 oo 5 (.mv (.t 0)),
 oo 6 (.lenS (.t 5)),
 ot 7 (.bin .gtr (.t 6) (.c (.i .i64 1200)))]
abbrev i16r2 : List IOper := [
 oo 8 (.build [.i .i64 0, .i .i64 0, .i .i64 0, .i .i64 0, .s []] []),
 on_ (.st 5 (.t 2) (.t 8)),
 oo 3 (.mv (.c (.i .i64 3)))]
abbrev i16r3 : List IOper := [
 oo 9 (.mv (.t 0)),
 oo 10 (.lenS (.t 9)),
 oo 11 (.bin .lss (.t 10) (.c (.i .i64 12))),
 ot 12 (.mv (.t 11)),
 og 13 (.mv (.t 0)) 12 false false,
 og 14 (.lenS (.t 13)) 12 false false,
 og 15 (.bin .sub (.t 14) (.c (.i .i64 12))) 12 false false,
 og 16 (.mv (.t 0)) 12 false false,
 og 17 (.slS (.t 16) (some (.c (.i .i64 9))) (some (.c (.i .i64 12)))) 12 false false,
 og 18 (.call (.c (.fn 51 [])) [.t 17]) 12 false false,
 og 19 (.bin .lss (.t 15) (.t 18)) 12 false false,
 ot 20 (.pick (.t 12) (.c (.b true)) (.t 19))]
abbrev i16r4 : List IOper := [
 oo 21 (.build [.i .i64 0, .i .i64 0, .i .i64 0, .i .i64 0, .s []] []),
 on_ (.st 5 (.t 2) (.t 21)),
 oo 3 (.mv (.c (.i .i64 7)))]
abbrev i16r5 : List (IOper × List Nat) := [
 (oo 22 (.mv (.t 0)), []),
 (oo 23 (.slS (.t 22) none (some (.c (.i .i64 1)))), []),
 (oo 24 (.call (.c (.fn 51 [])) [.t 23]), []),
 (oo 25 (.mv (.t 0)), [0, 1, 2]),
 (oo 26 (.slS (.t 25) (some (.c (.i .i64 1))) (some (.c (.i .i64 4)))), [0, 1, 2]),
 (oo 27 (.call (.c (.fn 51 [])) [.t 26]), []),
 (oo 28 (.mv (.t 0)), [0, 1, 2, 3, 4, 5]),
 (oo 29 (.slS (.t 28) (some (.c (.i .i64 4))) (some (.c (.i .i64 6)))), [0, 1, 2, 3, 4, 5]),
 (oo 30 (.call (.c (.fn 51 [])) [.t 29]), []),
 (oo 31 (.mv (.t 0)), [0, 1, 2, 3, 4, 5, 6, 7, 8]),
 (oo 32 (.slS (.t 31) (some (.c (.i .i64 6))) (some (.c (.i .i64 9)))), [0, 1, 2, 3, 4, 5, 6, 7, 8]),
 (oo 33 (.call (.c (.fn 51 [])) [.t 32]), []),
 (oo 34 (.mv (.t 0)), [0, 1, 2, 3, 4, 5, 6, 7, 8, 9, 10, 11]),
 (oo 35 (.slS (.t 34) (some (.c (.i .i64 12))) none), [0, 1, 2, 3, 4, 5, 6, 7, 8, 9, 10, 11]),
 (oo 36 (.build [.i .i64 0, .i .i64 0, .i .i64 0, .i .i64 0, .s []] [(0, 1, .t 24), (1, 1, .t 27), (2, 1, .t 30), (3, 1, .t 33), (4, 1, .t 35)]), []),
 (oo 4 (.new [.i .i64 0, .i .i64 0, .i .i64 0, .i .i64 0, .s []]), [0, 1, 2, 3, 4, 5, 6, 7, 8, 9, 10, 11, 12, 13, 14]),
 (on_ (.st 5 (.t 4) (.t 36)), [])]
abbrev i16r6 : List IOper := [
 oo 37 (.mv (.t 0)),
 oo 38 (.lenS (.t 37)),
 oo 39 (.bin .sub (.t 38) (.c (.i .i64 12))),
 oo 40 (.mv (.t 0)),
 oo 41 (.slS (.t 40) (some (.c (.i .i64 9))) (some (.c (.i .i64 12)))),
 oo 42 (.call (.c (.fn 51 [])) [.t 41]),
 oo 43 (.bin .gtr (.t 39) (.t 42)),
 ot 44 (.mv (.t 43)),
 og 45 (.ld true 5 (.t 4)) 44 false false,
 og 46 (.call (.c (.fn 52 [])) [.t 45]) 44 false false,
 og 47 (.not (.t 46)) 44 false false,
 ot 48 (.pick (.t 44) (.c (.b true)) (.t 47))]
abbrev i16r7 : List IOper := [
 oo 49 (.build [.i .i64 0, .i .i64 0, .i .i64 0, .i .i64 0, .s []] []),
 on_ (.st 5 (.t 2) (.t 49)),
 oo 3 (.mv (.c (.i .i64 5)))]
abbrev i16r8 : List IOper := [
 oo 50 (.ld true 5 (.t 4)),
 on_ (.st 5 (.t 2) (.t 50)),
 oo 3 (.mv (.c (.i .i64 0)))]
abbrev i16c : ICode := (.seq (.reg i16r0) (.seq (.seq (.reg i16r1) (.cond (.t 7) (.seq (.reg i16r2) .ret) .skip)) (.seq (.seq (.reg i16r3) (.cond (.t 20) (.seq (.reg i16r4) .ret) .skip)) (.seq (.dreg i16r5) (.seq (.seq (.reg i16r6) (.cond (.t 48) (.seq (.reg i16r7) .ret) .skip)) (.seq (.reg i16r8) .ret))))))
def i16 : IFn := { np := 1, N := 51, ct := [7, 20, 48], code := i16c, res := [.c 2 true 5, .t 3] }
abbrev i47r0 : List IOper := [
 oo 2 (.box (.t 0)),
 oo 4 (.mv (.c (.ns)))]
abbrev i47r1 : List IOper := [
 oo 8 (.fa 2 (.t 2)),
 oo 9 (.ld false 1 (.t 8)),
 ot 10 (.bin .eql (.t 9) (.c (.s [])))]
abbrev i47r2 : List IOper := [
 oo 11 (.fa 0 (.t 2)),
 oo 12 (.ld false 1 (.t 11)),
 oo 13 (.fa 1 (.t 2)),
 oo 14 (.ld false 1 (.t 13)),
 oo 15 (.build [.i .i64 0, .i .i64 0, .i .i64 0, .i .i64 0, .s []] [(0, 1, .t 12), (2, 1, .t 14)]),
 oo 16 (.call (.c (.fn 77 [])) [.t 15]),
 oo 17 (.bsl [.s []] 1 [(0, 1, .t 16)]),
 oo 4 (.mv (.t 17))]
abbrev i47r3 : List IOper := [
 oo 5 (.mv (.c (.ns)))]
abbrev i47r4 : List IOper := [
 oo 6 (.mv (.c (.i .i64 0)))]
abbrev i47r5 : List IOper := [
 oo 18 (.mv (.t 6)),
 oo 19 (.fa 2 (.t 2)),
 oo 20 (.ld false 1 (.t 19)),
 oo 21 (.lenS (.t 20)),
 ot 22 (.bin .lss (.t 18) (.t 21))]
abbrev i47r6 : List IOper := [
 oo 26 (.mv (.t 6)),
 oo 27 (.mv (.t 1)),
 oo 28 (.bin .add (.t 26) (.t 27)),
 oo 7 (.mv (.t 28))]
abbrev i47r7 : List IOper := [
 oo 29 (.mv (.t 7)),
 oo 30 (.fa 2 (.t 2)),
 oo 31 (.ld false 1 (.t 30)),
 oo 32 (.lenS (.t 31)),
 ot 33 (.bin .gtr (.t 29) (.t 32))]
abbrev i47r8 : List IOper := [
 oo 34 (.fa 2 (.t 2)),
 oo 35 (.ld false 1 (.t 34)),
 oo 36 (.lenS (.t 35)),
 oo 7 (.mv (.t 36))]
abbrev i47r9 : List (IOper × List Nat) := [
 (oo 37 (.mv (.t 5)), []),
 (oo 38 (.fa 0 (.t 2)), [0]),
 (oo 39 (.ld false 1 (.t 38)), [0]),
 (oo 40 (.fa 2 (.t 2)), [0, 1, 2]),
 (oo 41 (.ld false 1 (.t 40)), [0, 1, 2]),
 (oo 42 (.lenS (.t 41)), [0, 1, 2]),
 (oo 43 (.fa 1 (.t 2)), [0, 1, 2, 3, 4, 5]),
 (oo 44 (.ld false 1 (.t 43)), [0, 1, 2, 3, 4, 5]),
 (oo 45 (.mv (.t 6)), [0, 1, 2, 3, 4, 5, 6, 7]),
 (oo 46 (.fa 2 (.t 2)), [0, 1, 2, 3, 4, 5, 6, 7, 8]),
 (oo 47 (.ld false 1 (.t 46)), [0, 1, 2, 3, 4, 5, 6, 7, 8]),
 (oo 48 (.mv (.t 6)), [0, 1, 2, 3, 4, 5, 6, 7, 8, 9, 10]),
 (oo 49 (.mv (.t 7)), [0, 1, 2, 3, 4, 5, 6, 7, 8, 9, 10, 11]),
 (oo 50 (.slS (.t 47) (some (.t 48)) (some (.t 49))), [0, 1, 2, 3, 4, 5, 6, 7, 8]),
 (oo 51 (.build [.i .i64 0, .i .i64 0, .i .i64 0, .i .i64 0, .s []] [(0, 1, .t 39), (1, 1, .t 42), (2, 1, .t 44), (3, 1, .t 45), (4, 1, .t 50)]), [0]),
 (oo 52 (.call (.c (.fn 77 [])) [.t 51]), [0]),
 (oo 53 (.bsl [.s []] 1 [(0, 1, .t 52)]), [0]),
 (oo 54 (.app 1 16 [.s []] (.t 37) (.t 53)), []),
 (oo 5 (.mv (.t 54)), [])]
abbrev i47r10 : List IOper := [
 oo 23 (.mv (.t 6)),
 oo 24 (.mv (.t 1)),
 oo 25 (.bin .add (.t 23) (.t 24)),
 oo 6 (.mv (.t 25))]
abbrev i47l11 : ICode := (.seq (.seq (.reg i47r5) (.cond (.t 22) .skip (.exit 0))) (.seq (.block 1 (.seq (.reg i47r6) (.seq (.seq (.reg i47r7) (.cond (.t 33) (.reg i47r8) .skip)) (.dreg i47r9)))) (.reg i47r10)))
abbrev i47r12 : List IOper := [
 oo 55 (.mv (.t 5)),
 oo 4 (.mv (.t 55))]
abbrev i47c : ICode := (.seq (.reg i47r0) (.seq (.seq (.reg i47r1) (.cond (.t 10) (.seq (.reg i47r2) .ret) .skip)) (.seq (.reg i47r3) (.seq (.seq (.reg i47r4) (.block 0 (.loop i47l11))) (.seq (.reg i47r12) .ret)))))
def i47 : IFn := { np := 2, N := 56, ct := [10, 22, 33], code := i47c, res := [.t 4] }
theorem i47_eq : compF Tryz.prog Tryz.f47 = some i47 := by kernel_rfl
abbrev i77r0 : List IOper := [
 oo 1 (.box (.t 0)),
 oo 2 (.mv (.c (.s [])))]
abbrev i77r1 : List (IOper × List Nat) := [
 (oo 3 (.fa 0 (.t 1)), []),
 (oo 4 (.ld false 1 (.t 3)), []),
 (oo 5 (.call (.c (.fn 96 [])) [.t 4, .c (.i .i64 1)]), []),
 (oo 6 (.fa 1 (.t 1)), [0, 1, 2]),
 (oo 7 (.ld false 1 (.t 6)), [0, 1, 2]),
 (oo 8 (.call (.c (.fn 96 [])) [.t 7, .c (.i .i64 3)]), []),
 (oo 9 (.bin .add (.t 5) (.t 8)), []),
 (oo 10 (.fa 2 (.t 1)), [0, 1, 2, 3, 4, 5, 6]),
 (oo 11 (.ld false 1 (.t 10)), [0, 1, 2, 3, 4, 5, 6]),
 (oo 12 (.call (.c (.fn 96 [])) [.t 11, .c (.i .i64 2)]), [6]),
 (oo 13 (.bin .add (.t 9) (.t 12)), []),
 (oo 14 (.fa 3 (.t 1)), [0, 1, 2, 3, 4, 5, 6, 7, 8, 9, 10]),
 (oo 15 (.ld false 1 (.t 14)), [0, 1, 2, 3, 4, 5, 6, 7, 8, 9, 10]),
 (oo 16 (.call (.c (.fn 96 [])) [.t 15, .c (.i .i64 3)]), [6, 10]),
 (oo 17 (.bin .add (.t 13) (.t 16)), []),
 (oo 18 (.fa 4 (.t 1)), [0, 1, 2, 3, 4, 5, 6, 7, 8, 9, 10, 11, 12, 13, 14]),
 (oo 19 (.ld false 1 (.t 18)), [0, 1, 2, 3, 4, 5, 6, 7, 8, 9, 10, 11, 12, 13, 14]),
 (oo 20 (.lenS (.t 19)), [0, 1, 2, 3, 4, 5, 6, 7, 8, 9, 10, 11, 12, 13, 14]),
 (oo 21 (.call (.c (.fn 96 [])) [.t 20, .c (.i .i64 3)]), [6, 10, 14]),
 (oo 22 (.bin .add (.t 17) (.t 21)), []),
 (oo 23 (.fa 4 (.t 1)), [0, 1, 2, 3, 4, 5, 6, 7, 8, 9, 10, 11, 12, 13, 14, 15, 16, 17, 18, 19]),
 (oo 24 (.ld false 1 (.t 23)), [0, 1, 2, 3, 4, 5, 6, 7, 8, 9, 10, 11, 12, 13, 14, 15, 16, 17, 18, 19]),
 (oo 25 (.bin .add (.t 22) (.t 24)), []),
 (oo 2 (.mv (.t 25)), [])]
abbrev i77c : ICode := (.seq (.reg i77r0) (.seq (.dreg i77r1) .ret))
def i77 : IFn := { np := 1, N := 26, ct := [], code := i77c, res := [.t 2] }
theorem i77_eq : compF Tryz.prog Tryz.f77 = some i77 := by kernel_rfl
abbrev i96r0 : List IOper := [
 oo 4 (.mv (.c (.s [])))]
abbrev i96r1 : List IOper := [
 oo 5 (.mv (.c (.s [])))]
abbrev i96r2 : List IOper := [
 oo 6 (.mv (.c (.i .i64 0)))]
abbrev i96r3 : List IOper := [
 oo 7 (.mv (.t 6)),
 oo 8 (.mv (.t 1)),
 ot 9 (.bin .lss (.t 7) (.t 8))]
abbrev i96r4 : List IOper := [
 oo 12 (.mv (.t 0)),
 oo 13 (.i2i .u8 (.t 12)),
 oo 14 (.bsl [.i .u8 0] 1 [(0, 1, .t 13)]),
 oo 15 (.b2s (.t 14)),
 oo 16 (.mv (.t 5)),
 oo 17 (.bin .add (.t 15) (.t 16)),
 oo 5 (.mv (.t 17))]
abbrev i96r5 : List IOper := [
 oo 18 (.mv (.t 0)),
 oo 19 (.bin .quo (.t 18) (.c (.i .i64 256))),
 oo 0 (.mv (.t 19))]
abbrev i96r6 : List IOper := [
 oo 10 (.mv (.t 6)),
 oo 11 (.bin .add (.t 10) (.c (.i .i64 1))),
 oo 6 (.mv (.t 11))]
abbrev i96l7 : ICode := (.seq (.seq (.reg i96r3) (.cond (.t 9) .skip (.exit 0))) (.seq (.block 1 (.seq (.reg i96r4) (.reg i96r5))) (.reg i96r6)))
abbrev i96r8 : List IOper := [
 oo 20 (.mv (.t 5)),
 oo 4 (.mv (.t 20))]
abbrev i96c : ICode := (.seq (.reg i96r0) (.seq (.reg i96r1) (.seq (.seq (.reg i96r2) (.block 0 (.loop i96l7))) (.seq (.reg i96r8) .ret))))
def i96 : IFn := { np := 2, N := 21, ct := [9], code := i96c, res := [.t 4] }
theorem i96_eq : compF Tryz.prog Tryz.f96 = some i96 := by kernel_rfl
end Go.Proofs.Flz
