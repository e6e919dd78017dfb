/- The small language's text of the functions; printed by ShowI.lean. -/
import Derived.Test.YtlokbfkdgnopeaaGreatDoorProg
import Derived.Test.YtlokbfkdgnopeaaGreatDoorAbRuns
namespace Go.Proofs.Flz
open Go.Ab
abbrev i27r0 : List IOper := [
 oo 2 (.new [.i .i64 0, .i .i64 0, .i .i64 0]),
 oo 3 (.mv (.c (.i .i64 0)))]
abbrev i27r1 : List IOper := [
 oo 4 (.mv (.t 0)),
 oo 5 (.bin .lss (.t 4) (.c (.i .i64 0))),
 ot 6 (.mv (.t 5)),
 og 7 (.mv (.t 0)) 6 false false,
 og 8 (.bin .gtr (.t 7) (.c (.i .i64 1099511627776))) 6 false false,
 ot 9 (.pick (.t 6) (.c (.b true)) (.t 8))]
abbrev i27r2 : List IOper := [
 oo 10 (.build [.i .i64 0, .i .i64 0, .i .i64 0] []),
 on_ (.st 3 (.t 2) (.t 10)),
 oo 3 (.mv (.c (.i .i64 2)))]
abbrev i27r3 : List IOper := [
 oo 11 (.mv (.t 0)),
 oo 12 (.bin .add (.t 11) (.c (.i .i64 400))),
 oo 13 (.build [.i .i64 0, .i .i64 0, .i .i64 0] [(0, 1, .t 12), (1, 1, .c (.i .i64 400)), (2, 1, .c (.i .i64 1))]),
 on_ (.st 3 (.t 2) (.t 13)),
 oo 3 (.mv (.c (.i .i64 0)))]
abbrev i27c : ICode := (.seq (.reg i27r0) (.seq (.seq (.reg i27r1) (.cond (.t 9) (.seq (.reg i27r2) .ret) .skip)) (.seq (.reg i27r3) .ret)))
def i27 : IFn := { np := 1, N := 14, ct := [9], code := i27c, res := [.c 2 true 3, .t 3] }
theorem i27_eq : compF Tryz.prog Tryz.f27 = some i27 := by kernel_rfl
abbrev i28r0 : List IOper := [
 oo 2 (.box (.t 0)),
 oo 4 (.new [.i .i64 0, .i .i64 0, .i .i64 0]),
 oo 5 (.mv (.c (.i .i64 0)))]
abbrev i28r1 : List IOper := [
 oo 10 (.ld true 3 (.t 2)),
 oo 11 (.mv (.t 1)),
 oo 12 (.call (.c (.fn 34 [])) [.t 10, .t 11]),
 oo 9 (.mv (.t 12)),
 oo 13 (.ext (.t 9) 0),
 oo 14 (.ext (.t 9) 1),
 oo 6 (.mv (.t 13)),
 oo 7 (.mv (.t 14))]
abbrev i28r2 : List IOper := [
 oo 15 (.mv (.t 7)),
 ot 16 (.bin .neq (.t 15) (.c (.i .i64 0)))]
abbrev i28r3 : List IOper := [
 oo 17 (.build [.i .i64 0, .i .i64 0, .i .i64 0] []),
 oo 18 (.mv (.t 7)),
 on_ (.st 3 (.t 4) (.t 17)),
 oo 5 (.mv (.t 18))]
abbrev i28r4 : List IOper := [
 oo 19 (.mv (.t 6)),
 ot 20 (.not (.t 19))]
abbrev i28r5 : List IOper := [
 oo 21 (.build [.i .i64 0, .i .i64 0, .i .i64 0] []),
 on_ (.st 3 (.t 4) (.t 21)),
 oo 5 (.mv (.c (.i .i64 8)))]
abbrev i28r6 : List IOper := [
 oo 22 (.fa 2 (.t 2)),
 oo 23 (.ld false 1 (.t 22)),
 ot 24 (.bin .eql (.t 23) (.c (.i .i64 8)))]
abbrev i28r7 : List IOper := [
 oo 25 (.build [.i .i64 0, .i .i64 0, .i .i64 0] []),
 on_ (.st 3 (.t 4) (.t 25)),
 oo 5 (.mv (.c (.i .i64 4)))]
abbrev i28r8 : List IOper := [
 oo 26 (.fa 2 (.t 2)),
 oo 27 (.ld false 1 (.t 26)),
 oo 28 (.bin .add (.t 27) (.c (.i .i64 1))),
 oo 29 (.call (.c (.fn 67 [])) [.t 28]),
 oo 8 (.mv (.t 29))]
abbrev i28r9 : List IOper := [
 oo 30 (.mv (.t 1)),
 oo 31 (.mv (.t 8)),
 oo 32 (.bin .add (.t 30) (.t 31)),
 oo 33 (.mv (.t 8)),
 oo 34 (.fa 2 (.t 2)),
 oo 35 (.ld false 1 (.t 34)),
 oo 36 (.bin .add (.t 35) (.c (.i .i64 1))),
 oo 37 (.build [.i .i64 0, .i .i64 0, .i .i64 0] [(0, 1, .t 32), (1, 1, .t 33), (2, 1, .t 36)]),
 on_ (.st 3 (.t 4) (.t 37)),
 oo 5 (.mv (.c (.i .i64 0)))]
abbrev i28c : ICode := (.seq (.reg i28r0) (.seq (.reg i28r1) (.seq (.seq (.reg i28r2) (.cond (.t 16) (.seq (.reg i28r3) .ret) .skip)) (.seq (.seq (.reg i28r4) (.cond (.t 20) (.seq (.reg i28r5) .ret) .skip)) (.seq (.seq (.reg i28r6) (.cond (.t 24) (.seq (.reg i28r7) .ret) .skip)) (.seq (.reg i28r8) (.seq (.reg i28r9) .ret)))))))
def i28 : IFn := { np := 2, N := 38, ct := [16, 20, 24], code := i28c, res := [.c 4 true 3, .t 5] }
theorem i28_eq : compF Tryz.prog Tryz.f28 = some i28 := by kernel_rfl
abbrev i30r0 : List IOper := [
 oo 0 (.new [.i .i64 0, .i .i64 0, .i .i64 0])]
abbrev i30r1 : List IOper := [
 oo 1 (.build [.i .i64 0, .i .i64 0, .i .i64 0] [(0, 1, .c (.i .i64 (-1)))]),
 on_ (.st 3 (.t 0) (.t 1))]
abbrev i30c : ICode := (.seq (.reg i30r0) (.seq (.reg i30r1) .ret))
def i30 : IFn := { np := 0, N := 2, ct := [], code := i30c, res := [.c 0 true 3] }
theorem i30_eq : compF Tryz.prog Tryz.f30 = some i30 := by kernel_rfl
abbrev i32r0 : List IOper := [
 oo 1 (.box (.t 0)),
 oo 2 (.mv (.c (.i .i64 0)))]
abbrev i32r1 : List IOper := [
 oo 3 (.ld true 3 (.t 1)),
 oo 4 (.call (.c (.fn 69 [])) [.t 3]),
 ot 5 (.not (.t 4))]
abbrev i32r2 : List IOper := [
 oo 2 (.mv (.c (.i .i64 192)))]
abbrev i32r3 : List IOper := [
 oo 2 (.mv (.c (.i .i64 0)))]
abbrev i32c : ICode := (.seq (.reg i32r0) (.seq (.seq (.reg i32r1) (.cond (.t 5) (.seq (.reg i32r2) .ret) .skip)) (.seq (.reg i32r3) .ret)))
def i32 : IFn := { np := 1, N := 6, ct := [5], code := i32c, res := [.t 2] }
theorem i32_eq : compF Tryz.prog Tryz.f32 = some i32 := by kernel_rfl
abbrev i34r0 : List IOper := [
 oo 2 (.box (.t 0)),
 oo 4 (.mv (.c (.b false))),
 oo 5 (.mv (.c (.i .i64 0)))]
abbrev i34r1 : List IOper := [
 oo 6 (.ld true 3 (.t 2)),
 oo 7 (.call (.c (.fn 69 [])) [.t 6]),
 ot 8 (.not (.t 7))]
abbrev i34r2 : List IOper := [
 oo 4 (.mv (.c (.b false))),
 oo 5 (.mv (.c (.i .i64 192)))]
abbrev i34r3 : List IOper := [
 oo 9 (.mv (.t 1)),
 oo 10 (.bin .lss (.t 9) (.c (.i .i64 0))),
 ot 11 (.mv (.t 10)),
 og 12 (.mv (.t 1)) 11 false false,
 og 13 (.bin .gtr (.t 12) (.c (.i .i64 1099511627776))) 11 false false,
 ot 14 (.pick (.t 11) (.c (.b true)) (.t 13))]
abbrev i34r4 : List IOper := [
 oo 4 (.mv (.c (.b false))),
 oo 5 (.mv (.c (.i .i64 2)))]
abbrev i34r5 : List IOper := [
 oo 15 (.fa 0 (.t 2)),
 oo 16 (.ld false 1 (.t 15)),
 oo 17 (.bin .geq (.t 16) (.c (.i .i64 0))),
 ot 18 (.mv (.t 17)),
 og 19 (.fa 0 (.t 2)) 18 true false,
 og 20 (.ld false 1 (.t 19)) 18 true false,
 og 21 (.mv (.t 1)) 18 true false,
 og 22 (.bin .leq (.t 20) (.t 21)) 18 true false,
 oo 23 (.pick (.t 18) (.t 22) (.c (.b false))),
 oo 4 (.mv (.t 23)),
 oo 5 (.mv (.c (.i .i64 0)))]
abbrev i34c : ICode := (.seq (.reg i34r0) (.seq (.seq (.reg i34r1) (.cond (.t 8) (.seq (.reg i34r2) .ret) .skip)) (.seq (.seq (.reg i34r3) (.cond (.t 14) (.seq (.reg i34r4) .ret) .skip)) (.seq (.reg i34r5) .ret))))
def i34 : IFn := { np := 2, N := 24, ct := [8, 14], code := i34c, res := [.t 4, .t 5] }
theorem i34_eq : compF Tryz.prog Tryz.f34 = some i34 := by kernel_rfl
abbrev i67r0 : List IOper := [
 oo 2 (.mv (.c (.i .i64 0)))]
abbrev i67r1 : List IOper := [
 oo 3 (.mv (.c (.i .i64 400)))]
abbrev i67r2 : List IOper := [
 oo 4 (.mv (.c (.i .i64 1)))]
abbrev i67r3 : List IOper := [
 oo 5 (.mv (.t 4)),
 oo 6 (.mv (.t 0)),
 oo 7 (.bin .lss (.t 5) (.t 6)),
 ot 8 (.mv (.t 7)),
 og 9 (.mv (.t 3)) 8 true false,
 og 10 (.bin .lss (.t 9) (.c (.i .i64 6400))) 8 true false,
 ot 11 (.pick (.t 8) (.t 10) (.c (.b false)))]
abbrev i67r4 : List IOper := [
 oo 14 (.mv (.t 3)),
 oo 15 (.bin .mul (.c (.i .i64 2)) (.t 14)),
 oo 3 (.mv (.t 15))]
abbrev i67r5 : List IOper := [
 oo 12 (.mv (.t 4)),
 oo 13 (.bin .add (.t 12) (.c (.i .i64 1))),
 oo 4 (.mv (.t 13))]
abbrev i67l6 : ICode := (.seq (.seq (.reg i67r3) (.cond (.t 11) .skip (.exit 0))) (.seq (.block 1 (.reg i67r4)) (.reg i67r5)))
abbrev i67r7 : List IOper := [
 oo 16 (.mv (.t 3)),
 oo 2 (.mv (.t 16))]
abbrev i67c : ICode := (.seq (.reg i67r0) (.seq (.reg i67r1) (.seq (.seq (.reg i67r2) (.block 0 (.loop i67l6))) (.seq (.reg i67r7) .ret))))
def i67 : IFn := { np := 1, N := 17, ct := [11], code := i67c, res := [.t 2] }
theorem i67_eq : compF Tryz.prog Tryz.f67 = some i67 := by kernel_rfl
abbrev i69r0 : List IOper := [
 oo 1 (.box (.t 0)),
 oo 2 (.mv (.c (.b false)))]
abbrev i69r1 : List IOper := [
 oo 3 (.fa 0 (.t 1)),
 oo 4 (.ld false 1 (.t 3)),
 ot 5 (.bin .eql (.t 4) (.c (.i .i64 (-1))))]
abbrev i69r2 : List IOper := [
 oo 6 (.fa 1 (.t 1)),
 oo 7 (.ld false 1 (.t 6)),
 oo 8 (.bin .eql (.t 7) (.c (.i .i64 0))),
 ot 9 (.mv (.t 8)),
 og 10 (.fa 2 (.t 1)) 9 true false,
 og 11 (.ld false 1 (.t 10)) 9 true false,
 og 12 (.bin .eql (.t 11) (.c (.i .i64 0))) 9 true false,
 oo 13 (.pick (.t 9) (.t 12) (.c (.b false))),
 oo 2 (.mv (.t 13))]
abbrev i69r3 : List (IOper × List Nat) := [
 (oo 14 (.fa 0 (.t 1)), []),
 (oo 15 (.ld false 1 (.t 14)), []),
 (oo 16 (.bin .geq (.t 15) (.c (.i .i64 0))), []),
 (ot 17 (.mv (.t 16)), []),
 (og 18 (.fa 2 (.t 1)) 17 true false, []),
 (og 19 (.ld false 1 (.t 18)) 17 true false, []),
 (og 20 (.bin .geq (.t 19) (.c (.i .i64 1))) 17 true false, []),
 (oo 21 (.pick (.t 17) (.t 20) (.c (.b false))), []),
 (ot 22 (.mv (.t 21)), []),
 (og 23 (.fa 2 (.t 1)) 22 true false, []),
 (og 24 (.ld false 1 (.t 23)) 22 true false, []),
 (og 25 (.bin .leq (.t 24) (.c (.i .i64 8))) 22 true false, []),
 (oo 26 (.pick (.t 22) (.t 25) (.c (.b false))), []),
 (ot 27 (.mv (.t 26)), []),
 (og 28 (.fa 1 (.t 1)) 27 true false, []),
 (og 29 (.ld false 1 (.t 28)) 27 true false, []),
 (og 30 (.fa 2 (.t 1)) 27 true false, [14, 15]),
 (og 31 (.ld false 1 (.t 30)) 27 true false, [14, 15]),
 (og 32 (.call (.c (.fn 67 [])) [.t 31]) 27 true false, [14, 15]),
 (og 33 (.bin .eql (.t 29) (.t 32)) 27 true false, []),
 (oo 34 (.pick (.t 27) (.t 33) (.c (.b false))), []),
 (oo 2 (.mv (.t 34)), [])]
abbrev i69c : ICode := (.seq (.reg i69r0) (.seq (.seq (.reg i69r1) (.cond (.t 5) (.seq (.reg i69r2) .ret) .skip)) (.seq (.dreg i69r3) .ret)))
def i69 : IFn := { np := 1, N := 35, ct := [5], code := i69c, res := [.t 2] }
theorem i69_eq : compF Tryz.prog Tryz.f69 = some i69 := by kernel_rfl
end Go.Proofs.Flz
