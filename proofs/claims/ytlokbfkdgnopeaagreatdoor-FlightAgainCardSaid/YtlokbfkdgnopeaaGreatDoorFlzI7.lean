/- The small language's text of the functions; printed by ShowI.lean. -/
import Derived.Test.YtlokbfkdgnopeaaGreatDoorProg
import Derived.Test.YtlokbfkdgnopeaaGreatDoorAbRuns
namespace Go.Proofs.Flz
open Go.Ab
abbrev i7r0 : List IOper := [
 oo 5 (.box (.t 0)),
 oo 10 (.mv (.c (.b false)))]
abbrev i7r1 : List IOper := [
 oo 22 (.call (.c (.fn 17 [])) []),
 ot 23 (.not (.t 22))]
abbrev i7r2 : List IOper := [
 oo 10 (.mv (.c (.b false)))]
abbrev i7r3 : List (IOper × List Nat) := [
 (oo 24 (.ld true 3 (.t 5)), []),
 (oo 25 (.call (.c (.fn 9 [])) [.t 24]), []),
 (oo 26 (.mv (.t 1)), [0, 1]),
 (oo 27 (.mv (.t 1)), [0, 1, 2]),
 (oo 28 (.lenV (.t 27)), [0, 1, 2]),
 (oo 29 (.mn (.t 28) [.c (.i .i64 5)]), [0, 1, 2]),
 (oo 30 (.slV 1 (.t 26) none (some (.t 29)) none), [0, 1]),
 (oo 31 (.mv (.t 2)), [0, 1, 2, 3, 4, 5, 6]),
 (oo 32 (.mv (.t 2)), [0, 1, 2, 3, 4, 5, 6, 7]),
 (oo 33 (.lenV (.t 32)), [0, 1, 2, 3, 4, 5, 6, 7]),
 (oo 34 (.mn (.t 33) [.c (.i .i64 60)]), [0, 1, 2, 3, 4, 5, 6, 7]),
 (oo 35 (.slV 1 (.t 31) none (some (.t 34)) none), [0, 1, 2, 3, 4, 5, 6]),
 (oo 36 (.call (.c (.fn 19 [])) [.t 25, .t 30, .t 35]), []),
 (oo 11 (.mv (.t 36)), [])]
abbrev i7r4 : List IOper := [
 oo 37 (.fa 0 (.t 5)),
 oo 38 (.ld false 1 (.t 37)),
 oo 39 (.i2i .i64 (.t 38)),
 oo 40 (.build [.i .i64 0, .ns] [(0, 1, .t 39)]),
 oo 12 (.new [.i .i64 0, .ns]),
 on_ (.st 2 (.t 12) (.t 40))]
abbrev i7r5 : List IOper := [
 oo 41 (.mv (.t 3)),
 oo 42 (.i2i .i64 (.t 41)),
 oo 43 (.mv (.t 11)),
 oo 44 (.lenV (.t 43)),
 oo 45 (.bin .add (.t 44) (.c (.i .i64 1))),
 oo 46 (.bin .rem (.t 42) (.t 45)),
 oo 13 (.mv (.t 46))]
abbrev i7r6 : List IOper := [
 oo 47 (.mv (.t 11)),
 oo 48 (.mv (.t 13)),
 oo 49 (.slV 1 (.t 47) none (some (.t 48)) none),
 oo 50 (.lenV (.t 49)),
 oo 51 (.mv (.c (.i .i64 0)))]
abbrev i7r7 : List IOper := [
 ot 52 (.bin .lss (.t 51) (.t 50))]
abbrev i7r8 : List IOper := [
 oo 53 (.ixaV 1 (.t 49) (.t 51)),
 oo 54 (.ld false 1 (.t 53)),
 oo 15 (.mv (.t 54))]
abbrev i7r9 : List IOper := [
 oo 56 (.ld true 2 (.t 12)),
 oo 57 (.mv (.t 15)),
 oo 58 (.call (.c (.fn 23 [])) [.t 56, .t 57]),
 oo 55 (.mv (.t 58)),
 oo 59 (.ext (.t 55) 0),
 oo 60 (.ext (.t 55) 1),
 oo 61 (.ext (.t 55) 2),
 oo 16 (.new [.i .i64 0, .ns]),
 on_ (.st 2 (.t 16) (.t 59)),
 oo 17 (.mv (.t 60)),
 oo 18 (.mv (.t 61))]
abbrev i7r10 : List IOper := [
 oo 62 (.mv (.t 18)),
 ot 63 (.bin .neq (.t 62) (.c (.i .i64 0)))]
abbrev i7r11 : List IOper := [
 oo 10 (.mv (.c (.b false)))]
abbrev i7r12 : List IOper := [
 oo 64 (.ld true 2 (.t 16)),
 on_ (.st 2 (.t 12) (.t 64))]
abbrev i7r13 : List IOper := [
 oo 65 (.bin .add (.t 51) (.c (.i .i64 1))),
 oo 51 (.mv (.t 65))]
abbrev i7l14 : ICode := (.seq (.reg i7r7) (.seq (.cond (.t 52) .skip (.exit 0)) (.seq (.block 1 (.seq (.reg i7r8) (.seq (.reg i7r9) (.seq (.seq (.reg i7r10) (.cond (.t 63) (.seq (.reg i7r11) .ret) .skip)) (.reg i7r12))))) (.reg i7r13))))
abbrev i7r15 : List IOper := [
 oo 66 (.mv (.t 13)),
 ot 67 (.bin .eql (.t 66) (.c (.i .i64 0)))]
abbrev i7r16 : List IOper := [
 oo 10 (.mv (.c (.b true)))]
abbrev i7r17 : List (IOper × List Nat) := [
 (oo 69 (.ld true 2 (.t 12)), []),
 (oo 70 (.mv (.t 11)), [0]),
 (oo 71 (.mv (.t 4)), [0, 1]),
 (oo 72 (.i2i .i64 (.t 71)), [0, 1]),
 (oo 73 (.mv (.t 13)), [0, 1, 2, 3]),
 (oo 74 (.bin .rem (.t 72) (.t 73)), [0, 1]),
 (oo 75 (.ixaV 1 (.t 70) (.t 74)), [0]),
 (oo 76 (.ld false 1 (.t 75)), [0]),
 (oo 77 (.call (.c (.fn 23 [])) [.t 69, .t 76]), []),
 (oo 68 (.mv (.t 77)), []),
 (oo 78 (.ext (.t 68) 0), []),
 (oo 79 (.ext (.t 68) 1), [10]),
 (oo 80 (.ext (.t 68) 2), [10, 11]),
 (oo 19 (.new [.i .i64 0, .ns]), [0, 1, 2, 3, 4, 5, 6, 7, 8, 9, 10, 11, 12]),
 (on_ (.st 2 (.t 19) (.t 78)), [11, 12]),
 (oo 20 (.mv (.t 79)), [12]),
 (oo 21 (.mv (.t 80)), [])]
abbrev i7r18 : List IOper := [
 oo 81 (.mv (.t 21)),
 oo 82 (.bin .eql (.t 81) (.c (.i .i64 0))),
 ot 83 (.mv (.t 82)),
 og 84 (.mv (.t 20)) 83 true false,
 og 85 (.lenV (.t 84)) 83 true false,
 og 86 (.bin .eql (.t 85) (.c (.i .i64 0))) 83 true false,
 oo 87 (.pick (.t 83) (.t 86) (.c (.b false))),
 ot 88 (.mv (.t 87)),
 og 89 (.ld true 2 (.t 19)) 88 true false,
 og 90 (.ld true 2 (.t 12)) 88 true false,
 og 91 (.call (.c (.fn 25 [])) [.t 89, .t 90]) 88 true false,
 oo 92 (.pick (.t 88) (.t 91) (.c (.b false))),
 oo 10 (.mv (.t 92))]
abbrev i7c : ICode := (.seq (.reg i7r0) (.seq (.seq (.reg i7r1) (.cond (.t 23) (.seq (.reg i7r2) .ret) .skip)) (.seq (.dreg i7r3) (.seq (.reg i7r4) (.seq (.reg i7r5) (.seq (.seq (.reg i7r6) (.block 0 (.loop i7l14))) (.seq (.seq (.reg i7r15) (.cond (.t 67) (.seq (.reg i7r16) .ret) .skip)) (.seq (.dreg i7r17) (.seq (.reg i7r18) .ret)))))))))
def i7 : IFn := { np := 5, N := 93, ct := [23, 52, 63, 67], code := i7c, res := [.t 10] }
theorem i7_eq : compF Tryz.prog Tryz.f7 = some i7 := by kernel_rfl
end Go.Proofs.Flz
