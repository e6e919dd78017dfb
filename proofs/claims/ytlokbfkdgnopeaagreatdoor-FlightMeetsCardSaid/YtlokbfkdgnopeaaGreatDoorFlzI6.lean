/- The small language's text of the functions; printed by ShowI.lean. -/
import Derived.Test.YtlokbfkdgnopeaaGreatDoorProg
import Derived.Test.YtlokbfkdgnopeaaGreatDoorAbRuns
namespace Go.Proofs.Flz
open Go.Ab
abbrev i6r0 : List IOper := [
 oo 3 (.box (.t 0)),
 oo 6 (.mv (.c (.b false)))]
abbrev i6r1 : List IOper := [
 oo 15 (.call (.c (.fn 17 [])) []),
 ot 16 (.not (.t 15))]
abbrev i6r2 : List IOper := [
 oo 6 (.mv (.c (.b false)))]
abbrev i6r3 : List IOper := [
 oo 17 (.ld true 3 (.t 3)),
 oo 18 (.call (.c (.fn 9 [])) [.t 17]),
 oo 7 (.mv (.t 18))]
abbrev i6r4 : List IOper := [
 oo 19 (.fa 0 (.t 3)),
 oo 20 (.ld false 1 (.t 19)),
 oo 21 (.i2i .i64 (.t 20)),
 oo 22 (.build [.i .i64 0, .ns] [(0, 1, .t 21)]),
 oo 8 (.new [.i .i64 0, .ns]),
 on_ (.st 2 (.t 8) (.t 22))]
abbrev i6r5 : List IOper := [
 oo 9 (.mv (.c (.ns)))]
abbrev i6r6 : List (IOper × List Nat) := [
 (oo 23 (.mv (.t 7)), []),
 (oo 24 (.mv (.t 1)), [0]),
 (oo 25 (.mv (.t 1)), [0, 1]),
 (oo 26 (.lenV (.t 25)), [0, 1]),
 (oo 27 (.mn (.t 26) [.c (.i .i64 5)]), [0, 1]),
 (oo 28 (.slV 1 (.t 24) none (some (.t 27)) none), [0]),
 (oo 29 (.mv (.t 2)), [0, 1, 2, 3, 4, 5]),
 (oo 30 (.mv (.t 2)), [0, 1, 2, 3, 4, 5, 6]),
 (oo 31 (.lenV (.t 30)), [0, 1, 2, 3, 4, 5, 6]),
 (oo 32 (.mn (.t 31) [.c (.i .i64 60)]), [0, 1, 2, 3, 4, 5, 6]),
 (oo 33 (.slV 1 (.t 29) none (some (.t 32)) none), [0, 1, 2, 3, 4, 5]),
 (oo 34 (.call (.c (.fn 19 [])) [.t 23, .t 28, .t 33]), []),
 (oo 35 (.lenV (.t 34)), []),
 (oo 36 (.mv (.c (.i .i64 0))), [0, 1, 2, 3, 4, 5, 6, 7, 8, 9, 10, 11, 12])]
abbrev i6r7 : List IOper := [
 ot 37 (.bin .lss (.t 36) (.t 35))]
abbrev i6r8 : List IOper := [
 oo 38 (.ixaV 1 (.t 34) (.t 36)),
 oo 39 (.ld false 1 (.t 38)),
 oo 11 (.mv (.t 39))]
abbrev i6r9 : List IOper := [
 oo 41 (.ld true 2 (.t 8)),
 oo 42 (.mv (.t 11)),
 oo 43 (.call (.c (.fn 23 [])) [.t 41, .t 42]),
 oo 40 (.mv (.t 43)),
 oo 44 (.ext (.t 40) 0),
 oo 45 (.ext (.t 40) 1),
 oo 46 (.ext (.t 40) 2),
 oo 12 (.new [.i .i64 0, .ns]),
 on_ (.st 2 (.t 12) (.t 44)),
 oo 13 (.mv (.t 45)),
 oo 14 (.mv (.t 46))]
abbrev i6r10 : List IOper := [
 oo 47 (.mv (.t 14)),
 oo 48 (.bin .neq (.t 47) (.c (.i .i64 0))),
 ot 49 (.mv (.t 48)),
 og 50 (.ld true 2 (.t 12)) 49 false false,
 og 51 (.call (.c (.fn 21 [])) [.t 50]) 49 false false,
 og 52 (.bin .neq (.t 51) (.c (.i .i64 0))) 49 false false,
 ot 53 (.pick (.t 49) (.c (.b true)) (.t 52))]
abbrev i6r11 : List IOper := [
 oo 6 (.mv (.c (.b false)))]
abbrev i6r12 : List IOper := [
 oo 54 (.mv (.t 9)),
 oo 55 (.mv (.t 13)),
 oo 56 (.app 3 32 [.i .i64 0, .i .i64 0, .s []] (.t 54) (.t 55)),
 oo 9 (.mv (.t 56))]
abbrev i6r13 : List IOper := [
 oo 57 (.ld true 2 (.t 12)),
 on_ (.st 2 (.t 8) (.t 57))]
abbrev i6r14 : List IOper := [
 oo 58 (.bin .add (.t 36) (.c (.i .i64 1))),
 oo 36 (.mv (.t 58))]
abbrev i6l15 : ICode := (.seq (.reg i6r7) (.seq (.cond (.t 37) .skip (.exit 0)) (.seq (.block 1 (.seq (.reg i6r8) (.seq (.reg i6r9) (.seq (.seq (.reg i6r10) (.cond (.t 53) (.seq (.reg i6r11) .ret) .skip)) (.seq (.reg i6r12) (.reg i6r13)))))) (.reg i6r14))))
abbrev i6r16 : List IOper := [
 oo 59 (.mv (.t 9)),
 oo 60 (.mv (.t 7)),
 oo 61 (.call (.c (.fn 26 [])) [.t 59, .t 60]),
 ot 62 (.mv (.t 61)),
 og 63 (.ld true 2 (.t 8)) 62 true false,
 og 64 (.fa 0 (.t 3)) 62 true false,
 og 65 (.ld false 1 (.t 64)) 62 true false,
 og 66 (.i2i .i64 (.t 65)) 62 true false,
 og 67 (.mv (.t 7)) 62 true false,
 og 68 (.lenV (.t 67)) 62 true false,
 og 69 (.bin .add (.t 66) (.t 68)) 62 true false,
 og 70 (.build [.i .i64 0, .ns] [(0, 1, .t 69)]) 62 true false,
 og 71 (.call (.c (.fn 25 [])) [.t 63, .t 70]) 62 true false,
 oo 72 (.pick (.t 62) (.t 71) (.c (.b false))),
 oo 6 (.mv (.t 72))]
abbrev i6c : ICode := (.seq (.reg i6r0) (.seq (.seq (.reg i6r1) (.cond (.t 16) (.seq (.reg i6r2) .ret) .skip)) (.seq (.reg i6r3) (.seq (.reg i6r4) (.seq (.reg i6r5) (.seq (.seq (.dreg i6r6) (.block 0 (.loop i6l15))) (.seq (.reg i6r16) .ret)))))))
def i6 : IFn := { np := 3, N := 73, ct := [16, 37, 53], code := i6c, res := [.t 6] }
theorem i6_eq : compF Tryz.prog Tryz.f6 = some i6 := by kernel_rfl
end Go.Proofs.Flz
