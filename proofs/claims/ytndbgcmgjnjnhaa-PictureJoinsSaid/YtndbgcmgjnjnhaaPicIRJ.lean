/- The small language's text of the functions; printed by ShowI.lean. -/
import Derived.Test.YtndbgcmgjnjnhaaProg
import Derived.Test.YtndbgcmgjnjnhaaAbRuns
namespace Go.Proofs.Pic
open Go.Ab
abbrev i11r0 : List IOper := [
 oo 6 (.box (.t 0)),
 oo 7 (.box (.t 1)),
 oo 9 (.box (.t 3)),
 oo 10 (.box (.t 4)),
 oo 11 (.box (.t 5)),
 oo 12 (.mv (.c (.b false)))]
abbrev i11r1 : List (IOper × List Nat) := [
 (oo 25 (.ld true 5 (.t 6)), []),
 (oo 26 (.ld true 9 (.t 7)), [0]),
 (oo 27 (.call (.c (.fn 32 [])) [.t 26]), [0]),
 (oo 28 (.mv (.t 2)), [0, 1, 2]),
 (oo 29 (.call (.c (.fn 31 [])) [.t 25, .t 27, .t 28]), []),
 (oo 13 (.mv (.t 29)), [])]
abbrev i11r2 : List (IOper × List Nat) := [
 (oo 30 (.ixaA 2 1 (.t 11) (.c (.i .i64 0))), []),
 (oo 31 (.ld false 1 (.t 30)), []),
 (oo 32 (.i2i .i64 (.t 31)), []),
 (oo 33 (.mv (.t 13)), [0, 1, 2]),
 (oo 34 (.lenV (.t 33)), [0, 1, 2]),
 (oo 35 (.bin .rem (.t 32) (.t 34)), []),
 (oo 36 (.ixaA 2 1 (.t 11) (.c (.i .i64 1))), [0, 1, 2, 3, 4, 5]),
 (oo 37 (.ld false 1 (.t 36)), [0, 1, 2, 3, 4, 5]),
 (oo 38 (.i2i .i64 (.t 37)), [0, 1, 2, 3, 4, 5]),
 (oo 39 (.mv (.t 13)), [0, 1, 2, 3, 4, 5, 6, 7, 8]),
 (oo 40 (.lenV (.t 39)), [0, 1, 2, 3, 4, 5, 6, 7, 8]),
 (oo 41 (.bin .rem (.t 38) (.t 40)), [0, 1, 2, 3, 4, 5]),
 (oo 14 (.mv (.t 35)), [6, 7, 8, 9, 10, 11]),
 (oo 15 (.mv (.t 41)), [])]
abbrev i11r3 : List IOper := [
 oo 42 (.mv (.t 13)),
 oo 43 (.call (.c (.fn 38 [])) [.t 42]),
 oo 44 (.mv (.t 13)),
 oo 45 (.call (.c (.fn 38 [])) [.t 44]),
 oo 46 (.mv (.t 13)),
 oo 47 (.call (.c (.fn 38 [])) [.t 46]),
 oo 16 (.mv (.t 43)),
 oo 17 (.mv (.t 45)),
 oo 18 (.mv (.t 47))]
abbrev i11r4 : List (IOper × List Nat) := [
 (oo 48 (.mv (.t 16)), []),
 (oo 49 (.mv (.t 14)), [0]),
 (oo 50 (.ld true 3 (.t 9)), [0, 1]),
 (oo 51 (.mv (.t 13)), [0, 1, 2]),
 (oo 52 (.mv (.t 14)), [0, 1, 2, 3]),
 (oo 53 (.ixaV 9 (.t 51) (.t 52)), [0, 1, 2]),
 (oo 54 (.ld true 9 (.t 53)), [0, 1, 2]),
 (oo 55 (.call (.c (.fn 39 [])) [.t 50, .t 54]), [0, 1]),
 (oo 56 (.ixaV 9 (.t 48) (.t 49)), []),
 (on_ (.st 9 (.t 56) (.t 55)), [])]
abbrev i11r5 : List (IOper × List Nat) := [
 (oo 57 (.mv (.t 17)), []),
 (oo 58 (.mv (.t 14)), [0]),
 (oo 59 (.ld true 3 (.t 10)), [0, 1]),
 (oo 60 (.mv (.t 13)), [0, 1, 2]),
 (oo 61 (.mv (.t 14)), [0, 1, 2, 3]),
 (oo 62 (.ixaV 9 (.t 60) (.t 61)), [0, 1, 2]),
 (oo 63 (.fa 8 (.t 62)), [0, 1, 2]),
 (oo 64 (.ld false 1 (.t 63)), [0, 1, 2]),
 (oo 65 (.call (.c (.fn 19 [])) [.t 59, .t 64]), [0, 1]),
 (oo 66 (.ixaV 9 (.t 57) (.t 58)), []),
 (oo 67 (.fa 8 (.t 66)), []),
 (on_ (.st 1 (.t 67) (.t 65)), [])]
abbrev i11r6 : List (IOper × List Nat) := [
 (oo 68 (.mv (.t 18)), []),
 (oo 69 (.mv (.t 14)), [0]),
 (oo 70 (.mv (.t 18)), [0, 1]),
 (oo 71 (.mv (.t 15)), [0, 1, 2]),
 (oo 72 (.mv (.t 13)), [0, 1, 2, 3]),
 (oo 73 (.mv (.t 15)), [0, 1, 2, 3, 4]),
 (oo 74 (.ixaV 9 (.t 72) (.t 73)), [0, 1, 2, 3]),
 (oo 75 (.ld true 9 (.t 74)), [0, 1, 2, 3]),
 (oo 76 (.mv (.t 13)), [0, 1, 2, 3, 4, 5, 6, 7]),
 (oo 77 (.mv (.t 14)), [0, 1, 2, 3, 4, 5, 6, 7, 8]),
 (oo 78 (.ixaV 9 (.t 76) (.t 77)), [0, 1, 2, 3, 4, 5, 6, 7]),
 (oo 79 (.ld true 9 (.t 78)), [0, 1, 2, 3, 4, 5, 6, 7]),
 (oo 80 (.ixaV 9 (.t 68) (.t 69)), [2, 3]),
 (on_ (.st 9 (.t 80) (.t 75)), [2, 3]),
 (oo 81 (.ixaV 9 (.t 70) (.t 71)), []),
 (on_ (.st 9 (.t 81) (.t 79)), [])]
abbrev i11r7 : List (IOper × List Nat) := [
 (oo 82 (.mv (.t 13)), []),
 (oo 83 (.mv (.t 16)), [0]),
 (oo 84 (.mv (.t 17)), [0, 1]),
 (oo 85 (.mv (.t 18)), [0, 1, 2]),
 (oo 86 (.mv (.t 13)), [0, 1, 2, 3]),
 (oo 87 (.call (.c (.fn 38 [])) [.t 86]), [0, 1, 2, 3]),
 (oo 88 (.mv (.t 14)), [0, 1, 2, 3, 4, 5]),
 (oo 89 (.mv (.t 14)), [0, 1, 2, 3, 4, 5, 6]),
 (oo 90 (.bin .add (.t 89) (.c (.i .i64 1))), [0, 1, 2, 3, 4, 5, 6]),
 (oo 91 (.call (.c (.fn 40 [])) [.t 87, .t 88, .t 90]), [0, 1, 2, 3]),
 (oo 92 (.mv (.t 13)), [0, 1, 2, 3, 4, 5, 6, 7, 8, 9]),
 (oo 93 (.call (.c (.fn 38 [])) [.t 92]), [0, 1, 2, 3]),
 (oo 94 (.mv (.t 14)), [0, 1, 2, 3, 4, 5, 6, 7, 8, 9, 10, 11]),
 (oo 95 (.mv (.t 13)), [0, 1, 2, 3, 4, 5, 6, 7, 8, 9, 10, 11, 12]),
 (oo 96 (.mv (.t 14)), [0, 1, 2, 3, 4, 5, 6, 7, 8, 9, 10, 11, 12, 13]),
 (oo 97 (.ixaV 9 (.t 95) (.t 96)), [0, 1, 2, 3, 4, 5, 6, 7, 8, 9, 10, 11, 12]),
 (oo 98 (.ld true 9 (.t 97)), [0, 1, 2, 3, 4, 5, 6, 7, 8, 9, 10, 11, 12]),
 (oo 99 (.bsl [.b false, .i .i64 0, .i .i64 0, .i .i64 0, .i .i64 0, .ns, .ns, .i .i64 0, .s []] 1 [(0, 9, .t 98)]), [0, 1, 2, 3, 4, 5, 6, 7, 8, 9, 10, 11, 12]),
 (oo 100 (.call (.c (.fn 41 [])) [.t 93, .t 94, .t 99]), [0, 1, 2, 3]),
 (oo 101 (.mv (.t 13)), [0, 1, 2, 3, 4, 5, 6, 7, 8, 9, 10, 11, 12, 13, 14, 15, 16, 17, 18]),
 (oo 102 (.slV 9 (.t 101) none (some (.c (.i .i64 1))) none), [0, 1, 2, 3, 4, 5, 6, 7, 8, 9, 10, 11, 12, 13, 14, 15, 16, 17, 18]),
 (oo 103 (.ixaA 2 1 (.t 11) (.c (.i .i64 1))), [0, 1, 2, 3, 4, 5, 6, 7, 8, 9, 10, 11, 12, 13, 14, 15, 16, 17, 18, 19, 20]),
 (oo 104 (.ld false 1 (.t 103)), [0, 1, 2, 3, 4, 5, 6, 7, 8, 9, 10, 11, 12, 13, 14, 15, 16, 17, 18, 19, 20]),
 (oo 105 (.i2i .i64 (.t 104)), [0, 1, 2, 3, 4, 5, 6, 7, 8, 9, 10, 11, 12, 13, 14, 15, 16, 17, 18, 19, 20]),
 (oo 106 (.bin .rem (.t 105) (.c (.i .i64 70))), [0, 1, 2, 3, 4, 5, 6, 7, 8, 9, 10, 11, 12, 13, 14, 15, 16, 17, 18, 19, 20]),
 (oo 107 (.call (.c (.fn 42 [])) [.t 102, .t 106]), [0, 1, 2, 3]),
 (oo 108 (.build [.ns, .ns, .ns, .ns, .ns, .ns, .ns] [(0, 1, .t 82), (1, 1, .t 83), (2, 1, .t 84), (3, 1, .t 85), (4, 1, .t 91), (5, 1, .t 100), (6, 1, .t 107)]), []),
 (oo 109 (.mv (.c (.i .i64 0))), [0, 1, 2, 3, 4, 5, 6, 7, 8, 9, 10, 11, 12, 13, 14, 15, 16, 17, 18, 19, 20, 21, 22, 23, 24, 25, 26])]
abbrev i11r8 : List IOper := [
 ot 110 (.bin .lss (.t 109) (.c (.i .i64 7)))]
abbrev i11r9 : List IOper := [
 oo 111 (.ixA 7 1 false (.t 108) (.t 109)),
 oo 20 (.mv (.t 111))]
abbrev i11r10 : List IOper := [
 oo 113 (.mv (.t 20)),
 oo 114 (.call (.c (.fn 33 [])) [.t 113]),
 oo 112 (.mv (.t 114)),
 oo 115 (.ext (.t 112) 0),
 oo 116 (.ext (.t 112) 1),
 oo 21 (.new [.i .i64 0, .b false, .b false, .b false, .b false, .i .i64 0, .i .i64 0, .i .i64 0, .i .i64 0, .s []]),
 on_ (.st 10 (.t 21) (.t 115)),
 oo 22 (.mv (.t 116))]
abbrev i11r11 : List IOper := [
 oo 118 (.mv (.t 20)),
 oo 119 (.call (.c (.fn 43 [])) [.t 118]),
 oo 117 (.mv (.t 119)),
 oo 120 (.ext (.t 117) 0),
 oo 121 (.ext (.t 117) 1),
 oo 23 (.new [.i .i64 0, .b false, .b false, .b false, .b false, .i .i64 0, .i .i64 0, .i .i64 0, .i .i64 0, .s []]),
 on_ (.st 10 (.t 23) (.t 120)),
 oo 24 (.mv (.t 121))]
abbrev i11r12 : List IOper := [
 oo 122 (.ld true 10 (.t 21)),
 oo 123 (.ld true 10 (.t 23)),
 oo 124 (.eqk true true [.i, .b, .b, .b, .b, .i, .i, .i, .i, .s] (.t 122) (.t 123)),
 ot 125 (.mv (.t 124)),
 og 126 (.mv (.t 22)) 125 false false,
 og 127 (.mv (.t 24)) 125 false false,
 og 128 (.bin .neq (.t 126) (.t 127)) 125 false false,
 ot 129 (.pick (.t 125) (.c (.b true)) (.t 128))]
abbrev i11r13 : List IOper := [
 oo 12 (.mv (.c (.b false)))]
abbrev i11r14 : List IOper := [
 oo 130 (.bin .add (.t 109) (.c (.i .i64 1))),
 oo 109 (.mv (.t 130))]
abbrev i11l15 : ICode := (.seq (.reg i11r8) (.seq (.cond (.t 110) .skip (.exit 0)) (.seq (.block 1 (.seq (.reg i11r9) (.seq (.reg i11r10) (.seq (.reg i11r11) (.seq (.reg i11r12) (.cond (.t 129) (.seq (.reg i11r13) .ret) .skip)))))) (.reg i11r14))))
abbrev i11r16 : List IOper := [
 oo 131 (.call (.c (.fn 18 [])) []),
 oo 12 (.mv (.t 131))]
abbrev i11c : ICode := (.seq (.reg i11r0) (.seq (.dreg i11r1) (.seq (.dreg i11r2) (.seq (.reg i11r3) (.seq (.dreg i11r4) (.seq (.dreg i11r5) (.seq (.dreg i11r6) (.seq (.seq (.dreg i11r7) (.block 0 (.loop i11l15))) (.seq (.reg i11r16) .ret)))))))))
def i11 : IFn := { np := 6, N := 132, ct := [110, 129], code := i11c, res := [.t 12] }
theorem i11_eq : compF Try.prog Try.f11 = some i11 := by kernel_rfl
abbrev i38r0 : List IOper := [
 oo 2 (.mv (.c (.ns)))]
abbrev i38r1 : List IOper := [
 oo 3 (.mv (.t 0)),
 ot 4 (.eqn false 1 (.t 3) (.c (.ns)))]
abbrev i38r2 : List IOper := [
 oo 2 (.mv (.c (.ns)))]
abbrev i38r3 : List IOper := [
 oo 5 (.bsl [] 0 []),
 oo 6 (.mv (.t 0)),
 oo 7 (.app 9 112 [.b false, .i .i64 0, .i .i64 0, .i .i64 0, .i .i64 0, .ns, .ns, .i .i64 0, .s []] (.t 5) (.t 6)),
 oo 2 (.mv (.t 7))]
abbrev i38c : ICode := (.seq (.reg i38r0) (.seq (.seq (.reg i38r1) (.cond (.t 4) (.seq (.reg i38r2) .ret) .skip)) (.seq (.reg i38r3) .ret)))
def i38 : IFn := { np := 1, N := 8, ct := [4], code := i38c, res := [.t 2] }
theorem i38_eq : compF Try.prog Try.f38 = some i38 := by kernel_rfl
abbrev i39r0 : List IOper := [
 oo 2 (.box (.t 0)),
 oo 3 (.box (.t 1)),
 oo 4 (.new [.b false, .i .i64 0, .i .i64 0, .i .i64 0, .i .i64 0, .ns, .ns, .i .i64 0, .s []])]
abbrev i39r1 : List IOper := [
 oo 6 (.bsl [] 0 []),
 oo 7 (.fa 5 (.t 3)),
 oo 8 (.ld false 1 (.t 7)),
 oo 9 (.app 1 8 [.i .i64 0] (.t 6) (.t 8)),
 oo 10 (.fa 5 (.t 3)),
 on_ (.st 1 (.t 10) (.t 9))]
abbrev i39r2 : List IOper := [
 oo 11 (.bsl [] 0 []),
 oo 12 (.fa 6 (.t 3)),
 oo 13 (.ld false 1 (.t 12)),
 oo 14 (.app 2 24 [.i .i64 0, .s []] (.t 11) (.t 13)),
 oo 15 (.fa 6 (.t 3)),
 on_ (.st 1 (.t 15) (.t 14))]
abbrev i39r3 : List IOper := [
 oo 16 (.fa 0 (.t 2)),
 oo 17 (.ld false 1 (.t 16)),
 oo 18 (.bin .rem (.t 17) (.c (.i .u8 10)))]
abbrev i39r4 : List IOper := [
 oo 37 (.bin .eql (.t 18) (.c (.i .u8 0))),
 ot 36 (.mv (.t 37))]
abbrev i39r5 : List IOper := [
 oo 38 (.fa 2 (.t 2)),
 oo 39 (.ld false 1 (.t 38)),
 oo 40 (.fa 1 (.t 3)),
 on_ (.st 1 (.t 40) (.t 39))]
abbrev i39r6 : List IOper := [
 oo 42 (.bin .eql (.t 18) (.c (.i .u8 1))),
 ot 41 (.mv (.t 42))]
abbrev i39r7 : List IOper := [
 oo 43 (.fa 2 (.t 2)),
 oo 44 (.ld false 1 (.t 43)),
 oo 45 (.fa 2 (.t 3)),
 on_ (.st 1 (.t 45) (.t 44))]
abbrev i39r8 : List IOper := [
 oo 47 (.bin .eql (.t 18) (.c (.i .u8 2))),
 ot 46 (.mv (.t 47))]
abbrev i39r9 : List IOper := [
 oo 48 (.fa 2 (.t 2)),
 oo 49 (.ld false 1 (.t 48)),
 oo 50 (.fa 3 (.t 3)),
 on_ (.st 1 (.t 50) (.t 49))]
abbrev i39r10 : List IOper := [
 oo 52 (.bin .eql (.t 18) (.c (.i .u8 3))),
 ot 51 (.mv (.t 52))]
abbrev i39r11 : List IOper := [
 oo 53 (.fa 2 (.t 2)),
 oo 54 (.ld false 1 (.t 53)),
 oo 55 (.fa 4 (.t 3)),
 on_ (.st 1 (.t 55) (.t 54))]
abbrev i39r12 : List IOper := [
 oo 57 (.bin .eql (.t 18) (.c (.i .u8 4))),
 ot 56 (.mv (.t 57))]
abbrev i39r13 : List IOper := [
 oo 58 (.fa 2 (.t 2)),
 oo 59 (.ld false 1 (.t 58)),
 oo 60 (.fa 7 (.t 3)),
 on_ (.st 1 (.t 60) (.t 59))]
abbrev i39r14 : List IOper := [
 oo 62 (.bin .eql (.t 18) (.c (.i .u8 5))),
 ot 61 (.mv (.t 62))]
abbrev i39r15 : List IOper := [
 oo 63 (.fa 5 (.t 3)),
 oo 64 (.ld false 1 (.t 63)),
 oo 65 (.fa 2 (.t 2)),
 oo 66 (.ld false 1 (.t 65)),
 oo 67 (.bsl [.i .i64 0] 1 [(0, 1, .t 66)]),
 oo 68 (.app 1 8 [.i .i64 0] (.t 64) (.t 67)),
 oo 69 (.fa 5 (.t 3)),
 on_ (.st 1 (.t 69) (.t 68))]
abbrev i39r16 : List IOper := [
 oo 71 (.bin .eql (.t 18) (.c (.i .u8 6))),
 ot 70 (.mv (.t 71))]
abbrev i39r17 : List IOper := [
 oo 72 (.fa 6 (.t 3)),
 oo 73 (.ld false 1 (.t 72)),
 oo 74 (.fa 2 (.t 2)),
 oo 75 (.ld false 1 (.t 74)),
 oo 76 (.build [.i .i64 0, .s []] [(0, 1, .t 75)]),
 oo 77 (.bsl [.i .i64 0, .s []] 1 [(0, 2, .t 76)]),
 oo 78 (.app 2 24 [.i .i64 0, .s []] (.t 73) (.t 77)),
 oo 79 (.fa 6 (.t 3)),
 on_ (.st 1 (.t 79) (.t 78))]
abbrev i39r18 : List IOper := [
 oo 81 (.bin .eql (.t 18) (.c (.i .u8 7))),
 ot 80 (.mv (.t 81))]
abbrev i39r19 : List IOper := [
 oo 82 (.fa 6 (.t 3)),
 oo 83 (.ld false 1 (.t 82)),
 oo 84 (.lenV (.t 83)),
 ot 85 (.bin .gtr (.t 84) (.c (.i .i64 0)))]
abbrev i39r20 : List (IOper × List Nat) := [
 (oo 86 (.fa 6 (.t 3)), []),
 (oo 87 (.ld false 1 (.t 86)), []),
 (oo 88 (.fa 1 (.t 2)), [0, 1]),
 (oo 89 (.ld false 1 (.t 88)), [0, 1]),
 (oo 90 (.i2i .i64 (.t 89)), [0, 1]),
 (oo 91 (.fa 6 (.t 3)), [0, 1, 2, 3, 4]),
 (oo 92 (.ld false 1 (.t 91)), [0, 1, 2, 3, 4]),
 (oo 93 (.lenV (.t 92)), [0, 1, 2, 3, 4]),
 (oo 94 (.bin .rem (.t 90) (.t 93)), [0, 1]),
 (oo 95 (.fa 2 (.t 2)), [0, 1, 2, 3, 4, 5, 6, 7, 8]),
 (oo 96 (.ld false 1 (.t 95)), [0, 1, 2, 3, 4, 5, 6, 7, 8]),
 (oo 97 (.ixaV 2 (.t 87) (.t 94)), []),
 (oo 98 (.fa 0 (.t 97)), []),
 (on_ (.st 1 (.t 98) (.t 96)), [])]
abbrev i39r21 : List IOper := [
 oo 100 (.bin .eql (.t 18) (.c (.i .u8 8))),
 ot 99 (.mv (.t 100))]
abbrev i39r22 : List IOper := [
 oo 101 (.fa 6 (.t 3)),
 oo 102 (.ld false 1 (.t 101)),
 oo 103 (.lenV (.t 102)),
 ot 104 (.bin .gtr (.t 103) (.c (.i .i64 0)))]
abbrev i39r23 : List (IOper × List Nat) := [
 (oo 105 (.fa 6 (.t 3)), []),
 (oo 106 (.ld false 1 (.t 105)), []),
 (oo 107 (.fa 1 (.t 2)), [0, 1]),
 (oo 108 (.ld false 1 (.t 107)), [0, 1]),
 (oo 109 (.i2i .i64 (.t 108)), [0, 1]),
 (oo 110 (.fa 6 (.t 3)), [0, 1, 2, 3, 4]),
 (oo 111 (.ld false 1 (.t 110)), [0, 1, 2, 3, 4]),
 (oo 112 (.lenV (.t 111)), [0, 1, 2, 3, 4]),
 (oo 113 (.bin .rem (.t 109) (.t 112)), [0, 1]),
 (oo 114 (.ixaV 2 (.t 106) (.t 113)), []),
 (oo 5 (.mv (.t 114)), [])]
abbrev i39r24 : List IOper := [
 oo 115 (.mv (.t 5)),
 oo 116 (.nck (.t 115)),
 oo 117 (.fa 1 (.t 116)),
 oo 118 (.ld false 1 (.t 117)),
 oo 119 (.lenS (.t 118)),
 ot 120 (.bin .lss (.t 119) (.c (.i .i64 256)))]
abbrev i39r25 : List (IOper × List Nat) := [
 (oo 121 (.mv (.t 5)), []),
 (oo 122 (.mv (.t 5)), [0]),
 (oo 123 (.nck (.t 122)), [0]),
 (oo 124 (.fa 1 (.t 123)), [0]),
 (oo 125 (.ld false 1 (.t 124)), [0]),
 (oo 126 (.mv (.t 5)), [0, 1, 2, 3, 4]),
 (oo 127 (.nck (.t 126)), [0, 1, 2, 3, 4]),
 (oo 128 (.fa 1 (.t 127)), [0, 1, 2, 3, 4]),
 (oo 129 (.ld false 1 (.t 128)), [0, 1, 2, 3, 4]),
 (oo 130 (.lenS (.t 129)), [0, 1, 2, 3, 4]),
 (oo 131 (.call (.c (.fn 62 [])) [.c (.i .i64 1), .t 130]), [0, 1, 2, 3, 4]),
 (oo 132 (.bin .add (.t 125) (.t 131)), [0]),
 (oo 133 (.nck (.t 121)), []),
 (oo 134 (.fa 1 (.t 133)), []),
 (on_ (.st 1 (.t 134) (.t 132)), [])]
abbrev i39l26 : ICode := (.seq (.seq (.reg i39r24) (.cond (.t 120) .skip (.exit 3))) (.block 4 (.dreg i39r25)))
abbrev i39r27 : List IOper := [
 oo 19 (.fa 8 (.t 3)),
 oo 20 (.ld false 1 (.t 19)),
 oo 21 (.lenS (.t 20)),
 oo 22 (.fa 1 (.t 2)),
 oo 23 (.ld false 1 (.t 22)),
 oo 24 (.bin .rem (.t 23) (.c (.i .u8 4))),
 oo 25 (.i2i .i64 (.t 24)),
 oo 26 (.bin .add (.c (.i .i64 1188)) (.t 25)),
 ot 27 (.bin .lss (.t 21) (.t 26))]
abbrev i39r28 : List (IOper × List Nat) := [
 (oo 28 (.fa 8 (.t 3)), []),
 (oo 29 (.ld false 1 (.t 28)), []),
 (oo 30 (.fa 8 (.t 3)), [0, 1]),
 (oo 31 (.ld false 1 (.t 30)), [0, 1]),
 (oo 32 (.lenS (.t 31)), [0, 1]),
 (oo 33 (.call (.c (.fn 62 [])) [.c (.i .i64 4), .t 32]), [0, 1]),
 (oo 34 (.bin .add (.t 29) (.t 33)), []),
 (oo 35 (.fa 8 (.t 3)), []),
 (on_ (.st 1 (.t 35) (.t 34)), [])]
abbrev i39l29 : ICode := (.seq (.seq (.reg i39r27) (.cond (.t 27) .skip (.exit 1))) (.block 2 (.dreg i39r28)))
abbrev i39r30 : List IOper := [
 oo 135 (.ld true 9 (.t 3)),
 on_ (.st 9 (.t 4) (.t 135))]
abbrev i39c : ICode := (.seq (.reg i39r0) (.seq (.reg i39r1) (.seq (.reg i39r2) (.seq (.seq (.reg i39r3) (.block 0 (.seq (.reg i39r4) (.cond (.t 36) (.reg i39r5) (.seq (.reg i39r6) (.cond (.t 41) (.reg i39r7) (.seq (.reg i39r8) (.cond (.t 46) (.reg i39r9) (.seq (.reg i39r10) (.cond (.t 51) (.reg i39r11) (.seq (.reg i39r12) (.cond (.t 56) (.reg i39r13) (.seq (.reg i39r14) (.cond (.t 61) (.reg i39r15) (.seq (.reg i39r16) (.cond (.t 70) (.reg i39r17) (.seq (.reg i39r18) (.cond (.t 80) (.seq (.reg i39r19) (.cond (.t 85) (.dreg i39r20) .skip)) (.seq (.reg i39r21) (.cond (.t 99) (.seq (.reg i39r22) (.cond (.t 104) (.seq (.dreg i39r23) (.block 3 (.loop i39l26))) .skip)) (.block 1 (.loop i39l29)))))))))))))))))))))) (.seq (.reg i39r30) .ret)))))
def i39 : IFn := { np := 2, N := 136, ct := [36, 41, 46, 51, 56, 61, 70, 80, 85, 99, 104, 120, 27], code := i39c, res := [.c 4 true 9] }
theorem i39_eq : compF Try.prog Try.f39 = some i39 := by kernel_rfl
abbrev i40r0 : List IOper := [
 oo 6 (.mv (.c (.ns)))]
abbrev i40r1 : List IOper := [
 oo 8 (.mv (.t 0)),
 oo 9 (.mv (.t 1)),
 oo 10 (.mv (.t 2)),
 oo 11 (.mv (.t 0)),
 oo 12 (.lenV (.t 11)),
 oo 13 (.slV 9 (.t 8) (some (.t 9)) (some (.t 10)) (some (.t 12)))]
abbrev i40r2 : List IOper := [
 oo 14 (.mv (.t 1)),
 oo 15 (.mv (.t 2)),
 ot 16 (.bin .eql (.t 14) (.t 15))]
abbrev i40r3 : List IOper := [
 oo 17 (.mv (.t 0)),
 oo 6 (.mv (.t 17))]
abbrev i40r4 : List IOper := [
 oo 18 (.mv (.t 0)),
 oo 19 (.lenV (.t 18)),
 oo 7 (.mv (.t 19))]
abbrev i40r5 : List (IOper × List Nat) := [
 (oo 20 (.mv (.t 0)), []),
 (oo 21 (.mv (.t 1)), [0]),
 (oo 22 (.slV 9 (.t 20) none (some (.t 21)) none), []),
 (oo 23 (.mv (.t 0)), [0, 1, 2]),
 (oo 24 (.mv (.t 2)), [0, 1, 2, 3]),
 (oo 25 (.slV 9 (.t 23) (some (.t 24)) none none), [0, 1, 2]),
 (oo 26 (.app 9 112 [.b false, .i .i64 0, .i .i64 0, .i .i64 0, .i .i64 0, .ns, .ns, .i .i64 0, .s []] (.t 22) (.t 25)), []),
 (oo 0 (.mv (.t 26)), [])]
abbrev i40r6 : List IOper := [
 oo 27 (.mv (.t 0)),
 oo 28 (.mv (.t 0)),
 oo 29 (.lenV (.t 28)),
 oo 30 (.mv (.t 7)),
 oo 31 (.slV 9 (.t 27) (some (.t 29)) (some (.t 30)) none),
 on_ (.clr 9 [.b false, .i .i64 0, .i .i64 0, .i .i64 0, .i .i64 0, .ns, .ns, .i .i64 0, .s []] (.t 31))]
abbrev i40r7 : List IOper := [
 oo 32 (.mv (.t 0)),
 oo 6 (.mv (.t 32))]
abbrev i40c : ICode := (.seq (.reg i40r0) (.seq (.reg i40r1) (.seq (.seq (.reg i40r2) (.cond (.t 16) (.seq (.reg i40r3) .ret) .skip)) (.seq (.reg i40r4) (.seq (.dreg i40r5) (.seq (.reg i40r6) (.seq (.reg i40r7) .ret)))))))
def i40 : IFn := { np := 3, N := 33, ct := [16], code := i40c, res := [.t 6] }
theorem i40_eq : compF Try.prog Try.f40 = some i40 := by kernel_rfl
abbrev i41r0 : List IOper := [
 oo 6 (.mv (.c (.ns)))]
abbrev i41r1 : List IOper := [
 oo 10 (.mv (.t 0)),
 oo 11 (.mv (.t 1)),
 oo 12 (.slV 9 (.t 10) (some (.t 11)) none none)]
abbrev i41r2 : List IOper := [
 oo 13 (.mv (.t 2)),
 oo 14 (.lenV (.t 13)),
 oo 7 (.mv (.t 14))]
abbrev i41r3 : List IOper := [
 oo 15 (.mv (.t 7)),
 ot 16 (.bin .eql (.t 15) (.c (.i .i64 0)))]
abbrev i41r4 : List IOper := [
 oo 17 (.mv (.t 0)),
 oo 6 (.mv (.t 17))]
abbrev i41r5 : List IOper := [
 oo 18 (.mv (.t 0)),
 oo 19 (.lenV (.t 18)),
 oo 8 (.mv (.t 19))]
abbrev i41r6 : List IOper := [
 oo 20 (.mv (.t 1)),
 oo 21 (.mv (.t 8)),
 ot 22 (.bin .eql (.t 20) (.t 21))]
abbrev i41r7 : List IOper := [
 oo 23 (.mv (.t 0)),
 oo 24 (.mv (.t 2)),
 oo 25 (.app 9 112 [.b false, .i .i64 0, .i .i64 0, .i .i64 0, .i .i64 0, .ns, .ns, .i .i64 0, .s []] (.t 23) (.t 24)),
 oo 6 (.mv (.t 25))]
abbrev i41r8 : List IOper := [
 oo 26 (.mv (.t 8)),
 oo 27 (.mv (.t 7)),
 oo 28 (.bin .add (.t 26) (.t 27)),
 oo 29 (.mv (.t 0)),
 oo 30 (.capV (.t 29)),
 ot 31 (.bin .gtr (.t 28) (.t 30))]
abbrev i41r9 : List IOper := [
 oo 32 (.mv (.t 0)),
 oo 33 (.mv (.t 1)),
 oo 34 (.slV 9 (.t 32) none (some (.t 33)) none),
 oo 35 (.mv (.t 8)),
 oo 36 (.mv (.t 7)),
 oo 37 (.bin .add (.t 35) (.t 36)),
 oo 38 (.mv (.t 1)),
 oo 39 (.bin .sub (.t 37) (.t 38)),
 oo 40 (.apz 9 112 [.b false, .i .i64 0, .i .i64 0, .i .i64 0, .i .i64 0, .ns, .ns, .i .i64 0, .s []] (.t 34) (.t 39)),
 oo 9 (.mv (.t 40))]
abbrev i41r10 : List IOper := [
 oo 41 (.mv (.t 9)),
 oo 42 (.mv (.t 1)),
 oo 43 (.slV 9 (.t 41) (some (.t 42)) none none),
 oo 44 (.mv (.t 2)),
 oo 45 (.cpy 9 (.t 43) (.t 44))]
abbrev i41r11 : List (IOper × List Nat) := [
 (oo 46 (.mv (.t 9)), []),
 (oo 47 (.mv (.t 1)), [0]),
 (oo 48 (.mv (.t 7)), [0, 1]),
 (oo 49 (.bin .add (.t 47) (.t 48)), [0]),
 (oo 50 (.slV 9 (.t 46) (some (.t 49)) none none), []),
 (oo 51 (.mv (.t 0)), [0, 1, 2, 3, 4]),
 (oo 52 (.mv (.t 1)), [0, 1, 2, 3, 4, 5]),
 (oo 53 (.slV 9 (.t 51) (some (.t 52)) none none), [0, 1, 2, 3, 4]),
 (oo 54 (.cpy 9 (.t 50) (.t 53)), [])]
abbrev i41r12 : List IOper := [
 oo 55 (.mv (.t 9)),
 oo 6 (.mv (.t 55))]
abbrev i41r13 : List IOper := [
 oo 56 (.mv (.t 0)),
 oo 57 (.mv (.t 8)),
 oo 58 (.mv (.t 7)),
 oo 59 (.bin .add (.t 57) (.t 58)),
 oo 60 (.slV 9 (.t 56) none (some (.t 59)) none),
 oo 0 (.mv (.t 60))]
abbrev i41r14 : List IOper := [
 oo 61 (.mv (.t 2)),
 oo 62 (.mv (.t 0)),
 oo 63 (.mv (.t 1)),
 oo 64 (.mv (.t 7)),
 oo 65 (.bin .add (.t 63) (.t 64)),
 oo 66 (.slV 9 (.t 62) (some (.t 65)) none none),
 oo 67 (.call (.c (.fn 63 [])) [.t 61, .t 66]),
 ot 68 (.not (.t 67))]
abbrev i41r15 : List (IOper × List Nat) := [
 (oo 69 (.mv (.t 0)), []),
 (oo 70 (.mv (.t 1)), [0]),
 (oo 71 (.mv (.t 7)), [0, 1]),
 (oo 72 (.bin .add (.t 70) (.t 71)), [0]),
 (oo 73 (.slV 9 (.t 69) (some (.t 72)) none none), []),
 (oo 74 (.mv (.t 0)), [0, 1, 2, 3, 4]),
 (oo 75 (.mv (.t 1)), [0, 1, 2, 3, 4, 5]),
 (oo 76 (.slV 9 (.t 74) (some (.t 75)) none none), [0, 1, 2, 3, 4]),
 (oo 77 (.cpy 9 (.t 73) (.t 76)), [])]
abbrev i41r16 : List IOper := [
 oo 78 (.mv (.t 0)),
 oo 79 (.mv (.t 1)),
 oo 80 (.slV 9 (.t 78) (some (.t 79)) none none),
 oo 81 (.mv (.t 2)),
 oo 82 (.cpy 9 (.t 80) (.t 81))]
abbrev i41r17 : List IOper := [
 oo 83 (.mv (.t 0)),
 oo 6 (.mv (.t 83))]
abbrev i41r18 : List IOper := [
 oo 84 (.mv (.t 0)),
 oo 85 (.mv (.t 8)),
 oo 86 (.slV 9 (.t 84) (some (.t 85)) none none),
 oo 87 (.mv (.t 2)),
 oo 88 (.cpy 9 (.t 86) (.t 87))]
abbrev i41r19 : List IOper := [
 oo 89 (.mv (.t 0)),
 oo 90 (.mv (.t 1)),
 oo 91 (.slV 9 (.t 89) (some (.t 90)) none none),
 oo 92 (.mv (.t 7)),
 oo 93 (.call (.c (.fn 64 [])) [.t 91, .t 92])]
abbrev i41r20 : List IOper := [
 oo 94 (.mv (.t 0)),
 oo 6 (.mv (.t 94))]
abbrev i41c : ICode := (.seq (.reg i41r0) (.seq (.reg i41r1) (.seq (.reg i41r2) (.seq (.seq (.reg i41r3) (.cond (.t 16) (.seq (.reg i41r4) .ret) .skip)) (.seq (.reg i41r5) (.seq (.seq (.reg i41r6) (.cond (.t 22) (.seq (.reg i41r7) .ret) .skip)) (.seq (.seq (.reg i41r8) (.cond (.t 31) (.seq (.reg i41r9) (.seq (.reg i41r10) (.seq (.dreg i41r11) (.seq (.reg i41r12) .ret)))) .skip)) (.seq (.reg i41r13) (.seq (.seq (.reg i41r14) (.cond (.t 68) (.seq (.dreg i41r15) (.seq (.reg i41r16) (.seq (.reg i41r17) .ret))) .skip)) (.seq (.reg i41r18) (.seq (.reg i41r19) (.seq (.reg i41r20) .ret))))))))))))
def i41 : IFn := { np := 3, N := 95, ct := [16, 22, 31, 68], code := i41c, res := [.t 6] }
theorem i41_eq : compF Try.prog Try.f41 = some i41 := by kernel_rfl
abbrev i42r0 : List IOper := [
 oo 4 (.mv (.c (.ns)))]
abbrev i42r1 : List IOper := [
 oo 9 (.mv (.t 1)),
 ot 10 (.bin .lss (.t 9) (.c (.i .i64 0)))]
abbrev i42r2 : List IOper := [
 oo 11 (.mki 9 (.c (.s [99, 97, 110, 110, 111, 116, 32, 98, 101, 32, 110, 101, 103, 97, 116, 105, 118, 101]))),
 on_ (.pan (.t 11))]
abbrev i42r3 : List IOper := [
 oo 13 (.mv (.t 0)),
 oo 14 (.lenV (.t 13)),
 oo 15 (.i2i .u64 (.t 14)),
 oo 16 (.mv (.t 1)),
 oo 17 (.i2i .u64 (.t 16)),
 oo 18 (.call (.c (.fn 56 [])) [.t 15, .t 17]),
 oo 12 (.mv (.t 18)),
 oo 19 (.ext (.t 12) 0),
 oo 20 (.ext (.t 12) 1),
 oo 5 (.mv (.t 19)),
 oo 6 (.mv (.t 20))]
abbrev i42r4 : List IOper := [
 oo 21 (.mv (.t 5)),
 oo 22 (.bin .gtr (.t 21) (.c (.i .u64 0))),
 ot 23 (.mv (.t 22)),
 og 24 (.mv (.t 6)) 23 false false,
 og 25 (.bin .gtr (.t 24) (.c (.i .u64 9223372036854775807))) 23 false false,
 ot 26 (.pick (.t 23) (.c (.b true)) (.t 25))]
abbrev i42r5 : List IOper := [
 oo 27 (.mki 9 (.c (.s [116, 104, 101, 32, 114, 101, 115, 117, 108, 116, 32, 111, 102, 32, 40, 108, 101, 110, 40, 120, 41, 32, 42, 32, 99, 111, 117, 110, 116, 41, 32, 111, 118, 101, 114, 102, 108, 111, 119, 115]))),
 on_ (.pan (.t 27))]
abbrev i42r6 : List IOper := [
 oo 28 (.mv (.t 6)),
 oo 29 (.i2i .i64 (.t 28)),
 oo 30 (.mks 9 112 [.b false, .i .i64 0, .i .i64 0, .i .i64 0, .i .i64 0, .ns, .ns, .i .i64 0, .s []] (.t 29) (.t 29)),
 oo 7 (.mv (.t 30))]
abbrev i42r7 : List IOper := [
 oo 31 (.mv (.t 7)),
 oo 32 (.mv (.t 0)),
 oo 33 (.cpy 9 (.t 31) (.t 32)),
 oo 8 (.mv (.t 33))]
abbrev i42r8 : List IOper := [
 oo 34 (.mv (.t 8)),
 oo 35 (.mv (.t 7)),
 oo 36 (.lenV (.t 35)),
 ot 37 (.bin .lss (.t 34) (.t 36))]
abbrev i42r9 : List (IOper × List Nat) := [
 (oo 38 (.mv (.t 8)), []),
 (oo 39 (.mv (.t 7)), [0]),
 (oo 40 (.mv (.t 8)), [0, 1]),
 (oo 41 (.slV 9 (.t 39) (some (.t 40)) none none), [0]),
 (oo 42 (.mv (.t 7)), [0, 1, 2, 3]),
 (oo 43 (.mv (.t 8)), [0, 1, 2, 3, 4]),
 (oo 44 (.slV 9 (.t 42) none (some (.t 43)) none), [0, 1, 2, 3]),
 (oo 45 (.cpy 9 (.t 41) (.t 44)), [0]),
 (oo 46 (.bin .add (.t 38) (.t 45)), []),
 (oo 8 (.mv (.t 46)), [])]
abbrev i42l10 : ICode := (.seq (.seq (.reg i42r8) (.cond (.t 37) .skip (.exit 0))) (.block 1 (.dreg i42r9)))
abbrev i42r11 : List IOper := [
 oo 47 (.mv (.t 7)),
 oo 4 (.mv (.t 47))]
abbrev i42c : ICode := (.seq (.reg i42r0) (.seq (.seq (.reg i42r1) (.cond (.t 10) (.reg i42r2) .skip)) (.seq (.reg i42r3) (.seq (.seq (.reg i42r4) (.cond (.t 26) (.reg i42r5) .skip)) (.seq (.reg i42r6) (.seq (.reg i42r7) (.seq (.block 0 (.loop i42l10)) (.seq (.reg i42r11) .ret))))))))
def i42 : IFn := { np := 2, N := 48, ct := [10, 26, 37], code := i42c, res := [.t 4] }
theorem i42_eq : compF Try.prog Try.f42 = some i42 := by kernel_rfl
abbrev i43r0 : List IOper := [
 oo 2 (.new [.i .i64 0, .b false, .b false, .b false, .b false, .i .i64 0, .i .i64 0, .i .i64 0, .i .i64 0, .s []]),
 oo 3 (.mv (.c (.i .i64 0)))]
abbrev i43r1 : List IOper := [
 oo 4 (.mv (.c (.i .i64 0)))]
abbrev i43r2 : List IOper := [
 oo 10 (.mv (.t 4)),
 oo 11 (.mv (.t 0)),
 oo 12 (.lenV (.t 11)),
 ot 13 (.bin .lss (.t 10) (.t 12))]
abbrev i43r3 : List IOper := [
 oo 16 (.mv (.t 0)),
 oo 17 (.mv (.t 4)),
 oo 18 (.ixaV 9 (.t 16) (.t 17)),
 oo 19 (.ld true 9 (.t 18)),
 oo 20 (.call (.c (.fn 65 [])) [.t 19]),
 ot 21 (.not (.t 20))]
abbrev i43r4 : List IOper := [
 oo 22 (.build [.i .i64 0, .b false, .b false, .b false, .b false, .i .i64 0, .i .i64 0, .i .i64 0, .i .i64 0, .s []] []),
 on_ (.st 10 (.t 2) (.t 22)),
 oo 3 (.mv (.c (.i .i64 230)))]
abbrev i43r5 : List IOper := [
 oo 14 (.mv (.t 4)),
 oo 15 (.bin .add (.t 14) (.c (.i .i64 1))),
 oo 4 (.mv (.t 15))]
abbrev i43l6 : ICode := (.seq (.seq (.reg i43r2) (.cond (.t 13) .skip (.exit 0))) (.seq (.block 1 (.seq (.reg i43r3) (.cond (.t 21) (.seq (.reg i43r4) .ret) .skip))) (.reg i43r5)))
abbrev i43r7 : List IOper := [
 oo 23 (.mv (.t 0)),
 oo 24 (.lenV (.t 23)),
 oo 25 (.bin .lss (.t 24) (.c (.i .i64 1))),
 ot 26 (.mv (.t 25)),
 og 27 (.mv (.t 0)) 26 false false,
 og 28 (.lenV (.t 27)) 26 false false,
 og 29 (.bin .gtr (.t 28) (.c (.i .i64 64))) 26 false false,
 ot 30 (.pick (.t 26) (.c (.b true)) (.t 29))]
abbrev i43r8 : List IOper := [
 oo 31 (.build [.i .i64 0, .b false, .b false, .b false, .b false, .i .i64 0, .i .i64 0, .i .i64 0, .i .i64 0, .s []] []),
 on_ (.st 10 (.t 2) (.t 31)),
 oo 3 (.mv (.c (.i .i64 401)))]
abbrev i43r9 : List IOper := [
 oo 5 (.new [.i .i64 0, .b false, .b false, .b false, .b false, .i .i64 0, .i .i64 0, .i .i64 0, .i .i64 0, .s []])]
abbrev i43r10 : List IOper := [
 oo 6 (.mv (.c (.i .i64 0)))]
abbrev i43r11 : List IOper := [
 oo 32 (.mv (.t 6)),
 oo 33 (.mv (.t 0)),
 oo 34 (.lenV (.t 33)),
 ot 35 (.bin .lss (.t 32) (.t 34))]
abbrev i43r12 : List IOper := [
 oo 39 (.mv (.t 0)),
 oo 40 (.mv (.t 6)),
 oo 41 (.ixaV 9 (.t 39) (.t 40)),
 oo 42 (.fa 8 (.t 41)),
 oo 43 (.ld false 1 (.t 42)),
 oo 44 (.call (.c (.fn 21 [])) [.t 43]),
 oo 38 (.mv (.t 44)),
 oo 45 (.ext (.t 38) 0),
 oo 46 (.ext (.t 38) 1),
 oo 47 (.ext (.t 38) 2),
 oo 7 (.new [.b false, .b false, .b false, .b false, .i .i64 0, .i .i64 0, .i .i64 0, .i .i64 0]),
 on_ (.st 8 (.t 7) (.t 45)),
 oo 8 (.mv (.t 46)),
 oo 9 (.mv (.t 47))]
abbrev i43r13 : List IOper := [
 oo 48 (.mv (.t 9)),
 oo 49 (.bin .neq (.t 48) (.c (.i .i64 0))),
 ot 50 (.mv (.t 49)),
 og 51 (.fa 0 (.t 7)) 50 false false,
 og 52 (.ld false 1 (.t 51)) 50 false false,
 og 53 (.mv (.t 6)) 50 false false,
 og 54 (.bin .eql (.t 53) (.c (.i .i64 0))) 50 false false,
 og 55 (.eqk true false [.b] (.t 52) (.t 54)) 50 false false,
 oo 56 (.pick (.t 50) (.c (.b true)) (.t 55)),
 ot 57 (.mv (.t 56)),
 og 58 (.fa 3 (.t 7)) 57 false false,
 og 59 (.ld false 1 (.t 58)) 57 false false,
 og 60 (.mv (.t 6)) 57 false false,
 og 61 (.mv (.t 0)) 57 false false,
 og 62 (.lenV (.t 61)) 57 false false,
 og 63 (.bin .sub (.t 62) (.c (.i .i64 1))) 57 false false,
 og 64 (.bin .eql (.t 60) (.t 63)) 57 false false,
 og 65 (.eqk true false [.b] (.t 59) (.t 64)) 57 false false,
 ot 66 (.pick (.t 57) (.c (.b true)) (.t 65))]
abbrev i43r14 : List IOper := [
 oo 67 (.build [.i .i64 0, .b false, .b false, .b false, .b false, .i .i64 0, .i .i64 0, .i .i64 0, .i .i64 0, .s []] []),
 on_ (.st 10 (.t 2) (.t 67)),
 oo 3 (.mv (.c (.i .i64 401)))]
abbrev i43r15 : List IOper := [
 oo 68 (.fa 0 (.t 7)),
 on_ (.st 1 (.t 68) (.c (.b true)))]
abbrev i43r16 : List IOper := [
 oo 69 (.fa 3 (.t 7)),
 on_ (.st 1 (.t 69) (.c (.b true)))]
abbrev i43r17 : List IOper := [
 oo 70 (.mv (.t 6)),
 ot 71 (.bin .eql (.t 70) (.c (.i .i64 0)))]
abbrev i43r18 : List IOper := [
 oo 72 (.mv (.t 0)),
 oo 73 (.ixaV 9 (.t 72) (.c (.i .i64 0))),
 oo 74 (.fa 3 (.t 73)),
 oo 75 (.ld false 1 (.t 74)),
 oo 76 (.fa 0 (.t 5)),
 on_ (.st 1 (.t 76) (.t 75))]
abbrev i43r19 : List IOper := [
 oo 77 (.ld true 8 (.t 7)),
 oo 78 (.fa 1 (.t 5)),
 on_ (.st 8 (.t 78) (.t 77))]
abbrev i43r20 : List (IOper × List Nat) := [
 (oo 79 (.ld true 8 (.t 7)), []),
 (oo 80 (.fa 1 (.t 5)), [0]),
 (oo 81 (.ld true 8 (.t 80)), [0]),
 (oo 82 (.eqk true true [.b, .b, .b, .b, .i, .i, .i, .i] (.t 79) (.t 81)), []),
 (ot 83 (.mv (.t 82)), []),
 (og 84 (.mv (.t 0)) 83 false false, []),
 (og 85 (.mv (.t 6)) 83 false false, [5]),
 (og 86 (.ixaV 9 (.t 84) (.t 85)) 83 false false, []),
 (og 87 (.fa 3 (.t 86)) 83 false false, []),
 (og 88 (.ld false 1 (.t 87)) 83 false false, []),
 (og 89 (.fa 0 (.t 5)) 83 false false, [5, 6, 7, 8, 9]),
 (og 90 (.ld false 1 (.t 89)) 83 false false, [5, 6, 7, 8, 9]),
 (og 91 (.bin .neq (.t 88) (.t 90)) 83 false false, []),
 (oo 92 (.pick (.t 83) (.c (.b true)) (.t 91)), []),
 (ot 93 (.mv (.t 92)), []),
 (og 94 (.mv (.t 0)) 93 false false, []),
 (og 95 (.mv (.t 6)) 93 false false, [15]),
 (og 96 (.ixaV 9 (.t 94) (.t 95)) 93 false false, []),
 (og 97 (.fa 4 (.t 96)) 93 false false, []),
 (og 98 (.ld false 1 (.t 97)) 93 false false, []),
 (og 99 (.mv (.t 0)) 93 false false, [15, 16, 17, 18, 19]),
 (og 100 (.ixaV 9 (.t 99) (.c (.i .i64 0))) 93 false false, [15, 16, 17, 18, 19]),
 (og 101 (.fa 4 (.t 100)) 93 false false, [15, 16, 17, 18, 19]),
 (og 102 (.ld false 1 (.t 101)) 93 false false, [15, 16, 17, 18, 19]),
 (og 103 (.bin .neq (.t 98) (.t 102)) 93 false false, []),
 (oo 104 (.pick (.t 93) (.c (.b true)) (.t 103)), []),
 (ot 105 (.mv (.t 104)), []),
 (og 106 (.mv (.t 0)) 105 false false, []),
 (og 107 (.mv (.t 6)) 105 false false, [27]),
 (og 108 (.ixaV 9 (.t 106) (.t 107)) 105 false false, []),
 (og 109 (.fa 1 (.t 108)) 105 false false, []),
 (og 110 (.ld false 1 (.t 109)) 105 false false, []),
 (og 111 (.mv (.t 0)) 105 false false, [27, 28, 29, 30, 31]),
 (og 112 (.ixaV 9 (.t 111) (.c (.i .i64 0))) 105 false false, [27, 28, 29, 30, 31]),
 (og 113 (.fa 1 (.t 112)) 105 false false, [27, 28, 29, 30, 31]),
 (og 114 (.ld false 1 (.t 113)) 105 false false, [27, 28, 29, 30, 31]),
 (og 115 (.bin .neq (.t 110) (.t 114)) 105 false false, []),
 (oo 116 (.pick (.t 105) (.c (.b true)) (.t 115)), []),
 (ot 117 (.mv (.t 116)), []),
 (og 118 (.mv (.t 0)) 117 false false, []),
 (og 119 (.mv (.t 6)) 117 false false, [39]),
 (og 120 (.ixaV 9 (.t 118) (.t 119)) 117 false false, []),
 (og 121 (.fa 2 (.t 120)) 117 false false, []),
 (og 122 (.ld false 1 (.t 121)) 117 false false, []),
 (og 123 (.mv (.t 0)) 117 false false, [39, 40, 41, 42, 43]),
 (og 124 (.mv (.t 6)) 117 false false, [39, 40, 41, 42, 43, 44]),
 (og 125 (.bin .sub (.t 124) (.c (.i .i64 1))) 117 false false, [39, 40, 41, 42, 43, 44]),
 (og 126 (.ixaV 9 (.t 123) (.t 125)) 117 false false, [39, 40, 41, 42, 43]),
 (og 127 (.fa 2 (.t 126)) 117 false false, [39, 40, 41, 42, 43]),
 (og 128 (.ld false 1 (.t 127)) 117 false false, [39, 40, 41, 42, 43]),
 (og 129 (.bin .add (.t 128) (.c (.i .i64 1))) 117 false false, [39, 40, 41, 42, 43]),
 (og 130 (.bin .rem (.t 129) (.c (.i .i64 65536))) 117 false false, [39, 40, 41, 42, 43]),
 (og 131 (.bin .neq (.t 122) (.t 130)) 117 false false, []),
 (ot 132 (.pick (.t 117) (.c (.b true)) (.t 131)), [])]
abbrev i43r21 : List IOper := [
 oo 133 (.build [.i .i64 0, .b false, .b false, .b false, .b false, .i .i64 0, .i .i64 0, .i .i64 0, .i .i64 0, .s []] []),
 on_ (.st 10 (.t 2) (.t 133)),
 oo 3 (.mv (.c (.i .i64 401)))]
abbrev i43r22 : List IOper := [
 oo 134 (.fa 9 (.t 5)),
 oo 135 (.ld false 1 (.t 134)),
 oo 136 (.mv (.t 8)),
 oo 137 (.bin .add (.t 135) (.t 136)),
 oo 138 (.fa 9 (.t 5)),
 on_ (.st 1 (.t 138) (.t 137))]
abbrev i43r23 : List IOper := [
 oo 36 (.mv (.t 6)),
 oo 37 (.bin .add (.t 36) (.c (.i .i64 1))),
 oo 6 (.mv (.t 37))]
abbrev i43l24 : ICode := (.seq (.seq (.reg i43r11) (.cond (.t 35) .skip (.exit 2))) (.seq (.block 3 (.seq (.reg i43r12) (.seq (.seq (.reg i43r13) (.cond (.t 66) (.seq (.reg i43r14) .ret) .skip)) (.seq (.reg i43r15) (.seq (.reg i43r16) (.seq (.seq (.reg i43r17) (.cond (.t 71) (.seq (.reg i43r18) (.reg i43r19)) (.seq (.dreg i43r20) (.cond (.t 132) (.seq (.reg i43r21) .ret) .skip)))) (.reg i43r22))))))) (.reg i43r23)))
abbrev i43r25 : List IOper := [
 oo 139 (.ld true 10 (.t 5)),
 on_ (.st 10 (.t 2) (.t 139)),
 oo 3 (.mv (.c (.i .i64 0)))]
abbrev i43c : ICode := (.seq (.reg i43r0) (.seq (.seq (.reg i43r1) (.block 0 (.loop i43l6))) (.seq (.seq (.reg i43r7) (.cond (.t 30) (.seq (.reg i43r8) .ret) .skip)) (.seq (.reg i43r9) (.seq (.seq (.reg i43r10) (.block 2 (.loop i43l24))) (.seq (.reg i43r25) .ret))))))
def i43 : IFn := { np := 1, N := 140, ct := [13, 21, 30, 35, 66, 71, 132], code := i43c, res := [.c 2 true 10, .t 3] }
theorem i43_eq : compF Try.prog Try.f43 = some i43 := by kernel_rfl
abbrev i62r0 : List IOper := [
 oo 4 (.mv (.c (.s [])))]
abbrev i62r1 : List IOper := [
 oo 5 (.mv (.c (.s [])))]
abbrev i62r2 : List IOper := [
 oo 6 (.mv (.c (.i .i64 0)))]
abbrev i62r3 : List IOper := [
 oo 7 (.mv (.t 6)),
 oo 8 (.mv (.t 0)),
 ot 9 (.bin .lss (.t 7) (.t 8))]
abbrev i62r4 : List IOper := [
 oo 12 (.mv (.t 1)),
 oo 13 (.bin .rem (.t 12) (.c (.i .i64 256))),
 oo 14 (.i2i .u8 (.t 13)),
 oo 15 (.bsl [.i .u8 0] 1 [(0, 1, .t 14)]),
 oo 16 (.b2s (.t 15)),
 oo 17 (.mv (.t 5)),
 oo 18 (.bin .add (.t 16) (.t 17)),
 oo 5 (.mv (.t 18))]
abbrev i62r5 : List IOper := [
 oo 19 (.mv (.t 1)),
 oo 20 (.bin .quo (.t 19) (.c (.i .i64 256))),
 oo 1 (.mv (.t 20))]
abbrev i62r6 : List IOper := [
 oo 10 (.mv (.t 6)),
 oo 11 (.bin .add (.t 10) (.c (.i .i64 1))),
 oo 6 (.mv (.t 11))]
abbrev i62l7 : ICode := (.seq (.seq (.reg i62r3) (.cond (.t 9) .skip (.exit 0))) (.seq (.block 1 (.seq (.reg i62r4) (.reg i62r5))) (.reg i62r6)))
abbrev i62r8 : List IOper := [
 oo 21 (.mv (.t 5)),
 oo 4 (.mv (.t 21))]
abbrev i62c : ICode := (.seq (.reg i62r0) (.seq (.reg i62r1) (.seq (.seq (.reg i62r2) (.block 0 (.loop i62l7))) (.seq (.reg i62r8) .ret))))
def i62 : IFn := { np := 2, N := 22, ct := [9], code := i62c, res := [.t 4] }
theorem i62_eq : compF Try.prog Try.f62 = some i62 := by kernel_rfl
abbrev i65r0 : List IOper := [
 oo 1 (.box (.t 0)),
 oo 2 (.mv (.c (.b false)))]
abbrev i65r1 : List IOper := [
 oo 6 (.fa 1 (.t 1)),
 oo 7 (.ld false 1 (.t 6)),
 oo 8 (.bin .lss (.t 7) (.c (.i .i64 0))),
 ot 9 (.mv (.t 8)),
 og 10 (.fa 1 (.t 1)) 9 false false,
 og 11 (.ld false 1 (.t 10)) 9 false false,
 og 12 (.bin .gtr (.t 11) (.c (.i .i64 127))) 9 false false,
 oo 13 (.pick (.t 9) (.c (.b true)) (.t 12)),
 ot 14 (.mv (.t 13)),
 og 15 (.fa 2 (.t 1)) 14 false false,
 og 16 (.ld false 1 (.t 15)) 14 false false,
 og 17 (.bin .lss (.t 16) (.c (.i .i64 0))) 14 false false,
 oo 18 (.pick (.t 14) (.c (.b true)) (.t 17)),
 ot 19 (.mv (.t 18)),
 og 20 (.fa 2 (.t 1)) 19 false false,
 og 21 (.ld false 1 (.t 20)) 19 false false,
 og 22 (.bin .gtr (.t 21) (.c (.i .i64 65535))) 19 false false,
 oo 23 (.pick (.t 19) (.c (.b true)) (.t 22)),
 ot 24 (.mv (.t 23)),
 og 25 (.fa 3 (.t 1)) 24 false false,
 og 26 (.ld false 1 (.t 25)) 24 false false,
 og 27 (.bin .lss (.t 26) (.c (.i .i64 0))) 24 false false,
 oo 28 (.pick (.t 24) (.c (.b true)) (.t 27)),
 ot 29 (.mv (.t 28)),
 og 30 (.fa 3 (.t 1)) 29 false false,
 og 31 (.ld false 1 (.t 30)) 29 false false,
 og 32 (.bin .geq (.t 31) (.c (.i .i64 4294967296))) 29 false false,
 oo 33 (.pick (.t 29) (.c (.b true)) (.t 32)),
 ot 34 (.mv (.t 33)),
 og 35 (.fa 4 (.t 1)) 34 false false,
 og 36 (.ld false 1 (.t 35)) 34 false false,
 og 37 (.bin .lss (.t 36) (.c (.i .i64 0))) 34 false false,
 oo 38 (.pick (.t 34) (.c (.b true)) (.t 37)),
 ot 39 (.mv (.t 38)),
 og 40 (.fa 4 (.t 1)) 39 false false,
 og 41 (.ld false 1 (.t 40)) 39 false false,
 og 42 (.bin .geq (.t 41) (.c (.i .i64 4294967296))) 39 false false,
 oo 43 (.pick (.t 39) (.c (.b true)) (.t 42)),
 ot 44 (.mv (.t 43)),
 og 45 (.fa 7 (.t 1)) 44 false false,
 og 46 (.ld false 1 (.t 45)) 44 false false,
 og 47 (.bin .lss (.t 46) (.c (.i .i64 0))) 44 false false,
 oo 48 (.pick (.t 44) (.c (.b true)) (.t 47)),
 ot 49 (.mv (.t 48)),
 og 50 (.fa 7 (.t 1)) 49 false false,
 og 51 (.ld false 1 (.t 50)) 49 false false,
 og 52 (.bin .gtr (.t 51) (.c (.i .i64 255))) 49 false false,
 oo 53 (.pick (.t 49) (.c (.b true)) (.t 52)),
 ot 54 (.mv (.t 53)),
 og 55 (.fa 5 (.t 1)) 54 false false,
 og 56 (.ld false 1 (.t 55)) 54 false false,
 og 57 (.lenV (.t 56)) 54 false false,
 og 58 (.bin .gtr (.t 57) (.c (.i .i64 15))) 54 false false,
 oo 59 (.pick (.t 54) (.c (.b true)) (.t 58)),
 ot 60 (.mv (.t 59)),
 og 61 (.fa 6 (.t 1)) 60 false false,
 og 62 (.ld false 1 (.t 61)) 60 false false,
 og 63 (.lenV (.t 62)) 60 false false,
 og 64 (.bin .gtr (.t 63) (.c (.i .i64 16))) 60 false false,
 ot 65 (.pick (.t 60) (.c (.b true)) (.t 64))]
abbrev i65r2 : List IOper := [
 oo 2 (.mv (.c (.b false)))]
abbrev i65r3 : List IOper := [
 oo 3 (.mv (.c (.i .i64 0)))]
abbrev i65r4 : List IOper := [
 oo 66 (.mv (.t 3)),
 oo 67 (.fa 5 (.t 1)),
 oo 68 (.ld false 1 (.t 67)),
 oo 69 (.lenV (.t 68)),
 ot 70 (.bin .lss (.t 66) (.t 69))]
abbrev i65r5 : List IOper := [
 oo 73 (.fa 5 (.t 1)),
 oo 74 (.ld false 1 (.t 73)),
 oo 75 (.mv (.t 3)),
 oo 76 (.ixaV 1 (.t 74) (.t 75)),
 oo 77 (.ld false 1 (.t 76)),
 oo 78 (.bin .lss (.t 77) (.c (.i .i64 0))),
 ot 79 (.mv (.t 78)),
 og 80 (.fa 5 (.t 1)) 79 false false,
 og 81 (.ld false 1 (.t 80)) 79 false false,
 og 82 (.mv (.t 3)) 79 false false,
 og 83 (.ixaV 1 (.t 81) (.t 82)) 79 false false,
 og 84 (.ld false 1 (.t 83)) 79 false false,
 og 85 (.bin .geq (.t 84) (.c (.i .i64 4294967296))) 79 false false,
 ot 86 (.pick (.t 79) (.c (.b true)) (.t 85))]
abbrev i65r6 : List IOper := [
 oo 2 (.mv (.c (.b false)))]
abbrev i65r7 : List IOper := [
 oo 71 (.mv (.t 3)),
 oo 72 (.bin .add (.t 71) (.c (.i .i64 1))),
 oo 3 (.mv (.t 72))]
abbrev i65l8 : ICode := (.seq (.seq (.reg i65r4) (.cond (.t 70) .skip (.exit 0))) (.seq (.block 1 (.seq (.reg i65r5) (.cond (.t 86) (.seq (.reg i65r6) .ret) .skip))) (.reg i65r7)))
abbrev i65r9 : List IOper := [
 oo 4 (.mv (.c (.i .i64 0)))]
abbrev i65r10 : List IOper := [
 oo 5 (.mv (.c (.i .i64 0)))]
abbrev i65r11 : List IOper := [
 oo 87 (.mv (.t 5)),
 oo 88 (.fa 6 (.t 1)),
 oo 89 (.ld false 1 (.t 88)),
 oo 90 (.lenV (.t 89)),
 ot 91 (.bin .lss (.t 87) (.t 90))]
abbrev i65r12 : List IOper := [
 oo 94 (.fa 6 (.t 1)),
 oo 95 (.ld false 1 (.t 94)),
 oo 96 (.mv (.t 5)),
 oo 97 (.ixaV 2 (.t 95) (.t 96)),
 oo 98 (.fa 0 (.t 97)),
 oo 99 (.ld false 1 (.t 98)),
 oo 100 (.mv (.t 4)),
 oo 101 (.bin .leq (.t 99) (.t 100)),
 ot 102 (.mv (.t 101)),
 og 103 (.fa 6 (.t 1)) 102 false false,
 og 104 (.ld false 1 (.t 103)) 102 false false,
 og 105 (.mv (.t 5)) 102 false false,
 og 106 (.ixaV 2 (.t 104) (.t 105)) 102 false false,
 og 107 (.fa 0 (.t 106)) 102 false false,
 og 108 (.ld false 1 (.t 107)) 102 false false,
 og 109 (.bin .gtr (.t 108) (.c (.i .i64 255))) 102 false false,
 oo 110 (.pick (.t 102) (.c (.b true)) (.t 109)),
 ot 111 (.mv (.t 110)),
 og 112 (.fa 6 (.t 1)) 111 false false,
 og 113 (.ld false 1 (.t 112)) 111 false false,
 og 114 (.mv (.t 5)) 111 false false,
 og 115 (.ixaV 2 (.t 113) (.t 114)) 111 false false,
 og 116 (.fa 1 (.t 115)) 111 false false,
 og 117 (.ld false 1 (.t 116)) 111 false false,
 og 118 (.lenS (.t 117)) 111 false false,
 og 119 (.bin .gtr (.t 118) (.c (.i .i64 255))) 111 false false,
 ot 120 (.pick (.t 111) (.c (.b true)) (.t 119))]
abbrev i65r13 : List IOper := [
 oo 2 (.mv (.c (.b false)))]
abbrev i65r14 : List IOper := [
 oo 121 (.fa 6 (.t 1)),
 oo 122 (.ld false 1 (.t 121)),
 oo 123 (.mv (.t 5)),
 oo 124 (.ixaV 2 (.t 122) (.t 123)),
 oo 125 (.fa 0 (.t 124)),
 oo 126 (.ld false 1 (.t 125)),
 oo 4 (.mv (.t 126))]
abbrev i65r15 : List IOper := [
 oo 92 (.mv (.t 5)),
 oo 93 (.bin .add (.t 92) (.c (.i .i64 1))),
 oo 5 (.mv (.t 93))]
abbrev i65l16 : ICode := (.seq (.seq (.reg i65r11) (.cond (.t 91) .skip (.exit 2))) (.seq (.block 3 (.seq (.seq (.reg i65r12) (.cond (.t 120) (.seq (.reg i65r13) .ret) .skip)) (.reg i65r14))) (.reg i65r15)))
abbrev i65r17 : List IOper := [
 oo 2 (.mv (.c (.b true)))]
abbrev i65c : ICode := (.seq (.reg i65r0) (.seq (.seq (.reg i65r1) (.cond (.t 65) (.seq (.reg i65r2) .ret) .skip)) (.seq (.seq (.reg i65r3) (.block 0 (.loop i65l8))) (.seq (.reg i65r9) (.seq (.seq (.reg i65r10) (.block 2 (.loop i65l16))) (.seq (.reg i65r17) .ret))))))
def i65 : IFn := { np := 1, N := 127, ct := [65, 70, 86, 91, 120], code := i65c, res := [.t 2] }
theorem i65_eq : compF Try.prog Try.f65 = some i65 := by kernel_rfl
end Go.Proofs.Pic
