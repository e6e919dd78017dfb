/- The small language's text of the functions; printed by ShowI.lean. -/
import Derived.Test.YtkpiibllomjeaaaProg
import Derived.Test.YtkpiibllomjeaaaAbRuns
import Derived.Test.YtkpiibllomjeaaaLysIRa
namespace Go.Proofs.Lys
open Go.Ab
abbrev i75r0 : List (IOper × List Nat) := [
 (oo 2 (.mv (.t 0)), []),
 (oo 3 (.nck (.t 2)), []),
 (oo 4 (.fa 18 (.t 3)), []),
 (oo 5 (.ld false 1 (.t 4)), []),
 (oo 6 (.mv (.t 0)), [0, 1, 2, 3]),
 (oo 7 (.nck (.t 6)), [0, 1, 2, 3]),
 (oo 8 (.fa 0 (.t 7)), [0, 1, 2, 3]),
 (oo 9 (.fa 4 (.t 8)), [0, 1, 2, 3]),
 (oo 10 (.ld false 1 (.t 9)), [0, 1, 2, 3]),
 (oo 11 (.bin .neq (.t 5) (.t 10)), []),
 (ot 12 (.mv (.t 11)), []),
 (og 13 (.mv (.t 0)) 12 false false, []),
 (og 14 (.nck (.t 13)) 12 false false, []),
 (og 15 (.fa 18 (.t 14)) 12 false false, []),
 (og 16 (.ld false 1 (.t 15)) 12 false false, []),
 (og 17 (.mv (.t 0)) 12 false false, [11, 12, 13, 14]),
 (og 18 (.nck (.t 17)) 12 false false, [11, 12, 13, 14]),
 (og 19 (.fa 0 (.t 18)) 12 false false, [11, 12, 13, 14]),
 (og 20 (.fa 3 (.t 19)) 12 false false, [11, 12, 13, 14]),
 (og 21 (.ld false 1 (.t 20)) 12 false false, [11, 12, 13, 14]),
 (og 22 (.bin .eql (.t 16) (.t 21)) 12 false false, []),
 (oo 23 (.pick (.t 12) (.c (.b true)) (.t 22)), []),
 (ot 24 (.mv (.t 23)), []),
 (og 25 (.mv (.t 0)) 24 false false, []),
 (og 26 (.nck (.t 25)) 24 false false, []),
 (og 27 (.fa 28 (.t 26)) 24 false false, []),
 (og 28 (.fa 0 (.t 27)) 24 false false, []),
 (og 29 (.ld false 1 (.t 28)) 24 false false, []),
 (og 30 (.not (.t 29)) 24 false false, []),
 (oo 31 (.pick (.t 24) (.c (.b true)) (.t 30)), []),
 (ot 32 (.mv (.t 31)), []),
 (og 33 (.mv (.t 0)) 32 false false, []),
 (og 34 (.nck (.t 33)) 32 false false, []),
 (og 35 (.fa 28 (.t 34)) 32 false false, []),
 (og 36 (.fa 1 (.t 35)) 32 false false, []),
 (og 37 (.ld false 1 (.t 36)) 32 false false, []),
 (og 38 (.not (.t 37)) 32 false false, []),
 (oo 39 (.pick (.t 32) (.c (.b true)) (.t 38)), []),
 (ot 40 (.mv (.t 39)), []),
 (og 41 (.mv (.t 0)) 40 false false, []),
 (og 42 (.nck (.t 41)) 40 false false, []),
 (og 43 (.fa 28 (.t 42)) 40 false false, []),
 (og 44 (.fa 7 (.t 43)) 40 false false, []),
 (og 45 (.ld false 1 (.t 44)) 40 false false, []),
 (og 46 (.bin .neq (.t 45) (.c (.i .i64 0))) 40 false false, []),
 (ot 47 (.pick (.t 40) (.c (.b true)) (.t 46)), [])]
abbrev i75r1 : List (IOper × List Nat) := [
 (oo 48 (.mv (.t 0)), []),
 (oo 49 (.mv (.t 0)), [0]),
 (oo 50 (.mv (.t 0)), [0, 1]),
 (oo 51 (.mv (.t 0)), [0, 1, 2]),
 (oo 52 (.mv (.t 0)), [0, 1, 2, 3]),
 (oo 53 (.nck (.t 52)), [0, 1, 2, 3]),
 (oo 54 (.fa 18 (.t 53)), [0, 1, 2, 3]),
 (oo 55 (.ld false 1 (.t 54)), [0, 1, 2, 3]),
 (oo 56 (.mv (.t 0)), [0, 1, 2, 3, 4, 5, 6, 7]),
 (oo 57 (.nck (.t 56)), [0, 1, 2, 3, 4, 5, 6, 7]),
 (oo 58 (.fa 28 (.t 57)), [0, 1, 2, 3, 4, 5, 6, 7]),
 (oo 59 (.fa 4 (.t 58)), [0, 1, 2, 3, 4, 5, 6, 7]),
 (oo 60 (.ld false 1 (.t 59)), [0, 1, 2, 3, 4, 5, 6, 7]),
 (oo 61 (.nck (.t 48)), [1, 2, 3]),
 (oo 62 (.fa 0 (.t 61)), [1, 2, 3]),
 (oo 63 (.fa 3 (.t 62)), [1, 2, 3]),
 (on_ (.st 1 (.t 63) (.t 55)), [1, 2, 3]),
 (oo 64 (.nck (.t 49)), [2, 3]),
 (oo 65 (.fa 0 (.t 64)), [2, 3]),
 (oo 66 (.fa 8 (.t 65)), [2, 3]),
 (on_ (.st 1 (.t 66) (.t 60)), [2, 3]),
 (oo 67 (.nck (.t 50)), [3]),
 (oo 68 (.fa 0 (.t 67)), [3]),
 (oo 69 (.fa 9 (.t 68)), [3]),
 (on_ (.st 1 (.t 69) (.c (.b true))), [3]),
 (oo 70 (.nck (.t 51)), []),
 (oo 71 (.fa 0 (.t 70)), []),
 (oo 72 (.fa 5 (.t 71)), []),
 (on_ (.st 1 (.t 72) (.c (.i .i64 0))), [])]
abbrev i75r2 : List (IOper × List Nat) := [
 (oo 73 (.mv (.t 0)), []),
 (oo 74 (.mv (.t 0)), [0]),
 (oo 75 (.nck (.t 74)), [0]),
 (oo 76 (.fa 0 (.t 75)), [0]),
 (oo 77 (.fa 14 (.t 76)), [0]),
 (oo 78 (.fa 0 (.t 77)), [0]),
 (oo 79 (.ld false 1 (.t 78)), [0]),
 (oo 80 (.bin .add (.t 79) (.c (.i .i64 1))), [0]),
 (oo 81 (.mv (.t 0)), [0, 1, 2, 3, 4, 5, 6, 7]),
 (oo 82 (.nck (.t 81)), [0, 1, 2, 3, 4, 5, 6, 7]),
 (oo 83 (.fa 19 (.t 82)), [0, 1, 2, 3, 4, 5, 6, 7]),
 (oo 84 (.fa 2 (.t 83)), [0, 1, 2, 3, 4, 5, 6, 7]),
 (oo 85 (.ld false 1 (.t 84)), [0, 1, 2, 3, 4, 5, 6, 7]),
 (oo 86 (.call (.c (.fn 91 [])) [.t 80, .t 85]), [0]),
 (oo 87 (.nck (.t 73)), []),
 (oo 88 (.fa 0 (.t 87)), []),
 (oo 89 (.fa 10 (.t 88)), []),
 (on_ (.st 1 (.t 89) (.t 86)), [])]
abbrev i75r3 : List (IOper × List Nat) := [
 (oo 90 (.mv (.t 0)), []),
 (oo 91 (.mv (.t 0)), [0]),
 (oo 92 (.nck (.t 91)), [0]),
 (oo 93 (.fa 0 (.t 92)), [0]),
 (oo 94 (.fa 14 (.t 93)), [0]),
 (oo 95 (.fa 1 (.t 94)), [0]),
 (oo 96 (.ld false 1 (.t 95)), [0]),
 (oo 97 (.mv (.t 0)), [0, 1, 2, 3, 4, 5, 6]),
 (oo 98 (.nck (.t 97)), [0, 1, 2, 3, 4, 5, 6]),
 (oo 99 (.fa 0 (.t 98)), [0, 1, 2, 3, 4, 5, 6]),
 (oo 100 (.fa 2 (.t 99)), [0, 1, 2, 3, 4, 5, 6]),
 (oo 101 (.ld false 1 (.t 100)), [0, 1, 2, 3, 4, 5, 6]),
 (oo 102 (.bin .add (.t 96) (.t 101)), [0]),
 (oo 103 (.mv (.t 0)), [0, 1, 2, 3, 4, 5, 6, 7, 8, 9, 10, 11, 12]),
 (oo 104 (.nck (.t 103)), [0, 1, 2, 3, 4, 5, 6, 7, 8, 9, 10, 11, 12]),
 (oo 105 (.fa 19 (.t 104)), [0, 1, 2, 3, 4, 5, 6, 7, 8, 9, 10, 11, 12]),
 (oo 106 (.fa 3 (.t 105)), [0, 1, 2, 3, 4, 5, 6, 7, 8, 9, 10, 11, 12]),
 (oo 107 (.ld false 1 (.t 106)), [0, 1, 2, 3, 4, 5, 6, 7, 8, 9, 10, 11, 12]),
 (oo 108 (.call (.c (.fn 92 [])) [.t 102, .t 107]), [0]),
 (oo 109 (.nck (.t 90)), []),
 (oo 110 (.fa 0 (.t 109)), []),
 (oo 111 (.fa 11 (.t 110)), []),
 (on_ (.st 1 (.t 111) (.t 108)), [])]
abbrev i75r4 : List (IOper × List Nat) := [
 (oo 112 (.mv (.t 0)), []),
 (oo 113 (.mv (.t 0)), [0]),
 (oo 114 (.nck (.t 113)), [0]),
 (oo 115 (.fa 0 (.t 114)), [0]),
 (oo 116 (.fa 14 (.t 115)), [0]),
 (oo 117 (.fa 2 (.t 116)), [0]),
 (oo 118 (.ld false 1 (.t 117)), [0]),
 (oo 119 (.bin .add (.t 118) (.c (.i .i64 1))), [0]),
 (oo 120 (.mv (.t 0)), [0, 1, 2, 3, 4, 5, 6, 7]),
 (oo 121 (.nck (.t 120)), [0, 1, 2, 3, 4, 5, 6, 7]),
 (oo 122 (.fa 28 (.t 121)), [0, 1, 2, 3, 4, 5, 6, 7]),
 (oo 123 (.fa 4 (.t 122)), [0, 1, 2, 3, 4, 5, 6, 7]),
 (oo 124 (.ld false 1 (.t 123)), [0, 1, 2, 3, 4, 5, 6, 7]),
 (oo 125 (.neg (.t 124)), [0, 1, 2, 3, 4, 5, 6, 7]),
 (oo 126 (.call (.c (.fn 93 [])) [.t 119, .t 125]), [0]),
 (oo 127 (.nck (.t 112)), []),
 (oo 128 (.fa 0 (.t 127)), []),
 (oo 129 (.fa 12 (.t 128)), []),
 (on_ (.st 1 (.t 129) (.t 126)), [])]
abbrev i75r5 : List (IOper × List Nat) := [
 (oo 130 (.mv (.t 0)), []),
 (oo 131 (.mv (.t 0)), [0]),
 (oo 132 (.nck (.t 131)), [0]),
 (oo 133 (.fa 0 (.t 132)), [0]),
 (oo 134 (.fa 14 (.t 133)), [0]),
 (oo 135 (.fa 3 (.t 134)), [0]),
 (oo 136 (.ld false 1 (.t 135)), [0]),
 (oo 137 (.bin .add (.t 136) (.c (.i .i64 1))), [0]),
 (oo 138 (.mv (.t 0)), [0, 1, 2, 3, 4, 5, 6, 7]),
 (oo 139 (.nck (.t 138)), [0, 1, 2, 3, 4, 5, 6, 7]),
 (oo 140 (.fa 28 (.t 139)), [0, 1, 2, 3, 4, 5, 6, 7]),
 (oo 141 (.fa 5 (.t 140)), [0, 1, 2, 3, 4, 5, 6, 7]),
 (oo 142 (.ld false 1 (.t 141)), [0, 1, 2, 3, 4, 5, 6, 7]),
 (oo 143 (.call (.c (.fn 94 [])) [.t 137, .t 142]), [0]),
 (oo 144 (.nck (.t 130)), []),
 (oo 145 (.fa 0 (.t 144)), []),
 (oo 146 (.fa 13 (.t 145)), []),
 (on_ (.st 1 (.t 146) (.t 143)), [])]
abbrev i75r6 : List IOper := [
 oo 147 (.mv (.t 0)),
 oo 148 (.mv (.t 0)),
 oo 149 (.nck (.t 148)),
 oo 150 (.fa 19 (.t 149)),
 oo 151 (.fa 2 (.t 150)),
 oo 152 (.ld false 1 (.t 151)),
 oo 153 (.call (.c (.fn 91 [])) [.t 152, .c (.i .i64 1)]),
 oo 154 (.nck (.t 147)),
 oo 155 (.fa 0 (.t 154)),
 oo 156 (.fa 7 (.t 155)),
 on_ (.st 1 (.t 156) (.t 153))]
abbrev i75c : ICode := (.seq (.seq (.dreg i75r0) (.cond (.t 47) .ret .skip)) (.seq (.dreg i75r1) (.seq (.dreg i75r2) (.seq (.dreg i75r3) (.seq (.dreg i75r4) (.seq (.dreg i75r5) (.reg i75r6)))))))
def i75 : IFn := { np := 1, N := 157, ct := [47], code := i75c, res := [] }
theorem i75_eq : compF Try.prog Try.f75 = some i75 := by kernel_rfl
abbrev i76r0 : List (IOper × List Nat) := [
 (oo 4 (.mv (.t 0)), []),
 (oo 5 (.nck (.t 4)), []),
 (oo 6 (.fa 18 (.t 5)), []),
 (oo 7 (.ld false 1 (.t 6)), []),
 (oo 8 (.mv (.t 0)), [0, 1, 2, 3]),
 (oo 9 (.nck (.t 8)), [0, 1, 2, 3]),
 (oo 10 (.fa 0 (.t 9)), [0, 1, 2, 3]),
 (oo 11 (.fa 3 (.t 10)), [0, 1, 2, 3]),
 (oo 12 (.ld false 1 (.t 11)), [0, 1, 2, 3]),
 (oo 13 (.bin .eql (.t 7) (.t 12)), []),
 (oo 14 (.call (.c (.fn 95 [])) [.t 13]), [])]
abbrev i76r1 : List (IOper × List Nat) := [
 (oo 16 (.mv (.t 0)), []),
 (oo 17 (.nck (.t 16)), []),
 (oo 18 (.fa 19 (.t 17)), []),
 (oo 19 (.fa 2 (.t 18)), []),
 (oo 20 (.ld false 1 (.t 19)), []),
 (oo 21 (.mv (.t 0)), [0, 1, 2, 3, 4]),
 (oo 22 (.nck (.t 21)), [0, 1, 2, 3, 4]),
 (oo 23 (.fa 0 (.t 22)), [0, 1, 2, 3, 4]),
 (oo 24 (.fa 7 (.t 23)), [0, 1, 2, 3, 4]),
 (oo 25 (.ld false 1 (.t 24)), [0, 1, 2, 3, 4]),
 (oo 26 (.call (.c (.fn 96 [])) [.t 20, .t 25, .c (.i .i64 16)]), []),
 (oo 15 (.mv (.t 26)), []),
 (oo 27 (.ext (.t 15) 0), []),
 (oo 28 (.ext (.t 15) 1), [12]),
 (oo 2 (.mv (.t 27)), [13]),
 (oo 3 (.mv (.t 28)), [])]
abbrev i76r2 : List IOper := [
 oo 29 (.mv (.t 3)),
 oo 30 (.bin .eql (.t 29) (.c (.i .i64 0))),
 ot 31 (.mv (.t 30)),
 og 32 (.mv (.t 2)) 31 true false,
 oo 33 (.pick (.t 31) (.t 32) (.c (.b false))),
 oo 34 (.call (.c (.fn 95 [])) [.t 33])]
abbrev i76r3 : List IOper := [
 oo 35 (.mv (.t 0)),
 oo 36 (.mv (.t 0)),
 oo 37 (.nck (.t 36)),
 oo 38 (.fa 19 (.t 37)),
 oo 39 (.fa 2 (.t 38)),
 oo 40 (.ld false 1 (.t 39)),
 oo 41 (.nck (.t 35)),
 oo 42 (.fa 0 (.t 41)),
 oo 43 (.fa 7 (.t 42)),
 on_ (.st 1 (.t 43) (.t 40))]
abbrev i76c : ICode := (.seq (.dreg i76r0) (.seq (.dreg i76r1) (.seq (.reg i76r2) (.reg i76r3))))
def i76 : IFn := { np := 1, N := 44, ct := [], code := i76c, res := [] }
theorem i76_eq : compF Try.prog Try.f76 = some i76 := by kernel_rfl
abbrev i77r0 : List (IOper × List Nat) := [
 (oo 2 (.mv (.t 0)), []),
 (oo 3 (.nck (.t 2)), []),
 (oo 4 (.fa 28 (.t 3)), []),
 (oo 5 (.fa 4 (.t 4)), []),
 (oo 6 (.ld false 1 (.t 5)), []),
 (oo 7 (.mv (.t 0)), [0, 1, 2, 3, 4]),
 (oo 8 (.nck (.t 7)), [0, 1, 2, 3, 4]),
 (oo 9 (.fa 0 (.t 8)), [0, 1, 2, 3, 4]),
 (oo 10 (.fa 8 (.t 9)), [0, 1, 2, 3, 4]),
 (oo 11 (.ld false 1 (.t 10)), [0, 1, 2, 3, 4]),
 (ot 12 (.bin .eql (.t 6) (.t 11)), [])]
abbrev i77r1 : List (IOper × List Nat) := [
 (oo 13 (.mv (.t 0)), []),
 (oo 14 (.mv (.t 0)), [0]),
 (oo 15 (.mv (.t 0)), [0, 1]),
 (oo 16 (.nck (.t 15)), [0, 1]),
 (oo 17 (.fa 28 (.t 16)), [0, 1]),
 (oo 18 (.fa 4 (.t 17)), [0, 1]),
 (oo 19 (.ld false 1 (.t 18)), [0, 1]),
 (oo 20 (.mv (.t 0)), [0, 1, 2, 3, 4, 5, 6]),
 (oo 21 (.nck (.t 20)), [0, 1, 2, 3, 4, 5, 6]),
 (oo 22 (.fa 0 (.t 21)), [0, 1, 2, 3, 4, 5, 6]),
 (oo 23 (.fa 5 (.t 22)), [0, 1, 2, 3, 4, 5, 6]),
 (oo 24 (.ld false 1 (.t 23)), [0, 1, 2, 3, 4, 5, 6]),
 (oo 25 (.mv (.t 0)), [0, 1, 2, 3, 4, 5, 6, 7, 8, 9, 10, 11]),
 (oo 26 (.nck (.t 25)), [0, 1, 2, 3, 4, 5, 6, 7, 8, 9, 10, 11]),
 (oo 27 (.fa 0 (.t 26)), [0, 1, 2, 3, 4, 5, 6, 7, 8, 9, 10, 11]),
 (oo 28 (.fa 6 (.t 27)), [0, 1, 2, 3, 4, 5, 6, 7, 8, 9, 10, 11]),
 (oo 29 (.ld false 1 (.t 28)), [0, 1, 2, 3, 4, 5, 6, 7, 8, 9, 10, 11]),
 (oo 30 (.mn (.t 24) [.t 29]), [0, 1, 2, 3, 4, 5, 6]),
 (oo 31 (.nck (.t 13)), [1, 17]),
 (oo 32 (.fa 0 (.t 31)), [1, 17]),
 (oo 33 (.fa 8 (.t 32)), [1, 17]),
 (on_ (.st 1 (.t 33) (.t 19)), [1, 17]),
 (oo 34 (.nck (.t 14)), []),
 (oo 35 (.fa 0 (.t 34)), []),
 (oo 36 (.fa 5 (.t 35)), []),
 (on_ (.st 1 (.t 36) (.t 30)), [])]
abbrev i77r2 : List IOper := [
 oo 37 (.mv (.t 0)),
 oo 38 (.nck (.t 37)),
 oo 39 (.fa 28 (.t 38)),
 oo 40 (.fa 1 (.t 39)),
 ot 41 (.ld false 1 (.t 40))]
abbrev i77r3 : List IOper := [
 oo 42 (.mv (.t 0)),
 oo 43 (.nck (.t 42)),
 oo 44 (.fa 0 (.t 43)),
 oo 45 (.fa 5 (.t 44)),
 on_ (.st 1 (.t 45) (.c (.i .i64 0)))]
abbrev i77r4 : List (IOper × List Nat) := [
 (oo 46 (.mv (.t 0)), []),
 (oo 47 (.nck (.t 46)), []),
 (oo 48 (.fa 28 (.t 47)), []),
 (oo 49 (.fa 2 (.t 48)), []),
 (oo 50 (.ld false 1 (.t 49)), []),
 (ot 51 (.mv (.t 50)), []),
 (og 52 (.mv (.t 0)) 51 true false, []),
 (og 53 (.nck (.t 52)) 51 true false, []),
 (og 54 (.fa 28 (.t 53)) 51 true false, []),
 (og 55 (.fa 6 (.t 54)) 51 true false, []),
 (og 56 (.ld false 1 (.t 55)) 51 true false, []),
 (og 57 (.mv (.t 0)) 51 true false, [6, 7, 8, 9, 10]),
 (og 58 (.nck (.t 57)) 51 true false, [6, 7, 8, 9, 10]),
 (og 59 (.fa 0 (.t 58)) 51 true false, [6, 7, 8, 9, 10]),
 (og 60 (.fa 5 (.t 59)) 51 true false, [6, 7, 8, 9, 10]),
 (og 61 (.ld false 1 (.t 60)) 51 true false, [6, 7, 8, 9, 10]),
 (og 62 (.bin .add (.t 61) (.c (.i .i64 1))) 51 true false, [6, 7, 8, 9, 10]),
 (og 63 (.bin .eql (.t 56) (.t 62)) 51 true false, []),
 (oo 64 (.pick (.t 51) (.t 63) (.c (.b false))), []),
 (ot 65 (.mv (.t 64)), []),
 (og 66 (.mv (.t 0)) 65 true false, []),
 (og 67 (.nck (.t 66)) 65 true false, []),
 (og 68 (.fa 28 (.t 67)) 65 true false, []),
 (og 69 (.fa 6 (.t 68)) 65 true false, []),
 (og 70 (.ld false 1 (.t 69)) 65 true false, []),
 (og 71 (.mv (.t 0)) 65 true false, [20, 21, 22, 23, 24]),
 (og 72 (.nck (.t 71)) 65 true false, [20, 21, 22, 23, 24]),
 (og 73 (.fa 0 (.t 72)) 65 true false, [20, 21, 22, 23, 24]),
 (og 74 (.fa 6 (.t 73)) 65 true false, [20, 21, 22, 23, 24]),
 (og 75 (.ld false 1 (.t 74)) 65 true false, [20, 21, 22, 23, 24]),
 (og 76 (.bin .leq (.t 70) (.t 75)) 65 true false, []),
 (ot 77 (.pick (.t 65) (.t 76) (.c (.b false))), [])]
abbrev i77r5 : List IOper := [
 oo 78 (.mv (.t 0)),
 oo 79 (.nck (.t 78)),
 oo 80 (.fa 0 (.t 79)),
 oo 81 (.fa 5 (.t 80)),
 oo 82 (.ld false 1 (.t 81)),
 oo 83 (.bin .add (.t 82) (.c (.i .i64 1))),
 oo 84 (.nck (.t 78)),
 oo 85 (.fa 0 (.t 84)),
 oo 86 (.fa 5 (.t 85)),
 on_ (.st 1 (.t 86) (.t 83))]
abbrev i77r6 : List (IOper × List Nat) := [
 (oo 87 (.mv (.t 0)), []),
 (oo 88 (.mv (.t 0)), [0]),
 (oo 89 (.nck (.t 88)), [0]),
 (oo 90 (.fa 28 (.t 89)), [0]),
 (oo 91 (.fa 6 (.t 90)), [0]),
 (oo 92 (.ld false 1 (.t 91)), [0]),
 (oo 93 (.mv (.t 0)), [0, 1, 2, 3, 4, 5]),
 (oo 94 (.nck (.t 93)), [0, 1, 2, 3, 4, 5]),
 (oo 95 (.fa 0 (.t 94)), [0, 1, 2, 3, 4, 5]),
 (oo 96 (.fa 5 (.t 95)), [0, 1, 2, 3, 4, 5]),
 (oo 97 (.ld false 1 (.t 96)), [0, 1, 2, 3, 4, 5]),
 (oo 98 (.bin .leq (.t 92) (.t 97)), [0]),
 (oo 99 (.nck (.t 87)), []),
 (oo 100 (.fa 0 (.t 99)), []),
 (oo 101 (.fa 9 (.t 100)), []),
 (on_ (.st 1 (.t 101) (.t 98)), [])]
abbrev i77r7 : List IOper := [
 oo 102 (.mv (.t 0)),
 oo 103 (.nck (.t 102)),
 oo 104 (.fa 0 (.t 103)),
 oo 105 (.fa 9 (.t 104)),
 oo 106 (.ld false 1 (.t 105)),
 ot 107 (.not (.t 106))]
abbrev i77r8 : List IOper := [
 oo 108 (.mv (.t 0)),
 oo 109 (.mv (.t 0)),
 oo 110 (.nck (.t 109)),
 oo 111 (.fa 0 (.t 110)),
 oo 112 (.fa 12 (.t 111)),
 oo 113 (.ld false 1 (.t 112)),
 oo 114 (.call (.c (.fn 93 [])) [.t 113, .c (.i .i64 (-1))]),
 oo 115 (.nck (.t 108)),
 oo 116 (.fa 0 (.t 115)),
 oo 117 (.fa 12 (.t 116)),
 on_ (.st 1 (.t 117) (.t 114))]
abbrev i77c : ICode := (.seq (.seq (.dreg i77r0) (.cond (.t 12) .ret .skip)) (.seq (.dreg i77r1) (.seq (.seq (.reg i77r2) (.cond (.t 41) (.reg i77r3) .skip)) (.seq (.seq (.dreg i77r4) (.cond (.t 77) (.reg i77r5) .skip)) (.seq (.dreg i77r6) (.seq (.reg i77r7) (.cond (.t 107) (.reg i77r8) .skip)))))))
def i77 : IFn := { np := 1, N := 118, ct := [12, 41, 77, 107], code := i77c, res := [] }
theorem i77_eq : compF Try.prog Try.f77 = some i77 := by kernel_rfl
abbrev i78r0 : List IOper := [
 oo 2 (.mv (.t 0)),
 oo 3 (.nck (.t 2)),
 oo 4 (.fa 0 (.t 3)),
 oo 5 (.fa 9 (.t 4)),
 oo 6 (.ld false 1 (.t 5)),
 oo 7 (.not (.t 6)),
 ot 8 (.mv (.t 7)),
 og 9 (.mv (.t 0)) 8 false false,
 og 10 (.nck (.t 9)) 8 false false,
 og 11 (.fa 28 (.t 10)) 8 false false,
 og 12 (.fa 7 (.t 11)) 8 false false,
 og 13 (.ld false 1 (.t 12)) 8 false false,
 og 14 (.bin .neq (.t 13) (.c (.i .i64 0))) 8 false false,
 ot 15 (.pick (.t 8) (.c (.b true)) (.t 14))]
abbrev i78r1 : List IOper := [
 oo 16 (.mv (.t 0)),
 oo 17 (.mv (.t 0)),
 oo 18 (.nck (.t 17)),
 oo 19 (.fa 0 (.t 18)),
 oo 20 (.fa 10 (.t 19)),
 oo 21 (.ld false 1 (.t 20)),
 oo 22 (.call (.c (.fn 91 [])) [.t 21, .c (.i .i64 1)]),
 oo 23 (.nck (.t 16)),
 oo 24 (.fa 0 (.t 23)),
 oo 25 (.fa 10 (.t 24)),
 on_ (.st 1 (.t 25) (.t 22))]
abbrev i78r2 : List IOper := [
 oo 26 (.call (.c (.fn 95 [])) [.c (.b false)])]
abbrev i78c : ICode := (.seq (.reg i78r0) (.cond (.t 15) (.seq (.reg i78r1) (.reg i78r2)) .skip))
def i78 : IFn := { np := 1, N := 27, ct := [15], code := i78c, res := [] }
theorem i78_eq : compF Try.prog Try.f78 = some i78 := by kernel_rfl
abbrev i79r0 : List (IOper × List Nat) := [
 (oo 5 (.mv (.t 0)), []),
 (oo 6 (.mv (.t 0)), [0]),
 (oo 7 (.nck (.t 6)), [0]),
 (oo 8 (.fa 19 (.t 7)), [0]),
 (oo 9 (.fa 2 (.t 8)), [0]),
 (oo 10 (.ld false 1 (.t 9)), [0]),
 (oo 11 (.mv (.t 0)), [0, 1, 2, 3, 4, 5]),
 (oo 12 (.nck (.t 11)), [0, 1, 2, 3, 4, 5]),
 (oo 13 (.fa 0 (.t 12)), [0, 1, 2, 3, 4, 5]),
 (oo 14 (.fa 10 (.t 13)), [0, 1, 2, 3, 4, 5]),
 (oo 15 (.ld false 1 (.t 14)), [0, 1, 2, 3, 4, 5]),
 (oo 16 (.call (.c (.fn 97 [])) [.t 10, .t 15]), [0]),
 (oo 17 (.mv (.t 0)), [0, 1, 2, 3, 4, 5, 6, 7, 8, 9, 10, 11]),
 (oo 18 (.nck (.t 17)), [0, 1, 2, 3, 4, 5, 6, 7, 8, 9, 10, 11]),
 (oo 19 (.fa 19 (.t 18)), [0, 1, 2, 3, 4, 5, 6, 7, 8, 9, 10, 11]),
 (oo 20 (.fa 3 (.t 19)), [0, 1, 2, 3, 4, 5, 6, 7, 8, 9, 10, 11]),
 (oo 21 (.ld false 1 (.t 20)), [0, 1, 2, 3, 4, 5, 6, 7, 8, 9, 10, 11]),
 (oo 22 (.mv (.t 0)), [0, 1, 2, 3, 4, 5, 6, 7, 8, 9, 10, 11, 12, 13, 14, 15, 16]),
 (oo 23 (.nck (.t 22)), [0, 1, 2, 3, 4, 5, 6, 7, 8, 9, 10, 11, 12, 13, 14, 15, 16]),
 (oo 24 (.fa 0 (.t 23)), [0, 1, 2, 3, 4, 5, 6, 7, 8, 9, 10, 11, 12, 13, 14, 15, 16]),
 (oo 25 (.fa 11 (.t 24)), [0, 1, 2, 3, 4, 5, 6, 7, 8, 9, 10, 11, 12, 13, 14, 15, 16]),
 (oo 26 (.ld false 1 (.t 25)), [0, 1, 2, 3, 4, 5, 6, 7, 8, 9, 10, 11, 12, 13, 14, 15, 16]),
 (oo 27 (.call (.c (.fn 98 [])) [.t 21, .t 26]), [0]),
 (oo 28 (.mv (.t 0)), [0, 1, 2, 3, 4, 5, 6, 7, 8, 9, 10, 11, 12, 13, 14, 15, 16, 17, 18, 19, 20, 21, 22]),
 (oo 29 (.nck (.t 28)), [0, 1, 2, 3, 4, 5, 6, 7, 8, 9, 10, 11, 12, 13, 14, 15, 16, 17, 18, 19, 20, 21, 22]),
 (oo 30 (.fa 28 (.t 29)), [0, 1, 2, 3, 4, 5, 6, 7, 8, 9, 10, 11, 12, 13, 14, 15, 16, 17, 18, 19, 20, 21, 22]),
 (oo 31 (.fa 4 (.t 30)), [0, 1, 2, 3, 4, 5, 6, 7, 8, 9, 10, 11, 12, 13, 14, 15, 16, 17, 18, 19, 20, 21, 22]),
 (oo 32 (.ld false 1 (.t 31)), [0, 1, 2, 3, 4, 5, 6, 7, 8, 9, 10, 11, 12, 13, 14, 15, 16, 17, 18, 19, 20, 21, 22]),
 (oo 33 (.mv (.t 0)), [0, 1, 2, 3, 4, 5, 6, 7, 8, 9, 10, 11, 12, 13, 14, 15, 16, 17, 18, 19, 20, 21, 22, 23, 24, 25, 26, 27]),
 (oo 34 (.nck (.t 33)), [0, 1, 2, 3, 4, 5, 6, 7, 8, 9, 10, 11, 12, 13, 14, 15, 16, 17, 18, 19, 20, 21, 22, 23, 24, 25, 26, 27]),
 (oo 35 (.fa 0 (.t 34)), [0, 1, 2, 3, 4, 5, 6, 7, 8, 9, 10, 11, 12, 13, 14, 15, 16, 17, 18, 19, 20, 21, 22, 23, 24, 25, 26, 27]),
 (oo 36 (.fa 12 (.t 35)), [0, 1, 2, 3, 4, 5, 6, 7, 8, 9, 10, 11, 12, 13, 14, 15, 16, 17, 18, 19, 20, 21, 22, 23, 24, 25, 26, 27]),
 (oo 37 (.ld false 1 (.t 36)), [0, 1, 2, 3, 4, 5, 6, 7, 8, 9, 10, 11, 12, 13, 14, 15, 16, 17, 18, 19, 20, 21, 22, 23, 24, 25, 26, 27]),
 (oo 38 (.call (.c (.fn 93 [])) [.t 32, .t 37]), [0]),
 (oo 39 (.mv (.t 0)), [0, 1, 2, 3, 4, 5, 6, 7, 8, 9, 10, 11, 12, 13, 14, 15, 16, 17, 18, 19, 20, 21, 22, 23, 24, 25, 26, 27, 28, 29, 30, 31, 32, 33]),
 (oo 40 (.nck (.t 39)), [0, 1, 2, 3, 4, 5, 6, 7, 8, 9, 10, 11, 12, 13, 14, 15, 16, 17, 18, 19, 20, 21, 22, 23, 24, 25, 26, 27, 28, 29, 30, 31, 32, 33]),
 (oo 41 (.fa 28 (.t 40)), [0, 1, 2, 3, 4, 5, 6, 7, 8, 9, 10, 11, 12, 13, 14, 15, 16, 17, 18, 19, 20, 21, 22, 23, 24, 25, 26, 27, 28, 29, 30, 31, 32, 33]),
 (oo 42 (.fa 5 (.t 41)), [0, 1, 2, 3, 4, 5, 6, 7, 8, 9, 10, 11, 12, 13, 14, 15, 16, 17, 18, 19, 20, 21, 22, 23, 24, 25, 26, 27, 28, 29, 30, 31, 32, 33]),
 (oo 43 (.ld false 1 (.t 42)), [0, 1, 2, 3, 4, 5, 6, 7, 8, 9, 10, 11, 12, 13, 14, 15, 16, 17, 18, 19, 20, 21, 22, 23, 24, 25, 26, 27, 28, 29, 30, 31, 32, 33]),
 (oo 44 (.mv (.t 0)), [0, 1, 2, 3, 4, 5, 6, 7, 8, 9, 10, 11, 12, 13, 14, 15, 16, 17, 18, 19, 20, 21, 22, 23, 24, 25, 26, 27, 28, 29, 30, 31, 32, 33, 34, 35, 36, 37, 38]),
 (oo 45 (.nck (.t 44)), [0, 1, 2, 3, 4, 5, 6, 7, 8, 9, 10, 11, 12, 13, 14, 15, 16, 17, 18, 19, 20, 21, 22, 23, 24, 25, 26, 27, 28, 29, 30, 31, 32, 33, 34, 35, 36, 37, 38]),
 (oo 46 (.fa 0 (.t 45)), [0, 1, 2, 3, 4, 5, 6, 7, 8, 9, 10, 11, 12, 13, 14, 15, 16, 17, 18, 19, 20, 21, 22, 23, 24, 25, 26, 27, 28, 29, 30, 31, 32, 33, 34, 35, 36, 37, 38]),
 (oo 47 (.fa 13 (.t 46)), [0, 1, 2, 3, 4, 5, 6, 7, 8, 9, 10, 11, 12, 13, 14, 15, 16, 17, 18, 19, 20, 21, 22, 23, 24, 25, 26, 27, 28, 29, 30, 31, 32, 33, 34, 35, 36, 37, 38]),
 (oo 48 (.ld false 1 (.t 47)), [0, 1, 2, 3, 4, 5, 6, 7, 8, 9, 10, 11, 12, 13, 14, 15, 16, 17, 18, 19, 20, 21, 22, 23, 24, 25, 26, 27, 28, 29, 30, 31, 32, 33, 34, 35, 36, 37, 38]),
 (oo 49 (.call (.c (.fn 99 [])) [.t 43, .t 48]), [0]),
 (oo 50 (.build [.i .i64 0, .i .i64 0, .i .i64 0, .i .i64 0] [(0, 1, .t 16), (1, 1, .t 27), (2, 1, .t 38), (3, 1, .t 49)]), [0]),
 (oo 51 (.nck (.t 5)), []),
 (oo 52 (.fa 0 (.t 51)), []),
 (oo 53 (.fa 14 (.t 52)), []),
 (on_ (.st 4 (.t 53) (.t 50)), [])]
abbrev i79r1 : List IOper := [
 oo 54 (.mv (.t 0)),
 oo 55 (.nck (.t 54)),
 oo 56 (.fa 19 (.t 55)),
 oo 57 (.ld true 9 (.t 56)),
 oo 2 (.new [.b false, .i .i64 0, .i .i64 0, .i .i64 0, .i .i64 0, .ns, .ns, .i .i64 0, .s []]),
 on_ (.st 9 (.t 2) (.t 57))]
abbrev i79r2 : List (IOper × List Nat) := [
 (oo 59 (.fa 8 (.t 2)), []),
 (oo 60 (.ld false 1 (.t 59)), []),
 (oo 61 (.mv (.t 0)), [0, 1]),
 (oo 62 (.nck (.t 61)), [0, 1]),
 (oo 63 (.fa 0 (.t 62)), [0, 1]),
 (oo 64 (.fa 14 (.t 63)), [0, 1]),
 (oo 65 (.fa 2 (.t 64)), [0, 1]),
 (oo 66 (.ld false 1 (.t 65)), [0, 1]),
 (oo 67 (.mv (.t 0)), [0, 1, 2, 3, 4, 5, 6, 7]),
 (oo 68 (.nck (.t 67)), [0, 1, 2, 3, 4, 5, 6, 7]),
 (oo 69 (.fa 0 (.t 68)), [0, 1, 2, 3, 4, 5, 6, 7]),
 (oo 70 (.fa 14 (.t 69)), [0, 1, 2, 3, 4, 5, 6, 7]),
 (oo 71 (.fa 3 (.t 70)), [0, 1, 2, 3, 4, 5, 6, 7]),
 (oo 72 (.ld false 1 (.t 71)), [0, 1, 2, 3, 4, 5, 6, 7]),
 (oo 73 (.call (.c (.fn 100 [])) [.t 60, .t 66, .t 72]), []),
 (oo 58 (.mv (.t 73)), []),
 (oo 74 (.ext (.t 58) 0), []),
 (oo 75 (.ext (.t 58) 1), [16]),
 (oo 3 (.mv (.t 74)), [17]),
 (oo 4 (.mv (.t 75)), [])]
abbrev i79r3 : List IOper := [
 oo 76 (.mv (.t 4)),
 oo 77 (.bin .eql (.t 76) (.c (.i .i64 0))),
 oo 78 (.call (.c (.fn 95 [])) [.t 77])]
abbrev i79r4 : List (IOper × List Nat) := [
 (oo 79 (.mv (.t 0)), []),
 (oo 80 (.nck (.t 79)), []),
 (oo 81 (.fa 0 (.t 80)), []),
 (oo 82 (.fa 1 (.t 81)), []),
 (oo 83 (.ld false 1 (.t 82)), []),
 (oo 84 (.mv (.t 0)), [0, 1, 2, 3, 4]),
 (oo 85 (.nck (.t 84)), [0, 1, 2, 3, 4]),
 (oo 86 (.fa 0 (.t 85)), [0, 1, 2, 3, 4]),
 (oo 87 (.fa 14 (.t 86)), [0, 1, 2, 3, 4]),
 (oo 88 (.fa 0 (.t 87)), [0, 1, 2, 3, 4]),
 (oo 89 (.ld false 1 (.t 88)), [0, 1, 2, 3, 4]),
 (oo 90 (.mv (.t 0)), [0, 1, 2, 3, 4, 5, 6, 7, 8, 9, 10]),
 (oo 91 (.nck (.t 90)), [0, 1, 2, 3, 4, 5, 6, 7, 8, 9, 10]),
 (oo 92 (.fa 0 (.t 91)), [0, 1, 2, 3, 4, 5, 6, 7, 8, 9, 10]),
 (oo 93 (.fa 14 (.t 92)), [0, 1, 2, 3, 4, 5, 6, 7, 8, 9, 10]),
 (oo 94 (.fa 1 (.t 93)), [0, 1, 2, 3, 4, 5, 6, 7, 8, 9, 10]),
 (oo 95 (.ld false 1 (.t 94)), [0, 1, 2, 3, 4, 5, 6, 7, 8, 9, 10]),
 (oo 96 (.mv (.t 3)), [0, 1, 2, 3, 4, 5, 6, 7, 8, 9, 10, 11, 12, 13, 14, 15, 16]),
 (oo 97 (.fa 4 (.t 2)), [5, 6, 7, 8, 9, 10, 11, 12, 13, 14, 15, 16, 17]),
 (on_ (.st 1 (.t 97) (.t 83)), [5, 6, 7, 8, 9, 10, 11, 12, 13, 14, 15, 16, 17]),
 (oo 98 (.fa 2 (.t 2)), [11, 12, 13, 14, 15, 16, 17]),
 (on_ (.st 1 (.t 98) (.t 89)), [11, 12, 13, 14, 15, 16, 17]),
 (oo 99 (.fa 3 (.t 2)), [17]),
 (on_ (.st 1 (.t 99) (.t 95)), [17]),
 (oo 100 (.fa 8 (.t 2)), []),
 (on_ (.st 1 (.t 100) (.t 96)), [])]
abbrev i79r5 : List (IOper × List Nat) := [
 (oo 101 (.fa 5 (.t 2)), []),
 (oo 102 (.ld false 1 (.t 101)), []),
 (oo 103 (.call (.c (.fn 53 [])) [.t 102]), []),
 (oo 104 (.fa 6 (.t 2)), [0, 1, 2]),
 (oo 105 (.ld false 1 (.t 104)), [0, 1, 2]),
 (oo 106 (.call (.c (.fn 101 [])) [.t 105]), []),
 (oo 107 (.fa 5 (.t 2)), [5]),
 (on_ (.st 1 (.t 107) (.t 103)), []),
 (oo 108 (.fa 6 (.t 2)), []),
 (on_ (.st 1 (.t 108) (.t 106)), [])]
abbrev i79r6 : List (IOper × List Nat) := [
 (oo 109 (.mv (.t 0)), []),
 (oo 110 (.mv (.t 0)), [0]),
 (oo 111 (.nck (.t 110)), [0]),
 (oo 112 (.fa 36 (.t 111)), [0]),
 (oo 113 (.ld false 1 (.t 112)), [0]),
 (oo 114 (.ld true 9 (.t 2)), [0, 1, 2, 3, 4]),
 (oo 115 (.bsl [.b false, .i .i64 0, .i .i64 0, .i .i64 0, .i .i64 0, .ns, .ns, .i .i64 0, .s []] 1 [(0, 9, .t 114)]), [0, 1, 2, 3, 4]),
 (oo 116 (.app 9 112 [.b false, .i .i64 0, .i .i64 0, .i .i64 0, .i .i64 0, .ns, .ns, .i .i64 0, .s []] (.t 113) (.t 115)), [0]),
 (oo 117 (.nck (.t 109)), []),
 (oo 118 (.fa 36 (.t 117)), []),
 (on_ (.st 1 (.t 118) (.t 116)), [])]
abbrev i79c : ICode := (.seq (.dreg i79r0) (.seq (.reg i79r1) (.seq (.dreg i79r2) (.seq (.reg i79r3) (.seq (.dreg i79r4) (.seq (.dreg i79r5) (.dreg i79r6)))))))
def i79 : IFn := { np := 1, N := 119, ct := [], code := i79c, res := [] }
theorem i79_eq : compF Try.prog Try.f79 = some i79 := by kernel_rfl
abbrev i81r0 : List IOper := [
 oo 1 (.box (.t 0)),
 oo 2 (.mv (.c (.s [])))]
abbrev i81r1 : List IOper := [
 oo 3 (.mv (.c (.i .i64 128)))]
abbrev i81r2 : List IOper := [
 oo 4 (.fa 0 (.t 1)),
 ot 5 (.ld false 1 (.t 4))]
abbrev i81r3 : List IOper := [
 oo 6 (.mv (.t 3)),
 oo 7 (.bin .add (.t 6) (.c (.i .i64 64))),
 oo 3 (.mv (.t 7))]
abbrev i81r4 : List IOper := [
 oo 8 (.fa 1 (.t 1)),
 ot 9 (.ld false 1 (.t 8))]
abbrev i81r5 : List IOper := [
 oo 10 (.mv (.t 3)),
 oo 11 (.bin .add (.t 10) (.c (.i .i64 32))),
 oo 3 (.mv (.t 11))]
abbrev i81r6 : List IOper := [
 oo 12 (.fa 2 (.t 1)),
 ot 13 (.ld false 1 (.t 12))]
abbrev i81r7 : List IOper := [
 oo 14 (.mv (.t 3)),
 oo 15 (.bin .add (.t 14) (.c (.i .i64 16))),
 oo 3 (.mv (.t 15))]
abbrev i81r8 : List IOper := [
 oo 16 (.fa 3 (.t 1)),
 ot 17 (.ld false 1 (.t 16))]
abbrev i81r9 : List IOper := [
 oo 18 (.mv (.t 3)),
 oo 19 (.bin .add (.t 18) (.c (.i .i64 8))),
 oo 3 (.mv (.t 19))]
abbrev i81r10 : List IOper := [
 oo 20 (.mv (.t 3)),
 oo 21 (.i2i .u8 (.t 20)),
 oo 22 (.fa 4 (.t 1)),
 oo 23 (.ld false 1 (.t 22)),
 oo 24 (.bin .quo (.t 23) (.c (.i .i64 256))),
 oo 25 (.bin .add (.c (.i .i64 128)) (.t 24)),
 oo 26 (.i2i .u8 (.t 25)),
 oo 27 (.fa 4 (.t 1)),
 oo 28 (.ld false 1 (.t 27)),
 oo 29 (.bin .rem (.t 28) (.c (.i .i64 256))),
 oo 30 (.i2i .u8 (.t 29)),
 oo 31 (.fa 5 (.t 1)),
 oo 32 (.ld false 1 (.t 31)),
 oo 33 (.i2i .u8 (.t 32)),
 oo 34 (.fa 6 (.t 1)),
 oo 35 (.ld false 1 (.t 34)),
 oo 36 (.bin .mul (.c (.i .i64 64)) (.t 35)),
 oo 37 (.fa 7 (.t 1)),
 oo 38 (.ld false 1 (.t 37)),
 oo 39 (.bin .mul (.c (.i .i64 16)) (.t 38)),
 oo 40 (.bin .add (.t 36) (.t 39)),
 oo 41 (.i2i .u8 (.t 40)),
 oo 42 (.bsl [.i .u8 0, .i .u8 0, .i .u8 0, .i .u8 0, .i .u8 0] 5 [(0, 1, .t 21), (1, 1, .t 26), (2, 1, .t 30), (3, 1, .t 33), (4, 1, .t 41)]),
 oo 43 (.b2s (.t 42)),
 oo 2 (.mv (.t 43))]
abbrev i81c : ICode := (.seq (.reg i81r0) (.seq (.reg i81r1) (.seq (.seq (.reg i81r2) (.cond (.t 5) (.reg i81r3) .skip)) (.seq (.seq (.reg i81r4) (.cond (.t 9) (.reg i81r5) .skip)) (.seq (.seq (.reg i81r6) (.cond (.t 13) (.reg i81r7) .skip)) (.seq (.seq (.reg i81r8) (.cond (.t 17) (.reg i81r9) .skip)) (.seq (.reg i81r10) .ret)))))))
def i81 : IFn := { np := 1, N := 44, ct := [5, 9, 13, 17], code := i81c, res := [.t 2] }
theorem i81_eq : compF Try.prog Try.f81 = some i81 := by kernel_rfl
abbrev i84r0 : List IOper := [
 oo 1 (.box (.t 0)),
 oo 2 (.mv (.c (.s [])))]
abbrev i84r1 : List (IOper × List Nat) := [
 (oo 3 (.fa 0 (.t 1)), []),
 (oo 4 (.ld false 1 (.t 3)), []),
 (oo 5 (.fa 1 (.t 1)), [0, 1]),
 (oo 6 (.ld false 1 (.t 5)), [0, 1]),
 (oo 7 (.fa 2 (.t 1)), [0, 1, 2, 3]),
 (oo 8 (.ld false 1 (.t 7)), [0, 1, 2, 3]),
 (oo 9 (.fa 3 (.t 1)), [0, 1, 2, 3, 4, 5]),
 (oo 10 (.ld false 1 (.t 9)), [0, 1, 2, 3, 4, 5]),
 (oo 11 (.bsl [.b false, .b false, .b false, .b false, .b false, .b false, .b false, .b false] 8 [(0, 1, .c (.b true)), (1, 1, .t 4), (2, 1, .t 6), (3, 1, .t 8), (4, 1, .t 10), (5, 1, .c (.b false)), (6, 1, .c (.b false)), (7, 1, .c (.b false))]), []),
 (oo 12 (.call (.c (.fn 103 [])) [.t 11]), []),
 (oo 13 (.fa 4 (.t 1)), [0, 1, 2, 3, 4, 5, 6, 7, 8, 9]),
 (oo 14 (.ld false 1 (.t 13)), [0, 1, 2, 3, 4, 5, 6, 7, 8, 9]),
 (oo 15 (.bin .shr (.t 14) (.c (.i .u64 8))), [0, 1, 2, 3, 4, 5, 6, 7, 8, 9]),
 (oo 16 (.i2i .u8 (.t 15)), [0, 1, 2, 3, 4, 5, 6, 7, 8, 9]),
 (oo 17 (.bin .or (.c (.i .u8 128)) (.t 16)), [0, 1, 2, 3, 4, 5, 6, 7, 8, 9]),
 (oo 18 (.fa 4 (.t 1)), [0, 1, 2, 3, 4, 5, 6, 7, 8, 9, 10, 11, 12, 13, 14]),
 (oo 19 (.ld false 1 (.t 18)), [0, 1, 2, 3, 4, 5, 6, 7, 8, 9, 10, 11, 12, 13, 14]),
 (oo 20 (.i2i .u8 (.t 19)), [0, 1, 2, 3, 4, 5, 6, 7, 8, 9, 10, 11, 12, 13, 14]),
 (oo 21 (.fa 5 (.t 1)), [0, 1, 2, 3, 4, 5, 6, 7, 8, 9, 10, 11, 12, 13, 14, 15, 16, 17]),
 (oo 22 (.ld false 1 (.t 21)), [0, 1, 2, 3, 4, 5, 6, 7, 8, 9, 10, 11, 12, 13, 14, 15, 16, 17]),
 (oo 23 (.i2i .u8 (.t 22)), [0, 1, 2, 3, 4, 5, 6, 7, 8, 9, 10, 11, 12, 13, 14, 15, 16, 17]),
 (oo 24 (.fa 6 (.t 1)), [0, 1, 2, 3, 4, 5, 6, 7, 8, 9, 10, 11, 12, 13, 14, 15, 16, 17, 18, 19, 20]),
 (oo 25 (.ld false 1 (.t 24)), [0, 1, 2, 3, 4, 5, 6, 7, 8, 9, 10, 11, 12, 13, 14, 15, 16, 17, 18, 19, 20]),
 (oo 26 (.bin .shl (.t 25) (.c (.i .u64 6))), [0, 1, 2, 3, 4, 5, 6, 7, 8, 9, 10, 11, 12, 13, 14, 15, 16, 17, 18, 19, 20]),
 (oo 27 (.fa 7 (.t 1)), [0, 1, 2, 3, 4, 5, 6, 7, 8, 9, 10, 11, 12, 13, 14, 15, 16, 17, 18, 19, 20, 21, 22, 23]),
 (oo 28 (.ld false 1 (.t 27)), [0, 1, 2, 3, 4, 5, 6, 7, 8, 9, 10, 11, 12, 13, 14, 15, 16, 17, 18, 19, 20, 21, 22, 23]),
 (oo 29 (.bin .shl (.t 28) (.c (.i .u64 4))), [0, 1, 2, 3, 4, 5, 6, 7, 8, 9, 10, 11, 12, 13, 14, 15, 16, 17, 18, 19, 20, 21, 22, 23]),
 (oo 30 (.bin .or (.t 26) (.t 29)), [0, 1, 2, 3, 4, 5, 6, 7, 8, 9, 10, 11, 12, 13, 14, 15, 16, 17, 18, 19, 20]),
 (oo 31 (.i2i .u8 (.t 30)), [0, 1, 2, 3, 4, 5, 6, 7, 8, 9, 10, 11, 12, 13, 14, 15, 16, 17, 18, 19, 20]),
 (oo 32 (.bsl [.i .u8 0, .i .u8 0, .i .u8 0, .i .u8 0, .i .u8 0] 5 [(0, 1, .t 12), (1, 1, .t 17), (2, 1, .t 20), (3, 1, .t 23), (4, 1, .t 31)]), []),
 (oo 33 (.b2s (.t 32)), []),
 (oo 2 (.mv (.t 33)), [])]
abbrev i84c : ICode := (.seq (.reg i84r0) (.seq (.dreg i84r1) .ret))
def i84 : IFn := { np := 1, N := 34, ct := [], code := i84c, res := [.t 2] }
theorem i84_eq : compF Try.prog Try.f84 = some i84 := by kernel_rfl
abbrev i85r0 : List IOper := [
 oo 4 (.mv (.c (.b false)))]
abbrev i85r1 : List IOper := [
 oo 5 (.mv (.t 1)),
 oo 6 (.bin .geq (.t 5) (.c (.i .i64 0))),
 ot 7 (.mv (.t 6)),
 og 8 (.mv (.t 1)) 7 true false,
 og 9 (.mv (.t 0)) 7 true false,
 og 10 (.bin .leq (.t 8) (.t 9)) 7 true false,
 oo 11 (.pick (.t 7) (.t 10) (.c (.b false))),
 oo 4 (.mv (.t 11))]
abbrev i85c : ICode := (.seq (.reg i85r0) (.seq (.reg i85r1) .ret))
def i85 : IFn := { np := 2, N := 12, ct := [], code := i85c, res := [.t 4] }
theorem i85_eq : compF Try.prog Try.f85 = some i85 := by kernel_rfl
abbrev i86r0 : List IOper := [
 oo 6 (.mv (.c (.i .i64 0))),
 oo 7 (.mv (.c (.i .i64 0)))]
abbrev i86r1 : List IOper := [
 oo 9 (.mv (.t 2)),
 oo 10 (.bin .lss (.t 9) (.c (.i .i64 1))),
 ot 11 (.mv (.t 10)),
 og 12 (.mv (.t 2)) 11 false false,
 og 13 (.bin .gtr (.t 12) (.c (.i .i64 32))) 11 false false,
 oo 14 (.pick (.t 11) (.c (.b true)) (.t 13)),
 ot 15 (.mv (.t 14)),
 og 16 (.mv (.t 0)) 15 false false,
 og 17 (.bin .lss (.t 16) (.c (.i .i64 0))) 15 false false,
 oo 18 (.pick (.t 15) (.c (.b true)) (.t 17)),
 ot 19 (.mv (.t 18)),
 og 20 (.mv (.t 0)) 19 false false,
 og 21 (.mv (.t 2)) 19 false false,
 og 22 (.bin .shr (.t 20) (.t 21)) 19 false false,
 og 23 (.bin .neq (.t 22) (.c (.i .i64 0))) 19 false false,
 oo 24 (.pick (.t 19) (.c (.b true)) (.t 23)),
 ot 25 (.mv (.t 24)),
 og 26 (.mv (.t 1)) 25 false false,
 og 27 (.bin .lss (.t 26) (.c (.i .i64 0))) 25 false false,
 oo 28 (.pick (.t 25) (.c (.b true)) (.t 27)),
 ot 29 (.mv (.t 28)),
 og 30 (.mv (.t 1)) 29 false false,
 og 31 (.mv (.t 2)) 29 false false,
 og 32 (.bin .shr (.t 30) (.t 31)) 29 false false,
 og 33 (.bin .neq (.t 32) (.c (.i .i64 0))) 29 false false,
 ot 34 (.pick (.t 29) (.c (.b true)) (.t 33))]
abbrev i86r2 : List IOper := [
 oo 6 (.mv (.c (.i .i64 0))),
 oo 7 (.mv (.c (.i .i64 2)))]
abbrev i86r3 : List IOper := [
 oo 35 (.mv (.t 0)),
 oo 36 (.mv (.t 1)),
 oo 37 (.bin .sub (.t 35) (.t 36)),
 oo 38 (.mv (.t 2)),
 oo 39 (.bin .shl (.c (.i .i64 1)) (.t 38)),
 oo 40 (.bin .sub (.t 39) (.c (.i .i64 1))),
 oo 41 (.bin .and (.t 37) (.t 40)),
 oo 8 (.mv (.t 41))]
abbrev i86r4 : List IOper := [
 oo 42 (.mv (.t 8)),
 oo 43 (.mv (.t 2)),
 oo 44 (.bin .sub (.t 43) (.c (.i .i64 1))),
 oo 45 (.bin .shr (.t 42) (.t 44)),
 ot 46 (.bin .eql (.t 45) (.c (.i .i64 1)))]
abbrev i86r5 : List IOper := [
 oo 47 (.mv (.t 8)),
 oo 48 (.mv (.t 2)),
 oo 49 (.bin .shl (.c (.i .i64 1)) (.t 48)),
 oo 50 (.bin .sub (.t 47) (.t 49)),
 oo 8 (.mv (.t 50))]
abbrev i86r6 : List IOper := [
 oo 51 (.mv (.t 8)),
 oo 6 (.mv (.t 51)),
 oo 7 (.mv (.c (.i .i64 0)))]
abbrev i86c : ICode := (.seq (.reg i86r0) (.seq (.seq (.reg i86r1) (.cond (.t 34) (.seq (.reg i86r2) .ret) .skip)) (.seq (.reg i86r3) (.seq (.seq (.reg i86r4) (.cond (.t 46) (.reg i86r5) .skip)) (.seq (.reg i86r6) .ret)))))
def i86 : IFn := { np := 3, N := 52, ct := [34, 46], code := i86c, res := [.t 6, .t 7] }
theorem i86_eq : compF Try.prog Try.f86 = some i86 := by kernel_rfl
abbrev i87r0 : List IOper := [
 oo 2 (.mv (.c (.b false)))]
abbrev i87r1 : List IOper := [
 oo 4 (.mv (.t 0)),
 oo 5 (.nck (.t 4)),
 oo 6 (.fa 12 (.t 5)),
 oo 7 (.fa 7 (.t 6)),
 oo 8 (.ld false 1 (.t 7)),
 ot 9 (.bin .eql (.t 8) (.c (.i .i64 0)))]
abbrev i87r2 : List IOper := [
 oo 2 (.mv (.c (.b true)))]
abbrev i87r3 : List (IOper × List Nat) := [
 (oo 10 (.mv (.t 0)), []),
 (oo 11 (.mv (.t 0)), [0]),
 (oo 12 (.nck (.t 11)), [0]),
 (oo 13 (.fa 12 (.t 12)), [0]),
 (oo 14 (.fa 7 (.t 13)), [0]),
 (oo 15 (.ld false 1 (.t 14)), [0]),
 (oo 16 (.bin .sub (.t 15) (.c (.i .i64 1))), [0]),
 (oo 17 (.nck (.t 10)), [1, 2, 3, 4, 5, 6]),
 (oo 18 (.fa 0 (.t 17)), [1, 2, 3, 4, 5, 6]),
 (oo 19 (.fa 0 (.t 18)), [1, 2, 3, 4, 5, 6]),
 (oo 20 (.ixaA 3 4 (.t 19) (.t 16)), []),
 (oo 21 (.ld true 4 (.t 20)), []),
 (oo 3 (.new [.b false, .i .i64 0, .i .i64 0, .i .i64 0]), [0, 1, 2, 3, 4, 5, 6, 7, 8, 9, 10, 11]),
 (on_ (.st 4 (.t 3) (.t 21)), [])]
abbrev i87r4 : List (IOper × List Nat) := [
 (oo 22 (.fa 0 (.t 3)), []),
 (oo 23 (.ld false 1 (.t 22)), []),
 (ot 24 (.mv (.t 23)), []),
 (og 25 (.fa 1 (.t 3)) 24 true false, []),
 (og 26 (.ld false 1 (.t 25)) 24 true false, []),
 (og 27 (.mv (.t 0)) 24 true false, [3, 4]),
 (og 28 (.nck (.t 27)) 24 true false, [3, 4]),
 (og 29 (.fa 12 (.t 28)) 24 true false, [3, 4]),
 (og 30 (.fa 4 (.t 29)) 24 true false, [3, 4]),
 (og 31 (.ld false 1 (.t 30)) 24 true false, [3, 4]),
 (og 32 (.bin .eql (.t 26) (.t 31)) 24 true false, []),
 (oo 33 (.pick (.t 24) (.t 32) (.c (.b false))), []),
 (oo 2 (.mv (.t 33)), [])]
abbrev i87c : ICode := (.seq (.reg i87r0) (.seq (.seq (.reg i87r1) (.cond (.t 9) (.seq (.reg i87r2) .ret) .skip)) (.seq (.dreg i87r3) (.seq (.dreg i87r4) .ret))))
def i87 : IFn := { np := 1, N := 34, ct := [9], code := i87c, res := [.t 2] }
theorem i87_eq : compF Try.prog Try.f87 = some i87 := by kernel_rfl
abbrev i88r0 : List (IOper × List Nat) := [
 (oo 2 (.mv (.t 0)), []),
 (oo 3 (.nck (.t 2)), []),
 (oo 4 (.fa 0 (.t 3)), []),
 (oo 5 (.fa 0 (.t 4)), []),
 (oo 6 (.mv (.t 0)), [0, 1, 2, 3]),
 (oo 7 (.nck (.t 6)), [0, 1, 2, 3]),
 (oo 8 (.fa 12 (.t 7)), [0, 1, 2, 3]),
 (oo 9 (.fa 7 (.t 8)), [0, 1, 2, 3]),
 (oo 10 (.ld false 1 (.t 9)), [0, 1, 2, 3]),
 (oo 11 (.slA 3 4 (.t 5) (some (.t 10)) none none), []),
 (on_ (.clr 4 [.b false, .i .i64 0, .i .i64 0, .i .i64 0] (.t 11)), [])]
abbrev i88c : ICode := (.dreg i88r0)
def i88 : IFn := { np := 1, N := 12, ct := [], code := i88c, res := [] }
theorem i88_eq : compF Try.prog Try.f88 = some i88 := by kernel_rfl
abbrev i89r0 : List IOper := [
 oo 4 (.mv (.c (.b false)))]
abbrev i89r1 : List IOper := [
 oo 5 (.mv (.t 0)),
 oo 6 (.mv (.t 1)),
 oo 7 (.call (.c (.fn 104 [])) [.t 5, .t 6]),
 oo 8 (.bin .geq (.t 7) (.c (.i .i64 0))),
 oo 4 (.mv (.t 8))]
abbrev i89c : ICode := (.seq (.reg i89r0) (.seq (.reg i89r1) .ret))
def i89 : IFn := { np := 2, N := 9, ct := [], code := i89c, res := [.t 4] }
theorem i89_eq : compF Try.prog Try.f89 = some i89 := by kernel_rfl
abbrev i90r0 : List IOper := [
 oo 3 (.mv (.c (.b false)))]
abbrev i90r1 : List IOper := [
 oo 4 (.mv (.t 0)),
 oo 5 (.bin .lss (.t 4) (.c (.i .i64 0))),
 ot 6 (.mv (.t 5)),
 og 7 (.mv (.t 0)) 6 false false,
 og 8 (.ld false 1 (.t 1)) 6 false false,
 og 9 (.bin .shr (.t 7) (.t 8)) 6 false false,
 og 10 (.bin .neq (.t 9) (.c (.i .i64 0))) 6 false false,
 oo 11 (.pick (.t 6) (.c (.b true)) (.t 10)),
 oo 3 (.mv (.t 11))]
abbrev i90c : ICode := (.seq (.reg i90r0) (.seq (.reg i90r1) .ret))
def i90 : IFn := { np := 2, N := 12, ct := [], code := i90c, res := [.t 3] }
theorem i90_eq : compF Try.prog Try.f90 = some i90 := by kernel_rfl
abbrev i91r0 : List IOper := [
 oo 4 (.mv (.c (.i .i64 0)))]
abbrev i91r1 : List IOper := [
 oo 5 (.mv (.t 0)),
 oo 6 (.i2i .u16 (.t 5)),
 oo 7 (.mv (.t 1)),
 oo 8 (.i2i .u16 (.t 7)),
 oo 9 (.bin .sub (.t 6) (.t 8)),
 oo 10 (.i2i .i64 (.t 9)),
 oo 4 (.mv (.t 10))]
abbrev i91c : ICode := (.seq (.reg i91r0) (.seq (.reg i91r1) .ret))
def i91 : IFn := { np := 2, N := 11, ct := [], code := i91c, res := [.t 4] }
theorem i91_eq : compF Try.prog Try.f91 = some i91 := by kernel_rfl
abbrev i92r0 : List IOper := [
 oo 4 (.mv (.c (.i .i64 0)))]
abbrev i92r1 : List IOper := [
 oo 5 (.mv (.t 0)),
 oo 6 (.i2i .u32 (.t 5)),
 oo 7 (.mv (.t 1)),
 oo 8 (.i2i .u32 (.t 7)),
 oo 9 (.bin .sub (.t 6) (.t 8)),
 oo 10 (.i2i .i64 (.t 9)),
 oo 4 (.mv (.t 10))]
abbrev i92c : ICode := (.seq (.reg i92r0) (.seq (.reg i92r1) .ret))
def i92 : IFn := { np := 2, N := 11, ct := [], code := i92c, res := [.t 4] }
theorem i92_eq : compF Try.prog Try.f92 = some i92 := by kernel_rfl
abbrev i93r0 : List IOper := [
 oo 4 (.mv (.c (.i .i64 0)))]
abbrev i93r1 : List IOper := [
 oo 5 (.mv (.t 0)),
 oo 6 (.mv (.t 1)),
 oo 7 (.bin .add (.t 5) (.t 6)),
 oo 8 (.bin .and (.t 7) (.c (.i .i64 32767))),
 oo 4 (.mv (.t 8))]
abbrev i93c : ICode := (.seq (.reg i93r0) (.seq (.reg i93r1) .ret))
def i93 : IFn := { np := 2, N := 9, ct := [], code := i93c, res := [.t 4] }
theorem i93_eq : compF Try.prog Try.f93 = some i93 := by kernel_rfl
abbrev i94r0 : List IOper := [
 oo 4 (.mv (.c (.i .i64 0)))]
abbrev i94r1 : List IOper := [
 oo 5 (.mv (.t 0)),
 oo 6 (.i2i .u8 (.t 5)),
 oo 7 (.mv (.t 1)),
 oo 8 (.i2i .u8 (.t 7)),
 oo 9 (.bin .sub (.t 6) (.t 8)),
 oo 10 (.i2i .i64 (.t 9)),
 oo 4 (.mv (.t 10))]
abbrev i94c : ICode := (.seq (.reg i94r0) (.seq (.reg i94r1) .ret))
def i94 : IFn := { np := 2, N := 11, ct := [], code := i94c, res := [.t 4] }
theorem i94_eq : compF Try.prog Try.f94 = some i94 := by kernel_rfl
abbrev i95r0 : List IOper := [
 oo 2 (.mv (.t 0)),
 ot 3 (.not (.t 2))]
abbrev i95r1 : List IOper := [
 oo 4 (.build [] []),
 oo 5 (.mki 131 (.t 4)),
 on_ (.pan (.t 5))]
abbrev i95c : ICode := (.seq (.reg i95r0) (.cond (.t 3) (.reg i95r1) .skip))
def i95 : IFn := { np := 1, N := 6, ct := [3], code := i95c, res := [] }
theorem i95_eq : compF Try.prog Try.f95 = some i95 := by kernel_rfl
abbrev i96r0 : List IOper := [
 oo 6 (.mv (.c (.b false))),
 oo 7 (.mv (.c (.i .i64 0)))]
abbrev i96r1 : List IOper := [
 oo 11 (.mv (.t 0)),
 oo 12 (.mv (.t 1)),
 oo 13 (.mv (.t 2)),
 oo 14 (.call (.c (.fn 86 [])) [.t 11, .t 12, .t 13]),
 oo 10 (.mv (.t 14)),
 oo 15 (.ext (.t 10) 0),
 oo 16 (.ext (.t 10) 1),
 oo 8 (.mv (.t 15)),
 oo 9 (.mv (.t 16))]
abbrev i96r2 : List IOper := [
 oo 17 (.mv (.t 8)),
 oo 18 (.bin .gtr (.t 17) (.c (.i .i64 0))),
 oo 19 (.mv (.t 9)),
 oo 6 (.mv (.t 18)),
 oo 7 (.mv (.t 19))]
abbrev i96c : ICode := (.seq (.reg i96r0) (.seq (.reg i96r1) (.seq (.reg i96r2) .ret)))
def i96 : IFn := { np := 3, N := 20, ct := [], code := i96c, res := [.t 6, .t 7] }
theorem i96_eq : compF Try.prog Try.f96 = some i96 := by kernel_rfl
abbrev i97r0 : List IOper := [
 oo 4 (.mv (.c (.i .i64 0)))]
abbrev i97r1 : List IOper := [
 oo 5 (.mv (.t 0)),
 oo 6 (.i2i .u16 (.t 5)),
 oo 7 (.mv (.t 1)),
 oo 8 (.i2i .u16 (.t 7)),
 oo 9 (.bin .add (.t 6) (.t 8)),
 oo 10 (.i2i .i64 (.t 9)),
 oo 4 (.mv (.t 10))]
abbrev i97c : ICode := (.seq (.reg i97r0) (.seq (.reg i97r1) .ret))
def i97 : IFn := { np := 2, N := 11, ct := [], code := i97c, res := [.t 4] }
theorem i97_eq : compF Try.prog Try.f97 = some i97 := by kernel_rfl
abbrev i98r0 : List IOper := [
 oo 4 (.mv (.c (.i .i64 0)))]
abbrev i98r1 : List IOper := [
 oo 5 (.mv (.t 0)),
 oo 6 (.i2i .u32 (.t 5)),
 oo 7 (.mv (.t 1)),
 oo 8 (.i2i .u32 (.t 7)),
 oo 9 (.bin .add (.t 6) (.t 8)),
 oo 10 (.i2i .i64 (.t 9)),
 oo 4 (.mv (.t 10))]
abbrev i98c : ICode := (.seq (.reg i98r0) (.seq (.reg i98r1) .ret))
def i98 : IFn := { np := 2, N := 11, ct := [], code := i98c, res := [.t 4] }
theorem i98_eq : compF Try.prog Try.f98 = some i98 := by kernel_rfl
abbrev i99r0 : List IOper := [
 oo 4 (.mv (.c (.i .i64 0)))]
abbrev i99r1 : List IOper := [
 oo 5 (.mv (.t 0)),
 oo 6 (.i2i .u8 (.t 5)),
 oo 7 (.mv (.t 1)),
 oo 8 (.i2i .u8 (.t 7)),
 oo 9 (.bin .add (.t 6) (.t 8)),
 oo 10 (.i2i .i64 (.t 9)),
 oo 4 (.mv (.t 10))]
abbrev i99c : ICode := (.seq (.reg i99r0) (.seq (.reg i99r1) .ret))
def i99 : IFn := { np := 2, N := 11, ct := [], code := i99c, res := [.t 4] }
theorem i99_eq : compF Try.prog Try.f99 = some i99 := by kernel_rfl
abbrev i100r0 : List IOper := [
 oo 6 (.mv (.c (.s []))),
 oo 7 (.mv (.c (.i .i64 0)))]
abbrev i100r1 : List IOper := [
 oo 12 (.mv (.t 0)),
 oo 13 (.call (.c (.fn 46 [])) [.t 12]),
 oo 11 (.mv (.t 13)),
 oo 14 (.ext (.t 11) 0),
 oo 15 (.ext (.t 11) 1),
 oo 16 (.ext (.t 11) 2),
 oo 8 (.new [.b false, .b false, .b false, .b false, .i .i64 0, .i .i64 0, .i .i64 0, .i .i64 0]),
 on_ (.st 8 (.t 8) (.t 14)),
 oo 9 (.mv (.t 15)),
 oo 10 (.mv (.t 16))]
abbrev i100r2 : List IOper := [
 oo 17 (.mv (.t 10)),
 ot 18 (.bin .neq (.t 17) (.c (.i .i64 0)))]
abbrev i100r3 : List IOper := [
 oo 19 (.mv (.t 10)),
 oo 6 (.mv (.c (.s []))),
 oo 7 (.mv (.t 19))]
abbrev i100r4 : List IOper := [
 oo 20 (.mv (.t 1)),
 oo 21 (.call (.c (.fn 85 [])) [.c (.i .i64 32767), .t 20]),
 oo 22 (.not (.t 21)),
 ot 23 (.mv (.t 22)),
 og 24 (.mv (.t 2)) 23 false false,
 og 25 (.call (.c (.fn 85 [])) [.c (.i .i64 255), .t 24]) 23 false false,
 og 26 (.not (.t 25)) 23 false false,
 ot 27 (.pick (.t 23) (.c (.b true)) (.t 26))]
abbrev i100r5 : List IOper := [
 oo 6 (.mv (.c (.s []))),
 oo 7 (.mv (.c (.i .i64 2)))]
abbrev i100r6 : List IOper := [
 oo 28 (.mv (.t 1)),
 oo 29 (.mv (.t 2)),
 oo 30 (.fa 4 (.t 8)),
 on_ (.st 1 (.t 30) (.t 28)),
 oo 31 (.fa 5 (.t 8)),
 on_ (.st 1 (.t 31) (.t 29))]
abbrev i100r7 : List IOper := [
 oo 32 (.ld true 8 (.t 8)),
 oo 33 (.call (.c (.fn 84 [])) [.t 32]),
 oo 34 (.mv (.t 9)),
 oo 35 (.bin .add (.t 33) (.t 34)),
 oo 6 (.mv (.t 35)),
 oo 7 (.mv (.c (.i .i64 0)))]
abbrev i100c : ICode := (.seq (.reg i100r0) (.seq (.reg i100r1) (.seq (.seq (.reg i100r2) (.cond (.t 18) (.seq (.reg i100r3) .ret) .skip)) (.seq (.seq (.reg i100r4) (.cond (.t 27) (.seq (.reg i100r5) .ret) .skip)) (.seq (.reg i100r6) (.seq (.reg i100r7) .ret))))))
def i100 : IFn := { np := 3, N := 36, ct := [18, 27], code := i100c, res := [.t 6, .t 7] }
theorem i100_eq : compF Try.prog Try.f100 = some i100 := by kernel_rfl
abbrev i101r0 : List IOper := [
 oo 2 (.mv (.c (.ns)))]
abbrev i101r1 : List IOper := [
 oo 3 (.mv (.t 0)),
 ot 4 (.eqn false 1 (.t 3) (.c (.ns)))]
abbrev i101r2 : List IOper := [
 oo 2 (.mv (.c (.ns)))]
abbrev i101r3 : List IOper := [
 oo 5 (.bsl [] 0 []),
 oo 6 (.mv (.t 0)),
 oo 7 (.app 2 24 [.i .i64 0, .s []] (.t 5) (.t 6)),
 oo 2 (.mv (.t 7))]
abbrev i101c : ICode := (.seq (.reg i101r0) (.seq (.seq (.reg i101r1) (.cond (.t 4) (.seq (.reg i101r2) .ret) .skip)) (.seq (.reg i101r3) .ret)))
def i101 : IFn := { np := 1, N := 8, ct := [4], code := i101c, res := [.t 2] }
theorem i101_eq : compF Try.prog Try.f101 = some i101 := by kernel_rfl
abbrev i103r0 : List IOper := [
 oo 2 (.mv (.c (.i .u8 0)))]
abbrev i103r1 : List IOper := [
 oo 3 (.mv (.c (.i .u8 0)))]
abbrev i103r2 : List IOper := [
 oo 6 (.mv (.t 0)),
 oo 7 (.lenV (.t 6)),
 oo 8 (.mv (.c (.i .i64 0)))]
abbrev i103r3 : List IOper := [
 ot 9 (.bin .lss (.t 8) (.t 7))]
abbrev i103r4 : List IOper := [
 oo 10 (.ixaV 1 (.t 6) (.t 8)),
 oo 11 (.ld false 1 (.t 10)),
 oo 5 (.mv (.t 11))]
abbrev i103r5 : List IOper := [
 oo 12 (.mv (.t 3)),
 oo 13 (.bin .shl (.t 12) (.c (.i .u64 1))),
 oo 3 (.mv (.t 13))]
abbrev i103r6 : List IOper := [
 ot 14 (.mv (.t 5))]
abbrev i103r7 : List IOper := [
 oo 15 (.mv (.t 3)),
 oo 16 (.bin .or (.t 15) (.c (.i .u8 1))),
 oo 3 (.mv (.t 16))]
abbrev i103r8 : List IOper := [
 oo 17 (.bin .add (.t 8) (.c (.i .i64 1))),
 oo 8 (.mv (.t 17))]
abbrev i103l9 : ICode := (.seq (.reg i103r3) (.seq (.cond (.t 9) .skip (.exit 0)) (.seq (.block 1 (.seq (.reg i103r4) (.seq (.reg i103r5) (.seq (.reg i103r6) (.cond (.t 14) (.reg i103r7) .skip))))) (.reg i103r8))))
abbrev i103r10 : List IOper := [
 oo 18 (.mv (.t 3)),
 oo 2 (.mv (.t 18))]
abbrev i103c : ICode := (.seq (.reg i103r0) (.seq (.reg i103r1) (.seq (.seq (.reg i103r2) (.block 0 (.loop i103l9))) (.seq (.reg i103r10) .ret))))
def i103 : IFn := { np := 1, N := 19, ct := [9, 14], code := i103c, res := [.t 2] }
theorem i103_eq : compF Try.prog Try.f103 = some i103 := by kernel_rfl
abbrev i104r0 : List IOper := [
 oo 4 (.mv (.c (.i .i64 0)))]
abbrev i104r1 : List IOper := [
 oo 6 (.mv (.t 0)),
 oo 7 (.lenV (.t 6)),
 oo 8 (.mv (.c (.i .i64 0)))]
abbrev i104r2 : List IOper := [
 ot 9 (.bin .lss (.t 8) (.t 7))]
abbrev i104r3 : List IOper := [
 oo 10 (.mv (.t 8)),
 oo 5 (.mv (.t 10))]
abbrev i104r4 : List IOper := [
 oo 11 (.mv (.t 1)),
 oo 12 (.mv (.t 0)),
 oo 13 (.mv (.t 5)),
 oo 14 (.ixaV 1 (.t 12) (.t 13)),
 oo 15 (.ld false 1 (.t 14)),
 ot 16 (.call (.t 11) [.t 15])]
abbrev i104r5 : List IOper := [
 oo 17 (.mv (.t 5)),
 oo 4 (.mv (.t 17))]
abbrev i104r6 : List IOper := [
 oo 18 (.bin .add (.t 8) (.c (.i .i64 1))),
 oo 8 (.mv (.t 18))]
abbrev i104l7 : ICode := (.seq (.reg i104r2) (.seq (.cond (.t 9) .skip (.exit 0)) (.seq (.block 1 (.seq (.reg i104r3) (.seq (.reg i104r4) (.cond (.t 16) (.seq (.reg i104r5) .ret) .skip)))) (.reg i104r6))))
abbrev i104r8 : List IOper := [
 oo 4 (.mv (.c (.i .i64 (-1))))]
abbrev i104c : ICode := (.seq (.reg i104r0) (.seq (.seq (.reg i104r1) (.block 0 (.loop i104l7))) (.seq (.reg i104r8) .ret)))
def i104 : IFn := { np := 2, N := 19, ct := [9, 16], code := i104c, res := [.t 4] }
theorem i104_eq : compF Try.prog Try.f104 = some i104 := by kernel_rfl
end Go.Proofs.Lys
