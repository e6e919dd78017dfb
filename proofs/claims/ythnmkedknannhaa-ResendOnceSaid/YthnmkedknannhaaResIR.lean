/- The small language's text of the functions; printed by ShowI.lean. -/
import Derived.Test.YthnmkedknannhaaProg
import Derived.Test.YthnmkedknannhaaAbRuns
namespace Go.Proofs.Res
open Go.Ab
abbrev i11r0 : List IOper := [⟨some 1, .box (.t 0), none, false⟩, ⟨some 2, .mv (.c (.i .i64 0)), none, false⟩]
abbrev i11r1 : List IOper := [⟨some 7, .fa 0 (.t 1), none, false⟩, ⟨some 8, .ld false 1 (.t 7), none, false⟩, ⟨some 9, .call (.c (.fn 49 [])) [.c (.i .i64 0), .c (.i .i64 1099511627776), .t 8], none, false⟩, ⟨some 10, .mv (.t 9), none, true⟩, ⟨some 11, .fa 2 (.t 1), (some (10, true)), false⟩, ⟨some 12, .ld false 1 (.t 11), (some (10, true)), false⟩, ⟨some 13, .call (.c (.fn 49 [])) [.c (.i .i64 0), .c (.i .i64 65535), .t 12], (some (10, true)), false⟩, ⟨some 14, .pick (.t 10) (.t 13) (.c (.b false)), none, false⟩, ⟨some 15, .mv (.t 14), none, true⟩, ⟨some 16, .fa 3 (.t 1), (some (15, true)), false⟩, ⟨some 17, .ld false 1 (.t 16), (some (15, true)), false⟩, ⟨some 18, .lenV (.t 17), (some (15, true)), false⟩, ⟨some 19, .bin .leq (.t 18) (.c (.i .i64 64)), (some (15, true)), false⟩, ⟨some 20, .pick (.t 15) (.t 19) (.c (.b false)), none, false⟩, ⟨some 21, .mv (.t 20), none, true⟩, ⟨some 22, .fa 1 (.t 1), (some (21, true)), false⟩, ⟨some 23, .ld false 1 (.t 22), (some (21, true)), false⟩, ⟨some 24, .mv (.t 23), (some (21, true)), true⟩, ⟨some 25, .fa 2 (.t 1), (some (24, false)), false⟩, ⟨some 26, .ld false 1 (.t 25), (some (24, false)), false⟩, ⟨some 27, .bin .eql (.t 26) (.c (.i .i64 0)), (some (24, false)), false⟩, ⟨some 28, .mv (.t 27), (some (24, false)), true⟩, ⟨some 29, .fa 3 (.t 1), (some (28, true)), false⟩, ⟨some 30, .ld false 1 (.t 29), (some (28, true)), false⟩, ⟨some 31, .lenV (.t 30), (some (28, true)), false⟩, ⟨some 32, .bin .eql (.t 31) (.c (.i .i64 0)), (some (28, true)), false⟩, ⟨some 33, .pick (.t 28) (.t 32) (.c (.b false)), (some (24, false)), false⟩, ⟨some 34, .pick (.t 24) (.c (.b true)) (.t 33), (some (21, true)), false⟩, ⟨some 35, .pick (.t 21) (.t 34) (.c (.b false)), none, false⟩, ⟨some 3, .mv (.t 35), none, false⟩]
abbrev i11r2 : List IOper := [⟨some 4, .mv (.c (.i .i64 (-1001))), none, false⟩]
abbrev i11r3 : List IOper := [⟨some 36, .fa 3 (.t 1), none, false⟩, ⟨some 37, .ld false 1 (.t 36), none, false⟩, ⟨some 38, .lenV (.t 37), none, false⟩, ⟨some 39, .mv (.c (.i .i64 0)), none, false⟩]
abbrev i11r4 : List IOper := [⟨some 40, .bin .lss (.t 39) (.t 38), none, true⟩]
abbrev i11r5 : List IOper := [⟨some 41, .ixaV 4 (.t 37) (.t 39), none, false⟩, ⟨some 42, .ld true 4 (.t 41), none, false⟩, ⟨some 6, .new [.i .i64 0, .i .i64 0, .i .i64 0, .i .i64 0], none, false⟩, ⟨none, .st 4 (.t 6) (.t 42), none, false⟩]
abbrev i11r6 : List IOper := [⟨some 43, .mv (.t 3), none, false⟩, ⟨some 44, .not (.t 43), none, false⟩, ⟨some 45, .mv (.t 44), none, true⟩, ⟨some 46, .ld true 4 (.t 6), (some (45, false)), false⟩, ⟨some 47, .fa 0 (.t 1), (some (45, false)), false⟩, ⟨some 48, .ld false 1 (.t 47), (some (45, false)), false⟩, ⟨some 49, .call (.c (.fn 50 [])) [.t 46, .t 48], (some (45, false)), false⟩, ⟨some 50, .not (.t 49), (some (45, false)), false⟩, ⟨some 51, .pick (.t 45) (.c (.b true)) (.t 50), none, false⟩, ⟨some 52, .mv (.t 51), none, true⟩, ⟨some 53, .mv (.t 4), (some (52, false)), false⟩, ⟨some 54, .bin .add (.t 53) (.c (.i .i64 1)), (some (52, false)), false⟩, ⟨some 55, .fa 0 (.t 6), (some (52, false)), false⟩, ⟨some 56, .ld false 1 (.t 55), (some (52, false)), false⟩, ⟨some 57, .fa 2 (.t 1), (some (52, false)), false⟩, ⟨some 58, .ld false 1 (.t 57), (some (52, false)), false⟩, ⟨some 59, .call (.c (.fn 51 [])) [.t 56, .t 58], (some (52, false)), false⟩, ⟨some 60, .call (.c (.fn 49 [])) [.t 54, .c (.i .i64 (-1)), .t 59], (some (52, false)), false⟩, ⟨some 61, .not (.t 60), (some (52, false)), false⟩, ⟨some 62, .pick (.t 52) (.c (.b true)) (.t 61), none, true⟩]
abbrev i11r7 : List IOper := [⟨some 2, .mv (.c (.i .i64 280)), none, false⟩]
abbrev i11r8 : List IOper := [⟨some 63, .fa 0 (.t 6), none, false⟩, ⟨some 64, .ld false 1 (.t 63), none, false⟩, ⟨some 65, .fa 2 (.t 1), none, false⟩, ⟨some 66, .ld false 1 (.t 65), none, false⟩, ⟨some 67, .call (.c (.fn 51 [])) [.t 64, .t 66], none, false⟩, ⟨some 4, .mv (.t 67), none, false⟩]
abbrev i11r9 : List IOper := [⟨some 68, .bin .add (.t 39) (.c (.i .i64 1)), none, false⟩, ⟨some 39, .mv (.t 68), none, false⟩]
abbrev i11l10 : ICode := (.seq (.reg i11r4) (.seq (.cond (.t 40) .skip (.exit 0)) (.seq (.block 1 (.seq (.reg i11r5) (.seq (.seq (.reg i11r6) (.cond (.t 62) (.seq (.reg i11r7) .ret) .skip)) (.reg i11r8)))) (.reg i11r9))))
abbrev i11r11 : List IOper := [⟨some 69, .mv (.t 3), none, false⟩, ⟨some 70, .not (.t 69), none, true⟩]
abbrev i11r12 : List IOper := [⟨some 2, .mv (.c (.i .i64 280)), none, false⟩]
abbrev i11r13 : List IOper := [⟨some 2, .mv (.c (.i .i64 0)), none, false⟩]
abbrev i11c : ICode := (.seq (.reg i11r0) (.seq (.reg i11r1) (.seq (.reg i11r2) (.seq (.seq (.reg i11r3) (.block 0 (.loop i11l10))) (.seq (.seq (.reg i11r11) (.cond (.t 70) (.seq (.reg i11r12) .ret) .skip)) (.seq (.reg i11r13) .ret))))))
def i11 : IFn := { np := 1, N := 71, ct := [40, 62, 70], code := i11c, res := [.t 2] }
theorem i11_eq : compF Try.prog Try.f11 = some i11 := by kernel_rfl
abbrev i12r0 : List IOper := [⟨some 1, .box (.t 0), none, false⟩, ⟨some 2, .mv (.c (.b false)), none, false⟩]
abbrev i12r1 : List IOper := [⟨some 7, .fa 0 (.t 1), none, false⟩, ⟨some 8, .ld false 1 (.t 7), none, false⟩, ⟨some 9, .call (.c (.fn 52 [])) [.t 8, .c (.i .i64 0)], none, false⟩, ⟨some 10, .not (.t 9), none, true⟩]
abbrev i12r2 : List IOper := [⟨some 2, .mv (.c (.b false)), none, false⟩]
abbrev i12r3 : List IOper := [⟨some 11, .fa 1 (.t 1), none, false⟩, ⟨some 12, .ld false 1 (.t 11), none, false⟩, ⟨some 13, .not (.t 12), none, true⟩]
abbrev i12r4 : List IOper := [⟨some 14, .fa 2 (.t 1), none, false⟩, ⟨some 15, .ld false 1 (.t 14), none, false⟩, ⟨some 16, .bin .eql (.t 15) (.c (.i .i64 0)), none, false⟩, ⟨some 17, .mv (.t 16), none, true⟩, ⟨some 18, .fa 3 (.t 1), (some (17, true)), false⟩, ⟨some 19, .ld false 1 (.t 18), (some (17, true)), false⟩, ⟨some 20, .lenV (.t 19), (some (17, true)), false⟩, ⟨some 21, .bin .eql (.t 20) (.c (.i .i64 0)), (some (17, true)), false⟩, ⟨some 22, .pick (.t 17) (.t 21) (.c (.b false)), none, false⟩, ⟨some 2, .mv (.t 22), none, false⟩]
abbrev i12r5 : List IOper := [⟨some 23, .fa 2 (.t 1), none, false⟩, ⟨some 24, .ld false 1 (.t 23), none, false⟩, ⟨some 25, .bin .lss (.t 24) (.c (.i .i64 0)), none, false⟩, ⟨some 26, .mv (.t 25), none, true⟩, ⟨some 27, .fa 2 (.t 1), (some (26, false)), false⟩, ⟨some 28, .ld false 1 (.t 27), (some (26, false)), false⟩, ⟨some 29, .bin .gtr (.t 28) (.c (.i .i64 65535)), (some (26, false)), false⟩, ⟨some 30, .pick (.t 26) (.c (.b true)) (.t 29), none, false⟩, ⟨some 31, .mv (.t 30), none, true⟩, ⟨some 32, .fa 3 (.t 1), (some (31, false)), false⟩, ⟨some 33, .ld false 1 (.t 32), (some (31, false)), false⟩, ⟨some 34, .lenV (.t 33), (some (31, false)), false⟩, ⟨some 35, .bin .gtr (.t 34) (.c (.i .i64 64)), (some (31, false)), false⟩, ⟨some 36, .pick (.t 31) (.c (.b true)) (.t 35), none, true⟩]
abbrev i12r6 : List IOper := [⟨some 2, .mv (.c (.b false)), none, false⟩]
abbrev i12r7 : List IOper := [⟨some 3, .mv (.c (.i .i64 (-1001))), none, false⟩]
abbrev i12r8 : List IOper := [⟨some 4, .mv (.c (.i .i64 0)), none, false⟩]
abbrev i12r9 : List IOper := [⟨some 37, .mv (.t 4), none, false⟩, ⟨some 38, .fa 3 (.t 1), none, false⟩, ⟨some 39, .ld false 1 (.t 38), none, false⟩, ⟨some 40, .lenV (.t 39), none, false⟩, ⟨some 41, .bin .lss (.t 37) (.t 40), none, true⟩]
abbrev i12r10 : List IOper := [⟨some 44, .fa 3 (.t 1), none, false⟩, ⟨some 45, .ld false 1 (.t 44), none, false⟩, ⟨some 46, .mv (.t 4), none, false⟩, ⟨some 47, .ixaV 4 (.t 45) (.t 46), none, false⟩, ⟨some 48, .ld true 4 (.t 47), none, false⟩, ⟨some 5, .new [.i .i64 0, .i .i64 0, .i .i64 0, .i .i64 0], none, false⟩, ⟨none, .st 4 (.t 5) (.t 48), none, false⟩]
abbrev i12r11 : List IOper := [⟨some 49, .fa 0 (.t 5), none, false⟩, ⟨some 50, .ld false 1 (.t 49), none, false⟩, ⟨some 51, .bin .lss (.t 50) (.c (.i .i64 0)), none, false⟩, ⟨some 52, .mv (.t 51), none, true⟩, ⟨some 53, .fa 0 (.t 5), (some (52, false)), false⟩, ⟨some 54, .ld false 1 (.t 53), (some (52, false)), false⟩, ⟨some 55, .bin .gtr (.t 54) (.c (.i .i64 65535)), (some (52, false)), false⟩, ⟨some 56, .pick (.t 52) (.c (.b true)) (.t 55), none, false⟩, ⟨some 57, .mv (.t 56), none, true⟩, ⟨some 58, .fa 1 (.t 5), (some (57, false)), false⟩, ⟨some 59, .ld false 1 (.t 58), (some (57, false)), false⟩, ⟨some 60, .bin .lss (.t 59) (.c (.i .i64 0)), (some (57, false)), false⟩, ⟨some 61, .pick (.t 57) (.c (.b true)) (.t 60), none, false⟩, ⟨some 62, .mv (.t 61), none, true⟩, ⟨some 63, .fa 1 (.t 5), (some (62, false)), false⟩, ⟨some 64, .ld false 1 (.t 63), (some (62, false)), false⟩, ⟨some 65, .fa 0 (.t 1), (some (62, false)), false⟩, ⟨some 66, .ld false 1 (.t 65), (some (62, false)), false⟩, ⟨some 67, .bin .gtr (.t 64) (.t 66), (some (62, false)), false⟩, ⟨some 68, .pick (.t 62) (.c (.b true)) (.t 67), none, false⟩, ⟨some 69, .mv (.t 68), none, true⟩, ⟨some 70, .fa 3 (.t 5), (some (69, false)), false⟩, ⟨some 71, .ld false 1 (.t 70), (some (69, false)), false⟩, ⟨some 72, .bin .lss (.t 71) (.c (.i .i64 0)), (some (69, false)), false⟩, ⟨some 73, .pick (.t 69) (.c (.b true)) (.t 72), none, false⟩, ⟨some 74, .mv (.t 73), none, true⟩, ⟨some 75, .fa 3 (.t 5), (some (74, false)), false⟩, ⟨some 76, .ld false 1 (.t 75), (some (74, false)), false⟩, ⟨some 77, .bin .gtr (.t 76) (.c (.i .i64 6)), (some (74, false)), false⟩, ⟨some 78, .pick (.t 74) (.c (.b true)) (.t 77), none, false⟩, ⟨some 79, .mv (.t 78), none, true⟩, ⟨some 80, .fa 3 (.t 5), (some (79, false)), false⟩, ⟨some 81, .ld false 1 (.t 80), (some (79, false)), false⟩, ⟨some 82, .bin .eql (.t 81) (.c (.i .i64 0)), (some (79, false)), false⟩, ⟨some 83, .mv (.t 82), (some (79, false)), true⟩, ⟨some 84, .fa 2 (.t 5), (some (83, true)), false⟩, ⟨some 85, .ld false 1 (.t 84), (some (83, true)), false⟩, ⟨some 86, .bin .neq (.t 85) (.c (.i .i64 0)), (some (83, true)), false⟩, ⟨some 87, .pick (.t 83) (.t 86) (.c (.b false)), (some (79, false)), false⟩, ⟨some 88, .pick (.t 79) (.c (.b true)) (.t 87), none, false⟩, ⟨some 89, .mv (.t 88), none, true⟩, ⟨some 90, .fa 3 (.t 5), (some (89, false)), false⟩, ⟨some 91, .ld false 1 (.t 90), (some (89, false)), false⟩, ⟨some 92, .bin .gtr (.t 91) (.c (.i .i64 0)), (some (89, false)), false⟩, ⟨some 93, .mv (.t 92), (some (89, false)), true⟩, ⟨some 94, .fa 2 (.t 5), (some (93, true)), false⟩, ⟨some 95, .ld false 1 (.t 94), (some (93, true)), false⟩, ⟨some 96, .fa 1 (.t 5), (some (93, true)), false⟩, ⟨some 97, .ld false 1 (.t 96), (some (93, true)), false⟩, ⟨some 98, .bin .lss (.t 95) (.t 97), (some (93, true)), false⟩, ⟨some 99, .mv (.t 98), (some (93, true)), true⟩, ⟨some 100, .fa 2 (.t 5), (some (99, false)), false⟩, ⟨some 101, .ld false 1 (.t 100), (some (99, false)), false⟩, ⟨some 102, .fa 0 (.t 1), (some (99, false)), false⟩, ⟨some 103, .ld false 1 (.t 102), (some (99, false)), false⟩, ⟨some 104, .bin .gtr (.t 101) (.t 103), (some (99, false)), false⟩, ⟨some 105, .pick (.t 99) (.c (.b true)) (.t 104), (some (93, true)), false⟩, ⟨some 106, .pick (.t 93) (.t 105) (.c (.b false)), (some (89, false)), false⟩, ⟨some 107, .pick (.t 89) (.c (.b true)) (.t 106), none, true⟩]
abbrev i12r12 : List IOper := [⟨some 2, .mv (.c (.b false)), none, false⟩]
abbrev i12r13 : List IOper := [⟨some 108, .fa 0 (.t 5), none, false⟩, ⟨some 109, .ld false 1 (.t 108), none, false⟩, ⟨some 110, .fa 2 (.t 1), none, false⟩, ⟨some 111, .ld false 1 (.t 110), none, false⟩, ⟨some 112, .call (.c (.fn 53 [])) [.t 109, .t 111, .c (.i .i64 16)], none, false⟩, ⟨some 6, .mv (.t 112), none, false⟩]
abbrev i12r14 : List IOper := [⟨some 113, .mv (.t 6), none, false⟩, ⟨some 114, .mv (.t 3), none, false⟩, ⟨some 115, .bin .leq (.t 113) (.t 114), none, false⟩, ⟨some 116, .mv (.t 115), none, true⟩, ⟨some 117, .mv (.t 6), (some (116, false)), false⟩, ⟨some 118, .bin .gtr (.t 117) (.c (.i .i64 (-1))), (some (116, false)), false⟩, ⟨some 119, .pick (.t 116) (.c (.b true)) (.t 118), none, true⟩]
abbrev i12r15 : List IOper := [⟨some 2, .mv (.c (.b false)), none, false⟩]
abbrev i12r16 : List IOper := [⟨some 120, .mv (.t 6), none, false⟩, ⟨some 3, .mv (.t 120), none, false⟩]
abbrev i12r17 : List IOper := [⟨some 42, .mv (.t 4), none, false⟩, ⟨some 43, .bin .add (.t 42) (.c (.i .i64 1)), none, false⟩, ⟨some 4, .mv (.t 43), none, false⟩]
abbrev i12l18 : ICode := (.seq (.seq (.reg i12r9) (.cond (.t 41) .skip (.exit 0))) (.seq (.block 1 (.seq (.reg i12r10) (.seq (.seq (.reg i12r11) (.cond (.t 107) (.seq (.reg i12r12) .ret) .skip)) (.seq (.reg i12r13) (.seq (.seq (.reg i12r14) (.cond (.t 119) (.seq (.reg i12r15) .ret) .skip)) (.reg i12r16)))))) (.reg i12r17)))
abbrev i12r19 : List IOper := [⟨some 2, .mv (.c (.b true)), none, false⟩]
abbrev i12c : ICode := (.seq (.reg i12r0) (.seq (.seq (.reg i12r1) (.cond (.t 10) (.seq (.reg i12r2) .ret) .skip)) (.seq (.seq (.reg i12r3) (.cond (.t 13) (.seq (.reg i12r4) .ret) .skip)) (.seq (.seq (.reg i12r5) (.cond (.t 36) (.seq (.reg i12r6) .ret) .skip)) (.seq (.reg i12r7) (.seq (.seq (.reg i12r8) (.block 0 (.loop i12l18))) (.seq (.reg i12r19) .ret)))))))
def i12 : IFn := { np := 1, N := 121, ct := [10, 13, 36, 41, 107, 119], code := i12c, res := [.t 2] }
theorem i12_eq : compF Try.prog Try.f12 = some i12 := by kernel_rfl
abbrev i13r0 : List IOper := [⟨some 3, .box (.t 0), none, false⟩, ⟨some 4, .box (.t 1), none, false⟩, ⟨some 5, .box (.t 2), none, false⟩, ⟨some 6, .new [.i .i64 0, .b false, .i .i64 0, .ns], none, false⟩, ⟨some 7, .mv (.c (.i .i64 0)), none, false⟩]
abbrev i13r1 : List IOper := [⟨some 13, .ld true 4 (.t 3), none, false⟩, ⟨some 14, .ld false 1 (.t 4), none, false⟩, ⟨some 15, .call (.c (.fn 54 [])) [.t 13, .t 14], none, false⟩, ⟨some 8, .mv (.t 15), none, false⟩]
abbrev i13r2 : List IOper := [⟨some 16, .mv (.t 8), none, false⟩, ⟨some 17, .bin .neq (.t 16) (.c (.i .i64 0)), none, true⟩]
abbrev i13r3 : List IOper := [⟨some 18, .build [.i .i64 0, .b false, .i .i64 0, .ns] [], none, false⟩, ⟨some 19, .mv (.t 8), none, false⟩, ⟨none, .st 4 (.t 6) (.t 18), none, false⟩, ⟨some 7, .mv (.t 19), none, false⟩]
abbrev i13r4 : List IOper := [⟨some 20, .ld false 1 (.t 5), none, false⟩, ⟨some 21, .call (.c (.fn 49 [])) [.c (.i .i64 0), .c (.i .i64 65535), .t 20], none, false⟩, ⟨some 22, .not (.t 21), none, true⟩]
abbrev i13r5 : List IOper := [⟨some 23, .build [.i .i64 0, .b false, .i .i64 0, .ns] [], none, false⟩, ⟨none, .st 4 (.t 6) (.t 23), none, false⟩, ⟨some 7, .mv (.c (.i .i64 2)), none, false⟩]
abbrev i13r6 : List IOper := [⟨some 24, .fa 1 (.t 3), none, false⟩, ⟨some 25, .ld false 1 (.t 24), none, false⟩, ⟨some 26, .not (.t 25), none, true⟩]
abbrev i13r7 : List IOper := [⟨some 27, .ld false 1 (.t 4), none, false⟩, ⟨some 28, .ld false 1 (.t 5), none, false⟩, ⟨some 29, .build [.i .i64 0, .b false, .i .i64 0, .ns] [(0, 1, .t 27), (1, 1, .c (.b true)), (2, 1, .t 28)], none, false⟩, ⟨none, .st 4 (.t 6) (.t 29), none, false⟩, ⟨some 7, .mv (.c (.i .i64 0)), none, false⟩]
abbrev i13r8 : List IOper := [⟨some 30, .ld false 1 (.t 5), none, false⟩, ⟨some 31, .fa 2 (.t 3), none, false⟩, ⟨some 32, .ld false 1 (.t 31), none, false⟩, ⟨some 33, .call (.c (.fn 51 [])) [.t 30, .t 32], none, false⟩, ⟨some 9, .new [.i .i64 0], none, false⟩, ⟨none, .st 1 (.t 9) (.t 33), none, false⟩]
abbrev i13r9 : List IOper := [⟨some 34, .ld false 1 (.t 9), none, false⟩, ⟨some 35, .bin .gtr (.t 34) (.c (.i .i64 64)), none, true⟩]
abbrev i13r10 : List IOper := [⟨some 36, .build [.i .i64 0, .b false, .i .i64 0, .ns] [], none, false⟩, ⟨none, .st 4 (.t 6) (.t 36), none, false⟩, ⟨some 7, .mv (.c (.i .i64 6)), none, false⟩]
abbrev i13r11 : List IOper := [⟨some 37, .fa 2 (.t 3), none, false⟩, ⟨some 38, .ld false 1 (.t 37), none, false⟩, ⟨some 10, .new [.i .i64 0], none, false⟩, ⟨none, .st 1 (.t 10) (.t 38), none, false⟩]
abbrev i13r12 : List IOper := [⟨some 39, .ld false 1 (.t 9), none, false⟩, ⟨some 40, .bin .gtr (.t 39) (.c (.i .i64 0)), none, true⟩]
abbrev i13r13 : List IOper := [⟨some 41, .ld false 1 (.t 5), none, false⟩, ⟨some 42, .fa 2 (.t 3), none, false⟩, ⟨none, .st 1 (.t 42) (.t 41), none, false⟩]
abbrev i13r14 : List IOper := [⟨some 43, .mkf 55 [.t 5, .t 10, .t 9], none, false⟩, ⟨some 11, .mv (.t 43), none, false⟩]
abbrev i13r15 : List IOper := [⟨some 44, .fa 3 (.t 3), none, false⟩, ⟨some 45, .ld false 1 (.t 44), none, false⟩, ⟨some 46, .call (.c (.fn 57 [])) [.t 45], none, false⟩, ⟨some 47, .mv (.t 11), none, false⟩, ⟨some 48, .call (.c (.fn 56 [])) [.t 46, .t 47], none, false⟩, ⟨some 49, .fa 3 (.t 3), none, false⟩, ⟨none, .st 1 (.t 49) (.t 48), none, false⟩]
abbrev i13r16 : List IOper := [⟨some 50, .ld false 1 (.t 10), none, false⟩, ⟨some 51, .ld false 1 (.t 9), none, false⟩, ⟨some 52, .call (.c (.fn 58 [])) [.t 50, .t 51], none, false⟩]
abbrev i13r17 : List IOper := [⟨some 12, .mv (.t 53), none, false⟩]
abbrev i13r18 : List IOper := [⟨some 54, .fa 3 (.t 3), none, false⟩, ⟨some 55, .ld false 1 (.t 54), none, false⟩, ⟨some 56, .mv (.t 12), none, false⟩, ⟨some 57, .ld false 1 (.t 4), none, false⟩, ⟨some 58, .build [.i .i64 0, .i .i64 0, .i .i64 0, .i .i64 0] [(0, 1, .t 56), (1, 1, .t 57)], none, false⟩, ⟨some 59, .bsl [.i .i64 0, .i .i64 0, .i .i64 0, .i .i64 0] 1 [(0, 4, .t 58)], none, false⟩, ⟨some 60, .app 4 32 [.i .i64 0, .i .i64 0, .i .i64 0, .i .i64 0] (.t 55) (.t 59), none, false⟩, ⟨some 61, .fa 3 (.t 3), none, false⟩, ⟨none, .st 1 (.t 61) (.t 60), none, false⟩]
abbrev i13a19 : ICode := (.reg i13r17)
abbrev i13b19 : ICode := (.block 1 (.reg i13r18))
abbrev i13r21 : List IOper := [⟨some 62, .fa 3 (.t 3), none, false⟩, ⟨some 63, .ld false 1 (.t 62), none, false⟩, ⟨some 64, .lenV (.t 63), none, false⟩, ⟨some 65, .bin .gtr (.t 64) (.c (.i .i64 64)), none, true⟩]
abbrev i13r22 : List IOper := [⟨some 66, .build [.i .i64 0, .b false, .i .i64 0, .ns] [], none, false⟩, ⟨none, .st 4 (.t 6) (.t 66), none, false⟩, ⟨some 7, .mv (.c (.i .i64 3)), none, false⟩]
abbrev i13r23 : List IOper := [⟨some 67, .ld false 1 (.t 4), none, false⟩, ⟨some 68, .fa 0 (.t 3), none, false⟩, ⟨none, .st 1 (.t 68) (.t 67), none, false⟩]
abbrev i13r24 : List IOper := [⟨some 69, .ld true 4 (.t 3), none, false⟩, ⟨none, .st 4 (.t 6) (.t 69), none, false⟩, ⟨some 7, .mv (.c (.i .i64 0)), none, false⟩]
abbrev i13c : ICode := (.seq (.reg i13r0) (.seq (.seq (.reg i13r1) (.seq (.reg i13r2) (.cond (.t 17) (.seq (.reg i13r3) .ret) .skip))) (.seq (.seq (.reg i13r4) (.cond (.t 22) (.seq (.reg i13r5) .ret) .skip)) (.seq (.seq (.reg i13r6) (.cond (.t 26) (.seq (.reg i13r7) .ret) .skip)) (.seq (.reg i13r8) (.seq (.seq (.reg i13r9) (.cond (.t 35) (.seq (.reg i13r10) .ret) .skip)) (.seq (.reg i13r11) (.seq (.seq (.reg i13r12) (.cond (.t 40) (.reg i13r13) .skip)) (.seq (.reg i13r14) (.seq (.reg i13r15) (.seq (.seq (.reg i13r16) (.block 0 (.rfunc (.t 52) [53] i13a19 i13b19))) (.seq (.seq (.reg i13r21) (.cond (.t 65) (.seq (.reg i13r22) .ret) .skip)) (.seq (.reg i13r23) (.seq (.reg i13r24) .ret))))))))))))))
def i13 : IFn := { np := 3, N := 70, ct := [17, 22, 26, 35, 40, 65], code := i13c, res := [.c 6 true 4, .t 7] }
theorem i13_eq : compF Try.prog Try.f13 = some i13 := by kernel_rfl
abbrev i17r0 : List IOper := [⟨some 1, .box (.t 0), none, false⟩, ⟨some 2, .mv (.c (.i .i64 0)), none, false⟩]
abbrev i17r1 : List IOper := [⟨some 3, .fa 1 (.t 1), none, false⟩, ⟨some 4, .ld false 1 (.t 3), none, false⟩, ⟨some 5, .bin .rem (.t 4) (.c (.i .u16 400)), none, false⟩, ⟨some 6, .i2i .i64 (.t 5), none, false⟩, ⟨some 7, .bin .add (.c (.i .i64 1)) (.t 6), none, false⟩, ⟨some 2, .mv (.t 7), none, false⟩]
abbrev i17c : ICode := (.seq (.reg i17r0) (.seq (.reg i17r1) .ret))
def i17 : IFn := { np := 1, N := 8, ct := [], code := i17c, res := [.t 2] }
theorem i17_eq : compF Try.prog Try.f17 = some i17 := by kernel_rfl
abbrev i18r0 : List IOper := [⟨some 2, .box (.t 0), none, false⟩, ⟨some 4, .mv (.c (.i .i64 0)), none, false⟩, ⟨some 5, .mv (.c (.i .i64 0)), none, false⟩]
abbrev i18r1 : List IOper := [⟨some 10, .ld true 4 (.t 2), none, false⟩, ⟨some 11, .call (.c (.fn 11 [])) [.t 10], none, false⟩, ⟨some 6, .mv (.t 11), none, false⟩]
abbrev i18r2 : List IOper := [⟨some 12, .mv (.t 6), none, false⟩, ⟨some 13, .bin .neq (.t 12) (.c (.i .i64 0)), none, true⟩]
abbrev i18r3 : List IOper := [⟨some 14, .mv (.t 6), none, false⟩, ⟨some 4, .mv (.c (.i .i64 0)), none, false⟩, ⟨some 5, .mv (.t 14), none, false⟩]
abbrev i18r4 : List IOper := [⟨some 15, .mv (.t 1), none, false⟩, ⟨some 16, .call (.c (.fn 49 [])) [.c (.i .i64 1), .c (.i .i64 2000), .t 15], none, false⟩, ⟨some 17, .not (.t 16), none, true⟩]
abbrev i18r5 : List IOper := [⟨some 4, .mv (.c (.i .i64 0)), none, false⟩, ⟨some 5, .mv (.c (.i .i64 2)), none, false⟩]
abbrev i18r6 : List IOper := [⟨some 7, .mv (.c (.i .i64 1099511627777)), none, false⟩]
abbrev i18r7 : List IOper := [⟨some 18, .fa 3 (.t 2), none, false⟩, ⟨some 19, .ld false 1 (.t 18), none, false⟩, ⟨some 20, .lenV (.t 19), none, false⟩, ⟨some 21, .mv (.c (.i .i64 0)), none, false⟩]
abbrev i18r8 : List IOper := [⟨some 22, .bin .lss (.t 21) (.t 20), none, true⟩]
abbrev i18r9 : List IOper := [⟨some 23, .ixaV 4 (.t 19) (.t 21), none, false⟩, ⟨some 24, .ld true 4 (.t 23), none, false⟩, ⟨some 9, .new [.i .i64 0, .i .i64 0, .i .i64 0, .i .i64 0], none, false⟩, ⟨none, .st 4 (.t 9) (.t 24), none, false⟩]
abbrev i18r10 : List (IOper × List Nat) := [(⟨some 25, .mv (.t 7), none, false⟩, []), (⟨some 26, .ld true 4 (.t 9), none, false⟩, [0]), (⟨some 27, .mv (.t 1), none, false⟩, [0, 1]), (⟨some 28, .call (.c (.fn 60 [])) [.t 26, .t 27], none, false⟩, [0]), (⟨some 29, .ld true 4 (.t 9), none, false⟩, [0, 1, 2, 3]), (⟨some 30, .mv (.t 1), none, false⟩, [0, 1, 2, 3, 4]), (⟨some 31, .call (.c (.fn 61 [])) [.t 29, .t 30], none, false⟩, [0]), (⟨some 32, .mn (.t 25) [.t 28, .t 31], none, false⟩, []), (⟨some 7, .mv (.t 32), none, false⟩, [])]
abbrev i18r11 : List IOper := [⟨some 33, .bin .add (.t 21) (.c (.i .i64 1)), none, false⟩, ⟨some 21, .mv (.t 33), none, false⟩]
abbrev i18l12 : ICode := (.seq (.reg i18r8) (.seq (.cond (.t 22) .skip (.exit 0)) (.seq (.block 1 (.seq (.reg i18r9) (.dreg i18r10))) (.reg i18r11))))
abbrev i18r13 : List IOper := [⟨some 34, .mv (.t 7), none, false⟩, ⟨some 35, .bin .gtr (.t 34) (.c (.i .i64 1099511627776)), none, true⟩]
abbrev i18r14 : List IOper := [⟨some 4, .mv (.c (.i .i64 0)), none, false⟩, ⟨some 5, .mv (.c (.i .i64 4)), none, false⟩]
abbrev i18r15 : List IOper := [⟨some 36, .mv (.t 7), none, false⟩, ⟨some 37, .fa 0 (.t 2), none, false⟩, ⟨some 38, .ld false 1 (.t 37), none, false⟩, ⟨some 39, .mx (.t 36) [.t 38], none, false⟩, ⟨some 4, .mv (.t 39), none, false⟩, ⟨some 5, .mv (.c (.i .i64 0)), none, false⟩]
abbrev i18c : ICode := (.seq (.reg i18r0) (.seq (.seq (.reg i18r1) (.seq (.reg i18r2) (.cond (.t 13) (.seq (.reg i18r3) .ret) .skip))) (.seq (.seq (.reg i18r4) (.cond (.t 17) (.seq (.reg i18r5) .ret) .skip)) (.seq (.reg i18r6) (.seq (.seq (.reg i18r7) (.block 0 (.loop i18l12))) (.seq (.seq (.reg i18r13) (.cond (.t 35) (.seq (.reg i18r14) .ret) .skip)) (.seq (.reg i18r15) .ret)))))))
def i18 : IFn := { np := 2, N := 40, ct := [13, 17, 22, 35], code := i18c, res := [.t 4, .t 5] }
theorem i18_eq : compF Try.prog Try.f18 = some i18 := by kernel_rfl
abbrev i20r0 : List IOper := [⟨some 3, .box (.t 0), none, false⟩, ⟨some 6, .new [.i .i64 0, .b false, .i .i64 0, .ns], none, false⟩, ⟨some 7, .mv (.c (.ns)), none, false⟩, ⟨some 8, .mv (.c (.b false)), none, false⟩, ⟨some 9, .mv (.c (.i .i64 0)), none, false⟩]
abbrev i20r1 : List IOper := [⟨some 14, .ld true 4 (.t 3), none, false⟩, ⟨some 15, .mv (.t 1), none, false⟩, ⟨some 16, .call (.c (.fn 54 [])) [.t 14, .t 15], none, false⟩, ⟨some 10, .mv (.t 16), none, false⟩]
abbrev i20r2 : List IOper := [⟨some 17, .mv (.t 10), none, false⟩, ⟨some 18, .bin .neq (.t 17) (.c (.i .i64 0)), none, true⟩]
abbrev i20r3 : List IOper := [⟨some 19, .build [.i .i64 0, .b false, .i .i64 0, .ns] [], none, false⟩, ⟨some 20, .mv (.t 10), none, false⟩, ⟨none, .st 4 (.t 6) (.t 19), none, false⟩, ⟨some 7, .mv (.c (.ns)), none, false⟩, ⟨some 8, .mv (.c (.b false)), none, false⟩, ⟨some 9, .mv (.t 20), none, false⟩]
abbrev i20r4 : List IOper := [⟨some 21, .mv (.t 2), none, false⟩, ⟨some 22, .call (.c (.fn 49 [])) [.c (.i .i64 1), .c (.i .i64 2000), .t 21], none, false⟩, ⟨some 23, .not (.t 22), none, true⟩]
abbrev i20r5 : List IOper := [⟨some 24, .build [.i .i64 0, .b false, .i .i64 0, .ns] [], none, false⟩, ⟨none, .st 4 (.t 6) (.t 24), none, false⟩, ⟨some 7, .mv (.c (.ns)), none, false⟩, ⟨some 8, .mv (.c (.b false)), none, false⟩, ⟨some 9, .mv (.c (.i .i64 2)), none, false⟩]
abbrev i20r6 : List IOper := [⟨some 11, .mv (.c (.ns)), none, false⟩]
abbrev i20r7 : List IOper := [⟨some 25, .fa 3 (.t 3), none, false⟩, ⟨some 26, .ld false 1 (.t 25), none, false⟩, ⟨some 27, .lenV (.t 26), none, false⟩, ⟨some 28, .mv (.c (.i .i64 0)), none, false⟩]
abbrev i20r8 : List IOper := [⟨some 29, .bin .lss (.t 28) (.t 27), none, true⟩]
abbrev i20r9 : List IOper := [⟨some 30, .ixaV 4 (.t 26) (.t 28), none, false⟩, ⟨some 31, .ld true 4 (.t 30), none, false⟩, ⟨some 13, .new [.i .i64 0, .i .i64 0, .i .i64 0, .i .i64 0], none, false⟩, ⟨none, .st 4 (.t 13) (.t 31), none, false⟩]
abbrev i20r10 : List IOper := [⟨some 33, .ld true 4 (.t 13), none, false⟩, ⟨some 34, .mv (.t 2), none, false⟩, ⟨some 35, .call (.c (.fn 61 [])) [.t 33, .t 34], none, false⟩, ⟨some 36, .mv (.t 1), none, false⟩, ⟨some 37, .bin .leq (.t 35) (.t 36), none, false⟩, ⟨some 32, .mv (.t 37), none, true⟩]
abbrev i20r11 : List IOper := [⟨some 8, .mv (.c (.b true)), none, false⟩]
abbrev i20r12 : List IOper := [⟨some 39, .ld true 4 (.t 13), none, false⟩, ⟨some 40, .mv (.t 2), none, false⟩, ⟨some 41, .call (.c (.fn 60 [])) [.t 39, .t 40], none, false⟩, ⟨some 42, .mv (.t 1), none, false⟩, ⟨some 43, .bin .leq (.t 41) (.t 42), none, false⟩, ⟨some 38, .mv (.t 43), none, true⟩]
abbrev i20r13 : List IOper := [⟨some 44, .mv (.t 7), none, false⟩, ⟨some 45, .fa 0 (.t 13), none, false⟩, ⟨some 46, .ld false 1 (.t 45), none, false⟩, ⟨some 47, .bsl [.i .i64 0] 1 [(0, 1, .t 46)], none, false⟩, ⟨some 48, .app 1 8 [.i .i64 0] (.t 44) (.t 47), none, false⟩, ⟨some 7, .mv (.t 48), none, false⟩]
abbrev i20r14 : List IOper := [⟨some 49, .mv (.t 1), none, false⟩, ⟨some 50, .fa 3 (.t 13), none, false⟩, ⟨some 51, .ld false 1 (.t 50), none, false⟩, ⟨some 52, .bin .add (.t 51) (.c (.i .i64 1)), none, false⟩, ⟨some 53, .fa 2 (.t 13), none, false⟩, ⟨none, .st 1 (.t 53) (.t 49), none, false⟩, ⟨some 54, .fa 3 (.t 13), none, false⟩, ⟨none, .st 1 (.t 54) (.t 52), none, false⟩]
abbrev i20r15 : List IOper := [⟨some 55, .mv (.t 11), none, false⟩, ⟨some 56, .ld true 4 (.t 13), none, false⟩, ⟨some 57, .bsl [.i .i64 0, .i .i64 0, .i .i64 0, .i .i64 0] 1 [(0, 4, .t 56)], none, false⟩, ⟨some 58, .app 4 32 [.i .i64 0, .i .i64 0, .i .i64 0, .i .i64 0] (.t 55) (.t 57), none, false⟩, ⟨some 11, .mv (.t 58), none, false⟩]
abbrev i20r16 : List IOper := [⟨some 59, .bin .add (.t 28) (.c (.i .i64 1)), none, false⟩, ⟨some 28, .mv (.t 59), none, false⟩]
abbrev i20l17 : ICode := (.seq (.reg i20r8) (.seq (.cond (.t 29) .skip (.exit 0)) (.seq (.block 1 (.seq (.reg i20r9) (.seq (.block 2 (.seq (.reg i20r10) (.cond (.t 32) (.seq (.reg i20r11) (.exit 1)) (.seq (.reg i20r12) (.cond (.t 38) (.seq (.reg i20r13) (.reg i20r14)) .skip))))) (.reg i20r15)))) (.reg i20r16))))
abbrev i20r18 : List IOper := [⟨some 60, .mv (.t 1), none, false⟩, ⟨some 61, .mv (.t 11), none, false⟩, ⟨some 62, .fa 0 (.t 3), none, false⟩, ⟨none, .st 1 (.t 62) (.t 60), none, false⟩, ⟨some 63, .fa 3 (.t 3), none, false⟩, ⟨none, .st 1 (.t 63) (.t 61), none, false⟩]
abbrev i20r19 : List IOper := [⟨some 64, .ld true 4 (.t 3), none, false⟩, ⟨some 65, .mv (.t 7), none, false⟩, ⟨some 66, .mv (.t 8), none, false⟩, ⟨none, .st 4 (.t 6) (.t 64), none, false⟩, ⟨some 7, .mv (.t 65), none, false⟩, ⟨some 8, .mv (.t 66), none, false⟩, ⟨some 9, .mv (.c (.i .i64 0)), none, false⟩]
abbrev i20c : ICode := (.seq (.reg i20r0) (.scope (.seq (.seq (.reg i20r1) (.seq (.reg i20r2) (.cond (.t 18) (.seq (.reg i20r3) .ret) .skip))) (.seq (.seq (.reg i20r4) (.cond (.t 23) (.seq (.reg i20r5) .ret) .skip)) (.seq (.reg i20r6) (.seq .skip (.seq (.seq (.reg i20r7) (.block 0 (.loop i20l17))) (.seq (.reg i20r18) (.seq (.reg i20r19) .ret)))))))))
def i20 : IFn := { np := 3, N := 67, ct := [18, 23, 29, 32, 38], code := i20c, res := [.c 6 true 4, .t 7, .t 8, .t 9] }
theorem i20_eq : compF Try.prog Try.f20 = some i20 := by kernel_rfl
abbrev i22r0 : List IOper := [⟨some 4, .mv (.c (.b false)), none, false⟩]
abbrev i22r1 : List IOper := [⟨some 6, .mv (.t 0), none, false⟩, ⟨some 7, .lenV (.t 6), none, false⟩, ⟨some 8, .mv (.t 1), none, false⟩, ⟨some 9, .lenV (.t 8), none, false⟩, ⟨some 10, .bin .neq (.t 7) (.t 9), none, true⟩]
abbrev i22r2 : List IOper := [⟨some 4, .mv (.c (.b false)), none, false⟩]
abbrev i22r3 : List IOper := [⟨some 11, .mv (.t 0), none, false⟩, ⟨some 12, .lenV (.t 11), none, false⟩, ⟨some 13, .mv (.c (.i .i64 0)), none, false⟩]
abbrev i22r4 : List IOper := [⟨some 14, .bin .lss (.t 13) (.t 12), none, true⟩]
abbrev i22r5 : List IOper := [⟨some 15, .mv (.t 13), none, false⟩, ⟨some 5, .mv (.t 15), none, false⟩]
abbrev i22r6 : List (IOper × List Nat) := [(⟨some 16, .mv (.t 0), none, false⟩, []), (⟨some 17, .mv (.t 5), none, false⟩, [0]), (⟨some 18, .ixaV 1 (.t 16) (.t 17), none, false⟩, []), (⟨some 19, .ld false 1 (.t 18), none, false⟩, []), (⟨some 20, .mv (.t 1), none, false⟩, [0, 1, 2, 3]), (⟨some 21, .mv (.t 5), none, false⟩, [0, 1, 2, 3, 4]), (⟨some 22, .ixaV 1 (.t 20) (.t 21), none, false⟩, [0, 1, 2, 3]), (⟨some 23, .ld false 1 (.t 22), none, false⟩, [0, 1, 2, 3]), (⟨some 24, .bin .neq (.t 19) (.t 23), none, true⟩, [])]
abbrev i22r7 : List IOper := [⟨some 4, .mv (.c (.b false)), none, false⟩]
abbrev i22r8 : List IOper := [⟨some 25, .bin .add (.t 13) (.c (.i .i64 1)), none, false⟩, ⟨some 13, .mv (.t 25), none, false⟩]
abbrev i22l9 : ICode := (.seq (.reg i22r4) (.seq (.cond (.t 14) .skip (.exit 0)) (.seq (.block 1 (.seq (.reg i22r5) (.seq (.dreg i22r6) (.cond (.t 24) (.seq (.reg i22r7) .ret) .skip)))) (.reg i22r8))))
abbrev i22r10 : List IOper := [⟨some 4, .mv (.c (.b true)), none, false⟩]
abbrev i22c : ICode := (.seq (.reg i22r0) (.seq (.seq (.reg i22r1) (.cond (.t 10) (.seq (.reg i22r2) .ret) .skip)) (.seq (.seq (.reg i22r3) (.block 0 (.loop i22l9))) (.seq (.reg i22r10) .ret))))
def i22 : IFn := { np := 2, N := 26, ct := [10, 14, 24], code := i22c, res := [.t 4] }
theorem i22_eq : compF Try.prog Try.f22 = some i22 := by kernel_rfl
abbrev i23r0 : List IOper := [⟨some 3, .box (.t 0), none, false⟩, ⟨some 6, .new [.i .i64 0, .b false, .i .i64 0, .ns], none, false⟩]
abbrev i23r1 : List IOper := [⟨some 10, .ld true 4 (.t 3), none, false⟩, ⟨some 11, .mv (.t 1), none, false⟩, ⟨some 12, .mv (.t 2), none, false⟩, ⟨some 13, .call (.c (.fn 13 [])) [.t 10, .t 11, .t 12], none, false⟩, ⟨some 9, .mv (.t 13), none, false⟩, ⟨some 14, .ext (.t 9) 0, none, false⟩, ⟨some 15, .ext (.t 9) 1, none, false⟩, ⟨some 7, .new [.i .i64 0, .b false, .i .i64 0, .ns], none, false⟩, ⟨none, .st 4 (.t 7) (.t 14), none, false⟩, ⟨some 8, .mv (.t 15), none, false⟩]
abbrev i23r2 : List IOper := [⟨some 16, .ld true 4 (.t 7), none, false⟩, ⟨none, .st 4 (.t 6) (.t 16), none, false⟩]
abbrev i23c : ICode := (.seq (.reg i23r0) (.seq (.reg i23r1) (.seq (.reg i23r2) .ret)))
def i23 : IFn := { np := 3, N := 17, ct := [], code := i23c, res := [.c 6 true 4] }
theorem i23_eq : compF Try.prog Try.f23 = some i23 := by kernel_rfl
abbrev i24r0 : List IOper := [⟨some 5, .box (.t 0), none, false⟩, ⟨some 10, .new [.i .i64 0, .b false, .i .i64 0, .ns], none, false⟩, ⟨some 11, .mv (.c (.b false)), none, false⟩]
abbrev i24r1 : List IOper := [⟨some 17, .ld true 4 (.t 5), none, false⟩, ⟨some 18, .mv (.t 1), none, false⟩, ⟨some 19, .mv (.t 2), none, false⟩, ⟨some 20, .call (.c (.fn 20 [])) [.t 17, .t 18, .t 19], none, false⟩, ⟨some 16, .mv (.t 20), none, false⟩, ⟨some 21, .ext (.t 16) 0, none, false⟩, ⟨some 22, .ext (.t 16) 1, none, false⟩, ⟨some 23, .ext (.t 16) 2, none, false⟩, ⟨some 24, .ext (.t 16) 3, none, false⟩, ⟨some 12, .new [.i .i64 0, .b false, .i .i64 0, .ns], none, false⟩, ⟨none, .st 4 (.t 12) (.t 21), none, false⟩, ⟨some 13, .mv (.t 22), none, false⟩, ⟨some 14, .mv (.t 23), none, false⟩, ⟨some 15, .mv (.t 24), none, false⟩]
abbrev i24r2 : List (IOper × List Nat) := [(⟨some 25, .ld true 4 (.t 12), none, false⟩, []), (⟨some 26, .mv (.t 15), none, false⟩, [0]), (⟨some 27, .bin .eql (.t 26) (.c (.i .i64 0)), none, false⟩, [0]), (⟨some 28, .mv (.t 27), none, true⟩, [0]), (⟨some 29, .mv (.t 14), (some (28, true)), false⟩, [0]), (⟨some 30, .mv (.t 3), (some (28, true)), false⟩, [0, 4]), (⟨some 31, .eqk false false [.b] (.t 29) (.t 30), (some (28, true)), false⟩, [0]), (⟨some 32, .pick (.t 28) (.t 31) (.c (.b false)), none, false⟩, [0]), (⟨some 33, .mv (.t 32), none, true⟩, [0]), (⟨some 34, .mv (.t 13), (some (33, true)), false⟩, [0]), (⟨some 35, .mv (.t 4), (some (33, true)), false⟩, [0, 9]), (⟨some 36, .call (.c (.fn 22 [])) [.t 34, .t 35], (some (33, true)), false⟩, [0]), (⟨some 37, .pick (.t 33) (.t 36) (.c (.b false)), none, false⟩, [0]), (⟨none, .st 4 (.t 10) (.t 25), none, false⟩, [12]), (⟨some 11, .mv (.t 37), none, false⟩, [])]
abbrev i24c : ICode := (.seq (.reg i24r0) (.seq (.reg i24r1) (.seq (.dreg i24r2) .ret)))
def i24 : IFn := { np := 5, N := 38, ct := [], code := i24c, res := [.c 10 true 4, .t 11] }
theorem i24_eq : compF Try.prog Try.f24 = some i24 := by kernel_rfl
abbrev i25r0 : List IOper := [⟨some 3, .box (.t 0), none, false⟩, ⟨some 6, .mv (.c (.b false)), none, false⟩]
abbrev i25r1 : List IOper := [⟨some 10, .ld true 4 (.t 3), none, false⟩, ⟨some 11, .mv (.t 1), none, false⟩, ⟨some 12, .call (.c (.fn 18 [])) [.t 10, .t 11], none, false⟩, ⟨some 9, .mv (.t 12), none, false⟩, ⟨some 13, .ext (.t 9) 0, none, false⟩, ⟨some 14, .ext (.t 9) 1, none, false⟩, ⟨some 7, .mv (.t 13), none, false⟩, ⟨some 8, .mv (.t 14), none, false⟩]
abbrev i25r2 : List IOper := [⟨some 15, .mv (.t 7), none, false⟩, ⟨some 16, .mv (.t 2), none, false⟩, ⟨some 17, .bin .eql (.t 15) (.t 16), none, false⟩, ⟨some 18, .mv (.t 17), none, true⟩, ⟨some 19, .mv (.t 8), (some (18, true)), false⟩, ⟨some 20, .bin .eql (.t 19) (.c (.i .i64 0)), (some (18, true)), false⟩, ⟨some 21, .pick (.t 18) (.t 20) (.c (.b false)), none, false⟩, ⟨some 6, .mv (.t 21), none, false⟩]
abbrev i25c : ICode := (.seq (.reg i25r0) (.seq (.reg i25r1) (.seq (.reg i25r2) .ret)))
def i25 : IFn := { np := 3, N := 22, ct := [], code := i25c, res := [.t 6] }
theorem i25_eq : compF Try.prog Try.f25 = some i25 := by kernel_rfl
abbrev i27r0 : List IOper := [⟨some 1, .box (.t 0), none, false⟩, ⟨some 2, .mv (.c (.ns)), none, false⟩]
abbrev i27r1 : List IOper := [⟨some 3, .mv (.c (.ns)), none, false⟩]
abbrev i27r2 : List IOper := [⟨some 8, .fa 0 (.t 1), none, false⟩, ⟨some 9, .ld false 1 (.t 8), none, false⟩, ⟨some 10, .i2i .i64 (.t 9), none, false⟩, ⟨some 4, .mv (.t 10), none, false⟩]
abbrev i27r3 : List IOper := [⟨some 5, .mv (.c (.i .i64 0)), none, false⟩]
abbrev i27r4 : List IOper := [⟨some 11, .mv (.t 5), none, false⟩, ⟨some 12, .fa 2 (.t 1), none, false⟩, ⟨some 13, .ld false 1 (.t 12), none, false⟩, ⟨some 14, .lenV (.t 13), none, false⟩, ⟨some 15, .bin .lss (.t 11) (.t 14), none, false⟩, ⟨some 16, .mv (.t 15), none, true⟩, ⟨some 17, .mv (.t 5), (some (16, true)), false⟩, ⟨some 18, .bin .lss (.t 17) (.c (.i .i64 40)), (some (16, true)), false⟩, ⟨some 19, .pick (.t 16) (.t 18) (.c (.b false)), none, true⟩]
abbrev i27r5 : List IOper := [⟨some 22, .fa 2 (.t 1), none, false⟩, ⟨some 23, .ld false 1 (.t 22), none, false⟩, ⟨some 24, .mv (.t 5), none, false⟩, ⟨some 25, .ixaV 3 (.t 23) (.t 24), none, false⟩, ⟨some 26, .fa 2 (.t 25), none, false⟩, ⟨some 27, .ld false 1 (.t 26), none, false⟩, ⟨some 28, .i2i .i64 (.t 27), none, false⟩, ⟨some 6, .mv (.t 28), none, false⟩]
abbrev i27r6 : List IOper := [⟨some 29, .mv (.t 4), none, false⟩, ⟨some 30, .mv (.t 6), none, false⟩, ⟨some 31, .bin .add (.t 29) (.t 30), none, false⟩, ⟨some 32, .bin .add (.t 31) (.c (.i .i64 65536)), none, false⟩, ⟨some 33, .bin .rem (.t 32) (.c (.i .i64 65536)), none, false⟩, ⟨some 7, .mv (.t 33), none, false⟩]
abbrev i27r7 : List IOper := [⟨some 34, .mv (.t 6), none, false⟩, ⟨some 35, .bin .gtr (.t 34) (.c (.i .i64 0)), none, true⟩]
abbrev i27r8 : List IOper := [⟨some 36, .mv (.t 7), none, false⟩, ⟨some 4, .mv (.t 36), none, false⟩]
abbrev i27r9 : List IOper := [⟨some 37, .mv (.t 3), none, false⟩, ⟨some 38, .mv (.t 7), none, false⟩, ⟨some 39, .bsl [.i .i64 0] 1 [(0, 1, .t 38)], none, false⟩, ⟨some 40, .app 1 8 [.i .i64 0] (.t 37) (.t 39), none, false⟩, ⟨some 3, .mv (.t 40), none, false⟩]
abbrev i27r10 : List IOper := [⟨some 20, .mv (.t 5), none, false⟩, ⟨some 21, .bin .add (.t 20) (.c (.i .i64 1)), none, false⟩, ⟨some 5, .mv (.t 21), none, false⟩]
abbrev i27l11 : ICode := (.seq (.seq (.reg i27r4) (.cond (.t 19) .skip (.exit 0))) (.seq (.block 1 (.seq (.reg i27r5) (.seq (.reg i27r6) (.seq (.seq (.reg i27r7) (.cond (.t 35) (.reg i27r8) .skip)) (.reg i27r9))))) (.reg i27r10)))
abbrev i27r12 : List IOper := [⟨some 41, .mv (.t 3), none, false⟩, ⟨some 2, .mv (.t 41), none, false⟩]
abbrev i27c : ICode := (.seq (.reg i27r0) (.seq (.reg i27r1) (.seq (.reg i27r2) (.seq (.seq (.reg i27r3) (.block 0 (.loop i27l11))) (.seq (.reg i27r12) .ret)))))
def i27 : IFn := { np := 1, N := 42, ct := [19, 35], code := i27c, res := [.t 2] }
theorem i27_eq : compF Try.prog Try.f27 = some i27 := by kernel_rfl
abbrev i49r0 : List IOper := [⟨some 6, .mv (.c (.b false)), none, false⟩]
abbrev i49r1 : List IOper := [⟨some 7, .mv (.t 2), none, false⟩, ⟨some 8, .mv (.t 0), none, false⟩, ⟨some 9, .bin .geq (.t 7) (.t 8), none, false⟩, ⟨some 10, .mv (.t 9), none, true⟩, ⟨some 11, .mv (.t 2), (some (10, true)), false⟩, ⟨some 12, .mv (.t 1), (some (10, true)), false⟩, ⟨some 13, .bin .leq (.t 11) (.t 12), (some (10, true)), false⟩, ⟨some 14, .pick (.t 10) (.t 13) (.c (.b false)), none, false⟩, ⟨some 6, .mv (.t 14), none, false⟩]
abbrev i49c : ICode := (.seq (.reg i49r0) (.seq (.reg i49r1) .ret))
def i49 : IFn := { np := 3, N := 15, ct := [], code := i49c, res := [.t 6] }
theorem i49_eq : compF Try.prog Try.f49 = some i49 := by kernel_rfl
abbrev i50r0 : List IOper := [⟨some 2, .box (.t 0), none, false⟩, ⟨some 4, .mv (.c (.b false)), none, false⟩]
abbrev i50r1 : List IOper := [⟨some 5, .fa 0 (.t 2), none, false⟩, ⟨some 6, .ld false 1 (.t 5), none, false⟩, ⟨some 7, .call (.c (.fn 49 [])) [.c (.i .i64 0), .c (.i .i64 65535), .t 6], none, false⟩, ⟨some 8, .not (.t 7), none, false⟩, ⟨some 9, .mv (.t 8), none, true⟩, ⟨some 10, .mv (.t 1), (some (9, false)), false⟩, ⟨some 11, .fa 1 (.t 2), (some (9, false)), false⟩, ⟨some 12, .ld false 1 (.t 11), (some (9, false)), false⟩, ⟨some 13, .call (.c (.fn 49 [])) [.c (.i .i64 0), .t 10, .t 12], (some (9, false)), false⟩, ⟨some 14, .not (.t 13), (some (9, false)), false⟩, ⟨some 15, .pick (.t 9) (.c (.b true)) (.t 14), none, false⟩, ⟨some 16, .mv (.t 15), none, true⟩, ⟨some 17, .fa 3 (.t 2), (some (16, false)), false⟩, ⟨some 18, .ld false 1 (.t 17), (some (16, false)), false⟩, ⟨some 19, .call (.c (.fn 49 [])) [.c (.i .i64 0), .c (.i .i64 6), .t 18], (some (16, false)), false⟩, ⟨some 20, .not (.t 19), (some (16, false)), false⟩, ⟨some 21, .pick (.t 16) (.c (.b true)) (.t 20), none, true⟩]
abbrev i50r2 : List IOper := [⟨some 4, .mv (.c (.b false)), none, false⟩]
abbrev i50r3 : List IOper := [⟨some 22, .fa 3 (.t 2), none, false⟩, ⟨some 23, .ld false 1 (.t 22), none, false⟩, ⟨some 24, .bin .eql (.t 23) (.c (.i .i64 0)), none, false⟩, ⟨some 25, .mv (.t 24), none, true⟩, ⟨some 26, .fa 2 (.t 2), (some (25, true)), false⟩, ⟨some 27, .ld false 1 (.t 26), (some (25, true)), false⟩, ⟨some 28, .bin .eql (.t 27) (.c (.i .i64 0)), (some (25, true)), false⟩, ⟨some 29, .pick (.t 25) (.t 28) (.c (.b false)), none, false⟩, ⟨some 30, .mv (.t 29), none, true⟩, ⟨some 31, .fa 3 (.t 2), (some (30, false)), false⟩, ⟨some 32, .ld false 1 (.t 31), (some (30, false)), false⟩, ⟨some 33, .bin .gtr (.t 32) (.c (.i .i64 0)), (some (30, false)), false⟩, ⟨some 34, .mv (.t 33), (some (30, false)), true⟩, ⟨some 35, .fa 1 (.t 2), (some (34, true)), false⟩, ⟨some 36, .ld false 1 (.t 35), (some (34, true)), false⟩, ⟨some 37, .mv (.t 1), (some (34, true)), false⟩, ⟨some 38, .fa 2 (.t 2), (some (34, true)), false⟩, ⟨some 39, .ld false 1 (.t 38), (some (34, true)), false⟩, ⟨some 40, .call (.c (.fn 49 [])) [.t 36, .t 37, .t 39], (some (34, true)), false⟩, ⟨some 41, .pick (.t 34) (.t 40) (.c (.b false)), (some (30, false)), false⟩, ⟨some 42, .pick (.t 30) (.c (.b true)) (.t 41), none, false⟩, ⟨some 4, .mv (.t 42), none, false⟩]
abbrev i50c : ICode := (.seq (.reg i50r0) (.seq (.seq (.reg i50r1) (.cond (.t 21) (.seq (.reg i50r2) .ret) .skip)) (.seq (.reg i50r3) .ret)))
def i50 : IFn := { np := 2, N := 43, ct := [21], code := i50c, res := [.t 4] }
theorem i50_eq : compF Try.prog Try.f50 = some i50 := by kernel_rfl
abbrev i51r0 : List IOper := [⟨some 4, .mv (.c (.i .i64 0)), none, false⟩]
abbrev i51r1 : List IOper := [⟨some 8, .mv (.t 0), none, false⟩, ⟨some 9, .mv (.t 1), none, false⟩, ⟨some 10, .call (.c (.fn 89 [])) [.t 8, .t 9, .c (.i .i64 16)], none, false⟩, ⟨some 7, .mv (.t 10), none, false⟩, ⟨some 11, .ext (.t 7) 0, none, false⟩, ⟨some 12, .ext (.t 7) 1, none, false⟩, ⟨some 5, .mv (.t 11), none, false⟩, ⟨some 6, .mv (.t 12), none, false⟩]
abbrev i51r2 : List IOper := [⟨some 13, .mv (.t 5), none, false⟩, ⟨some 4, .mv (.t 13), none, false⟩]
abbrev i51c : ICode := (.seq (.reg i51r0) (.seq (.reg i51r1) (.seq (.reg i51r2) .ret)))
def i51 : IFn := { np := 2, N := 14, ct := [], code := i51c, res := [.t 4] }
theorem i51_eq : compF Try.prog Try.f51 = some i51 := by kernel_rfl
abbrev i52r0 : List IOper := [⟨some 4, .mv (.c (.b false)), none, false⟩]
abbrev i52r1 : List IOper := [⟨some 5, .mv (.t 0), none, false⟩, ⟨some 6, .mv (.t 1), none, false⟩, ⟨some 7, .bin .geq (.t 5) (.t 6), none, false⟩, ⟨some 8, .mv (.t 7), none, true⟩, ⟨some 9, .mv (.t 0), (some (8, true)), false⟩, ⟨some 10, .bin .leq (.t 9) (.c (.i .i64 1099511627776)), (some (8, true)), false⟩, ⟨some 11, .pick (.t 8) (.t 10) (.c (.b false)), none, false⟩, ⟨some 4, .mv (.t 11), none, false⟩]
abbrev i52c : ICode := (.seq (.reg i52r0) (.seq (.reg i52r1) .ret))
def i52 : IFn := { np := 2, N := 12, ct := [], code := i52c, res := [.t 4] }
theorem i52_eq : compF Try.prog Try.f52 = some i52 := by kernel_rfl
abbrev i53r0 : List IOper := [⟨some 6, .mv (.c (.i .i64 0)), none, false⟩]
abbrev i53r1 : List IOper := [⟨some 8, .mv (.t 0), none, false⟩, ⟨some 9, .mv (.t 1), none, false⟩, ⟨some 10, .bin .sub (.t 8) (.t 9), none, false⟩, ⟨some 7, .mv (.t 10), none, false⟩]
abbrev i53r2 : List IOper := [⟨some 11, .mv (.t 7), none, false⟩, ⟨some 12, .mv (.t 2), none, false⟩, ⟨some 13, .bin .sub (.t 12) (.c (.i .i64 1)), none, false⟩, ⟨some 14, .call (.c (.fn 90 [])) [.t 13], none, false⟩, ⟨some 15, .neg (.t 14), none, false⟩, ⟨some 16, .bin .lss (.t 11) (.t 15), none, true⟩]
abbrev i53r3 : List IOper := [⟨some 17, .mv (.t 7), none, false⟩, ⟨some 18, .mv (.t 2), none, false⟩, ⟨some 19, .call (.c (.fn 90 [])) [.t 18], none, false⟩, ⟨some 20, .bin .add (.t 17) (.t 19), none, false⟩, ⟨some 7, .mv (.t 20), none, false⟩]
abbrev i53r4 : List IOper := [⟨some 21, .mv (.t 7), none, false⟩, ⟨some 22, .mv (.t 2), none, false⟩, ⟨some 23, .bin .sub (.t 22) (.c (.i .i64 1)), none, false⟩, ⟨some 24, .call (.c (.fn 90 [])) [.t 23], none, false⟩, ⟨some 25, .bin .geq (.t 21) (.t 24), none, true⟩]
abbrev i53r5 : List IOper := [⟨some 26, .mv (.t 7), none, false⟩, ⟨some 27, .mv (.t 2), none, false⟩, ⟨some 28, .call (.c (.fn 90 [])) [.t 27], none, false⟩, ⟨some 29, .bin .sub (.t 26) (.t 28), none, false⟩, ⟨some 7, .mv (.t 29), none, false⟩]
abbrev i53r6 : List IOper := [⟨some 30, .mv (.t 7), none, false⟩, ⟨some 6, .mv (.t 30), none, false⟩]
abbrev i53c : ICode := (.seq (.reg i53r0) (.seq (.reg i53r1) (.seq (.seq (.reg i53r2) (.cond (.t 16) (.reg i53r3) .skip)) (.seq (.seq (.reg i53r4) (.cond (.t 25) (.reg i53r5) .skip)) (.seq (.reg i53r6) .ret)))))
def i53 : IFn := { np := 3, N := 31, ct := [16, 25], code := i53c, res := [.t 6] }
theorem i53_eq : compF Try.prog Try.f53 = some i53 := by kernel_rfl
abbrev i54r0 : List IOper := [⟨some 2, .box (.t 0), none, false⟩, ⟨some 4, .mv (.c (.i .i64 0)), none, false⟩]
abbrev i54r1 : List IOper := [⟨some 6, .ld true 4 (.t 2), none, false⟩, ⟨some 7, .call (.c (.fn 11 [])) [.t 6], none, false⟩, ⟨some 5, .mv (.t 7), none, false⟩]
abbrev i54r2 : List IOper := [⟨some 8, .mv (.t 5), none, false⟩, ⟨some 9, .bin .neq (.t 8) (.c (.i .i64 0)), none, true⟩]
abbrev i54r3 : List IOper := [⟨some 10, .mv (.t 5), none, false⟩, ⟨some 4, .mv (.t 10), none, false⟩]
abbrev i54r4 : List IOper := [⟨some 11, .fa 0 (.t 2), none, false⟩, ⟨some 12, .ld false 1 (.t 11), none, false⟩, ⟨some 13, .mv (.t 1), none, false⟩, ⟨some 14, .call (.c (.fn 49 [])) [.t 12, .c (.i .i64 1099511627776), .t 13], none, false⟩, ⟨some 15, .not (.t 14), none, true⟩]
abbrev i54r5 : List IOper := [⟨some 4, .mv (.c (.i .i64 2)), none, false⟩]
abbrev i54r6 : List IOper := [⟨some 4, .mv (.c (.i .i64 0)), none, false⟩]
abbrev i54c : ICode := (.seq (.reg i54r0) (.seq (.seq (.reg i54r1) (.seq (.reg i54r2) (.cond (.t 9) (.seq (.reg i54r3) .ret) .skip))) (.seq (.seq (.reg i54r4) (.cond (.t 15) (.seq (.reg i54r5) .ret) .skip)) (.seq (.reg i54r6) .ret))))
def i54 : IFn := { np := 2, N := 16, ct := [9, 15], code := i54c, res := [.t 4] }
theorem i54_eq : compF Try.prog Try.f54 = some i54 := by kernel_rfl
abbrev i55r0 : List IOper := [⟨some 4, .box (.t 0), none, false⟩, ⟨some 5, .mv (.c (.b false)), none, false⟩]
abbrev i55r1 : List (IOper × List Nat) := [(⟨some 6, .fa 0 (.t 4), none, false⟩, []), (⟨some 7, .ld false 1 (.t 6), none, false⟩, []), (⟨some 8, .ld false 1 (.t 1), none, false⟩, [0, 1]), (⟨some 9, .bin .eql (.t 7) (.t 8), none, false⟩, []), (⟨some 10, .mv (.t 9), none, true⟩, []), (⟨some 11, .fa 0 (.t 4), (some (10, false)), false⟩, []), (⟨some 12, .ld false 1 (.t 11), (some (10, false)), false⟩, []), (⟨some 13, .ld false 1 (.t 2), (some (10, false)), false⟩, [5, 6]), (⟨some 14, .call (.c (.fn 51 [])) [.t 12, .t 13], (some (10, false)), false⟩, []), (⟨some 15, .ld false 1 (.t 3), (some (10, false)), false⟩, [5, 6, 7, 8]), (⟨some 16, .mx (.t 15) [.c (.i .i64 0)], (some (10, false)), false⟩, [5, 6, 7, 8]), (⟨some 17, .bin .sub (.t 14) (.t 16), (some (10, false)), false⟩, []), (⟨some 18, .bin .lss (.t 17) (.c (.i .i64 (-1000))), (some (10, false)), false⟩, []), (⟨some 19, .pick (.t 10) (.c (.b true)) (.t 18), none, false⟩, []), (⟨some 5, .mv (.t 19), none, false⟩, [])]
abbrev i55c : ICode := (.seq (.reg i55r0) (.seq (.dreg i55r1) .ret))
def i55 : IFn := { np := 4, N := 20, ct := [], code := i55c, res := [.t 5] }
theorem i55_eq : compF Try.prog Try.f55 = some i55 := by kernel_rfl
abbrev i56r0 : List IOper := [⟨some 4, .mv (.c (.ns)), none, false⟩]
abbrev i56r1 : List IOper := [⟨some 8, .mv (.t 0), none, false⟩, ⟨some 9, .mv (.t 1), none, false⟩, ⟨some 10, .call (.c (.fn 64 [])) [.t 8, .t 9], none, false⟩, ⟨some 5, .mv (.t 10), none, false⟩]
abbrev i56r2 : List IOper := [⟨some 11, .mv (.t 5), none, false⟩, ⟨some 12, .bin .eql (.t 11) (.c (.i .i64 (-1))), none, true⟩]
abbrev i56r3 : List IOper := [⟨some 13, .mv (.t 0), none, false⟩, ⟨some 4, .mv (.t 13), none, false⟩]
abbrev i56r4 : List IOper := [⟨some 14, .mv (.t 5), none, false⟩, ⟨some 15, .bin .add (.t 14) (.c (.i .i64 1)), none, false⟩, ⟨some 6, .mv (.t 15), none, false⟩]
abbrev i56r5 : List IOper := [⟨some 16, .mv (.t 6), none, false⟩, ⟨some 17, .mv (.t 0), none, false⟩, ⟨some 18, .lenV (.t 17), none, false⟩, ⟨some 19, .bin .lss (.t 16) (.t 18), none, true⟩]
abbrev i56r6 : List IOper := [⟨some 22, .mv (.t 0), none, false⟩, ⟨some 23, .mv (.t 6), none, false⟩, ⟨some 24, .ixaV 4 (.t 22) (.t 23), none, false⟩, ⟨some 25, .ld true 4 (.t 24), none, false⟩, ⟨some 7, .new [.i .i64 0, .i .i64 0, .i .i64 0, .i .i64 0], none, false⟩, ⟨none, .st 4 (.t 7) (.t 25), none, false⟩]
abbrev i56r7 : List IOper := [⟨some 26, .mv (.t 1), none, false⟩, ⟨some 27, .ld true 4 (.t 7), none, false⟩, ⟨some 28, .call (.t 26) [.t 27], none, false⟩, ⟨some 29, .not (.t 28), none, true⟩]
abbrev i56r8 : List IOper := [⟨some 30, .mv (.t 0), none, false⟩, ⟨some 31, .mv (.t 5), none, false⟩, ⟨some 32, .ld true 4 (.t 7), none, false⟩, ⟨some 33, .ixaV 4 (.t 30) (.t 31), none, false⟩, ⟨none, .st 4 (.t 33) (.t 32), none, false⟩]
abbrev i56r9 : List IOper := [⟨some 34, .mv (.t 5), none, false⟩, ⟨some 35, .bin .add (.t 34) (.c (.i .i64 1)), none, false⟩, ⟨some 5, .mv (.t 35), none, false⟩]
abbrev i56r10 : List IOper := [⟨some 20, .mv (.t 6), none, false⟩, ⟨some 21, .bin .add (.t 20) (.c (.i .i64 1)), none, false⟩, ⟨some 6, .mv (.t 21), none, false⟩]
abbrev i56l11 : ICode := (.seq (.seq (.reg i56r5) (.cond (.t 19) .skip (.exit 0))) (.seq (.block 1 (.seq (.reg i56r6) (.seq (.reg i56r7) (.cond (.t 29) (.seq (.reg i56r8) (.reg i56r9)) .skip)))) (.reg i56r10)))
abbrev i56r12 : List IOper := [⟨some 36, .mv (.t 0), none, false⟩, ⟨some 37, .mv (.t 5), none, false⟩, ⟨some 38, .slV 4 (.t 36) (some (.t 37)) none none, none, false⟩, ⟨none, .clr 4 [.i .i64 0, .i .i64 0, .i .i64 0, .i .i64 0] (.t 38), none, false⟩]
abbrev i56r13 : List IOper := [⟨some 39, .mv (.t 0), none, false⟩, ⟨some 40, .mv (.t 5), none, false⟩, ⟨some 41, .slV 4 (.t 39) none (some (.t 40)) none, none, false⟩, ⟨some 4, .mv (.t 41), none, false⟩]
abbrev i56c : ICode := (.seq (.reg i56r0) (.seq (.reg i56r1) (.seq (.seq (.reg i56r2) (.cond (.t 12) (.seq (.reg i56r3) .ret) .skip)) (.seq (.seq (.reg i56r4) (.block 0 (.loop i56l11))) (.seq (.reg i56r12) (.seq (.reg i56r13) .ret))))))
def i56 : IFn := { np := 2, N := 42, ct := [12, 19, 29], code := i56c, res := [.t 4] }
theorem i56_eq : compF Try.prog Try.f56 = some i56 := by kernel_rfl
abbrev i57r0 : List IOper := [⟨some 2, .mv (.c (.ns)), none, false⟩]
abbrev i57r1 : List IOper := [⟨some 3, .mv (.t 0), none, false⟩, ⟨some 4, .eqn false 1 (.t 3) (.c (.ns)), none, true⟩]
abbrev i57r2 : List IOper := [⟨some 2, .mv (.c (.ns)), none, false⟩]
abbrev i57r3 : List IOper := [⟨some 5, .bsl [] 0 [], none, false⟩, ⟨some 6, .mv (.t 0), none, false⟩, ⟨some 7, .app 4 32 [.i .i64 0, .i .i64 0, .i .i64 0, .i .i64 0] (.t 5) (.t 6), none, false⟩, ⟨some 2, .mv (.t 7), none, false⟩]
abbrev i57c : ICode := (.seq (.reg i57r0) (.seq (.seq (.reg i57r1) (.cond (.t 4) (.seq (.reg i57r2) .ret) .skip)) (.seq (.reg i57r3) .ret)))
def i57 : IFn := { np := 1, N := 8, ct := [4], code := i57c, res := [.t 2] }
theorem i57_eq : compF Try.prog Try.f57 = some i57 := by kernel_rfl
abbrev i58r0 : List IOper := [⟨some 2, .box (.t 0), none, false⟩, ⟨some 3, .box (.t 1), none, false⟩, ⟨some 4, .mv (.c (.nf)), none, false⟩]
abbrev i58r1 : List IOper := [⟨some 5, .mkf 91 [.t 3, .t 2], none, false⟩, ⟨some 4, .mv (.t 5), none, false⟩]
abbrev i58c : ICode := (.seq (.reg i58r0) (.seq (.reg i58r1) .ret))
def i58 : IFn := { np := 2, N := 6, ct := [], code := i58c, res := [.t 4] }
theorem i58_eq : compF Try.prog Try.f58 = some i58 := by kernel_rfl
abbrev i60r0 : List IOper := [⟨some 2, .box (.t 0), none, false⟩, ⟨some 4, .mv (.c (.i .i64 0)), none, false⟩]
abbrev i60r1 : List IOper := [⟨some 5, .ld true 4 (.t 2), none, false⟩, ⟨some 6, .fa 0 (.t 2), none, false⟩, ⟨some 7, .ld false 1 (.t 6), none, false⟩, ⟨some 8, .fa 1 (.t 2), none, false⟩, ⟨some 9, .ld false 1 (.t 8), none, false⟩, ⟨some 10, .build [.i .i64 0, .i .i64 0, .i .i64 0, .i .i64 0] [(0, 1, .t 7), (1, 1, .t 9)], none, false⟩, ⟨some 11, .eqk false true [.i, .i, .i, .i] (.t 5) (.t 10), none, true⟩]
abbrev i60r2 : List IOper := [⟨some 12, .fa 1 (.t 2), none, false⟩, ⟨some 13, .ld false 1 (.t 12), none, false⟩, ⟨some 4, .mv (.t 13), none, false⟩]
abbrev i60r3 : List (IOper × List Nat) := [(⟨some 14, .fa 2 (.t 2), none, false⟩, []), (⟨some 15, .ld false 1 (.t 14), none, false⟩, []), (⟨some 16, .mv (.t 1), none, false⟩, [0, 1]), (⟨some 17, .fa 3 (.t 2), none, false⟩, [0, 1, 2]), (⟨some 18, .ld false 1 (.t 17), none, false⟩, [0, 1, 2]), (⟨some 19, .bin .sub (.t 18) (.c (.i .i64 1)), none, false⟩, [0, 1, 2]), (⟨some 20, .bin .shl (.t 16) (.t 19), none, false⟩, [0, 1]), (⟨some 21, .mn (.c (.i .i64 1000)) [.t 20], none, false⟩, [0, 1]), (⟨some 22, .bin .add (.t 15) (.t 21), none, false⟩, []), (⟨some 4, .mv (.t 22), none, false⟩, [])]
abbrev i60c : ICode := (.seq (.reg i60r0) (.seq (.seq (.reg i60r1) (.cond (.t 11) (.seq (.reg i60r2) .ret) .skip)) (.seq (.dreg i60r3) .ret)))
def i60 : IFn := { np := 2, N := 23, ct := [11], code := i60c, res := [.t 4] }
theorem i60_eq : compF Try.prog Try.f60 = some i60 := by kernel_rfl
abbrev i61r0 : List IOper := [⟨some 2, .box (.t 0), none, false⟩, ⟨some 4, .mv (.c (.i .i64 0)), none, false⟩]
abbrev i61r1 : List IOper := [⟨some 5, .fa 3 (.t 2), none, false⟩, ⟨some 6, .ld false 1 (.t 5), none, false⟩, ⟨some 7, .bin .lss (.t 6) (.c (.i .i64 6)), none, true⟩]
abbrev i61r2 : List IOper := [⟨some 8, .fa 1 (.t 2), none, false⟩, ⟨some 9, .ld false 1 (.t 8), none, false⟩, ⟨some 10, .bin .add (.t 9) (.c (.i .i64 2000)), none, false⟩, ⟨some 4, .mv (.t 10), none, false⟩]
abbrev i61r3 : List (IOper × List Nat) := [(⟨some 11, .fa 1 (.t 2), none, false⟩, []), (⟨some 12, .ld false 1 (.t 11), none, false⟩, []), (⟨some 13, .bin .add (.t 12) (.c (.i .i64 2000)), none, false⟩, []), (⟨some 14, .ld true 4 (.t 2), none, false⟩, [0, 1, 2]), (⟨some 15, .mv (.t 1), none, false⟩, [0, 1, 2, 3]), (⟨some 16, .call (.c (.fn 60 [])) [.t 14, .t 15], none, false⟩, [0, 1, 2]), (⟨some 17, .mn (.t 13) [.t 16], none, false⟩, []), (⟨some 4, .mv (.t 17), none, false⟩, [])]
abbrev i61c : ICode := (.seq (.reg i61r0) (.seq (.seq (.reg i61r1) (.cond (.t 7) (.seq (.reg i61r2) .ret) .skip)) (.seq (.dreg i61r3) .ret)))
def i61 : IFn := { np := 2, N := 18, ct := [7], code := i61c, res := [.t 4] }
theorem i61_eq : compF Try.prog Try.f61 = some i61 := by kernel_rfl
abbrev i62r0 : List IOper := [⟨some 2, .box (.t 0), none, false⟩, ⟨some 4, .mv (.c (.i .i64 0)), none, false⟩]
abbrev i62r1 : List IOper := [⟨some 7, .fa 3 (.t 2), none, false⟩, ⟨some 8, .ld false 1 (.t 7), none, false⟩, ⟨some 9, .bin .eql (.t 8) (.c (.i .i64 0)), none, true⟩]
abbrev i62r2 : List IOper := [⟨some 10, .fa 1 (.t 2), none, false⟩, ⟨some 11, .ld false 1 (.t 10), none, false⟩, ⟨some 4, .mv (.t 11), none, false⟩]
abbrev i62r3 : List IOper := [⟨some 12, .mv (.t 1), none, false⟩, ⟨some 5, .mv (.t 12), none, false⟩]
abbrev i62r4 : List IOper := [⟨some 6, .mv (.c (.i .i64 1)), none, false⟩]
abbrev i62r5 : List IOper := [⟨some 13, .mv (.t 6), none, false⟩, ⟨some 14, .fa 3 (.t 2), none, false⟩, ⟨some 15, .ld false 1 (.t 14), none, false⟩, ⟨some 16, .bin .lss (.t 13) (.t 15), none, true⟩]
abbrev i62r6 : List IOper := [⟨some 19, .mv (.t 5), none, false⟩, ⟨some 20, .bin .mul (.c (.i .i64 2)) (.t 19), none, false⟩, ⟨some 5, .mv (.t 20), none, false⟩]
abbrev i62r7 : List IOper := [⟨some 17, .mv (.t 6), none, false⟩, ⟨some 18, .bin .add (.t 17) (.c (.i .i64 1)), none, false⟩, ⟨some 6, .mv (.t 18), none, false⟩]
abbrev i62l8 : ICode := (.seq (.seq (.reg i62r5) (.cond (.t 16) .skip (.exit 0))) (.seq (.block 1 (.reg i62r6)) (.reg i62r7)))
abbrev i62r9 : List IOper := [⟨some 21, .fa 2 (.t 2), none, false⟩, ⟨some 22, .ld false 1 (.t 21), none, false⟩, ⟨some 23, .mv (.t 5), none, false⟩, ⟨some 24, .mn (.c (.i .i64 1000)) [.t 23], none, false⟩, ⟨some 25, .bin .add (.t 22) (.t 24), none, false⟩, ⟨some 4, .mv (.t 25), none, false⟩]
abbrev i62c : ICode := (.seq (.reg i62r0) (.seq (.seq (.reg i62r1) (.cond (.t 9) (.seq (.reg i62r2) .ret) .skip)) (.seq (.reg i62r3) (.seq (.seq (.reg i62r4) (.block 0 (.loop i62l8))) (.seq (.reg i62r9) .ret)))))
def i62 : IFn := { np := 2, N := 26, ct := [9, 16], code := i62c, res := [.t 4] }
theorem i62_eq : compF Try.prog Try.f62 = some i62 := by kernel_rfl
abbrev i64r0 : List IOper := [⟨some 4, .mv (.c (.i .i64 0)), none, false⟩]
abbrev i64r1 : List IOper := [⟨some 6, .mv (.t 0), none, false⟩, ⟨some 7, .lenV (.t 6), none, false⟩, ⟨some 8, .mv (.c (.i .i64 0)), none, false⟩]
abbrev i64r2 : List IOper := [⟨some 9, .bin .lss (.t 8) (.t 7), none, true⟩]
abbrev i64r3 : List IOper := [⟨some 10, .mv (.t 8), none, false⟩, ⟨some 5, .mv (.t 10), none, false⟩]
abbrev i64r4 : List IOper := [⟨some 11, .mv (.t 1), none, false⟩, ⟨some 12, .mv (.t 0), none, false⟩, ⟨some 13, .mv (.t 5), none, false⟩, ⟨some 14, .ixaV 4 (.t 12) (.t 13), none, false⟩, ⟨some 15, .ld true 4 (.t 14), none, false⟩, ⟨some 16, .call (.t 11) [.t 15], none, true⟩]
abbrev i64r5 : List IOper := [⟨some 17, .mv (.t 5), none, false⟩, ⟨some 4, .mv (.t 17), none, false⟩]
abbrev i64r6 : List IOper := [⟨some 18, .bin .add (.t 8) (.c (.i .i64 1)), none, false⟩, ⟨some 8, .mv (.t 18), none, false⟩]
abbrev i64l7 : ICode := (.seq (.reg i64r2) (.seq (.cond (.t 9) .skip (.exit 0)) (.seq (.block 1 (.seq (.reg i64r3) (.seq (.reg i64r4) (.cond (.t 16) (.seq (.reg i64r5) .ret) .skip)))) (.reg i64r6))))
abbrev i64r8 : List IOper := [⟨some 4, .mv (.c (.i .i64 (-1))), none, false⟩]
abbrev i64c : ICode := (.seq (.reg i64r0) (.seq (.seq (.reg i64r1) (.block 0 (.loop i64l7))) (.seq (.reg i64r8) .ret)))
def i64 : IFn := { np := 2, N := 19, ct := [9, 16], code := i64c, res := [.t 4] }
theorem i64_eq : compF Try.prog Try.f64 = some i64 := by kernel_rfl
abbrev i89r0 : List IOper := [⟨some 6, .mv (.c (.i .i64 0)), none, false⟩, ⟨some 7, .mv (.c (.i .i64 0)), none, false⟩]
abbrev i89r1 : List IOper := [⟨some 9, .mv (.t 2), none, false⟩, ⟨some 10, .bin .lss (.t 9) (.c (.i .i64 1)), none, false⟩, ⟨some 11, .mv (.t 10), none, true⟩, ⟨some 12, .mv (.t 2), (some (11, false)), false⟩, ⟨some 13, .bin .gtr (.t 12) (.c (.i .i64 32)), (some (11, false)), false⟩, ⟨some 14, .pick (.t 11) (.c (.b true)) (.t 13), none, false⟩, ⟨some 15, .mv (.t 14), none, true⟩, ⟨some 16, .mv (.t 0), (some (15, false)), false⟩, ⟨some 17, .bin .lss (.t 16) (.c (.i .i64 0)), (some (15, false)), false⟩, ⟨some 18, .pick (.t 15) (.c (.b true)) (.t 17), none, false⟩, ⟨some 19, .mv (.t 18), none, true⟩, ⟨some 20, .mv (.t 0), (some (19, false)), false⟩, ⟨some 21, .mv (.t 2), (some (19, false)), false⟩, ⟨some 22, .bin .shr (.t 20) (.t 21), (some (19, false)), false⟩, ⟨some 23, .bin .neq (.t 22) (.c (.i .i64 0)), (some (19, false)), false⟩, ⟨some 24, .pick (.t 19) (.c (.b true)) (.t 23), none, false⟩, ⟨some 25, .mv (.t 24), none, true⟩, ⟨some 26, .mv (.t 1), (some (25, false)), false⟩, ⟨some 27, .bin .lss (.t 26) (.c (.i .i64 0)), (some (25, false)), false⟩, ⟨some 28, .pick (.t 25) (.c (.b true)) (.t 27), none, false⟩, ⟨some 29, .mv (.t 28), none, true⟩, ⟨some 30, .mv (.t 1), (some (29, false)), false⟩, ⟨some 31, .mv (.t 2), (some (29, false)), false⟩, ⟨some 32, .bin .shr (.t 30) (.t 31), (some (29, false)), false⟩, ⟨some 33, .bin .neq (.t 32) (.c (.i .i64 0)), (some (29, false)), false⟩, ⟨some 34, .pick (.t 29) (.c (.b true)) (.t 33), none, true⟩]
abbrev i89r2 : List IOper := [⟨some 6, .mv (.c (.i .i64 0)), none, false⟩, ⟨some 7, .mv (.c (.i .i64 2)), none, false⟩]
abbrev i89r3 : List IOper := [⟨some 35, .mv (.t 0), none, false⟩, ⟨some 36, .mv (.t 1), none, false⟩, ⟨some 37, .bin .sub (.t 35) (.t 36), none, false⟩, ⟨some 38, .mv (.t 2), none, false⟩, ⟨some 39, .bin .shl (.c (.i .i64 1)) (.t 38), none, false⟩, ⟨some 40, .bin .sub (.t 39) (.c (.i .i64 1)), none, false⟩, ⟨some 41, .bin .and (.t 37) (.t 40), none, false⟩, ⟨some 8, .mv (.t 41), none, false⟩]
abbrev i89r4 : List IOper := [⟨some 42, .mv (.t 8), none, false⟩, ⟨some 43, .mv (.t 2), none, false⟩, ⟨some 44, .bin .sub (.t 43) (.c (.i .i64 1)), none, false⟩, ⟨some 45, .bin .shr (.t 42) (.t 44), none, false⟩, ⟨some 46, .bin .eql (.t 45) (.c (.i .i64 1)), none, true⟩]
abbrev i89r5 : List IOper := [⟨some 47, .mv (.t 8), none, false⟩, ⟨some 48, .mv (.t 2), none, false⟩, ⟨some 49, .bin .shl (.c (.i .i64 1)) (.t 48), none, false⟩, ⟨some 50, .bin .sub (.t 47) (.t 49), none, false⟩, ⟨some 8, .mv (.t 50), none, false⟩]
abbrev i89r6 : List IOper := [⟨some 51, .mv (.t 8), none, false⟩, ⟨some 6, .mv (.t 51), none, false⟩, ⟨some 7, .mv (.c (.i .i64 0)), none, false⟩]
abbrev i89c : ICode := (.seq (.reg i89r0) (.seq (.seq (.reg i89r1) (.cond (.t 34) (.seq (.reg i89r2) .ret) .skip)) (.seq (.reg i89r3) (.seq (.seq (.reg i89r4) (.cond (.t 46) (.reg i89r5) .skip)) (.seq (.reg i89r6) .ret)))))
def i89 : IFn := { np := 3, N := 52, ct := [34, 46], code := i89c, res := [.t 6, .t 7] }
theorem i89_eq : compF Try.prog Try.f89 = some i89 := by kernel_rfl
abbrev i90r0 : List IOper := [⟨some 2, .mv (.c (.i .i64 0)), none, false⟩]
abbrev i90r1 : List IOper := [⟨some 3, .mv (.c (.i .i64 1)), none, false⟩]
abbrev i90r2 : List IOper := [⟨some 4, .mv (.c (.i .i64 0)), none, false⟩]
abbrev i90r3 : List IOper := [⟨some 5, .mv (.t 4), none, false⟩, ⟨some 6, .mv (.t 0), none, false⟩, ⟨some 7, .bin .lss (.t 5) (.t 6), none, true⟩]
abbrev i90r4 : List IOper := [⟨some 10, .mv (.t 3), none, false⟩, ⟨some 11, .bin .mul (.c (.i .i64 2)) (.t 10), none, false⟩, ⟨some 3, .mv (.t 11), none, false⟩]
abbrev i90r5 : List IOper := [⟨some 8, .mv (.t 4), none, false⟩, ⟨some 9, .bin .add (.t 8) (.c (.i .i64 1)), none, false⟩, ⟨some 4, .mv (.t 9), none, false⟩]
abbrev i90l6 : ICode := (.seq (.seq (.reg i90r3) (.cond (.t 7) .skip (.exit 0))) (.seq (.block 1 (.reg i90r4)) (.reg i90r5)))
abbrev i90r7 : List IOper := [⟨some 12, .mv (.t 3), none, false⟩, ⟨some 2, .mv (.t 12), none, false⟩]
abbrev i90c : ICode := (.seq (.reg i90r0) (.seq (.reg i90r1) (.seq (.seq (.reg i90r2) (.block 0 (.loop i90l6))) (.seq (.reg i90r7) .ret))))
def i90 : IFn := { np := 1, N := 13, ct := [7], code := i90c, res := [.t 2] }
theorem i90_eq : compF Try.prog Try.f90 = some i90 := by kernel_rfl
abbrev i91r0 : List IOper := [⟨some 4, .mv (.c (.i .i64 1)), none, false⟩]
abbrev i91r1 : List IOper := [⟨some 5, .mv (.t 4), none, false⟩, ⟨some 6, .ld false 1 (.t 1), none, false⟩, ⟨some 7, .bin .lss (.t 5) (.t 6), none, true⟩]
abbrev i91r2 : List IOper := [⟨some 10, .mv (.t 0), none, false⟩, ⟨some 11, .ld false 1 (.t 2), none, false⟩, ⟨some 12, .mv (.t 4), none, false⟩, ⟨some 13, .bin .add (.t 11) (.t 12), none, false⟩, ⟨some 14, .bin .and (.t 13) (.c (.i .i64 65535)), none, false⟩, ⟨some 15, .call (.t 10) [.t 14], none, false⟩, ⟨some 16, .not (.t 15), none, true⟩]
abbrev i91r3 : List IOper := [⟨some 8, .mv (.t 4), none, false⟩, ⟨some 9, .bin .add (.t 8) (.c (.i .i64 1)), none, false⟩, ⟨some 4, .mv (.t 9), none, false⟩]
abbrev i91l4 : ICode := (.seq (.seq (.reg i91r1) (.cond (.t 7) .skip (.exit 0))) (.seq (.block 1 (.seq (.reg i91r2) (.cond (.t 16) .ret .skip))) (.reg i91r3)))
abbrev i91c : ICode := (.seq (.reg i91r0) (.block 0 (.loop i91l4)))
def i91 : IFn := { np := 3, N := 17, ct := [7, 16], code := i91c, res := [] }
theorem i91_eq : compF Try.prog Try.f91 = some i91 := by kernel_rfl
end Go.Proofs.Res
