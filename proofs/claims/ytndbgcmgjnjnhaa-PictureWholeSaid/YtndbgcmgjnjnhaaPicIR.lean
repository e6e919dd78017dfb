/- The small language's text of the functions; printed by ShowI.lean. -/
import Derived.Test.YtndbgcmgjnjnhaaProg
import Derived.Test.YtndbgcmgjnjnhaaAbRuns
namespace Go.Proofs.Pic
open Go.Ab
abbrev i12r0 : List IOper := [
  ⟨(some 1), .box (.t 0), none, false⟩,
  ⟨(some 2), .new [.b false, .b false, .b false, .b false, .i .i64 0, .i .i64 0, .i .i64 0, .i .i64 0], none, false⟩]
abbrev i12r1 : List IOper := [
  ⟨(some 4), .fa 0 (.t 1), none, false⟩,
  ⟨(some 5), .ld false 1 (.t 4), none, false⟩,
  ⟨(some 6), .bin .and (.t 5) (.c (.i .u8 1)), none, false⟩,
  ⟨(some 7), .bin .eql (.t 6) (.c (.i .u8 1)), none, false⟩,
  ⟨(some 8), .fa 0 (.t 1), none, false⟩,
  ⟨(some 9), .ld false 1 (.t 8), none, false⟩,
  ⟨(some 10), .bin .and (.t 9) (.c (.i .u8 2)), none, false⟩,
  ⟨(some 11), .bin .eql (.t 10) (.c (.i .u8 2)), none, false⟩,
  ⟨(some 12), .fa 1 (.t 1), none, false⟩,
  ⟨(some 13), .ld false 1 (.t 12), none, false⟩,
  ⟨(some 14), .bin .rem (.t 13) (.c (.i .u16 32768)), none, false⟩,
  ⟨(some 15), .i2i .i64 (.t 14), none, false⟩,
  ⟨(some 16), .fa 2 (.t 1), none, false⟩,
  ⟨(some 17), .ld false 1 (.t 16), none, false⟩,
  ⟨(some 18), .i2i .i64 (.t 17), none, false⟩,
  ⟨(some 19), .fa 3 (.t 1), none, false⟩,
  ⟨(some 20), .ld false 1 (.t 19), none, false⟩,
  ⟨(some 21), .bin .rem (.t 20) (.c (.i .u8 4)), none, false⟩,
  ⟨(some 22), .i2i .i64 (.t 21), none, false⟩,
  ⟨(some 23), .fa 4 (.t 1), none, false⟩,
  ⟨(some 24), .ld false 1 (.t 23), none, false⟩,
  ⟨(some 25), .bin .rem (.t 24) (.c (.i .u8 3)), none, false⟩,
  ⟨(some 26), .i2i .i64 (.t 25), none, false⟩,
  ⟨(some 27), .build [.b false, .b false, .b false, .b false, .i .i64 0, .i .i64 0, .i .i64 0, .i .i64 0] [(0, 1, .t 7), (3, 1, .t 11), (4, 1, .t 15), (5, 1, .t 18), (6, 1, .t 22), (7, 1, .t 26)], none, false⟩,
  ⟨(some 3), .new [.b false, .b false, .b false, .b false, .i .i64 0, .i .i64 0, .i .i64 0, .i .i64 0], none, false⟩,
  ⟨none, .st 8 (.t 3) (.t 27), none, false⟩]
abbrev i12r2 : List IOper := [
  ⟨(some 28), .fa 6 (.t 3), none, false⟩,
  ⟨(some 29), .ld false 1 (.t 28), none, false⟩,
  ⟨(some 30), .bin .eql (.t 29) (.c (.i .i64 0)), none, true⟩]
abbrev i12r3 : List IOper := [
  ⟨(some 31), .fa 0 (.t 1), none, false⟩,
  ⟨(some 32), .ld false 1 (.t 31), none, false⟩,
  ⟨(some 33), .bin .and (.t 32) (.c (.i .u8 4)), none, false⟩,
  ⟨(some 34), .bin .eql (.t 33) (.c (.i .u8 4)), none, false⟩,
  ⟨(some 35), .fa 1 (.t 3), none, false⟩,
  ⟨none, .st 1 (.t 35) (.t 34), none, false⟩]
abbrev i12r4 : List IOper := [
  ⟨(some 36), .fa 0 (.t 1), none, false⟩,
  ⟨(some 37), .ld false 1 (.t 36), none, false⟩,
  ⟨(some 38), .bin .and (.t 37) (.c (.i .u8 8)), none, false⟩,
  ⟨(some 39), .bin .eql (.t 38) (.c (.i .u8 8)), none, false⟩,
  ⟨(some 40), .fa 2 (.t 3), none, false⟩,
  ⟨none, .st 1 (.t 40) (.t 39), none, false⟩]
abbrev i12r5 : List IOper := [
  ⟨(some 41), .ld true 8 (.t 3), none, false⟩,
  ⟨none, .st 8 (.t 2) (.t 41), none, false⟩]
abbrev i12c : ICode := (.seq (.reg i12r0) (.seq (.reg i12r1) (.seq (.seq (.reg i12r2) (.cond (.t 30) (.reg i12r3) (.reg i12r4))) (.seq (.reg i12r5) .ret))))
def i12 : IFn := { np := 1, N := 42, ct := [30], code := i12c, res := [.c 2 true 8] }
theorem i12_eq : compF Try.prog Try.f12 = some i12 := by kernel_rfl
abbrev i13r0 : List IOper := [
  ⟨(some 2), .box (.t 0), none, false⟩,
  ⟨(some 3), .box (.t 1), none, false⟩,
  ⟨(some 4), .new [.b false, .b false, .b false, .b false, .i .i64 0, .i .i64 0, .i .i64 0, .i .i64 0], none, false⟩]
abbrev i13r1 : List IOper := [
  ⟨(some 5), .fa 0 (.t 2), none, false⟩,
  ⟨(some 6), .ld false 1 (.t 5), none, false⟩,
  ⟨(some 7), .bin .rem (.t 6) (.c (.i .u8 8)), none, false⟩]
abbrev i13r2 : List IOper := [
  ⟨(some 12), .bin .eql (.t 7) (.c (.i .u8 0)), none, false⟩,
  ⟨(some 11), .mv (.t 12), none, true⟩]
abbrev i13r3 : List IOper := [
  ⟨(some 13), .fa 0 (.t 3), none, false⟩,
  ⟨(some 14), .ld false 1 (.t 13), none, false⟩,
  ⟨(some 15), .not (.t 14), none, false⟩,
  ⟨(some 16), .fa 0 (.t 3), none, false⟩,
  ⟨none, .st 1 (.t 16) (.t 15), none, false⟩]
abbrev i13r4 : List IOper := [
  ⟨(some 18), .bin .eql (.t 7) (.c (.i .u8 1)), none, false⟩,
  ⟨(some 17), .mv (.t 18), none, true⟩]
abbrev i13r5 : List IOper := [
  ⟨(some 19), .fa 1 (.t 3), none, false⟩,
  ⟨(some 20), .ld false 1 (.t 19), none, false⟩,
  ⟨(some 21), .not (.t 20), none, false⟩,
  ⟨(some 22), .fa 1 (.t 3), none, false⟩,
  ⟨none, .st 1 (.t 22) (.t 21), none, false⟩]
abbrev i13r6 : List IOper := [
  ⟨(some 24), .bin .eql (.t 7) (.c (.i .u8 2)), none, false⟩,
  ⟨(some 23), .mv (.t 24), none, true⟩]
abbrev i13r7 : List IOper := [
  ⟨(some 25), .fa 2 (.t 3), none, false⟩,
  ⟨(some 26), .ld false 1 (.t 25), none, false⟩,
  ⟨(some 27), .not (.t 26), none, false⟩,
  ⟨(some 28), .fa 2 (.t 3), none, false⟩,
  ⟨none, .st 1 (.t 28) (.t 27), none, false⟩]
abbrev i13r8 : List IOper := [
  ⟨(some 30), .bin .eql (.t 7) (.c (.i .u8 3)), none, false⟩,
  ⟨(some 29), .mv (.t 30), none, true⟩]
abbrev i13r9 : List IOper := [
  ⟨(some 31), .fa 3 (.t 3), none, false⟩,
  ⟨(some 32), .ld false 1 (.t 31), none, false⟩,
  ⟨(some 33), .not (.t 32), none, false⟩,
  ⟨(some 34), .fa 3 (.t 3), none, false⟩,
  ⟨none, .st 1 (.t 34) (.t 33), none, false⟩]
abbrev i13r10 : List IOper := [
  ⟨(some 36), .bin .eql (.t 7) (.c (.i .u8 4)), none, false⟩,
  ⟨(some 35), .mv (.t 36), none, true⟩]
abbrev i13r11 : List IOper := [
  ⟨(some 37), .fa 2 (.t 2), none, false⟩,
  ⟨(some 38), .ld false 1 (.t 37), none, false⟩,
  ⟨(some 39), .fa 4 (.t 3), none, false⟩,
  ⟨none, .st 1 (.t 39) (.t 38), none, false⟩]
abbrev i13r12 : List IOper := [
  ⟨(some 41), .bin .eql (.t 7) (.c (.i .u8 5)), none, false⟩,
  ⟨(some 40), .mv (.t 41), none, true⟩]
abbrev i13r13 : List IOper := [
  ⟨(some 42), .fa 2 (.t 2), none, false⟩,
  ⟨(some 43), .ld false 1 (.t 42), none, false⟩,
  ⟨(some 44), .fa 5 (.t 3), none, false⟩,
  ⟨none, .st 1 (.t 44) (.t 43), none, false⟩]
abbrev i13r14 : List IOper := [
  ⟨(some 46), .bin .eql (.t 7) (.c (.i .u8 6)), none, false⟩,
  ⟨(some 45), .mv (.t 46), none, true⟩]
abbrev i13r15 : List IOper := [
  ⟨(some 47), .fa 2 (.t 2), none, false⟩,
  ⟨(some 48), .ld false 1 (.t 47), none, false⟩,
  ⟨(some 49), .fa 6 (.t 3), none, false⟩,
  ⟨none, .st 1 (.t 49) (.t 48), none, false⟩]
abbrev i13r16 : List IOper := [
  ⟨(some 8), .fa 2 (.t 2), none, false⟩,
  ⟨(some 9), .ld false 1 (.t 8), none, false⟩,
  ⟨(some 10), .fa 7 (.t 3), none, false⟩,
  ⟨none, .st 1 (.t 10) (.t 9), none, false⟩]
abbrev i13r17 : List IOper := [
  ⟨(some 50), .ld true 8 (.t 3), none, false⟩,
  ⟨none, .st 8 (.t 4) (.t 50), none, false⟩]
abbrev i13c : ICode := (.seq (.reg i13r0) (.seq (.seq (.reg i13r1) (.block 0 (.seq (.reg i13r2) (.cond (.t 11) (.reg i13r3) (.seq (.reg i13r4) (.cond (.t 17) (.reg i13r5) (.seq (.reg i13r6) (.cond (.t 23) (.reg i13r7) (.seq (.reg i13r8) (.cond (.t 29) (.reg i13r9) (.seq (.reg i13r10) (.cond (.t 35) (.reg i13r11) (.seq (.reg i13r12) (.cond (.t 40) (.reg i13r13) (.seq (.reg i13r14) (.cond (.t 45) (.reg i13r15) (.reg i13r16))))))))))))))))) (.seq (.reg i13r17) .ret)))
def i13 : IFn := { np := 2, N := 51, ct := [11, 17, 23, 29, 35, 40, 45], code := i13c, res := [.c 4 true 8] }
theorem i13_eq : compF Try.prog Try.f13 = some i13 := by kernel_rfl
abbrev i14r0 : List IOper := [
  ⟨(some 1), .box (.t 0), none, false⟩,
  ⟨(some 2), .mv (.c (.i .i64 0)), none, false⟩]
abbrev i14r1 : List IOper := [
  ⟨(some 3), .fa 4 (.t 1), none, false⟩,
  ⟨(some 4), .ld false 1 (.t 3), none, false⟩,
  ⟨(some 5), .call (.c (.fn 44 [])) [.c (.i .i64 32767), .t 4], none, false⟩,
  ⟨(some 6), .not (.t 5), none, false⟩,
  ⟨(some 7), .mv (.t 6), none, true⟩,
  ⟨(some 8), .fa 5 (.t 1), (some (7, false)), false⟩,
  ⟨(some 9), .ld false 1 (.t 8), (some (7, false)), false⟩,
  ⟨(some 10), .call (.c (.fn 44 [])) [.c (.i .i64 255), .t 9], (some (7, false)), false⟩,
  ⟨(some 11), .not (.t 10), (some (7, false)), false⟩,
  ⟨(some 12), .pick (.t 7) (.c (.b true)) (.t 11), none, false⟩,
  ⟨(some 13), .mv (.t 12), none, true⟩,
  ⟨(some 14), .fa 6 (.t 1), (some (13, false)), false⟩,
  ⟨(some 15), .ld false 1 (.t 14), (some (13, false)), false⟩,
  ⟨(some 16), .call (.c (.fn 44 [])) [.c (.i .i64 3), .t 15], (some (13, false)), false⟩,
  ⟨(some 17), .not (.t 16), (some (13, false)), false⟩,
  ⟨(some 18), .pick (.t 13) (.c (.b true)) (.t 17), none, false⟩,
  ⟨(some 19), .mv (.t 18), none, true⟩,
  ⟨(some 20), .fa 7 (.t 1), (some (19, false)), false⟩,
  ⟨(some 21), .ld false 1 (.t 20), (some (19, false)), false⟩,
  ⟨(some 22), .call (.c (.fn 44 [])) [.c (.i .i64 2), .t 21], (some (19, false)), false⟩,
  ⟨(some 23), .not (.t 22), (some (19, false)), false⟩,
  ⟨(some 24), .pick (.t 19) (.c (.b true)) (.t 23), none, false⟩,
  ⟨(some 25), .mv (.t 24), none, true⟩,
  ⟨(some 26), .fa 1 (.t 1), (some (25, false)), false⟩,
  ⟨(some 27), .ld false 1 (.t 26), (some (25, false)), false⟩,
  ⟨(some 28), .mv (.t 27), (some (25, false)), true⟩,
  ⟨(some 29), .fa 6 (.t 1), (some (28, true)), false⟩,
  ⟨(some 30), .ld false 1 (.t 29), (some (28, true)), false⟩,
  ⟨(some 31), .bin .gtr (.t 30) (.c (.i .i64 0)), (some (28, true)), false⟩,
  ⟨(some 32), .pick (.t 28) (.t 31) (.c (.b false)), (some (25, false)), false⟩,
  ⟨(some 33), .pick (.t 25) (.c (.b true)) (.t 32), none, false⟩,
  ⟨(some 34), .mv (.t 33), none, true⟩,
  ⟨(some 35), .fa 2 (.t 1), (some (34, false)), false⟩,
  ⟨(some 36), .ld false 1 (.t 35), (some (34, false)), false⟩,
  ⟨(some 37), .mv (.t 36), (some (34, false)), true⟩,
  ⟨(some 38), .fa 6 (.t 1), (some (37, true)), false⟩,
  ⟨(some 39), .ld false 1 (.t 38), (some (37, true)), false⟩,
  ⟨(some 40), .bin .eql (.t 39) (.c (.i .i64 0)), (some (37, true)), false⟩,
  ⟨(some 41), .pick (.t 37) (.t 40) (.c (.b false)), (some (34, false)), false⟩,
  ⟨(some 42), .pick (.t 34) (.c (.b true)) (.t 41), none, true⟩]
abbrev i14r2 : List IOper := [
  ⟨(some 2), .mv (.c (.i .i64 400)), none, false⟩]
abbrev i14r3 : List IOper := [
  ⟨(some 2), .mv (.c (.i .i64 0)), none, false⟩]
abbrev i14c : ICode := (.seq (.reg i14r0) (.seq (.seq (.reg i14r1) (.cond (.t 42) (.seq (.reg i14r2) .ret) .skip)) (.seq (.reg i14r3) .ret)))
def i14 : IFn := { np := 1, N := 43, ct := [42], code := i14c, res := [.t 2] }
theorem i14_eq : compF Try.prog Try.f14 = some i14 := by kernel_rfl
abbrev i15r0 : List IOper := [
  ⟨(some 1), .box (.t 0), none, false⟩,
  ⟨(some 2), .mv (.c (.s [])), none, false⟩,
  ⟨(some 3), .mv (.c (.i .i64 0)), none, false⟩]
abbrev i15r1 : List IOper := [
  ⟨(some 5), .ld true 8 (.t 1), none, false⟩,
  ⟨(some 6), .call (.c (.fn 14 [])) [.t 5], none, false⟩,
  ⟨(some 4), .mv (.t 6), none, false⟩]
abbrev i15r2 : List IOper := [
  ⟨(some 7), .mv (.t 4), none, false⟩,
  ⟨(some 8), .bin .neq (.t 7) (.c (.i .i64 0)), none, true⟩]
abbrev i15r3 : List IOper := [
  ⟨(some 9), .mv (.t 4), none, false⟩,
  ⟨(some 2), .mv (.c (.s [])), none, false⟩,
  ⟨(some 3), .mv (.t 9), none, false⟩]
abbrev i15r4 : List IOper := [
  ⟨(some 10), .ld true 8 (.t 1), none, false⟩,
  ⟨(some 11), .call (.c (.fn 45 [])) [.t 10], none, false⟩,
  ⟨(some 2), .mv (.t 11), none, false⟩,
  ⟨(some 3), .mv (.c (.i .i64 0)), none, false⟩]
abbrev i15c : ICode := (.seq (.reg i15r0) (.seq (.seq (.reg i15r1) (.seq (.reg i15r2) (.cond (.t 8) (.seq (.reg i15r3) .ret) .skip))) (.seq (.reg i15r4) .ret)))
def i15 : IFn := { np := 1, N := 12, ct := [8], code := i15c, res := [.t 2, .t 3] }
theorem i15_eq : compF Try.prog Try.f15 = some i15 := by kernel_rfl
abbrev i16r0 : List IOper := [
  ⟨(some 1), .box (.t 0), none, false⟩,
  ⟨(some 2), .mv (.c (.b false)), none, false⟩]
abbrev i16r1 : List IOper := [
  ⟨(some 3), .fa 4 (.t 1), none, false⟩,
  ⟨(some 4), .ld false 1 (.t 3), none, false⟩,
  ⟨(some 5), .bin .lss (.t 4) (.c (.i .i64 0)), none, false⟩,
  ⟨(some 6), .mv (.t 5), none, true⟩,
  ⟨(some 7), .fa 4 (.t 1), (some (6, false)), false⟩,
  ⟨(some 8), .ld false 1 (.t 7), (some (6, false)), false⟩,
  ⟨(some 9), .bin .gtr (.t 8) (.c (.i .i64 32767)), (some (6, false)), false⟩,
  ⟨(some 10), .pick (.t 6) (.c (.b true)) (.t 9), none, false⟩,
  ⟨(some 11), .mv (.t 10), none, true⟩,
  ⟨(some 12), .fa 5 (.t 1), (some (11, false)), false⟩,
  ⟨(some 13), .ld false 1 (.t 12), (some (11, false)), false⟩,
  ⟨(some 14), .bin .lss (.t 13) (.c (.i .i64 0)), (some (11, false)), false⟩,
  ⟨(some 15), .pick (.t 11) (.c (.b true)) (.t 14), none, false⟩,
  ⟨(some 16), .mv (.t 15), none, true⟩,
  ⟨(some 17), .fa 5 (.t 1), (some (16, false)), false⟩,
  ⟨(some 18), .ld false 1 (.t 17), (some (16, false)), false⟩,
  ⟨(some 19), .bin .gtr (.t 18) (.c (.i .i64 255)), (some (16, false)), false⟩,
  ⟨(some 20), .pick (.t 16) (.c (.b true)) (.t 19), none, false⟩,
  ⟨(some 21), .mv (.t 20), none, true⟩,
  ⟨(some 22), .fa 6 (.t 1), (some (21, false)), false⟩,
  ⟨(some 23), .ld false 1 (.t 22), (some (21, false)), false⟩,
  ⟨(some 24), .bin .lss (.t 23) (.c (.i .i64 0)), (some (21, false)), false⟩,
  ⟨(some 25), .pick (.t 21) (.c (.b true)) (.t 24), none, false⟩,
  ⟨(some 26), .mv (.t 25), none, true⟩,
  ⟨(some 27), .fa 6 (.t 1), (some (26, false)), false⟩,
  ⟨(some 28), .ld false 1 (.t 27), (some (26, false)), false⟩,
  ⟨(some 29), .bin .gtr (.t 28) (.c (.i .i64 3)), (some (26, false)), false⟩,
  ⟨(some 30), .pick (.t 26) (.c (.b true)) (.t 29), none, false⟩,
  ⟨(some 31), .mv (.t 30), none, true⟩,
  ⟨(some 32), .fa 7 (.t 1), (some (31, false)), false⟩,
  ⟨(some 33), .ld false 1 (.t 32), (some (31, false)), false⟩,
  ⟨(some 34), .bin .lss (.t 33) (.c (.i .i64 0)), (some (31, false)), false⟩,
  ⟨(some 35), .pick (.t 31) (.c (.b true)) (.t 34), none, false⟩,
  ⟨(some 36), .mv (.t 35), none, true⟩,
  ⟨(some 37), .fa 7 (.t 1), (some (36, false)), false⟩,
  ⟨(some 38), .ld false 1 (.t 37), (some (36, false)), false⟩,
  ⟨(some 39), .bin .gtr (.t 38) (.c (.i .i64 2)), (some (36, false)), false⟩,
  ⟨(some 40), .pick (.t 36) (.c (.b true)) (.t 39), none, true⟩]
abbrev i16r2 : List IOper := [
  ⟨(some 2), .mv (.c (.b false)), none, false⟩]
abbrev i16r3 : List IOper := [
  ⟨(some 41), .fa 1 (.t 1), none, false⟩,
  ⟨(some 42), .ld false 1 (.t 41), none, false⟩,
  ⟨(some 43), .mv (.t 42), none, true⟩,
  ⟨(some 44), .fa 6 (.t 1), (some (43, true)), false⟩,
  ⟨(some 45), .ld false 1 (.t 44), (some (43, true)), false⟩,
  ⟨(some 46), .bin .neq (.t 45) (.c (.i .i64 0)), (some (43, true)), false⟩,
  ⟨(some 47), .pick (.t 43) (.t 46) (.c (.b false)), none, false⟩,
  ⟨(some 48), .not (.t 47), none, false⟩,
  ⟨(some 49), .mv (.t 48), none, true⟩,
  ⟨(some 50), .fa 2 (.t 1), (some (49, true)), false⟩,
  ⟨(some 51), .ld false 1 (.t 50), (some (49, true)), false⟩,
  ⟨(some 52), .mv (.t 51), (some (49, true)), true⟩,
  ⟨(some 53), .fa 6 (.t 1), (some (52, true)), false⟩,
  ⟨(some 54), .ld false 1 (.t 53), (some (52, true)), false⟩,
  ⟨(some 55), .bin .eql (.t 54) (.c (.i .i64 0)), (some (52, true)), false⟩,
  ⟨(some 56), .pick (.t 52) (.t 55) (.c (.b false)), (some (49, true)), false⟩,
  ⟨(some 57), .not (.t 56), (some (49, true)), false⟩,
  ⟨(some 58), .pick (.t 49) (.t 57) (.c (.b false)), none, false⟩,
  ⟨(some 2), .mv (.t 58), none, false⟩]
abbrev i16c : ICode := (.seq (.reg i16r0) (.seq (.seq (.reg i16r1) (.cond (.t 40) (.seq (.reg i16r2) .ret) .skip)) (.seq (.reg i16r3) .ret)))
def i16 : IFn := { np := 1, N := 59, ct := [40], code := i16c, res := [.t 2] }
theorem i16_eq : compF Try.prog Try.f16 = some i16 := by kernel_rfl
abbrev i17r0 : List IOper := [
  ⟨(some 1), .box (.t 0), none, false⟩,
  ⟨(some 2), .mv (.c (.s [])), none, false⟩]
abbrev i17r1 : List IOper := [
  ⟨(some 3), .mv (.c (.i .i64 128)), none, false⟩]
abbrev i17r2 : List IOper := [
  ⟨(some 4), .fa 0 (.t 1), none, false⟩,
  ⟨(some 5), .ld false 1 (.t 4), none, true⟩]
abbrev i17r3 : List IOper := [
  ⟨(some 6), .mv (.t 3), none, false⟩,
  ⟨(some 7), .bin .add (.t 6) (.c (.i .i64 64)), none, false⟩,
  ⟨(some 3), .mv (.t 7), none, false⟩]
abbrev i17r4 : List IOper := [
  ⟨(some 8), .fa 1 (.t 1), none, false⟩,
  ⟨(some 9), .ld false 1 (.t 8), none, true⟩]
abbrev i17r5 : List IOper := [
  ⟨(some 10), .mv (.t 3), none, false⟩,
  ⟨(some 11), .bin .add (.t 10) (.c (.i .i64 32)), none, false⟩,
  ⟨(some 3), .mv (.t 11), none, false⟩]
abbrev i17r6 : List IOper := [
  ⟨(some 12), .fa 2 (.t 1), none, false⟩,
  ⟨(some 13), .ld false 1 (.t 12), none, true⟩]
abbrev i17r7 : List IOper := [
  ⟨(some 14), .mv (.t 3), none, false⟩,
  ⟨(some 15), .bin .add (.t 14) (.c (.i .i64 16)), none, false⟩,
  ⟨(some 3), .mv (.t 15), none, false⟩]
abbrev i17r8 : List IOper := [
  ⟨(some 16), .fa 3 (.t 1), none, false⟩,
  ⟨(some 17), .ld false 1 (.t 16), none, true⟩]
abbrev i17r9 : List IOper := [
  ⟨(some 18), .mv (.t 3), none, false⟩,
  ⟨(some 19), .bin .add (.t 18) (.c (.i .i64 8)), none, false⟩,
  ⟨(some 3), .mv (.t 19), none, false⟩]
abbrev i17r10 : List IOper := [
  ⟨(some 20), .mv (.t 3), none, false⟩,
  ⟨(some 21), .i2i .u8 (.t 20), none, false⟩,
  ⟨(some 22), .fa 4 (.t 1), none, false⟩,
  ⟨(some 23), .ld false 1 (.t 22), none, false⟩,
  ⟨(some 24), .bin .quo (.t 23) (.c (.i .i64 256)), none, false⟩,
  ⟨(some 25), .bin .add (.c (.i .i64 128)) (.t 24), none, false⟩,
  ⟨(some 26), .i2i .u8 (.t 25), none, false⟩,
  ⟨(some 27), .fa 4 (.t 1), none, false⟩,
  ⟨(some 28), .ld false 1 (.t 27), none, false⟩,
  ⟨(some 29), .bin .rem (.t 28) (.c (.i .i64 256)), none, false⟩,
  ⟨(some 30), .i2i .u8 (.t 29), none, false⟩,
  ⟨(some 31), .fa 5 (.t 1), none, false⟩,
  ⟨(some 32), .ld false 1 (.t 31), none, false⟩,
  ⟨(some 33), .i2i .u8 (.t 32), none, false⟩,
  ⟨(some 34), .fa 6 (.t 1), none, false⟩,
  ⟨(some 35), .ld false 1 (.t 34), none, false⟩,
  ⟨(some 36), .bin .mul (.c (.i .i64 64)) (.t 35), none, false⟩,
  ⟨(some 37), .fa 7 (.t 1), none, false⟩,
  ⟨(some 38), .ld false 1 (.t 37), none, false⟩,
  ⟨(some 39), .bin .mul (.c (.i .i64 16)) (.t 38), none, false⟩,
  ⟨(some 40), .bin .add (.t 36) (.t 39), none, false⟩,
  ⟨(some 41), .i2i .u8 (.t 40), none, false⟩,
  ⟨(some 42), .bsl [.i .u8 0, .i .u8 0, .i .u8 0, .i .u8 0, .i .u8 0] 5 [(0, 1, .t 21), (1, 1, .t 26), (2, 1, .t 30), (3, 1, .t 33), (4, 1, .t 41)], none, false⟩,
  ⟨(some 43), .b2s (.t 42), none, false⟩,
  ⟨(some 2), .mv (.t 43), none, false⟩]
abbrev i17c : ICode := (.seq (.reg i17r0) (.seq (.reg i17r1) (.seq (.seq (.reg i17r2) (.cond (.t 5) (.reg i17r3) .skip)) (.seq (.seq (.reg i17r4) (.cond (.t 9) (.reg i17r5) .skip)) (.seq (.seq (.reg i17r6) (.cond (.t 13) (.reg i17r7) .skip)) (.seq (.seq (.reg i17r8) (.cond (.t 17) (.reg i17r9) .skip)) (.seq (.reg i17r10) .ret)))))))
def i17 : IFn := { np := 1, N := 44, ct := [5, 9, 13, 17], code := i17c, res := [.t 2] }
theorem i17_eq : compF Try.prog Try.f17 = some i17 := by kernel_rfl
abbrev i18r0 : List IOper := [
  ⟨(some 0), .mv (.c (.b false)), none, false⟩]
abbrev i18r1 : List IOper := [
  ⟨(some 25), .call (.c (.fn 46 [])) [], none, false⟩,
  ⟨(some 1), .new [.b false, .b false, .b false, .b false, .i .i64 0, .i .i64 0, .i .i64 0, .i .i64 0], none, false⟩,
  ⟨none, .st 8 (.t 1) (.t 25), none, false⟩]
abbrev i18r2 : List IOper := [
  ⟨(some 26), .ld true 8 (.t 1), none, false⟩,
  ⟨(some 2), .new [.b false, .b false, .b false, .b false, .i .i64 0, .i .i64 0, .i .i64 0, .i .i64 0], none, false⟩,
  ⟨none, .st 8 (.t 2) (.t 26), none, false⟩]
abbrev i18r3 : List IOper := [
  ⟨(some 27), .fa 3 (.t 2), none, false⟩,
  ⟨none, .st 1 (.t 27) (.c (.b true)), none, false⟩,
  ⟨(some 28), .fa 7 (.t 2), none, false⟩,
  ⟨none, .st 1 (.t 28) (.c (.i .i64 1)), none, false⟩]
abbrev i18r4 : List IOper := [
  ⟨(some 30), .ld true 8 (.t 1), none, false⟩,
  ⟨(some 31), .call (.c (.fn 15 [])) [.t 30], none, false⟩,
  ⟨(some 29), .mv (.t 31), none, false⟩,
  ⟨(some 32), .ext (.t 29) 0, none, false⟩,
  ⟨(some 33), .ext (.t 29) 1, none, false⟩,
  ⟨(some 3), .mv (.t 32), none, false⟩,
  ⟨(some 4), .mv (.t 33), none, false⟩]
abbrev i18r5 : List IOper := [
  ⟨(some 35), .ld true 8 (.t 2), none, false⟩,
  ⟨(some 36), .call (.c (.fn 15 [])) [.t 35], none, false⟩,
  ⟨(some 34), .mv (.t 36), none, false⟩,
  ⟨(some 37), .ext (.t 34) 0, none, false⟩,
  ⟨(some 38), .ext (.t 34) 1, none, false⟩,
  ⟨(some 5), .mv (.t 37), none, false⟩,
  ⟨(some 6), .mv (.t 38), none, false⟩]
abbrev i18r6 : List IOper := [
  ⟨(some 40), .call (.c (.fn 20 [])) [.c (.s [224, 129, 44, 7, 0, 97])], none, false⟩,
  ⟨(some 39), .mv (.t 40), none, false⟩,
  ⟨(some 41), .ext (.t 39) 0, none, false⟩,
  ⟨(some 42), .ext (.t 39) 1, none, false⟩,
  ⟨(some 43), .ext (.t 39) 2, none, false⟩,
  ⟨(some 7), .new [.b false, .b false, .b false, .b false, .i .i64 0, .i .i64 0, .i .i64 0, .i .i64 0], none, false⟩,
  ⟨none, .st 8 (.t 7) (.t 41), none, false⟩,
  ⟨(some 8), .mv (.t 42), none, false⟩,
  ⟨(some 9), .mv (.t 43), none, false⟩]
abbrev i18r7 : List IOper := [
  ⟨(some 45), .call (.c (.fn 20 [])) [.c (.s [224, 1, 44, 7, 0])], none, false⟩,
  ⟨(some 44), .mv (.t 45), none, false⟩,
  ⟨(some 46), .ext (.t 44) 0, none, false⟩,
  ⟨(some 47), .ext (.t 44) 1, none, false⟩,
  ⟨(some 48), .ext (.t 44) 2, none, false⟩,
  ⟨(some 10), .new [.b false, .b false, .b false, .b false, .i .i64 0, .i .i64 0, .i .i64 0, .i .i64 0], none, false⟩,
  ⟨none, .st 8 (.t 10) (.t 46), none, false⟩,
  ⟨(some 11), .mv (.t 47), none, false⟩,
  ⟨(some 12), .mv (.t 48), none, false⟩]
abbrev i18r8 : List IOper := [
  ⟨(some 50), .call (.c (.fn 20 [])) [.c (.s [224, 129])], none, false⟩,
  ⟨(some 49), .mv (.t 50), none, false⟩,
  ⟨(some 51), .ext (.t 49) 0, none, false⟩,
  ⟨(some 52), .ext (.t 49) 1, none, false⟩,
  ⟨(some 53), .ext (.t 49) 2, none, false⟩,
  ⟨(some 13), .new [.b false, .b false, .b false, .b false, .i .i64 0, .i .i64 0, .i .i64 0, .i .i64 0], none, false⟩,
  ⟨none, .st 8 (.t 13) (.t 51), none, false⟩,
  ⟨(some 14), .mv (.t 52), none, false⟩,
  ⟨(some 15), .mv (.t 53), none, false⟩]
abbrev i18r9 : List IOper := [
  ⟨(some 55), .call (.c (.fn 22 [])) [.c (.s [224, 129, 44, 7, 0, 97]), .c (.i .i64 1), .c (.i .i64 2)], none, false⟩,
  ⟨(some 54), .mv (.t 55), none, false⟩,
  ⟨(some 56), .ext (.t 54) 0, none, false⟩,
  ⟨(some 57), .ext (.t 54) 1, none, false⟩,
  ⟨(some 16), .mv (.t 56), none, false⟩,
  ⟨(some 17), .mv (.t 57), none, false⟩]
abbrev i18r10 : List IOper := [
  ⟨(some 59), .build [.b false, .i .i64 0, .i .i64 0, .i .i64 0, .b false, .i .i64 0, .i .i64 0, .i .i64 0, .b false, .i .i64 0, .i .i64 0, .i .i64 0] [], none, false⟩,
  ⟨(some 60), .ld true 8 (.t 1), none, false⟩,
  ⟨(some 61), .build [.b false, .b false, .b false, .b false, .i .i64 0, .i .i64 0, .i .i64 0, .i .i64 0] [(4, 1, .c (.i .i64 301)), (5, 1, .c (.i .i64 8))], none, false⟩,
  ⟨(some 62), .build [.b false, .b false, .b false, .b false, .i .i64 0, .i .i64 0, .i .i64 0, .i .i64 0] [(4, 1, .c (.i .i64 303)), (5, 1, .c (.i .i64 10))], none, false⟩,
  ⟨(some 63), .build [.b false, .b false, .b false, .b false, .i .i64 0, .i .i64 0, .i .i64 0, .i .i64 0] [(4, 1, .c (.i .i64 304)), (5, 1, .c (.i .i64 8)), (6, 1, .c (.i .i64 1))], none, false⟩,
  ⟨(some 64), .bsl [.b false, .b false, .b false, .b false, .i .i64 0, .i .i64 0, .i .i64 0, .i .i64 0, .b false, .b false, .b false, .b false, .i .i64 0, .i .i64 0, .i .i64 0, .i .i64 0, .b false, .b false, .b false, .b false, .i .i64 0, .i .i64 0, .i .i64 0, .i .i64 0, .b false, .b false, .b false, .b false, .i .i64 0, .i .i64 0, .i .i64 0, .i .i64 0] 4 [(0, 8, .t 60), (8, 8, .t 61), (16, 8, .t 62), (24, 8, .t 63)], none, false⟩,
  ⟨(some 65), .call (.c (.fn 34 [])) [.t 59, .t 64], none, false⟩,
  ⟨(some 58), .mv (.t 65), none, false⟩,
  ⟨(some 66), .ext (.t 58) 0, none, false⟩,
  ⟨(some 67), .ext (.t 58) 1, none, false⟩,
  ⟨(some 18), .new [.b false, .i .i64 0, .i .i64 0, .i .i64 0, .b false, .i .i64 0, .i .i64 0, .i .i64 0, .b false, .i .i64 0, .i .i64 0, .i .i64 0], none, false⟩,
  ⟨none, .st 12 (.t 18) (.t 66), none, false⟩,
  ⟨(some 19), .mv (.t 67), none, false⟩]
abbrev i18r11 : List IOper := [
  ⟨(some 69), .build [.b false, .i .i64 0, .i .i64 0, .i .i64 0, .b false, .i .i64 0, .i .i64 0, .i .i64 0, .b false, .i .i64 0, .i .i64 0, .i .i64 0] [], none, false⟩,
  ⟨(some 70), .ld true 8 (.t 1), none, false⟩,
  ⟨(some 71), .build [.b false, .b false, .b false, .b false, .i .i64 0, .i .i64 0, .i .i64 0, .i .i64 0] [(4, 1, .c (.i .i64 301)), (5, 1, .c (.i .i64 7)), (6, 1, .c (.i .i64 1))], none, false⟩,
  ⟨(some 72), .build [.b false, .b false, .b false, .b false, .i .i64 0, .i .i64 0, .i .i64 0, .i .i64 0] [(4, 1, .c (.i .i64 301)), (5, 1, .c (.i .i64 7)), (6, 1, .c (.i .i64 1)), (2, 1, .c (.b true))], none, false⟩,
  ⟨(some 73), .build [.b false, .b false, .b false, .b false, .i .i64 0, .i .i64 0, .i .i64 0, .i .i64 0] [(4, 1, .c (.i .i64 302)), (5, 1, .c (.i .i64 7)), (6, 1, .c (.i .i64 1))], none, false⟩,
  ⟨(some 74), .bsl [.b false, .b false, .b false, .b false, .i .i64 0, .i .i64 0, .i .i64 0, .i .i64 0, .b false, .b false, .b false, .b false, .i .i64 0, .i .i64 0, .i .i64 0, .i .i64 0, .b false, .b false, .b false, .b false, .i .i64 0, .i .i64 0, .i .i64 0, .i .i64 0, .b false, .b false, .b false, .b false, .i .i64 0, .i .i64 0, .i .i64 0, .i .i64 0] 4 [(0, 8, .t 70), (8, 8, .t 71), (16, 8, .t 72), (24, 8, .t 73)], none, false⟩,
  ⟨(some 75), .call (.c (.fn 34 [])) [.t 69, .t 74], none, false⟩,
  ⟨(some 68), .mv (.t 75), none, false⟩,
  ⟨(some 76), .ext (.t 68) 0, none, false⟩,
  ⟨(some 77), .ext (.t 68) 1, none, false⟩,
  ⟨(some 20), .new [.b false, .i .i64 0, .i .i64 0, .i .i64 0, .b false, .i .i64 0, .i .i64 0, .i .i64 0, .b false, .i .i64 0, .i .i64 0, .i .i64 0], none, false⟩,
  ⟨none, .st 12 (.t 20) (.t 76), none, false⟩,
  ⟨(some 21), .mv (.t 77), none, false⟩]
abbrev i18r12 : List IOper := [
  ⟨(some 79), .build [.b false, .i .i64 0, .i .i64 0, .i .i64 0, .b false, .i .i64 0, .i .i64 0, .i .i64 0, .b false, .i .i64 0, .i .i64 0, .i .i64 0] [], none, false⟩,
  ⟨(some 80), .ld true 8 (.t 1), none, false⟩,
  ⟨(some 81), .build [.b false, .b false, .b false, .b false, .i .i64 0, .i .i64 0, .i .i64 0, .i .i64 0] [(1, 1, .c (.b true)), (4, 1, .c (.i .i64 300)), (7, 1, .c (.i .i64 1))], none, false⟩,
  ⟨(some 82), .build [.b false, .b false, .b false, .b false, .i .i64 0, .i .i64 0, .i .i64 0, .i .i64 0] [(1, 1, .c (.b true)), (4, 1, .c (.i .i64 301)), (7, 1, .c (.i .i64 1))], none, false⟩,
  ⟨(some 83), .bsl [.b false, .b false, .b false, .b false, .i .i64 0, .i .i64 0, .i .i64 0, .i .i64 0, .b false, .b false, .b false, .b false, .i .i64 0, .i .i64 0, .i .i64 0, .i .i64 0, .b false, .b false, .b false, .b false, .i .i64 0, .i .i64 0, .i .i64 0, .i .i64 0] 3 [(0, 8, .t 80), (8, 8, .t 81), (16, 8, .t 82)], none, false⟩,
  ⟨(some 84), .call (.c (.fn 34 [])) [.t 79, .t 83], none, false⟩,
  ⟨(some 78), .mv (.t 84), none, false⟩,
  ⟨(some 85), .ext (.t 78) 0, none, false⟩,
  ⟨(some 86), .ext (.t 78) 1, none, false⟩,
  ⟨(some 22), .new [.b false, .i .i64 0, .i .i64 0, .i .i64 0, .b false, .i .i64 0, .i .i64 0, .i .i64 0, .b false, .i .i64 0, .i .i64 0, .i .i64 0], none, false⟩,
  ⟨none, .st 12 (.t 22) (.t 85), none, false⟩,
  ⟨(some 23), .mv (.t 86), none, false⟩]
abbrev i18r13 : List IOper := [
  ⟨(some 87), .mv (.t 3), none, false⟩,
  ⟨(some 88), .bin .eql (.t 87) (.c (.s [224, 129, 44, 7, 0])), none, false⟩,
  ⟨(some 89), .mv (.t 88), none, true⟩,
  ⟨(some 90), .mv (.t 4), (some (89, true)), false⟩,
  ⟨(some 91), .bin .eql (.t 90) (.c (.i .i64 0)), (some (89, true)), false⟩,
  ⟨(some 92), .pick (.t 89) (.t 91) (.c (.b false)), none, false⟩,
  ⟨(some 93), .mv (.t 92), none, true⟩,
  ⟨(some 94), .mv (.t 5), (some (93, true)), false⟩,
  ⟨(some 95), .bin .eql (.t 94) (.c (.s [232, 129, 44, 7, 16])), (some (93, true)), false⟩,
  ⟨(some 96), .pick (.t 93) (.t 95) (.c (.b false)), none, false⟩,
  ⟨(some 97), .mv (.t 96), none, true⟩,
  ⟨(some 98), .mv (.t 6), (some (97, true)), false⟩,
  ⟨(some 99), .bin .eql (.t 98) (.c (.i .i64 0)), (some (97, true)), false⟩,
  ⟨(some 100), .pick (.t 97) (.t 99) (.c (.b false)), none, false⟩,
  ⟨(some 101), .mv (.t 100), none, true⟩,
  ⟨(some 102), .ld true 8 (.t 7), (some (101, true)), false⟩,
  ⟨(some 103), .ld true 8 (.t 1), (some (101, true)), false⟩,
  ⟨(some 104), .eqk false true [.b, .b, .b, .b, .i, .i, .i, .i] (.t 102) (.t 103), (some (101, true)), false⟩,
  ⟨(some 105), .pick (.t 101) (.t 104) (.c (.b false)), none, false⟩,
  ⟨(some 106), .mv (.t 105), none, true⟩,
  ⟨(some 107), .mv (.t 8), (some (106, true)), false⟩,
  ⟨(some 108), .bin .eql (.t 107) (.c (.s [97])), (some (106, true)), false⟩,
  ⟨(some 109), .pick (.t 106) (.t 108) (.c (.b false)), none, false⟩,
  ⟨(some 110), .mv (.t 109), none, true⟩,
  ⟨(some 111), .mv (.t 9), (some (110, true)), false⟩,
  ⟨(some 112), .bin .eql (.t 111) (.c (.i .i64 0)), (some (110, true)), false⟩,
  ⟨(some 113), .pick (.t 110) (.t 112) (.c (.b false)), none, false⟩,
  ⟨(some 114), .mv (.t 113), none, true⟩,
  ⟨(some 115), .mv (.t 12), (some (114, true)), false⟩,
  ⟨(some 116), .bin .eql (.t 115) (.c (.i .i64 5)), (some (114, true)), false⟩,
  ⟨(some 117), .pick (.t 114) (.t 116) (.c (.b false)), none, false⟩,
  ⟨(some 118), .mv (.t 117), none, true⟩,
  ⟨(some 119), .mv (.t 15), (some (118, true)), false⟩,
  ⟨(some 120), .bin .eql (.t 119) (.c (.i .i64 7)), (some (118, true)), false⟩,
  ⟨(some 121), .pick (.t 118) (.t 120) (.c (.b false)), none, false⟩,
  ⟨(some 122), .mv (.t 121), none, true⟩,
  ⟨(some 123), .mv (.t 16), (some (122, true)), false⟩,
  ⟨(some 124), .bin .eql (.t 123) (.c (.s [224, 128, 1, 2, 0, 97])), (some (122, true)), false⟩,
  ⟨(some 125), .pick (.t 122) (.t 124) (.c (.b false)), none, false⟩,
  ⟨(some 126), .mv (.t 125), none, true⟩,
  ⟨(some 127), .mv (.t 17), (some (126, true)), false⟩,
  ⟨(some 128), .bin .eql (.t 127) (.c (.i .i64 0)), (some (126, true)), false⟩,
  ⟨(some 129), .pick (.t 126) (.t 128) (.c (.b false)), none, false⟩,
  ⟨(some 24), .mv (.t 129), none, false⟩]
abbrev i18r14 : List IOper := [
  ⟨(some 130), .mv (.t 24), none, false⟩,
  ⟨(some 131), .mv (.t 130), none, true⟩,
  ⟨(some 132), .call (.c (.fn 47 [])) [.c (.fn 48 [])], (some (131, true)), false⟩,
  ⟨(some 133), .pick (.t 131) (.t 132) (.c (.b false)), none, false⟩,
  ⟨(some 134), .mv (.t 133), none, true⟩,
  ⟨(some 135), .call (.c (.fn 47 [])) [.c (.fn 49 [])], (some (134, true)), false⟩,
  ⟨(some 136), .pick (.t 134) (.t 135) (.c (.b false)), none, false⟩,
  ⟨(some 137), .mv (.t 136), none, true⟩,
  ⟨(some 138), .call (.c (.fn 47 [])) [.c (.fn 50 [])], (some (137, true)), false⟩,
  ⟨(some 139), .pick (.t 137) (.t 138) (.c (.b false)), none, false⟩,
  ⟨(some 24), .mv (.t 139), none, false⟩]
abbrev i18r15 : List IOper := [
  ⟨(some 140), .mv (.t 24), none, false⟩,
  ⟨(some 141), .mv (.t 140), none, true⟩,
  ⟨(some 142), .mv (.t 19), (some (141, true)), false⟩,
  ⟨(some 143), .bsl [.b false, .b false, .b false, .b false] 4 [(0, 1, .c (.b true)), (1, 1, .c (.b true)), (2, 1, .c (.b false)), (3, 1, .c (.b false))], (some (141, true)), false⟩,
  ⟨(some 144), .call (.c (.fn 37 [])) [.t 142, .t 143], (some (141, true)), false⟩,
  ⟨(some 145), .pick (.t 141) (.t 144) (.c (.b false)), none, false⟩,
  ⟨(some 146), .mv (.t 145), none, true⟩,
  ⟨(some 147), .ld true 12 (.t 18), (some (146, true)), false⟩,
  ⟨(some 148), .build [.b false, .i .i64 0, .i .i64 0, .i .i64 0, .b false, .i .i64 0, .i .i64 0, .i .i64 0, .b false, .i .i64 0, .i .i64 0, .i .i64 0] [], (some (146, true)), false⟩,
  ⟨(some 149), .eqk false true [.b, .i, .i, .i, .b, .i, .i, .i, .b, .i, .i, .i] (.t 147) (.t 148), (some (146, true)), false⟩,
  ⟨(some 150), .pick (.t 146) (.t 149) (.c (.b false)), none, false⟩,
  ⟨(some 151), .mv (.t 150), none, true⟩,
  ⟨(some 152), .mv (.t 21), (some (151, true)), false⟩,
  ⟨(some 153), .bsl [.b false, .b false, .b false, .b false] 4 [(0, 1, .c (.b true)), (1, 1, .c (.b false)), (2, 1, .c (.b true)), (3, 1, .c (.b true))], (some (151, true)), false⟩,
  ⟨(some 154), .call (.c (.fn 37 [])) [.t 152, .t 153], (some (151, true)), false⟩,
  ⟨(some 155), .pick (.t 151) (.t 154) (.c (.b false)), none, false⟩,
  ⟨(some 156), .mv (.t 155), none, true⟩,
  ⟨(some 157), .fa 0 (.t 20), (some (156, true)), false⟩,
  ⟨(some 158), .ixaA 3 4 (.t 157) (.c (.i .i64 0)), (some (156, true)), false⟩,
  ⟨(some 159), .ld true 4 (.t 158), (some (156, true)), false⟩,
  ⟨(some 160), .build [.b false, .i .i64 0, .i .i64 0, .i .i64 0] [(0, 1, .c (.b true)), (1, 1, .c (.i .i64 302)), (2, 1, .c (.i .i64 7)), (3, 1, .c (.i .i64 1))], (some (156, true)), false⟩,
  ⟨(some 161), .eqk false true [.b, .i, .i, .i] (.t 159) (.t 160), (some (156, true)), false⟩,
  ⟨(some 162), .pick (.t 156) (.t 161) (.c (.b false)), none, false⟩,
  ⟨(some 163), .mv (.t 162), none, true⟩,
  ⟨(some 164), .mv (.t 23), (some (163, true)), false⟩,
  ⟨(some 165), .bsl [.b false, .b false, .b false] 3 [(0, 1, .c (.b true)), (1, 1, .c (.b true)), (2, 1, .c (.b false))], (some (163, true)), false⟩,
  ⟨(some 166), .call (.c (.fn 37 [])) [.t 164, .t 165], (some (163, true)), false⟩,
  ⟨(some 167), .pick (.t 163) (.t 166) (.c (.b false)), none, false⟩,
  ⟨(some 0), .mv (.t 167), none, false⟩]
abbrev i18c : ICode := (.seq (.reg i18r0) (.seq (.reg i18r1) (.seq (.reg i18r2) (.seq (.reg i18r3) (.seq (.reg i18r4) (.seq (.reg i18r5) (.seq (.reg i18r6) (.seq (.reg i18r7) (.seq (.reg i18r8) (.seq (.reg i18r9) (.seq (.reg i18r10) (.seq (.reg i18r11) (.seq (.reg i18r12) (.seq (.reg i18r13) (.seq (.reg i18r14) (.seq (.reg i18r15) .ret))))))))))))))))
def i18 : IFn := { np := 0, N := 168, ct := [], code := i18c, res := [.t 0] }
theorem i18_eq : compF Try.prog Try.f18 = some i18 := by kernel_rfl
abbrev i19r0 : List IOper := [
  ⟨(some 2), .box (.t 0), none, false⟩,
  ⟨(some 4), .mv (.c (.s [])), none, false⟩]
abbrev i19r1 : List IOper := [
  ⟨(some 6), .fa 0 (.t 2), none, false⟩,
  ⟨(some 7), .ld false 1 (.t 6), none, false⟩,
  ⟨(some 8), .i2i .i64 (.t 7), none, false⟩,
  ⟨(some 9), .mv (.t 1), none, false⟩,
  ⟨(some 10), .lenS (.t 9), none, false⟩,
  ⟨(some 11), .mn (.t 8) [.t 10], none, false⟩,
  ⟨(some 5), .mv (.t 11), none, false⟩]
abbrev i19r2 : List (IOper × List Nat) := [
  (⟨(some 12), .mv (.t 1), none, false⟩, []),
  (⟨(some 13), .mv (.t 5), none, false⟩, [0]),
  (⟨(some 14), .slS (.t 12) none (some (.t 13)), none, false⟩, []),
  (⟨(some 15), .fa 2 (.t 2), none, false⟩, [0, 1, 2]),
  (⟨(some 16), .ld false 1 (.t 15), none, false⟩, [0, 1, 2]),
  (⟨(some 17), .fa 2 (.t 2), none, false⟩, [0, 1, 2, 3, 4]),
  (⟨(some 18), .ld false 1 (.t 17), none, false⟩, [0, 1, 2, 3, 4]),
  (⟨(some 19), .lenS (.t 18), none, false⟩, [0, 1, 2, 3, 4]),
  (⟨(some 20), .mn (.t 19) [.c (.i .i64 20)], none, false⟩, [0, 1, 2, 3, 4]),
  (⟨(some 21), .slS (.t 16) none (some (.t 20)), none, false⟩, [0, 1, 2]),
  (⟨(some 22), .bin .add (.t 14) (.t 21), none, false⟩, []),
  (⟨(some 23), .mv (.t 1), none, false⟩, [0, 1, 2, 3, 4, 5, 6, 7, 8, 9, 10]),
  (⟨(some 24), .mv (.t 5), none, false⟩, [0, 1, 2, 3, 4, 5, 6, 7, 8, 9, 10, 11]),
  (⟨(some 25), .fa 1 (.t 2), none, false⟩, [0, 1, 2, 3, 4, 5, 6, 7, 8, 9, 10, 11, 12]),
  (⟨(some 26), .ld false 1 (.t 25), none, false⟩, [0, 1, 2, 3, 4, 5, 6, 7, 8, 9, 10, 11, 12]),
  (⟨(some 27), .i2i .i64 (.t 26), none, false⟩, [0, 1, 2, 3, 4, 5, 6, 7, 8, 9, 10, 11, 12]),
  (⟨(some 28), .bin .add (.t 24) (.t 27), none, false⟩, [0, 1, 2, 3, 4, 5, 6, 7, 8, 9, 10, 11]),
  (⟨(some 29), .mv (.t 1), none, false⟩, [0, 1, 2, 3, 4, 5, 6, 7, 8, 9, 10, 11, 12, 13, 14, 15, 16]),
  (⟨(some 30), .lenS (.t 29), none, false⟩, [0, 1, 2, 3, 4, 5, 6, 7, 8, 9, 10, 11, 12, 13, 14, 15, 16]),
  (⟨(some 31), .mn (.t 28) [.t 30], none, false⟩, [0, 1, 2, 3, 4, 5, 6, 7, 8, 9, 10, 11]),
  (⟨(some 32), .slS (.t 23) (some (.t 31)) none, none, false⟩, [0, 1, 2, 3, 4, 5, 6, 7, 8, 9, 10]),
  (⟨(some 33), .bin .add (.t 22) (.t 32), none, false⟩, []),
  (⟨(some 4), .mv (.t 33), none, false⟩, [])]
abbrev i19c : ICode := (.seq (.reg i19r0) (.seq (.reg i19r1) (.seq (.dreg i19r2) .ret)))
def i19 : IFn := { np := 2, N := 34, ct := [], code := i19c, res := [.t 4] }
theorem i19_eq : compF Try.prog Try.f19 = some i19 := by kernel_rfl
abbrev i20r0 : List IOper := [
  ⟨(some 2), .new [.b false, .b false, .b false, .b false, .i .i64 0, .i .i64 0, .i .i64 0, .i .i64 0], none, false⟩,
  ⟨(some 3), .mv (.c (.s [])), none, false⟩,
  ⟨(some 4), .mv (.c (.i .i64 0)), none, false⟩]
abbrev i20r1 : List IOper := [
  ⟨(some 7), .mv (.t 0), none, false⟩,
  ⟨(some 8), .lenS (.t 7), none, false⟩,
  ⟨(some 9), .bin .lss (.t 8) (.c (.i .i64 5)), none, true⟩]
abbrev i20r2 : List IOper := [
  ⟨(some 10), .build [.b false, .b false, .b false, .b false, .i .i64 0, .i .i64 0, .i .i64 0, .i .i64 0] [], none, false⟩,
  ⟨none, .st 8 (.t 2) (.t 10), none, false⟩,
  ⟨(some 3), .mv (.c (.s [])), none, false⟩,
  ⟨(some 4), .mv (.c (.i .i64 7)), none, false⟩]
abbrev i20r3 : List (IOper × List Nat) := [
  (⟨(some 11), .mv (.t 0), none, false⟩, []),
  (⟨(some 12), .ixS (.t 11) (.c (.i .i64 0)), none, false⟩, []),
  (⟨(some 13), .mv (.t 0), none, false⟩, [0, 1]),
  (⟨(some 14), .ixS (.t 13) (.c (.i .i64 4)), none, false⟩, [0, 1]),
  (⟨(some 5), .mv (.t 12), none, false⟩, [2, 3]),
  (⟨(some 6), .mv (.t 14), none, false⟩, [])]
abbrev i20r4 : List (IOper × List Nat) := [
  (⟨(some 15), .mv (.t 5), none, false⟩, []),
  (⟨(some 16), .bin .and (.t 15) (.c (.i .u8 64)), none, false⟩, []),
  (⟨(some 17), .bin .neq (.t 16) (.c (.i .u8 0)), none, false⟩, []),
  (⟨(some 18), .mv (.t 5), none, false⟩, [0, 1, 2]),
  (⟨(some 19), .bin .and (.t 18) (.c (.i .u8 32)), none, false⟩, [0, 1, 2]),
  (⟨(some 20), .bin .neq (.t 19) (.c (.i .u8 0)), none, false⟩, [0, 1, 2]),
  (⟨(some 21), .mv (.t 5), none, false⟩, [0, 1, 2, 3, 4, 5]),
  (⟨(some 22), .bin .and (.t 21) (.c (.i .u8 16)), none, false⟩, [0, 1, 2, 3, 4, 5]),
  (⟨(some 23), .bin .neq (.t 22) (.c (.i .u8 0)), none, false⟩, [0, 1, 2, 3, 4, 5]),
  (⟨(some 24), .mv (.t 5), none, false⟩, [0, 1, 2, 3, 4, 5, 6, 7, 8]),
  (⟨(some 25), .bin .and (.t 24) (.c (.i .u8 8)), none, false⟩, [0, 1, 2, 3, 4, 5, 6, 7, 8]),
  (⟨(some 26), .bin .neq (.t 25) (.c (.i .u8 0)), none, false⟩, [0, 1, 2, 3, 4, 5, 6, 7, 8]),
  (⟨(some 27), .mv (.t 0), none, false⟩, [0, 1, 2, 3, 4, 5, 6, 7, 8, 9, 10, 11]),
  (⟨(some 28), .ixS (.t 27) (.c (.i .i64 1)), none, false⟩, [0, 1, 2, 3, 4, 5, 6, 7, 8, 9, 10, 11]),
  (⟨(some 29), .bin .and (.t 28) (.c (.i .u8 127)), none, false⟩, [0, 1, 2, 3, 4, 5, 6, 7, 8, 9, 10, 11]),
  (⟨(some 30), .i2i .i64 (.t 29), none, false⟩, [0, 1, 2, 3, 4, 5, 6, 7, 8, 9, 10, 11]),
  (⟨(some 31), .bin .shl (.t 30) (.c (.i .u64 8)), none, false⟩, [0, 1, 2, 3, 4, 5, 6, 7, 8, 9, 10, 11]),
  (⟨(some 32), .mv (.t 0), none, false⟩, [0, 1, 2, 3, 4, 5, 6, 7, 8, 9, 10, 11, 12, 13, 14, 15, 16]),
  (⟨(some 33), .ixS (.t 32) (.c (.i .i64 2)), none, false⟩, [0, 1, 2, 3, 4, 5, 6, 7, 8, 9, 10, 11, 12, 13, 14, 15, 16]),
  (⟨(some 34), .i2i .i64 (.t 33), none, false⟩, [0, 1, 2, 3, 4, 5, 6, 7, 8, 9, 10, 11, 12, 13, 14, 15, 16]),
  (⟨(some 35), .bin .or (.t 31) (.t 34), none, false⟩, [0, 1, 2, 3, 4, 5, 6, 7, 8, 9, 10, 11]),
  (⟨(some 36), .mv (.t 0), none, false⟩, [0, 1, 2, 3, 4, 5, 6, 7, 8, 9, 10, 11, 12, 13, 14, 15, 16, 17, 18, 19, 20]),
  (⟨(some 37), .ixS (.t 36) (.c (.i .i64 3)), none, false⟩, [0, 1, 2, 3, 4, 5, 6, 7, 8, 9, 10, 11, 12, 13, 14, 15, 16, 17, 18, 19, 20]),
  (⟨(some 38), .i2i .i64 (.t 37), none, false⟩, [0, 1, 2, 3, 4, 5, 6, 7, 8, 9, 10, 11, 12, 13, 14, 15, 16, 17, 18, 19, 20]),
  (⟨(some 39), .mv (.t 6), none, false⟩, [0, 1, 2, 3, 4, 5, 6, 7, 8, 9, 10, 11, 12, 13, 14, 15, 16, 17, 18, 19, 20, 21, 22, 23]),
  (⟨(some 40), .bin .shr (.t 39) (.c (.i .u64 6)), none, false⟩, [0, 1, 2, 3, 4, 5, 6, 7, 8, 9, 10, 11, 12, 13, 14, 15, 16, 17, 18, 19, 20, 21, 22, 23]),
  (⟨(some 41), .i2i .i64 (.t 40), none, false⟩, [0, 1, 2, 3, 4, 5, 6, 7, 8, 9, 10, 11, 12, 13, 14, 15, 16, 17, 18, 19, 20, 21, 22, 23]),
  (⟨(some 42), .mv (.t 6), none, false⟩, [0, 1, 2, 3, 4, 5, 6, 7, 8, 9, 10, 11, 12, 13, 14, 15, 16, 17, 18, 19, 20, 21, 22, 23, 24, 25, 26]),
  (⟨(some 43), .bin .shr (.t 42) (.c (.i .u64 4)), none, false⟩, [0, 1, 2, 3, 4, 5, 6, 7, 8, 9, 10, 11, 12, 13, 14, 15, 16, 17, 18, 19, 20, 21, 22, 23, 24, 25, 26]),
  (⟨(some 44), .bin .and (.t 43) (.c (.i .u8 3)), none, false⟩, [0, 1, 2, 3, 4, 5, 6, 7, 8, 9, 10, 11, 12, 13, 14, 15, 16, 17, 18, 19, 20, 21, 22, 23, 24, 25, 26]),
  (⟨(some 45), .i2i .i64 (.t 44), none, false⟩, [0, 1, 2, 3, 4, 5, 6, 7, 8, 9, 10, 11, 12, 13, 14, 15, 16, 17, 18, 19, 20, 21, 22, 23, 24, 25, 26]),
  (⟨(some 46), .build [.b false, .b false, .b false, .b false, .i .i64 0, .i .i64 0, .i .i64 0, .i .i64 0] [(0, 1, .t 17), (1, 1, .t 20), (2, 1, .t 23), (3, 1, .t 26), (4, 1, .t 35), (5, 1, .t 38), (6, 1, .t 41), (7, 1, .t 45)], none, false⟩, []),
  (⟨none, .st 8 (.t 2) (.t 46), none, false⟩, [])]
abbrev i20r5 : List IOper := [
  ⟨(some 47), .mv (.t 5), none, false⟩,
  ⟨(some 48), .bin .and (.t 47) (.c (.i .u8 135)), none, false⟩,
  ⟨(some 49), .bin .neq (.t 48) (.c (.i .u8 128)), none, false⟩,
  ⟨(some 50), .mv (.t 49), none, true⟩,
  ⟨(some 51), .mv (.t 0), (some (50, false)), false⟩,
  ⟨(some 52), .ixS (.t 51) (.c (.i .i64 1)), (some (50, false)), false⟩,
  ⟨(some 53), .bin .lss (.t 52) (.c (.i .u8 128)), (some (50, false)), false⟩,
  ⟨(some 54), .pick (.t 50) (.c (.b true)) (.t 53), none, false⟩,
  ⟨(some 55), .mv (.t 54), none, true⟩,
  ⟨(some 56), .mv (.t 6), (some (55, false)), false⟩,
  ⟨(some 57), .bin .and (.t 56) (.c (.i .u8 15)), (some (55, false)), false⟩,
  ⟨(some 58), .bin .neq (.t 57) (.c (.i .u8 0)), (some (55, false)), false⟩,
  ⟨(some 59), .pick (.t 55) (.c (.b true)) (.t 58), none, false⟩,
  ⟨(some 60), .mv (.t 59), none, true⟩,
  ⟨(some 61), .ld true 8 (.t 2), (some (60, false)), false⟩,
  ⟨(some 62), .call (.c (.fn 14 [])) [.t 61], (some (60, false)), false⟩,
  ⟨(some 63), .bin .neq (.t 62) (.c (.i .i64 0)), (some (60, false)), false⟩,
  ⟨(some 64), .pick (.t 60) (.c (.b true)) (.t 63), none, true⟩]
abbrev i20r6 : List IOper := [
  ⟨(some 65), .build [.b false, .b false, .b false, .b false, .i .i64 0, .i .i64 0, .i .i64 0, .i .i64 0] [], none, false⟩,
  ⟨none, .st 8 (.t 2) (.t 65), none, false⟩,
  ⟨(some 3), .mv (.c (.s [])), none, false⟩,
  ⟨(some 4), .mv (.c (.i .i64 5)), none, false⟩]
abbrev i20r7 : List (IOper × List Nat) := [
  (⟨(some 66), .ld true 8 (.t 2), none, false⟩, []),
  (⟨(some 67), .mv (.t 0), none, false⟩, [0]),
  (⟨(some 68), .slS (.t 67) (some (.c (.i .i64 5))) none, none, false⟩, [0]),
  (⟨none, .st 8 (.t 2) (.t 66), none, false⟩, [1, 2]),
  (⟨(some 3), .mv (.t 68), none, false⟩, []),
  (⟨(some 4), .mv (.c (.i .i64 0)), none, false⟩, [])]
abbrev i20c : ICode := (.seq (.reg i20r0) (.seq (.seq (.reg i20r1) (.cond (.t 9) (.seq (.reg i20r2) .ret) .skip)) (.seq (.dreg i20r3) (.seq (.dreg i20r4) (.seq (.seq (.reg i20r5) (.cond (.t 64) (.seq (.reg i20r6) .ret) .skip)) (.seq (.dreg i20r7) .ret))))))
def i20 : IFn := { np := 1, N := 69, ct := [9, 64], code := i20c, res := [.c 2 true 8, .t 3, .t 4] }
theorem i20_eq : compF Try.prog Try.f20 = some i20 := by kernel_rfl
abbrev i21r0 : List IOper := [
  ⟨(some 2), .new [.b false, .b false, .b false, .b false, .i .i64 0, .i .i64 0, .i .i64 0, .i .i64 0], none, false⟩,
  ⟨(some 3), .mv (.c (.s [])), none, false⟩,
  ⟨(some 4), .mv (.c (.i .i64 0)), none, false⟩]
abbrev i21r1 : List IOper := [
  ⟨(some 6), .mv (.t 0), none, false⟩,
  ⟨(some 7), .lenS (.t 6), none, false⟩,
  ⟨(some 8), .bin .lss (.t 7) (.c (.i .i64 5)), none, true⟩]
abbrev i21r2 : List IOper := [
  ⟨(some 9), .build [.b false, .b false, .b false, .b false, .i .i64 0, .i .i64 0, .i .i64 0, .i .i64 0] [], none, false⟩,
  ⟨none, .st 8 (.t 2) (.t 9), none, false⟩,
  ⟨(some 3), .mv (.c (.s [])), none, false⟩,
  ⟨(some 4), .mv (.c (.i .i64 7)), none, false⟩]
abbrev i21r3 : List (IOper × List Nat) := [
  (⟨(some 10), .mv (.t 0), none, false⟩, []),
  (⟨(some 11), .ixS (.t 10) (.c (.i .i64 0)), none, false⟩, []),
  (⟨(some 12), .bin .quo (.t 11) (.c (.i .u8 64)), none, false⟩, []),
  (⟨(some 13), .bin .rem (.t 12) (.c (.i .u8 2)), none, false⟩, []),
  (⟨(some 14), .bin .eql (.t 13) (.c (.i .u8 1)), none, false⟩, []),
  (⟨(some 15), .mv (.t 0), none, false⟩, [0, 1, 2, 3, 4]),
  (⟨(some 16), .ixS (.t 15) (.c (.i .i64 0)), none, false⟩, [0, 1, 2, 3, 4]),
  (⟨(some 17), .bin .quo (.t 16) (.c (.i .u8 32)), none, false⟩, [0, 1, 2, 3, 4]),
  (⟨(some 18), .bin .rem (.t 17) (.c (.i .u8 2)), none, false⟩, [0, 1, 2, 3, 4]),
  (⟨(some 19), .bin .eql (.t 18) (.c (.i .u8 1)), none, false⟩, [0, 1, 2, 3, 4]),
  (⟨(some 20), .mv (.t 0), none, false⟩, [0, 1, 2, 3, 4, 5, 6, 7, 8, 9]),
  (⟨(some 21), .ixS (.t 20) (.c (.i .i64 0)), none, false⟩, [0, 1, 2, 3, 4, 5, 6, 7, 8, 9]),
  (⟨(some 22), .bin .quo (.t 21) (.c (.i .u8 16)), none, false⟩, [0, 1, 2, 3, 4, 5, 6, 7, 8, 9]),
  (⟨(some 23), .bin .rem (.t 22) (.c (.i .u8 2)), none, false⟩, [0, 1, 2, 3, 4, 5, 6, 7, 8, 9]),
  (⟨(some 24), .bin .eql (.t 23) (.c (.i .u8 1)), none, false⟩, [0, 1, 2, 3, 4, 5, 6, 7, 8, 9]),
  (⟨(some 25), .mv (.t 0), none, false⟩, [0, 1, 2, 3, 4, 5, 6, 7, 8, 9, 10, 11, 12, 13, 14]),
  (⟨(some 26), .ixS (.t 25) (.c (.i .i64 0)), none, false⟩, [0, 1, 2, 3, 4, 5, 6, 7, 8, 9, 10, 11, 12, 13, 14]),
  (⟨(some 27), .bin .quo (.t 26) (.c (.i .u8 8)), none, false⟩, [0, 1, 2, 3, 4, 5, 6, 7, 8, 9, 10, 11, 12, 13, 14]),
  (⟨(some 28), .bin .rem (.t 27) (.c (.i .u8 2)), none, false⟩, [0, 1, 2, 3, 4, 5, 6, 7, 8, 9, 10, 11, 12, 13, 14]),
  (⟨(some 29), .bin .eql (.t 28) (.c (.i .u8 1)), none, false⟩, [0, 1, 2, 3, 4, 5, 6, 7, 8, 9, 10, 11, 12, 13, 14]),
  (⟨(some 30), .mv (.t 0), none, false⟩, [0, 1, 2, 3, 4, 5, 6, 7, 8, 9, 10, 11, 12, 13, 14, 15, 16, 17, 18, 19]),
  (⟨(some 31), .ixS (.t 30) (.c (.i .i64 1)), none, false⟩, [0, 1, 2, 3, 4, 5, 6, 7, 8, 9, 10, 11, 12, 13, 14, 15, 16, 17, 18, 19]),
  (⟨(some 32), .bin .rem (.t 31) (.c (.i .u8 128)), none, false⟩, [0, 1, 2, 3, 4, 5, 6, 7, 8, 9, 10, 11, 12, 13, 14, 15, 16, 17, 18, 19]),
  (⟨(some 33), .i2i .i64 (.t 32), none, false⟩, [0, 1, 2, 3, 4, 5, 6, 7, 8, 9, 10, 11, 12, 13, 14, 15, 16, 17, 18, 19]),
  (⟨(some 34), .bin .mul (.c (.i .i64 256)) (.t 33), none, false⟩, [0, 1, 2, 3, 4, 5, 6, 7, 8, 9, 10, 11, 12, 13, 14, 15, 16, 17, 18, 19]),
  (⟨(some 35), .mv (.t 0), none, false⟩, [0, 1, 2, 3, 4, 5, 6, 7, 8, 9, 10, 11, 12, 13, 14, 15, 16, 17, 18, 19, 20, 21, 22, 23, 24]),
  (⟨(some 36), .ixS (.t 35) (.c (.i .i64 2)), none, false⟩, [0, 1, 2, 3, 4, 5, 6, 7, 8, 9, 10, 11, 12, 13, 14, 15, 16, 17, 18, 19, 20, 21, 22, 23, 24]),
  (⟨(some 37), .i2i .i64 (.t 36), none, false⟩, [0, 1, 2, 3, 4, 5, 6, 7, 8, 9, 10, 11, 12, 13, 14, 15, 16, 17, 18, 19, 20, 21, 22, 23, 24]),
  (⟨(some 38), .bin .add (.t 34) (.t 37), none, false⟩, [0, 1, 2, 3, 4, 5, 6, 7, 8, 9, 10, 11, 12, 13, 14, 15, 16, 17, 18, 19]),
  (⟨(some 39), .mv (.t 0), none, false⟩, [0, 1, 2, 3, 4, 5, 6, 7, 8, 9, 10, 11, 12, 13, 14, 15, 16, 17, 18, 19, 20, 21, 22, 23, 24, 25, 26, 27, 28]),
  (⟨(some 40), .ixS (.t 39) (.c (.i .i64 3)), none, false⟩, [0, 1, 2, 3, 4, 5, 6, 7, 8, 9, 10, 11, 12, 13, 14, 15, 16, 17, 18, 19, 20, 21, 22, 23, 24, 25, 26, 27, 28]),
  (⟨(some 41), .i2i .i64 (.t 40), none, false⟩, [0, 1, 2, 3, 4, 5, 6, 7, 8, 9, 10, 11, 12, 13, 14, 15, 16, 17, 18, 19, 20, 21, 22, 23, 24, 25, 26, 27, 28]),
  (⟨(some 42), .mv (.t 0), none, false⟩, [0, 1, 2, 3, 4, 5, 6, 7, 8, 9, 10, 11, 12, 13, 14, 15, 16, 17, 18, 19, 20, 21, 22, 23, 24, 25, 26, 27, 28, 29, 30, 31]),
  (⟨(some 43), .ixS (.t 42) (.c (.i .i64 4)), none, false⟩, [0, 1, 2, 3, 4, 5, 6, 7, 8, 9, 10, 11, 12, 13, 14, 15, 16, 17, 18, 19, 20, 21, 22, 23, 24, 25, 26, 27, 28, 29, 30, 31]),
  (⟨(some 44), .bin .quo (.t 43) (.c (.i .u8 64)), none, false⟩, [0, 1, 2, 3, 4, 5, 6, 7, 8, 9, 10, 11, 12, 13, 14, 15, 16, 17, 18, 19, 20, 21, 22, 23, 24, 25, 26, 27, 28, 29, 30, 31]),
  (⟨(some 45), .i2i .i64 (.t 44), none, false⟩, [0, 1, 2, 3, 4, 5, 6, 7, 8, 9, 10, 11, 12, 13, 14, 15, 16, 17, 18, 19, 20, 21, 22, 23, 24, 25, 26, 27, 28, 29, 30, 31]),
  (⟨(some 46), .mv (.t 0), none, false⟩, [0, 1, 2, 3, 4, 5, 6, 7, 8, 9, 10, 11, 12, 13, 14, 15, 16, 17, 18, 19, 20, 21, 22, 23, 24, 25, 26, 27, 28, 29, 30, 31, 32, 33, 34, 35]),
  (⟨(some 47), .ixS (.t 46) (.c (.i .i64 4)), none, false⟩, [0, 1, 2, 3, 4, 5, 6, 7, 8, 9, 10, 11, 12, 13, 14, 15, 16, 17, 18, 19, 20, 21, 22, 23, 24, 25, 26, 27, 28, 29, 30, 31, 32, 33, 34, 35]),
  (⟨(some 48), .bin .quo (.t 47) (.c (.i .u8 16)), none, false⟩, [0, 1, 2, 3, 4, 5, 6, 7, 8, 9, 10, 11, 12, 13, 14, 15, 16, 17, 18, 19, 20, 21, 22, 23, 24, 25, 26, 27, 28, 29, 30, 31, 32, 33, 34, 35]),
  (⟨(some 49), .bin .rem (.t 48) (.c (.i .u8 4)), none, false⟩, [0, 1, 2, 3, 4, 5, 6, 7, 8, 9, 10, 11, 12, 13, 14, 15, 16, 17, 18, 19, 20, 21, 22, 23, 24, 25, 26, 27, 28, 29, 30, 31, 32, 33, 34, 35]),
  (⟨(some 50), .i2i .i64 (.t 49), none, false⟩, [0, 1, 2, 3, 4, 5, 6, 7, 8, 9, 10, 11, 12, 13, 14, 15, 16, 17, 18, 19, 20, 21, 22, 23, 24, 25, 26, 27, 28, 29, 30, 31, 32, 33, 34, 35]),
  (⟨(some 51), .build [.b false, .b false, .b false, .b false, .i .i64 0, .i .i64 0, .i .i64 0, .i .i64 0] [(0, 1, .t 14), (1, 1, .t 19), (2, 1, .t 24), (3, 1, .t 29), (4, 1, .t 38), (5, 1, .t 41), (6, 1, .t 45), (7, 1, .t 50)], none, false⟩, []),
  (⟨(some 5), .new [.b false, .b false, .b false, .b false, .i .i64 0, .i .i64 0, .i .i64 0, .i .i64 0], none, false⟩, [0, 1, 2, 3, 4, 5, 6, 7, 8, 9, 10, 11, 12, 13, 14, 15, 16, 17, 18, 19, 20, 21, 22, 23, 24, 25, 26, 27, 28, 29, 30, 31, 32, 33, 34, 35, 36, 37, 38, 39, 40, 41]),
  (⟨none, .st 8 (.t 5) (.t 51), none, false⟩, [])]
abbrev i21r4 : List (IOper × List Nat) := [
  (⟨(some 52), .ld true 8 (.t 5), none, false⟩, []),
  (⟨(some 53), .call (.c (.fn 16 [])) [.t 52], none, false⟩, []),
  (⟨(some 54), .not (.t 53), none, false⟩, []),
  (⟨(some 55), .mv (.t 54), none, true⟩, []),
  (⟨(some 56), .ld true 8 (.t 5), (some (55, false)), false⟩, []),
  (⟨(some 57), .call (.c (.fn 17 [])) [.t 56], (some (55, false)), false⟩, []),
  (⟨(some 58), .mv (.t 0), (some (55, false)), false⟩, [4, 5]),
  (⟨(some 59), .slS (.t 58) none (some (.c (.i .i64 5))), (some (55, false)), false⟩, [4, 5]),
  (⟨(some 60), .bin .neq (.t 57) (.t 59), (some (55, false)), false⟩, []),
  (⟨(some 61), .pick (.t 55) (.c (.b true)) (.t 60), none, true⟩, [])]
abbrev i21r5 : List IOper := [
  ⟨(some 62), .build [.b false, .b false, .b false, .b false, .i .i64 0, .i .i64 0, .i .i64 0, .i .i64 0] [], none, false⟩,
  ⟨none, .st 8 (.t 2) (.t 62), none, false⟩,
  ⟨(some 3), .mv (.c (.s [])), none, false⟩,
  ⟨(some 4), .mv (.c (.i .i64 5)), none, false⟩]
abbrev i21r6 : List (IOper × List Nat) := [
  (⟨(some 63), .ld true 8 (.t 5), none, false⟩, []),
  (⟨(some 64), .mv (.t 0), none, false⟩, [0]),
  (⟨(some 65), .slS (.t 64) (some (.c (.i .i64 5))) none, none, false⟩, [0]),
  (⟨none, .st 8 (.t 2) (.t 63), none, false⟩, [1, 2]),
  (⟨(some 3), .mv (.t 65), none, false⟩, []),
  (⟨(some 4), .mv (.c (.i .i64 0)), none, false⟩, [])]
abbrev i21c : ICode := (.seq (.reg i21r0) (.seq (.seq (.reg i21r1) (.cond (.t 8) (.seq (.reg i21r2) .ret) .skip)) (.seq (.dreg i21r3) (.seq (.seq (.dreg i21r4) (.cond (.t 61) (.seq (.reg i21r5) .ret) .skip)) (.seq (.dreg i21r6) .ret)))))
def i21 : IFn := { np := 1, N := 66, ct := [8, 61], code := i21c, res := [.c 2 true 8, .t 3, .t 4] }
theorem i21_eq : compF Try.prog Try.f21 = some i21 := by kernel_rfl
abbrev i22r0 : List IOper := [
  ⟨(some 6), .mv (.c (.s [])), none, false⟩,
  ⟨(some 7), .mv (.c (.i .i64 0)), none, false⟩]
abbrev i22r1 : List IOper := [
  ⟨(some 12), .mv (.t 0), none, false⟩,
  ⟨(some 13), .call (.c (.fn 20 [])) [.t 12], none, false⟩,
  ⟨(some 11), .mv (.t 13), none, false⟩,
  ⟨(some 14), .ext (.t 11) 0, none, false⟩,
  ⟨(some 15), .ext (.t 11) 1, none, false⟩,
  ⟨(some 16), .ext (.t 11) 2, none, false⟩,
  ⟨(some 8), .new [.b false, .b false, .b false, .b false, .i .i64 0, .i .i64 0, .i .i64 0, .i .i64 0], none, false⟩,
  ⟨none, .st 8 (.t 8) (.t 14), none, false⟩,
  ⟨(some 9), .mv (.t 15), none, false⟩,
  ⟨(some 10), .mv (.t 16), none, false⟩]
abbrev i22r2 : List IOper := [
  ⟨(some 17), .mv (.t 10), none, false⟩,
  ⟨(some 18), .bin .neq (.t 17) (.c (.i .i64 0)), none, true⟩]
abbrev i22r3 : List IOper := [
  ⟨(some 19), .mv (.t 10), none, false⟩,
  ⟨(some 6), .mv (.c (.s [])), none, false⟩,
  ⟨(some 7), .mv (.t 19), none, false⟩]
abbrev i22r4 : List IOper := [
  ⟨(some 20), .mv (.t 1), none, false⟩,
  ⟨(some 21), .call (.c (.fn 44 [])) [.c (.i .i64 32767), .t 20], none, false⟩,
  ⟨(some 22), .not (.t 21), none, false⟩,
  ⟨(some 23), .mv (.t 22), none, true⟩,
  ⟨(some 24), .mv (.t 2), (some (23, false)), false⟩,
  ⟨(some 25), .call (.c (.fn 44 [])) [.c (.i .i64 255), .t 24], (some (23, false)), false⟩,
  ⟨(some 26), .not (.t 25), (some (23, false)), false⟩,
  ⟨(some 27), .pick (.t 23) (.c (.b true)) (.t 26), none, true⟩]
abbrev i22r5 : List IOper := [
  ⟨(some 6), .mv (.c (.s [])), none, false⟩,
  ⟨(some 7), .mv (.c (.i .i64 2)), none, false⟩]
abbrev i22r6 : List IOper := [
  ⟨(some 28), .mv (.t 1), none, false⟩,
  ⟨(some 29), .mv (.t 2), none, false⟩,
  ⟨(some 30), .fa 4 (.t 8), none, false⟩,
  ⟨none, .st 1 (.t 30) (.t 28), none, false⟩,
  ⟨(some 31), .fa 5 (.t 8), none, false⟩,
  ⟨none, .st 1 (.t 31) (.t 29), none, false⟩]
abbrev i22r7 : List IOper := [
  ⟨(some 32), .ld true 8 (.t 8), none, false⟩,
  ⟨(some 33), .call (.c (.fn 45 [])) [.t 32], none, false⟩,
  ⟨(some 34), .mv (.t 9), none, false⟩,
  ⟨(some 35), .bin .add (.t 33) (.t 34), none, false⟩,
  ⟨(some 6), .mv (.t 35), none, false⟩,
  ⟨(some 7), .mv (.c (.i .i64 0)), none, false⟩]
abbrev i22c : ICode := (.seq (.reg i22r0) (.seq (.reg i22r1) (.seq (.seq (.reg i22r2) (.cond (.t 18) (.seq (.reg i22r3) .ret) .skip)) (.seq (.seq (.reg i22r4) (.cond (.t 27) (.seq (.reg i22r5) .ret) .skip)) (.seq (.reg i22r6) (.seq (.reg i22r7) .ret))))))
def i22 : IFn := { np := 3, N := 36, ct := [18, 27], code := i22c, res := [.t 6, .t 7] }
theorem i22_eq : compF Try.prog Try.f22 = some i22 := by kernel_rfl
abbrev i23r0 : List IOper := [
  ⟨(some 6), .mv (.c (.s [])), none, false⟩,
  ⟨(some 7), .mv (.c (.i .i64 0)), none, false⟩]
abbrev i23r1 : List IOper := [
  ⟨(some 12), .mv (.t 0), none, false⟩,
  ⟨(some 13), .call (.c (.fn 21 [])) [.t 12], none, false⟩,
  ⟨(some 11), .mv (.t 13), none, false⟩,
  ⟨(some 14), .ext (.t 11) 0, none, false⟩,
  ⟨(some 15), .ext (.t 11) 1, none, false⟩,
  ⟨(some 16), .ext (.t 11) 2, none, false⟩,
  ⟨(some 8), .new [.b false, .b false, .b false, .b false, .i .i64 0, .i .i64 0, .i .i64 0, .i .i64 0], none, false⟩,
  ⟨none, .st 8 (.t 8) (.t 14), none, false⟩,
  ⟨(some 9), .mv (.t 15), none, false⟩,
  ⟨(some 10), .mv (.t 16), none, false⟩]
abbrev i23r2 : List IOper := [
  ⟨(some 17), .mv (.t 10), none, false⟩,
  ⟨(some 18), .bin .neq (.t 17) (.c (.i .i64 0)), none, true⟩]
abbrev i23r3 : List IOper := [
  ⟨(some 19), .mv (.t 10), none, false⟩,
  ⟨(some 6), .mv (.c (.s [])), none, false⟩,
  ⟨(some 7), .mv (.t 19), none, false⟩]
abbrev i23r4 : List IOper := [
  ⟨(some 20), .mv (.t 1), none, false⟩,
  ⟨(some 21), .bin .lss (.t 20) (.c (.i .i64 0)), none, false⟩,
  ⟨(some 22), .mv (.t 21), none, true⟩,
  ⟨(some 23), .mv (.t 1), (some (22, false)), false⟩,
  ⟨(some 24), .bin .gtr (.t 23) (.c (.i .i64 32767)), (some (22, false)), false⟩,
  ⟨(some 25), .pick (.t 22) (.c (.b true)) (.t 24), none, false⟩,
  ⟨(some 26), .mv (.t 25), none, true⟩,
  ⟨(some 27), .mv (.t 2), (some (26, false)), false⟩,
  ⟨(some 28), .bin .lss (.t 27) (.c (.i .i64 0)), (some (26, false)), false⟩,
  ⟨(some 29), .pick (.t 26) (.c (.b true)) (.t 28), none, false⟩,
  ⟨(some 30), .mv (.t 29), none, true⟩,
  ⟨(some 31), .mv (.t 2), (some (30, false)), false⟩,
  ⟨(some 32), .bin .gtr (.t 31) (.c (.i .i64 255)), (some (30, false)), false⟩,
  ⟨(some 33), .pick (.t 30) (.c (.b true)) (.t 32), none, true⟩]
abbrev i23r5 : List IOper := [
  ⟨(some 6), .mv (.c (.s [])), none, false⟩,
  ⟨(some 7), .mv (.c (.i .i64 2)), none, false⟩]
abbrev i23r6 : List IOper := [
  ⟨(some 34), .mv (.t 1), none, false⟩,
  ⟨(some 35), .fa 4 (.t 8), none, false⟩,
  ⟨none, .st 1 (.t 35) (.t 34), none, false⟩]
abbrev i23r7 : List IOper := [
  ⟨(some 36), .mv (.t 2), none, false⟩,
  ⟨(some 37), .fa 5 (.t 8), none, false⟩,
  ⟨none, .st 1 (.t 37) (.t 36), none, false⟩]
abbrev i23r8 : List IOper := [
  ⟨(some 38), .ld true 8 (.t 8), none, false⟩,
  ⟨(some 39), .call (.c (.fn 17 [])) [.t 38], none, false⟩,
  ⟨(some 40), .mv (.t 9), none, false⟩,
  ⟨(some 41), .bin .add (.t 39) (.t 40), none, false⟩,
  ⟨(some 6), .mv (.t 41), none, false⟩,
  ⟨(some 7), .mv (.c (.i .i64 0)), none, false⟩]
abbrev i23c : ICode := (.seq (.reg i23r0) (.seq (.reg i23r1) (.seq (.seq (.reg i23r2) (.cond (.t 18) (.seq (.reg i23r3) .ret) .skip)) (.seq (.seq (.reg i23r4) (.cond (.t 33) (.seq (.reg i23r5) .ret) .skip)) (.seq (.reg i23r6) (.seq (.reg i23r7) (.seq (.reg i23r8) .ret)))))))
def i23 : IFn := { np := 3, N := 42, ct := [18, 33], code := i23c, res := [.t 6, .t 7] }
theorem i23_eq : compF Try.prog Try.f23 = some i23 := by kernel_rfl
abbrev i24r0 : List IOper := [
  ⟨(some 2), .new [.b false, .i .i64 0, .i .i64 0, .i .i64 0, .b false, .i .i64 0, .i .i64 0, .i .i64 0, .b false, .i .i64 0, .i .i64 0, .i .i64 0], none, false⟩]
abbrev i24r1 : List IOper := [
  ⟨(some 3), .new [.b false, .i .i64 0, .i .i64 0, .i .i64 0, .b false, .i .i64 0, .i .i64 0, .i .i64 0, .b false, .i .i64 0, .i .i64 0, .i .i64 0], none, false⟩]
abbrev i24r2 : List IOper := [
  ⟨(some 4), .mv (.c (.i .i64 0)), none, false⟩]
abbrev i24r3 : List IOper := [
  ⟨(some 5), .mv (.t 4), none, false⟩,
  ⟨(some 6), .mv (.t 0), none, false⟩,
  ⟨(some 7), .lenV (.t 6), none, false⟩,
  ⟨(some 8), .bin .lss (.t 5) (.t 7), none, false⟩,
  ⟨(some 9), .mv (.t 8), none, true⟩,
  ⟨(some 10), .mv (.t 4), (some (9, true)), false⟩,
  ⟨(some 11), .bin .lss (.t 10) (.c (.i .i64 30)), (some (9, true)), false⟩,
  ⟨(some 12), .pick (.t 9) (.t 11) (.c (.b false)), none, true⟩]
abbrev i24r4 : List (IOper × List Nat) := [
  (⟨(some 16), .ld true 12 (.t 3), none, false⟩, []),
  (⟨(some 17), .mv (.t 0), none, false⟩, [0]),
  (⟨(some 18), .mv (.t 4), none, false⟩, [0, 1]),
  (⟨(some 19), .ixaV 5 (.t 17) (.t 18), none, false⟩, [0]),
  (⟨(some 20), .ld true 5 (.t 19), none, false⟩, [0]),
  (⟨(some 21), .call (.c (.fn 12 [])) [.t 20], none, false⟩, [0]),
  (⟨(some 22), .call (.c (.fn 51 [])) [.t 16, .t 21], none, false⟩, []),
  (⟨(some 15), .mv (.t 22), none, false⟩, []),
  (⟨(some 23), .ext (.t 15) 0, none, false⟩, []),
  (⟨(some 24), .ext (.t 15) 1, none, false⟩, [8]),
  (⟨none, .st 12 (.t 3) (.t 23), none, false⟩, [9])]
abbrev i24r5 : List IOper := [
  ⟨(some 13), .mv (.t 4), none, false⟩,
  ⟨(some 14), .bin .add (.t 13) (.c (.i .i64 1)), none, false⟩,
  ⟨(some 4), .mv (.t 14), none, false⟩]
abbrev i24l6 : ICode := (.seq (.seq (.reg i24r3) (.cond (.t 12) .skip (.exit 0))) (.seq (.block 1 (.dreg i24r4)) (.reg i24r5)))
abbrev i24r7 : List IOper := [
  ⟨(some 25), .ld true 12 (.t 3), none, false⟩,
  ⟨none, .st 12 (.t 2) (.t 25), none, false⟩]
abbrev i24c : ICode := (.seq (.reg i24r0) (.seq (.reg i24r1) (.seq (.seq (.reg i24r2) (.block 0 (.loop i24l6))) (.seq (.reg i24r7) .ret))))
def i24 : IFn := { np := 1, N := 26, ct := [12], code := i24c, res := [.c 2 true 12] }
theorem i24_eq : compF Try.prog Try.f24 = some i24 := by kernel_rfl
abbrev i25r0 : List IOper := [
  ⟨(some 2), .box (.t 0), none, false⟩,
  ⟨(some 3), .box (.t 1), none, false⟩,
  ⟨(some 4), .new [.b false, .i .i64 0, .i .i64 0, .i .i64 0, .b false, .i .i64 0, .i .i64 0, .i .i64 0, .b false, .i .i64 0, .i .i64 0, .i .i64 0], none, false⟩]
abbrev i25r1 : List IOper := [
  ⟨(some 6), .fa 1 (.t 2), none, false⟩,
  ⟨(some 7), .ld false 1 (.t 6), none, false⟩,
  ⟨(some 8), .bin .rem (.t 7) (.c (.i .u8 3)), none, false⟩,
  ⟨(some 9), .fa 0 (.t 3), none, false⟩,
  ⟨(some 10), .ixaA 3 4 (.t 9) (.t 8), none, false⟩,
  ⟨(some 5), .mv (.t 10), none, false⟩]
abbrev i25r2 : List IOper := [
  ⟨(some 11), .fa 0 (.t 2), none, false⟩,
  ⟨(some 12), .ld false 1 (.t 11), none, false⟩,
  ⟨(some 13), .bin .rem (.t 12) (.c (.i .u8 4)), none, false⟩]
abbrev i25r3 : List IOper := [
  ⟨(some 20), .bin .eql (.t 13) (.c (.i .u8 0)), none, false⟩,
  ⟨(some 19), .mv (.t 20), none, true⟩]
abbrev i25r4 : List IOper := [
  ⟨(some 21), .mv (.t 5), none, false⟩,
  ⟨(some 22), .mv (.t 5), none, false⟩,
  ⟨(some 23), .nck (.t 22), none, false⟩,
  ⟨(some 24), .fa 0 (.t 23), none, false⟩,
  ⟨(some 25), .ld false 1 (.t 24), none, false⟩,
  ⟨(some 26), .not (.t 25), none, false⟩,
  ⟨(some 27), .nck (.t 21), none, false⟩,
  ⟨(some 28), .fa 0 (.t 27), none, false⟩,
  ⟨none, .st 1 (.t 28) (.t 26), none, false⟩]
abbrev i25r5 : List IOper := [
  ⟨(some 30), .bin .eql (.t 13) (.c (.i .u8 1)), none, false⟩,
  ⟨(some 29), .mv (.t 30), none, true⟩]
abbrev i25r6 : List IOper := [
  ⟨(some 31), .mv (.t 5), none, false⟩,
  ⟨(some 32), .fa 2 (.t 2), none, false⟩,
  ⟨(some 33), .ld false 1 (.t 32), none, false⟩,
  ⟨(some 34), .nck (.t 31), none, false⟩,
  ⟨(some 35), .fa 1 (.t 34), none, false⟩,
  ⟨none, .st 1 (.t 35) (.t 33), none, false⟩]
abbrev i25r7 : List IOper := [
  ⟨(some 37), .bin .eql (.t 13) (.c (.i .u8 2)), none, false⟩,
  ⟨(some 36), .mv (.t 37), none, true⟩]
abbrev i25r8 : List IOper := [
  ⟨(some 38), .mv (.t 5), none, false⟩,
  ⟨(some 39), .fa 2 (.t 2), none, false⟩,
  ⟨(some 40), .ld false 1 (.t 39), none, false⟩,
  ⟨(some 41), .nck (.t 38), none, false⟩,
  ⟨(some 42), .fa 2 (.t 41), none, false⟩,
  ⟨none, .st 1 (.t 42) (.t 40), none, false⟩]
abbrev i25r9 : List IOper := [
  ⟨(some 14), .mv (.t 5), none, false⟩,
  ⟨(some 15), .fa 2 (.t 2), none, false⟩,
  ⟨(some 16), .ld false 1 (.t 15), none, false⟩,
  ⟨(some 17), .nck (.t 14), none, false⟩,
  ⟨(some 18), .fa 3 (.t 17), none, false⟩,
  ⟨none, .st 1 (.t 18) (.t 16), none, false⟩]
abbrev i25r10 : List IOper := [
  ⟨(some 43), .ld true 12 (.t 3), none, false⟩,
  ⟨none, .st 12 (.t 4) (.t 43), none, false⟩]
abbrev i25c : ICode := (.seq (.reg i25r0) (.seq (.reg i25r1) (.seq (.seq (.reg i25r2) (.block 0 (.seq (.reg i25r3) (.cond (.t 19) (.reg i25r4) (.seq (.reg i25r5) (.cond (.t 29) (.reg i25r6) (.seq (.reg i25r7) (.cond (.t 36) (.reg i25r8) (.reg i25r9))))))))) (.seq (.reg i25r10) .ret))))
def i25 : IFn := { np := 2, N := 44, ct := [19, 29, 36], code := i25c, res := [.c 4 true 12] }
theorem i25_eq : compF Try.prog Try.f25 = some i25 := by kernel_rfl
abbrev i26r0 : List IOper := [
  ⟨(some 1), .box (.t 0), none, false⟩,
  ⟨(some 2), .mv (.c (.i .i64 0)), none, false⟩]
abbrev i26r1 : List IOper := [
  ⟨(some 6), .fa 0 (.t 1), none, false⟩,
  ⟨(some 7), .ld true 12 (.t 6), none, false⟩,
  ⟨(some 8), .build [.b false, .i .i64 0, .i .i64 0, .i .i64 0, .b false, .i .i64 0, .i .i64 0, .i .i64 0, .b false, .i .i64 0, .i .i64 0, .i .i64 0] [], none, false⟩,
  ⟨(some 9), .eqk false true [.b, .i, .i, .i, .b, .i, .i, .i, .b, .i, .i, .i] (.t 7) (.t 8), none, true⟩]
abbrev i26r2 : List IOper := [
  ⟨(some 2), .mv (.c (.i .i64 0)), none, false⟩]
abbrev i26r3 : List IOper := [
  ⟨(some 10), .fa 0 (.t 1), none, false⟩,
  ⟨(some 11), .ld true 12 (.t 10), none, false⟩,
  ⟨(some 12), .mv (.c (.i .i64 0)), none, false⟩]
abbrev i26r4 : List IOper := [
  ⟨(some 13), .bin .lss (.t 12) (.c (.i .i64 3)), none, true⟩]
abbrev i26r5 : List IOper := [
  ⟨(some 14), .mv (.t 12), none, false⟩,
  ⟨(some 15), .ixA 3 4 true (.t 11) (.t 12), none, false⟩,
  ⟨(some 4), .new [.b false, .i .i64 0, .i .i64 0, .i .i64 0], none, false⟩,
  ⟨(some 3), .mv (.t 14), none, false⟩,
  ⟨none, .st 4 (.t 4) (.t 15), none, false⟩]
abbrev i26r6 : List IOper := [
  ⟨(some 16), .fa 1 (.t 4), none, false⟩,
  ⟨(some 17), .ld false 1 (.t 16), none, false⟩,
  ⟨(some 18), .call (.c (.fn 44 [])) [.c (.i .i64 32767), .t 17], none, false⟩,
  ⟨(some 19), .mv (.t 18), none, true⟩,
  ⟨(some 20), .fa 2 (.t 4), (some (19, true)), false⟩,
  ⟨(some 21), .ld false 1 (.t 20), (some (19, true)), false⟩,
  ⟨(some 22), .call (.c (.fn 44 [])) [.c (.i .i64 255), .t 21], (some (19, true)), false⟩,
  ⟨(some 23), .pick (.t 19) (.t 22) (.c (.b false)), none, false⟩,
  ⟨(some 24), .mv (.t 23), none, true⟩,
  ⟨(some 25), .fa 3 (.t 4), (some (24, true)), false⟩,
  ⟨(some 26), .ld false 1 (.t 25), (some (24, true)), false⟩,
  ⟨(some 27), .call (.c (.fn 44 [])) [.c (.i .i64 3), .t 26], (some (24, true)), false⟩,
  ⟨(some 28), .pick (.t 24) (.t 27) (.c (.b false)), none, false⟩,
  ⟨(some 29), .mv (.t 28), none, true⟩,
  ⟨(some 30), .fa 0 (.t 4), (some (29, true)), false⟩,
  ⟨(some 31), .ld false 1 (.t 30), (some (29, true)), false⟩,
  ⟨(some 32), .mv (.t 31), (some (29, true)), true⟩,
  ⟨(some 33), .ld true 4 (.t 4), (some (32, false)), false⟩,
  ⟨(some 34), .build [.b false, .i .i64 0, .i .i64 0, .i .i64 0] [], (some (32, false)), false⟩,
  ⟨(some 35), .eqk false true [.b, .i, .i, .i] (.t 33) (.t 34), (some (32, false)), false⟩,
  ⟨(some 36), .pick (.t 32) (.c (.b true)) (.t 35), (some (29, true)), false⟩,
  ⟨(some 37), .pick (.t 29) (.t 36) (.c (.b false)), none, false⟩,
  ⟨(some 5), .mv (.t 37), none, false⟩]
abbrev i26r7 : List IOper := [
  ⟨(some 38), .mv (.t 5), none, false⟩,
  ⟨(some 39), .not (.t 38), none, false⟩,
  ⟨(some 40), .mv (.t 39), none, true⟩,
  ⟨(some 41), .fa 0 (.t 4), (some (40, false)), false⟩,
  ⟨(some 42), .ld false 1 (.t 41), (some (40, false)), false⟩,
  ⟨(some 43), .mv (.t 42), (some (40, false)), true⟩,
  ⟨(some 44), .mv (.t 3), (some (43, true)), false⟩,
  ⟨(some 45), .bin .gtr (.t 44) (.c (.i .i64 0)), (some (43, true)), false⟩,
  ⟨(some 46), .pick (.t 43) (.t 45) (.c (.b false)), (some (40, false)), false⟩,
  ⟨(some 47), .mv (.t 46), (some (40, false)), true⟩,
  ⟨(some 48), .mv (.t 3), (some (47, true)), false⟩,
  ⟨(some 49), .bin .sub (.t 48) (.c (.i .i64 1)), (some (47, true)), false⟩,
  ⟨(some 50), .fa 0 (.t 1), (some (47, true)), false⟩,
  ⟨(some 51), .ixaA 3 4 (.t 50) (.t 49), (some (47, true)), false⟩,
  ⟨(some 52), .fa 0 (.t 51), (some (47, true)), false⟩,
  ⟨(some 53), .ld false 1 (.t 52), (some (47, true)), false⟩,
  ⟨(some 54), .not (.t 53), (some (47, true)), false⟩,
  ⟨(some 55), .pick (.t 47) (.t 54) (.c (.b false)), (some (40, false)), false⟩,
  ⟨(some 56), .pick (.t 40) (.c (.b true)) (.t 55), none, true⟩]
abbrev i26r8 : List IOper := [
  ⟨(some 2), .mv (.c (.i .i64 402)), none, false⟩]
abbrev i26r9 : List IOper := [
  ⟨(some 57), .bin .add (.t 12) (.c (.i .i64 1)), none, false⟩,
  ⟨(some 12), .mv (.t 57), none, false⟩]
abbrev i26l10 : ICode := (.seq (.reg i26r4) (.seq (.cond (.t 13) .skip (.exit 0)) (.seq (.block 1 (.seq (.reg i26r5) (.seq (.reg i26r6) (.seq (.reg i26r7) (.cond (.t 56) (.seq (.reg i26r8) .ret) .skip))))) (.reg i26r9))))
abbrev i26r11 : List IOper := [
  ⟨(some 2), .mv (.c (.i .i64 0)), none, false⟩]
abbrev i26c : ICode := (.seq (.reg i26r0) (.seq (.seq (.reg i26r1) (.cond (.t 9) (.seq (.reg i26r2) .ret) .skip)) (.seq (.seq (.reg i26r3) (.block 0 (.loop i26l10))) (.seq (.reg i26r11) .ret))))
def i26 : IFn := { np := 1, N := 58, ct := [9, 13, 56], code := i26c, res := [.t 2] }
theorem i26_eq : compF Try.prog Try.f26 = some i26 := by kernel_rfl
abbrev i27r0 : List IOper := [
  ⟨(some 1), .box (.t 0), none, false⟩,
  ⟨(some 2), .mv (.c (.b false)), none, false⟩]
abbrev i27r1 : List IOper := [
  ⟨(some 3), .mv (.c (.i .i64 0)), none, false⟩]
abbrev i27r2 : List IOper := [
  ⟨(some 5), .mv (.t 3), none, false⟩,
  ⟨(some 6), .bin .lss (.t 5) (.c (.i .i64 3)), none, true⟩]
abbrev i27r3 : List IOper := [
  ⟨(some 9), .mv (.t 3), none, false⟩,
  ⟨(some 10), .fa 0 (.t 1), none, false⟩,
  ⟨(some 11), .ixaA 3 4 (.t 10) (.t 9), none, false⟩,
  ⟨(some 12), .ld true 4 (.t 11), none, false⟩,
  ⟨(some 4), .new [.b false, .i .i64 0, .i .i64 0, .i .i64 0], none, false⟩,
  ⟨none, .st 4 (.t 4) (.t 12), none, false⟩]
abbrev i27r4 : List IOper := [
  ⟨(some 13), .fa 1 (.t 4), none, false⟩,
  ⟨(some 14), .ld false 1 (.t 13), none, false⟩,
  ⟨(some 15), .bin .lss (.t 14) (.c (.i .i64 0)), none, false⟩,
  ⟨(some 16), .mv (.t 15), none, true⟩,
  ⟨(some 17), .fa 1 (.t 4), (some (16, false)), false⟩,
  ⟨(some 18), .ld false 1 (.t 17), (some (16, false)), false⟩,
  ⟨(some 19), .bin .gtr (.t 18) (.c (.i .i64 32767)), (some (16, false)), false⟩,
  ⟨(some 20), .pick (.t 16) (.c (.b true)) (.t 19), none, false⟩,
  ⟨(some 21), .mv (.t 20), none, true⟩,
  ⟨(some 22), .fa 2 (.t 4), (some (21, false)), false⟩,
  ⟨(some 23), .ld false 1 (.t 22), (some (21, false)), false⟩,
  ⟨(some 24), .bin .lss (.t 23) (.c (.i .i64 0)), (some (21, false)), false⟩,
  ⟨(some 25), .pick (.t 21) (.c (.b true)) (.t 24), none, false⟩,
  ⟨(some 26), .mv (.t 25), none, true⟩,
  ⟨(some 27), .fa 2 (.t 4), (some (26, false)), false⟩,
  ⟨(some 28), .ld false 1 (.t 27), (some (26, false)), false⟩,
  ⟨(some 29), .bin .gtr (.t 28) (.c (.i .i64 255)), (some (26, false)), false⟩,
  ⟨(some 30), .pick (.t 26) (.c (.b true)) (.t 29), none, false⟩,
  ⟨(some 31), .mv (.t 30), none, true⟩,
  ⟨(some 32), .fa 3 (.t 4), (some (31, false)), false⟩,
  ⟨(some 33), .ld false 1 (.t 32), (some (31, false)), false⟩,
  ⟨(some 34), .bin .lss (.t 33) (.c (.i .i64 0)), (some (31, false)), false⟩,
  ⟨(some 35), .pick (.t 31) (.c (.b true)) (.t 34), none, false⟩,
  ⟨(some 36), .mv (.t 35), none, true⟩,
  ⟨(some 37), .fa 3 (.t 4), (some (36, false)), false⟩,
  ⟨(some 38), .ld false 1 (.t 37), (some (36, false)), false⟩,
  ⟨(some 39), .bin .gtr (.t 38) (.c (.i .i64 3)), (some (36, false)), false⟩,
  ⟨(some 40), .pick (.t 36) (.c (.b true)) (.t 39), none, true⟩]
abbrev i27r5 : List IOper := [
  ⟨(some 2), .mv (.c (.b false)), none, false⟩]
abbrev i27r6 : List IOper := [
  ⟨(some 41), .fa 0 (.t 4), none, false⟩,
  ⟨(some 42), .ld false 1 (.t 41), none, false⟩,
  ⟨(some 43), .not (.t 42), none, false⟩,
  ⟨(some 44), .mv (.t 43), none, true⟩,
  ⟨(some 45), .fa 1 (.t 4), (some (44, true)), false⟩,
  ⟨(some 46), .ld false 1 (.t 45), (some (44, true)), false⟩,
  ⟨(some 47), .bin .neq (.t 46) (.c (.i .i64 0)), (some (44, true)), false⟩,
  ⟨(some 48), .mv (.t 47), (some (44, true)), true⟩,
  ⟨(some 49), .fa 2 (.t 4), (some (48, false)), false⟩,
  ⟨(some 50), .ld false 1 (.t 49), (some (48, false)), false⟩,
  ⟨(some 51), .bin .neq (.t 50) (.c (.i .i64 0)), (some (48, false)), false⟩,
  ⟨(some 52), .pick (.t 48) (.c (.b true)) (.t 51), (some (44, true)), false⟩,
  ⟨(some 53), .mv (.t 52), (some (44, true)), true⟩,
  ⟨(some 54), .fa 3 (.t 4), (some (53, false)), false⟩,
  ⟨(some 55), .ld false 1 (.t 54), (some (53, false)), false⟩,
  ⟨(some 56), .bin .neq (.t 55) (.c (.i .i64 0)), (some (53, false)), false⟩,
  ⟨(some 57), .pick (.t 53) (.c (.b true)) (.t 56), (some (44, true)), false⟩,
  ⟨(some 58), .pick (.t 44) (.t 57) (.c (.b false)), none, false⟩,
  ⟨(some 59), .mv (.t 58), none, true⟩,
  ⟨(some 60), .fa 0 (.t 4), (some (59, false)), false⟩,
  ⟨(some 61), .ld false 1 (.t 60), (some (59, false)), false⟩,
  ⟨(some 62), .mv (.t 61), (some (59, false)), true⟩,
  ⟨(some 63), .mv (.t 3), (some (62, true)), false⟩,
  ⟨(some 64), .bin .gtr (.t 63) (.c (.i .i64 0)), (some (62, true)), false⟩,
  ⟨(some 65), .pick (.t 62) (.t 64) (.c (.b false)), (some (59, false)), false⟩,
  ⟨(some 66), .mv (.t 65), (some (59, false)), true⟩,
  ⟨(some 67), .mv (.t 3), (some (66, true)), false⟩,
  ⟨(some 68), .bin .sub (.t 67) (.c (.i .i64 1)), (some (66, true)), false⟩,
  ⟨(some 69), .fa 0 (.t 1), (some (66, true)), false⟩,
  ⟨(some 70), .ixaA 3 4 (.t 69) (.t 68), (some (66, true)), false⟩,
  ⟨(some 71), .fa 0 (.t 70), (some (66, true)), false⟩,
  ⟨(some 72), .ld false 1 (.t 71), (some (66, true)), false⟩,
  ⟨(some 73), .not (.t 72), (some (66, true)), false⟩,
  ⟨(some 74), .pick (.t 66) (.t 73) (.c (.b false)), (some (59, false)), false⟩,
  ⟨(some 75), .pick (.t 59) (.c (.b true)) (.t 74), none, true⟩]
abbrev i27r7 : List IOper := [
  ⟨(some 2), .mv (.c (.b false)), none, false⟩]
abbrev i27r8 : List IOper := [
  ⟨(some 7), .mv (.t 3), none, false⟩,
  ⟨(some 8), .bin .add (.t 7) (.c (.i .i64 1)), none, false⟩,
  ⟨(some 3), .mv (.t 8), none, false⟩]
abbrev i27l9 : ICode := (.seq (.seq (.reg i27r2) (.cond (.t 6) .skip (.exit 0))) (.seq (.block 1 (.seq (.reg i27r3) (.seq (.seq (.reg i27r4) (.cond (.t 40) (.seq (.reg i27r5) .ret) .skip)) (.seq (.reg i27r6) (.cond (.t 75) (.seq (.reg i27r7) .ret) .skip))))) (.reg i27r8)))
abbrev i27r10 : List IOper := [
  ⟨(some 2), .mv (.c (.b true)), none, false⟩]
abbrev i27c : ICode := (.seq (.reg i27r0) (.seq (.seq (.reg i27r1) (.block 0 (.loop i27l9))) (.seq (.reg i27r10) .ret)))
def i27 : IFn := { np := 1, N := 76, ct := [6, 40, 75], code := i27c, res := [.t 2] }
theorem i27_eq : compF Try.prog Try.f27 = some i27 := by kernel_rfl
abbrev i28r0 : List IOper := [
  ⟨(some 2), .box (.t 0), none, false⟩,
  ⟨(some 3), .box (.t 1), none, false⟩,
  ⟨(some 4), .new [.b false, .i .i64 0, .i .i64 0, .i .i64 0, .b false, .i .i64 0, .i .i64 0, .i .i64 0, .b false, .i .i64 0, .i .i64 0, .i .i64 0], none, false⟩,
  ⟨(some 5), .mv (.c (.b false)), none, false⟩,
  ⟨(some 6), .mv (.c (.i .i64 0)), none, false⟩]
abbrev i28r1 : List IOper := [
  ⟨(some 10), .ld true 12 (.t 2), none, false⟩,
  ⟨(some 11), .call (.c (.fn 26 [])) [.t 10], none, false⟩,
  ⟨(some 7), .mv (.t 11), none, false⟩]
abbrev i28r2 : List IOper := [
  ⟨(some 12), .mv (.t 7), none, false⟩,
  ⟨(some 13), .bin .neq (.t 12) (.c (.i .i64 0)), none, true⟩]
abbrev i28r3 : List IOper := [
  ⟨(some 14), .build [.b false, .i .i64 0, .i .i64 0, .i .i64 0, .b false, .i .i64 0, .i .i64 0, .i .i64 0, .b false, .i .i64 0, .i .i64 0, .i .i64 0] [], none, false⟩,
  ⟨(some 15), .mv (.t 7), none, false⟩,
  ⟨none, .st 12 (.t 4) (.t 14), none, false⟩,
  ⟨(some 5), .mv (.c (.b false)), none, false⟩,
  ⟨(some 6), .mv (.t 15), none, false⟩]
abbrev i28r4 : List IOper := [
  ⟨(some 16), .ld true 8 (.t 3), none, false⟩,
  ⟨(some 17), .call (.c (.fn 14 [])) [.t 16], none, false⟩,
  ⟨(some 8), .mv (.t 17), none, false⟩]
abbrev i28r5 : List IOper := [
  ⟨(some 18), .mv (.t 8), none, false⟩,
  ⟨(some 19), .bin .neq (.t 18) (.c (.i .i64 0)), none, true⟩]
abbrev i28r6 : List IOper := [
  ⟨(some 20), .build [.b false, .i .i64 0, .i .i64 0, .i .i64 0, .b false, .i .i64 0, .i .i64 0, .i .i64 0, .b false, .i .i64 0, .i .i64 0, .i .i64 0] [], none, false⟩,
  ⟨(some 21), .mv (.t 8), none, false⟩,
  ⟨none, .st 12 (.t 4) (.t 20), none, false⟩,
  ⟨(some 5), .mv (.c (.b false)), none, false⟩,
  ⟨(some 6), .mv (.t 21), none, false⟩]
abbrev i28r7 : List IOper := [
  ⟨(some 22), .ld true 12 (.t 2), none, false⟩,
  ⟨(some 23), .ld true 8 (.t 3), none, false⟩,
  ⟨(some 24), .build [.b false, .i .i64 0, .i .i64 0, .i .i64 0, .b false, .i .i64 0, .i .i64 0, .i .i64 0, .b false, .i .i64 0, .i .i64 0, .i .i64 0, .b false, .b false, .b false, .b false, .i .i64 0, .i .i64 0, .i .i64 0, .i .i64 0] [(0, 12, .t 22), (12, 8, .t 23)], none, false⟩,
  ⟨(some 25), .box (.t 24), none, false⟩,
  ⟨(some 9), .mv (.t 25), none, false⟩]
abbrev i28r8 : List IOper := [
  ⟨(some 26), .mv (.t 9), none, false⟩,
  ⟨(some 27), .call (.c (.fn 52 [])) [.t 26], none, false⟩,
  ⟨(some 5), .mv (.t 27), none, false⟩]
abbrev i28r9 : List IOper := [
  ⟨(some 28), .mv (.t 9), none, false⟩,
  ⟨(some 29), .nck (.t 28), none, false⟩,
  ⟨(some 30), .fa 0 (.t 29), none, false⟩,
  ⟨(some 31), .ld true 12 (.t 30), none, false⟩,
  ⟨(some 32), .mv (.t 5), none, false⟩,
  ⟨none, .st 12 (.t 4) (.t 31), none, false⟩,
  ⟨(some 5), .mv (.t 32), none, false⟩,
  ⟨(some 6), .mv (.c (.i .i64 0)), none, false⟩]
abbrev i28c : ICode := (.seq (.reg i28r0) (.seq (.seq (.reg i28r1) (.seq (.reg i28r2) (.cond (.t 13) (.seq (.reg i28r3) .ret) .skip))) (.seq (.seq (.reg i28r4) (.seq (.reg i28r5) (.cond (.t 19) (.seq (.reg i28r6) .ret) .skip))) (.seq (.reg i28r7) (.seq (.reg i28r8) (.seq (.reg i28r9) .ret))))))
def i28 : IFn := { np := 2, N := 33, ct := [13, 19], code := i28c, res := [.c 4 true 12, .t 5, .t 6] }
theorem i28_eq : compF Try.prog Try.f28 = some i28 := by kernel_rfl
abbrev i29r0 : List IOper := [
  ⟨(some 2), .box (.t 0), none, false⟩,
  ⟨(some 3), .box (.t 1), none, false⟩,
  ⟨(some 4), .new [.b false, .i .i64 0, .i .i64 0, .i .i64 0, .b false, .i .i64 0, .i .i64 0, .i .i64 0, .b false, .i .i64 0, .i .i64 0, .i .i64 0], none, false⟩,
  ⟨(some 5), .mv (.c (.b false)), none, false⟩,
  ⟨(some 6), .mv (.c (.i .i64 0)), none, false⟩]
abbrev i29r1 : List IOper := [
  ⟨(some 9), .ld true 12 (.t 2), none, false⟩,
  ⟨(some 10), .call (.c (.fn 27 [])) [.t 9], none, false⟩,
  ⟨(some 11), .not (.t 10), none, true⟩]
abbrev i29r2 : List IOper := [
  ⟨(some 12), .build [.b false, .i .i64 0, .i .i64 0, .i .i64 0, .b false, .i .i64 0, .i .i64 0, .i .i64 0, .b false, .i .i64 0, .i .i64 0, .i .i64 0] [], none, false⟩,
  ⟨none, .st 12 (.t 4) (.t 12), none, false⟩,
  ⟨(some 5), .mv (.c (.b false)), none, false⟩,
  ⟨(some 6), .mv (.c (.i .i64 402)), none, false⟩]
abbrev i29r3 : List IOper := [
  ⟨(some 13), .ld true 8 (.t 3), none, false⟩,
  ⟨(some 14), .call (.c (.fn 16 [])) [.t 13], none, false⟩,
  ⟨(some 15), .not (.t 14), none, true⟩]
abbrev i29r4 : List IOper := [
  ⟨(some 16), .build [.b false, .i .i64 0, .i .i64 0, .i .i64 0, .b false, .i .i64 0, .i .i64 0, .i .i64 0, .b false, .i .i64 0, .i .i64 0, .i .i64 0] [], none, false⟩,
  ⟨none, .st 12 (.t 4) (.t 16), none, false⟩,
  ⟨(some 5), .mv (.c (.b false)), none, false⟩,
  ⟨(some 6), .mv (.c (.i .i64 400)), none, false⟩]
abbrev i29r5 : List IOper := [
  ⟨(some 18), .ld true 12 (.t 2), none, false⟩,
  ⟨(some 19), .ld true 8 (.t 3), none, false⟩,
  ⟨(some 20), .call (.c (.fn 51 [])) [.t 18, .t 19], none, false⟩,
  ⟨(some 17), .mv (.t 20), none, false⟩,
  ⟨(some 21), .ext (.t 17) 0, none, false⟩,
  ⟨(some 22), .ext (.t 17) 1, none, false⟩,
  ⟨(some 7), .new [.b false, .i .i64 0, .i .i64 0, .i .i64 0, .b false, .i .i64 0, .i .i64 0, .i .i64 0, .b false, .i .i64 0, .i .i64 0, .i .i64 0], none, false⟩,
  ⟨none, .st 12 (.t 7) (.t 21), none, false⟩,
  ⟨(some 8), .mv (.t 22), none, false⟩]
abbrev i29r6 : List IOper := [
  ⟨(some 23), .ld true 12 (.t 7), none, false⟩,
  ⟨(some 24), .mv (.t 8), none, false⟩,
  ⟨none, .st 12 (.t 4) (.t 23), none, false⟩,
  ⟨(some 5), .mv (.t 24), none, false⟩,
  ⟨(some 6), .mv (.c (.i .i64 0)), none, false⟩]
abbrev i29c : ICode := (.seq (.reg i29r0) (.seq (.seq (.reg i29r1) (.cond (.t 11) (.seq (.reg i29r2) .ret) .skip)) (.seq (.seq (.reg i29r3) (.cond (.t 15) (.seq (.reg i29r4) .ret) .skip)) (.seq (.reg i29r5) (.seq (.reg i29r6) .ret)))))
def i29 : IFn := { np := 2, N := 25, ct := [11, 15], code := i29c, res := [.c 4 true 12, .t 5, .t 6] }
theorem i29_eq : compF Try.prog Try.f29 = some i29 := by kernel_rfl
abbrev i30r0 : List IOper := [
  ⟨(some 4), .mv (.c (.ns)), none, false⟩]
abbrev i30r1 : List IOper := [
  ⟨(some 5), .mv (.c (.ns)), none, false⟩]
abbrev i30r2 : List IOper := [
  ⟨(some 11), .mv (.t 0), none, false⟩,
  ⟨(some 12), .bin .rem (.t 11) (.c (.i .u16 32768)), none, false⟩,
  ⟨(some 13), .i2i .i64 (.t 12), none, false⟩,
  ⟨(some 14), .mv (.t 0), none, false⟩,
  ⟨(some 15), .bin .rem (.t 14) (.c (.i .u16 256)), none, false⟩,
  ⟨(some 16), .i2i .i64 (.t 15), none, false⟩,
  ⟨(some 6), .mv (.t 13), none, false⟩,
  ⟨(some 7), .mv (.t 16), none, false⟩]
abbrev i30r3 : List IOper := [
  ⟨(some 8), .mv (.c (.i .i64 0)), none, false⟩]
abbrev i30r4 : List IOper := [
  ⟨(some 9), .mv (.c (.i .i64 0)), none, false⟩]
abbrev i30r5 : List IOper := [
  ⟨(some 17), .mv (.t 9), none, false⟩,
  ⟨(some 18), .mv (.t 1), none, false⟩,
  ⟨(some 19), .lenV (.t 18), none, false⟩,
  ⟨(some 20), .bin .lss (.t 17) (.t 19), none, false⟩,
  ⟨(some 21), .mv (.t 20), none, true⟩,
  ⟨(some 22), .mv (.t 9), (some (21, true)), false⟩,
  ⟨(some 23), .bin .lss (.t 22) (.c (.i .i64 40)), (some (21, true)), false⟩,
  ⟨(some 24), .pick (.t 21) (.t 23) (.c (.b false)), none, true⟩]
abbrev i30r6 : List IOper := [
  ⟨(some 27), .mv (.t 6), none, false⟩,
  ⟨(some 28), .build [.b false, .b false, .b false, .b false, .i .i64 0, .i .i64 0, .i .i64 0, .i .i64 0] [(0, 1, .c (.b true)), (3, 1, .c (.b true)), (4, 1, .t 27)], none, false⟩,
  ⟨(some 10), .new [.b false, .b false, .b false, .b false, .i .i64 0, .i .i64 0, .i .i64 0, .i .i64 0], none, false⟩,
  ⟨none, .st 8 (.t 10) (.t 28), none, false⟩]
abbrev i30r7 : List IOper := [
  ⟨(some 41), .mv (.t 9), none, false⟩,
  ⟨(some 42), .bin .eql (.t 41) (.c (.i .i64 0)), none, false⟩,
  ⟨(some 43), .mv (.t 42), none, true⟩,
  ⟨(some 44), .mv (.t 9), (some (43, false)), false⟩,
  ⟨(some 45), .bin .rem (.t 44) (.c (.i .i64 4)), (some (43, false)), false⟩,
  ⟨(some 46), .bin .eql (.t 45) (.c (.i .i64 0)), (some (43, false)), false⟩,
  ⟨(some 47), .mv (.t 46), (some (43, false)), true⟩,
  ⟨(some 48), .mv (.t 1), (some (47, true)), false⟩,
  ⟨(some 49), .mv (.t 9), (some (47, true)), false⟩,
  ⟨(some 50), .ixaV 1 (.t 48) (.t 49), (some (47, true)), false⟩,
  ⟨(some 51), .ld false 1 (.t 50), (some (47, true)), false⟩,
  ⟨(some 52), .pick (.t 47) (.t 51) (.c (.b false)), (some (43, false)), false⟩,
  ⟨(some 53), .pick (.t 43) (.c (.b true)) (.t 52), none, false⟩,
  ⟨(some 40), .mv (.t 53), none, true⟩]
abbrev i30r8 : List IOper := [
  ⟨(some 54), .fa 1 (.t 10), none, false⟩,
  ⟨none, .st 1 (.t 54) (.c (.b true)), none, false⟩]
abbrev i30r9 : List IOper := [
  ⟨(some 55), .mv (.t 7), none, false⟩,
  ⟨(some 56), .bin .add (.t 55) (.c (.i .i64 1)), none, false⟩,
  ⟨(some 57), .bin .rem (.t 56) (.c (.i .i64 256)), none, false⟩,
  ⟨(some 7), .mv (.t 57), none, false⟩]
abbrev i30r10 : List IOper := [
  ⟨(some 8), .mv (.c (.i .i64 0)), none, false⟩]
abbrev i30r11 : List IOper := [
  ⟨(some 59), .mv (.t 9), none, false⟩,
  ⟨(some 60), .bin .rem (.t 59) (.c (.i .i64 4)), none, false⟩,
  ⟨(some 61), .bin .eql (.t 60) (.c (.i .i64 0)), none, false⟩,
  ⟨(some 58), .mv (.t 61), none, true⟩]
abbrev i30r12 : List IOper := [
  ⟨(some 62), .mv (.t 7), none, false⟩,
  ⟨(some 63), .bin .add (.t 62) (.c (.i .i64 1)), none, false⟩,
  ⟨(some 64), .bin .rem (.t 63) (.c (.i .i64 256)), none, false⟩,
  ⟨(some 7), .mv (.t 64), none, false⟩]
abbrev i30r13 : List IOper := [
  ⟨(some 66), .mv (.t 9), none, false⟩,
  ⟨(some 67), .bin .rem (.t 66) (.c (.i .i64 4)), none, false⟩,
  ⟨(some 68), .bin .eql (.t 67) (.c (.i .i64 2)), none, false⟩,
  ⟨(some 65), .mv (.t 68), none, true⟩]
abbrev i30r14 : List IOper := [
  ⟨(some 69), .fa 6 (.t 10), none, false⟩,
  ⟨none, .st 1 (.t 69) (.c (.i .i64 1)), none, false⟩]
abbrev i30r15 : List IOper := [
  ⟨(some 70), .mv (.t 8), none, false⟩,
  ⟨(some 71), .bin .eql (.t 70) (.c (.i .i64 0)), none, false⟩,
  ⟨(some 72), .fa 2 (.t 10), none, false⟩,
  ⟨none, .st 1 (.t 72) (.t 71), none, false⟩]
abbrev i30r16 : List IOper := [
  ⟨(some 73), .mv (.t 8), none, false⟩,
  ⟨(some 74), .mx (.t 73) [.c (.i .i64 1)], none, false⟩,
  ⟨(some 8), .mv (.t 74), none, false⟩]
abbrev i30r17 : List IOper := [
  ⟨(some 29), .fa 6 (.t 10), none, false⟩,
  ⟨none, .st 1 (.t 29) (.c (.i .i64 2)), none, false⟩]
abbrev i30r18 : List IOper := [
  ⟨(some 30), .mv (.t 8), none, false⟩,
  ⟨(some 31), .bin .eql (.t 30) (.c (.i .i64 1)), none, false⟩,
  ⟨(some 32), .fa 2 (.t 10), none, false⟩,
  ⟨none, .st 1 (.t 32) (.t 31), none, false⟩]
abbrev i30r19 : List IOper := [
  ⟨(some 33), .mv (.t 8), none, false⟩,
  ⟨(some 34), .bin .eql (.t 33) (.c (.i .i64 0)), none, true⟩]
abbrev i30r20 : List IOper := [
  ⟨(some 35), .fa 6 (.t 10), none, false⟩,
  ⟨none, .st 1 (.t 35) (.c (.i .i64 1)), none, false⟩]
abbrev i30r21 : List IOper := [
  ⟨(some 36), .fa 2 (.t 10), none, false⟩,
  ⟨none, .st 1 (.t 36) (.c (.b true)), none, false⟩]
abbrev i30r22 : List IOper := [
  ⟨(some 37), .mv (.t 8), none, false⟩,
  ⟨(some 38), .bin .add (.t 37) (.c (.i .i64 1)), none, false⟩,
  ⟨(some 39), .mn (.t 38) [.c (.i .i64 2)], none, false⟩,
  ⟨(some 8), .mv (.t 39), none, false⟩]
abbrev i30r23 : List IOper := [
  ⟨(some 75), .mv (.t 7), none, false⟩,
  ⟨(some 76), .fa 5 (.t 10), none, false⟩,
  ⟨none, .st 1 (.t 76) (.t 75), none, false⟩]
abbrev i30r24 : List IOper := [
  ⟨(some 77), .mv (.t 5), none, false⟩,
  ⟨(some 78), .ld true 8 (.t 10), none, false⟩,
  ⟨(some 79), .bsl [.b false, .b false, .b false, .b false, .i .i64 0, .i .i64 0, .i .i64 0, .i .i64 0] 1 [(0, 8, .t 78)], none, false⟩,
  ⟨(some 80), .app 8 40 [.b false, .b false, .b false, .b false, .i .i64 0, .i .i64 0, .i .i64 0, .i .i64 0] (.t 77) (.t 79), none, false⟩,
  ⟨(some 5), .mv (.t 80), none, false⟩]
abbrev i30r25 : List IOper := [
  ⟨(some 81), .mv (.t 6), none, false⟩,
  ⟨(some 82), .bin .add (.t 81) (.c (.i .i64 1)), none, false⟩,
  ⟨(some 83), .bin .rem (.t 82) (.c (.i .i64 32768)), none, false⟩,
  ⟨(some 6), .mv (.t 83), none, false⟩]
abbrev i30r26 : List IOper := [
  ⟨(some 25), .mv (.t 9), none, false⟩,
  ⟨(some 26), .bin .add (.t 25) (.c (.i .i64 1)), none, false⟩,
  ⟨(some 9), .mv (.t 26), none, false⟩]
abbrev i30l27 : ICode := (.seq (.seq (.reg i30r5) (.cond (.t 24) .skip (.exit 0))) (.seq (.block 1 (.seq (.reg i30r6) (.seq (.block 2 (.seq (.reg i30r7) (.cond (.t 40) (.seq (.reg i30r8) (.seq (.reg i30r9) (.reg i30r10))) (.seq (.reg i30r11) (.cond (.t 58) (.reg i30r12) (.seq (.reg i30r13) (.cond (.t 65) (.seq (.reg i30r14) (.seq (.reg i30r15) (.reg i30r16))) (.seq (.reg i30r17) (.seq (.reg i30r18) (.seq (.seq (.reg i30r19) (.cond (.t 34) (.seq (.reg i30r20) (.reg i30r21)) .skip)) (.reg i30r22))))))))))) (.seq (.reg i30r23) (.seq (.reg i30r24) (.reg i30r25)))))) (.reg i30r26)))
abbrev i30r28 : List IOper := [
  ⟨(some 84), .mv (.t 5), none, false⟩,
  ⟨(some 4), .mv (.t 84), none, false⟩]
abbrev i30c : ICode := (.seq (.reg i30r0) (.seq (.reg i30r1) (.seq (.reg i30r2) (.seq (.reg i30r3) (.seq (.seq (.reg i30r4) (.block 0 (.loop i30l27))) (.seq (.reg i30r28) .ret))))))
def i30 : IFn := { np := 2, N := 85, ct := [24, 40, 58, 65, 34], code := i30c, res := [.t 4] }
theorem i30_eq : compF Try.prog Try.f30 = some i30 := by kernel_rfl
abbrev i34r0 : List IOper := [
  ⟨(some 2), .box (.t 0), none, false⟩,
  ⟨(some 4), .new [.b false, .i .i64 0, .i .i64 0, .i .i64 0, .b false, .i .i64 0, .i .i64 0, .i .i64 0, .b false, .i .i64 0, .i .i64 0, .i .i64 0], none, false⟩,
  ⟨(some 5), .mv (.c (.ns)), none, false⟩]
abbrev i34r1 : List IOper := [
  ⟨(some 6), .mv (.c (.ns)), none, false⟩]
abbrev i34r2 : List IOper := [
  ⟨(some 12), .mv (.t 1), none, false⟩,
  ⟨(some 13), .lenV (.t 12), none, false⟩,
  ⟨(some 14), .mv (.c (.i .i64 0)), none, false⟩]
abbrev i34r3 : List IOper := [
  ⟨(some 15), .bin .lss (.t 14) (.t 13), none, true⟩]
abbrev i34r4 : List IOper := [
  ⟨(some 16), .ixaV 8 (.t 12) (.t 14), none, false⟩,
  ⟨(some 17), .ld true 8 (.t 16), none, false⟩,
  ⟨(some 8), .new [.b false, .b false, .b false, .b false, .i .i64 0, .i .i64 0, .i .i64 0, .i .i64 0], none, false⟩,
  ⟨none, .st 8 (.t 8) (.t 17), none, false⟩]
abbrev i34r5 : List IOper := [
  ⟨(some 19), .ld true 12 (.t 2), none, false⟩,
  ⟨(some 20), .ld true 8 (.t 8), none, false⟩,
  ⟨(some 21), .call (.c (.fn 28 [])) [.t 19, .t 20], none, false⟩,
  ⟨(some 18), .mv (.t 21), none, false⟩,
  ⟨(some 22), .ext (.t 18) 0, none, false⟩,
  ⟨(some 23), .ext (.t 18) 1, none, false⟩,
  ⟨(some 24), .ext (.t 18) 2, none, false⟩,
  ⟨(some 9), .new [.b false, .i .i64 0, .i .i64 0, .i .i64 0, .b false, .i .i64 0, .i .i64 0, .i .i64 0, .b false, .i .i64 0, .i .i64 0, .i .i64 0], none, false⟩,
  ⟨none, .st 12 (.t 9) (.t 22), none, false⟩,
  ⟨(some 10), .mv (.t 23), none, false⟩,
  ⟨(some 11), .mv (.t 24), none, false⟩]
abbrev i34r6 : List IOper := [
  ⟨(some 25), .mv (.t 6), none, false⟩,
  ⟨(some 26), .mv (.t 10), none, false⟩,
  ⟨(some 27), .mv (.t 26), none, true⟩,
  ⟨(some 28), .mv (.t 11), (some (27, true)), false⟩,
  ⟨(some 29), .bin .eql (.t 28) (.c (.i .i64 0)), (some (27, true)), false⟩,
  ⟨(some 30), .pick (.t 27) (.t 29) (.c (.b false)), none, false⟩,
  ⟨(some 31), .mv (.t 30), none, true⟩,
  ⟨(some 32), .ld true 12 (.t 9), (some (31, true)), false⟩,
  ⟨(some 33), .call (.c (.fn 26 [])) [.t 32], (some (31, true)), false⟩,
  ⟨(some 34), .bin .eql (.t 33) (.c (.i .i64 0)), (some (31, true)), false⟩,
  ⟨(some 35), .pick (.t 31) (.t 34) (.c (.b false)), none, false⟩,
  ⟨(some 36), .bsl [.b false] 1 [(0, 1, .t 35)], none, false⟩,
  ⟨(some 37), .app 1 1 [.b false] (.t 25) (.t 36), none, false⟩,
  ⟨(some 6), .mv (.t 37), none, false⟩]
abbrev i34r7 : List IOper := [
  ⟨(some 38), .mv (.t 11), none, false⟩,
  ⟨(some 39), .bin .eql (.t 38) (.c (.i .i64 0)), none, true⟩]
abbrev i34r8 : List IOper := [
  ⟨(some 40), .ld true 12 (.t 9), none, false⟩,
  ⟨none, .st 12 (.t 2) (.t 40), none, false⟩]
abbrev i34r9 : List IOper := [
  ⟨(some 41), .bin .add (.t 14) (.c (.i .i64 1)), none, false⟩,
  ⟨(some 14), .mv (.t 41), none, false⟩]
abbrev i34l10 : ICode := (.seq (.reg i34r3) (.seq (.cond (.t 15) .skip (.exit 0)) (.seq (.block 1 (.seq (.reg i34r4) (.seq (.reg i34r5) (.seq (.reg i34r6) (.seq (.reg i34r7) (.cond (.t 39) (.reg i34r8) .skip)))))) (.reg i34r9))))
abbrev i34r11 : List IOper := [
  ⟨(some 42), .ld true 12 (.t 2), none, false⟩,
  ⟨(some 43), .mv (.t 6), none, false⟩,
  ⟨none, .st 12 (.t 4) (.t 42), none, false⟩,
  ⟨(some 5), .mv (.t 43), none, false⟩]
abbrev i34c : ICode := (.seq (.reg i34r0) (.seq (.reg i34r1) (.seq (.seq (.reg i34r2) (.block 0 (.loop i34l10))) (.seq (.reg i34r11) .ret))))
def i34 : IFn := { np := 2, N := 44, ct := [15, 39], code := i34c, res := [.c 4 true 12, .t 5] }
theorem i34_eq : compF Try.prog Try.f34 = some i34 := by kernel_rfl
abbrev i37r0 : List IOper := [
  ⟨(some 4), .mv (.c (.b false)), none, false⟩]
abbrev i37r1 : List IOper := [
  ⟨(some 6), .mv (.t 1), none, false⟩,
  ⟨(some 7), .lenV (.t 6), none, false⟩,
  ⟨(some 8), .mv (.c (.i .i64 0)), none, false⟩]
abbrev i37r2 : List IOper := [
  ⟨(some 9), .bin .lss (.t 8) (.t 7), none, true⟩]
abbrev i37r3 : List IOper := [
  ⟨(some 10), .mv (.t 8), none, false⟩,
  ⟨(some 5), .mv (.t 10), none, false⟩]
abbrev i37r4 : List (IOper × List Nat) := [
  (⟨(some 11), .mv (.t 0), none, false⟩, []),
  (⟨(some 12), .lenV (.t 11), none, false⟩, []),
  (⟨(some 13), .mv (.t 1), none, false⟩, [0, 1]),
  (⟨(some 14), .lenV (.t 13), none, false⟩, [0, 1]),
  (⟨(some 15), .bin .neq (.t 12) (.t 14), none, false⟩, []),
  (⟨(some 16), .mv (.t 15), none, true⟩, []),
  (⟨(some 17), .mv (.t 0), (some (16, false)), false⟩, []),
  (⟨(some 18), .mv (.t 5), (some (16, false)), false⟩, [6]),
  (⟨(some 19), .ixaV 1 (.t 17) (.t 18), (some (16, false)), false⟩, []),
  (⟨(some 20), .ld false 1 (.t 19), (some (16, false)), false⟩, []),
  (⟨(some 21), .mv (.t 1), (some (16, false)), false⟩, [6, 7, 8, 9]),
  (⟨(some 22), .mv (.t 5), (some (16, false)), false⟩, [6, 7, 8, 9, 10]),
  (⟨(some 23), .ixaV 1 (.t 21) (.t 22), (some (16, false)), false⟩, [6, 7, 8, 9]),
  (⟨(some 24), .ld false 1 (.t 23), (some (16, false)), false⟩, [6, 7, 8, 9]),
  (⟨(some 25), .eqk true false [.b] (.t 20) (.t 24), (some (16, false)), false⟩, []),
  (⟨(some 26), .pick (.t 16) (.c (.b true)) (.t 25), none, true⟩, [])]
abbrev i37r5 : List IOper := [
  ⟨(some 4), .mv (.c (.b false)), none, false⟩]
abbrev i37r6 : List IOper := [
  ⟨(some 27), .bin .add (.t 8) (.c (.i .i64 1)), none, false⟩,
  ⟨(some 8), .mv (.t 27), none, false⟩]
abbrev i37l7 : ICode := (.seq (.reg i37r2) (.seq (.cond (.t 9) .skip (.exit 0)) (.seq (.block 1 (.seq (.reg i37r3) (.seq (.dreg i37r4) (.cond (.t 26) (.seq (.reg i37r5) .ret) .skip)))) (.reg i37r6))))
abbrev i37r8 : List IOper := [
  ⟨(some 4), .mv (.c (.b true)), none, false⟩]
abbrev i37c : ICode := (.seq (.reg i37r0) (.seq (.seq (.reg i37r1) (.block 0 (.loop i37l7))) (.seq (.reg i37r8) .ret)))
def i37 : IFn := { np := 2, N := 28, ct := [9, 26], code := i37c, res := [.t 4] }
theorem i37_eq : compF Try.prog Try.f37 = some i37 := by kernel_rfl
abbrev i44r0 : List IOper := [
  ⟨(some 4), .mv (.c (.b false)), none, false⟩]
abbrev i44r1 : List IOper := [
  ⟨(some 5), .mv (.t 1), none, false⟩,
  ⟨(some 6), .bin .geq (.t 5) (.c (.i .i64 0)), none, false⟩,
  ⟨(some 7), .mv (.t 6), none, true⟩,
  ⟨(some 8), .mv (.t 1), (some (7, true)), false⟩,
  ⟨(some 9), .mv (.t 0), (some (7, true)), false⟩,
  ⟨(some 10), .bin .leq (.t 8) (.t 9), (some (7, true)), false⟩,
  ⟨(some 11), .pick (.t 7) (.t 10) (.c (.b false)), none, false⟩,
  ⟨(some 4), .mv (.t 11), none, false⟩]
abbrev i44c : ICode := (.seq (.reg i44r0) (.seq (.reg i44r1) .ret))
def i44 : IFn := { np := 2, N := 12, ct := [], code := i44c, res := [.t 4] }
theorem i44_eq : compF Try.prog Try.f44 = some i44 := by kernel_rfl
abbrev i45r0 : List IOper := [
  ⟨(some 1), .box (.t 0), none, false⟩,
  ⟨(some 2), .mv (.c (.s [])), none, false⟩]
abbrev i45r1 : List (IOper × List Nat) := [
  (⟨(some 3), .fa 0 (.t 1), none, false⟩, []),
  (⟨(some 4), .ld false 1 (.t 3), none, false⟩, []),
  (⟨(some 5), .fa 1 (.t 1), none, false⟩, [0, 1]),
  (⟨(some 6), .ld false 1 (.t 5), none, false⟩, [0, 1]),
  (⟨(some 7), .fa 2 (.t 1), none, false⟩, [0, 1, 2, 3]),
  (⟨(some 8), .ld false 1 (.t 7), none, false⟩, [0, 1, 2, 3]),
  (⟨(some 9), .fa 3 (.t 1), none, false⟩, [0, 1, 2, 3, 4, 5]),
  (⟨(some 10), .ld false 1 (.t 9), none, false⟩, [0, 1, 2, 3, 4, 5]),
  (⟨(some 11), .bsl [.b false, .b false, .b false, .b false, .b false, .b false, .b false, .b false] 8 [(0, 1, .c (.b true)), (1, 1, .t 4), (2, 1, .t 6), (3, 1, .t 8), (4, 1, .t 10), (5, 1, .c (.b false)), (6, 1, .c (.b false)), (7, 1, .c (.b false))], none, false⟩, []),
  (⟨(some 12), .call (.c (.fn 66 [])) [.t 11], none, false⟩, []),
  (⟨(some 13), .fa 4 (.t 1), none, false⟩, [0, 1, 2, 3, 4, 5, 6, 7, 8, 9]),
  (⟨(some 14), .ld false 1 (.t 13), none, false⟩, [0, 1, 2, 3, 4, 5, 6, 7, 8, 9]),
  (⟨(some 15), .bin .shr (.t 14) (.c (.i .u64 8)), none, false⟩, [0, 1, 2, 3, 4, 5, 6, 7, 8, 9]),
  (⟨(some 16), .i2i .u8 (.t 15), none, false⟩, [0, 1, 2, 3, 4, 5, 6, 7, 8, 9]),
  (⟨(some 17), .bin .or (.c (.i .u8 128)) (.t 16), none, false⟩, [0, 1, 2, 3, 4, 5, 6, 7, 8, 9]),
  (⟨(some 18), .fa 4 (.t 1), none, false⟩, [0, 1, 2, 3, 4, 5, 6, 7, 8, 9, 10, 11, 12, 13, 14]),
  (⟨(some 19), .ld false 1 (.t 18), none, false⟩, [0, 1, 2, 3, 4, 5, 6, 7, 8, 9, 10, 11, 12, 13, 14]),
  (⟨(some 20), .i2i .u8 (.t 19), none, false⟩, [0, 1, 2, 3, 4, 5, 6, 7, 8, 9, 10, 11, 12, 13, 14]),
  (⟨(some 21), .fa 5 (.t 1), none, false⟩, [0, 1, 2, 3, 4, 5, 6, 7, 8, 9, 10, 11, 12, 13, 14, 15, 16, 17]),
  (⟨(some 22), .ld false 1 (.t 21), none, false⟩, [0, 1, 2, 3, 4, 5, 6, 7, 8, 9, 10, 11, 12, 13, 14, 15, 16, 17]),
  (⟨(some 23), .i2i .u8 (.t 22), none, false⟩, [0, 1, 2, 3, 4, 5, 6, 7, 8, 9, 10, 11, 12, 13, 14, 15, 16, 17]),
  (⟨(some 24), .fa 6 (.t 1), none, false⟩, [0, 1, 2, 3, 4, 5, 6, 7, 8, 9, 10, 11, 12, 13, 14, 15, 16, 17, 18, 19, 20]),
  (⟨(some 25), .ld false 1 (.t 24), none, false⟩, [0, 1, 2, 3, 4, 5, 6, 7, 8, 9, 10, 11, 12, 13, 14, 15, 16, 17, 18, 19, 20]),
  (⟨(some 26), .bin .shl (.t 25) (.c (.i .u64 6)), none, false⟩, [0, 1, 2, 3, 4, 5, 6, 7, 8, 9, 10, 11, 12, 13, 14, 15, 16, 17, 18, 19, 20]),
  (⟨(some 27), .fa 7 (.t 1), none, false⟩, [0, 1, 2, 3, 4, 5, 6, 7, 8, 9, 10, 11, 12, 13, 14, 15, 16, 17, 18, 19, 20, 21, 22, 23]),
  (⟨(some 28), .ld false 1 (.t 27), none, false⟩, [0, 1, 2, 3, 4, 5, 6, 7, 8, 9, 10, 11, 12, 13, 14, 15, 16, 17, 18, 19, 20, 21, 22, 23]),
  (⟨(some 29), .bin .shl (.t 28) (.c (.i .u64 4)), none, false⟩, [0, 1, 2, 3, 4, 5, 6, 7, 8, 9, 10, 11, 12, 13, 14, 15, 16, 17, 18, 19, 20, 21, 22, 23]),
  (⟨(some 30), .bin .or (.t 26) (.t 29), none, false⟩, [0, 1, 2, 3, 4, 5, 6, 7, 8, 9, 10, 11, 12, 13, 14, 15, 16, 17, 18, 19, 20]),
  (⟨(some 31), .i2i .u8 (.t 30), none, false⟩, [0, 1, 2, 3, 4, 5, 6, 7, 8, 9, 10, 11, 12, 13, 14, 15, 16, 17, 18, 19, 20]),
  (⟨(some 32), .bsl [.i .u8 0, .i .u8 0, .i .u8 0, .i .u8 0, .i .u8 0] 5 [(0, 1, .t 12), (1, 1, .t 17), (2, 1, .t 20), (3, 1, .t 23), (4, 1, .t 31)], none, false⟩, []),
  (⟨(some 33), .b2s (.t 32), none, false⟩, []),
  (⟨(some 2), .mv (.t 33), none, false⟩, [])]
abbrev i45c : ICode := (.seq (.reg i45r0) (.seq (.dreg i45r1) .ret))
def i45 : IFn := { np := 1, N := 34, ct := [], code := i45c, res := [.t 2] }
theorem i45_eq : compF Try.prog Try.f45 = some i45 := by kernel_rfl
abbrev i46r0 : List IOper := [
  ⟨(some 0), .new [.b false, .b false, .b false, .b false, .i .i64 0, .i .i64 0, .i .i64 0, .i .i64 0], none, false⟩]
abbrev i46r1 : List IOper := [
  ⟨(some 1), .build [.b false, .b false, .b false, .b false, .i .i64 0, .i .i64 0, .i .i64 0, .i .i64 0] [(0, 1, .c (.b true)), (1, 1, .c (.b true)), (4, 1, .c (.i .i64 300)), (5, 1, .c (.i .i64 7))], none, false⟩,
  ⟨none, .st 8 (.t 0) (.t 1), none, false⟩]
abbrev i46c : ICode := (.seq (.reg i46r0) (.seq (.reg i46r1) .ret))
def i46 : IFn := { np := 0, N := 2, ct := [], code := i46c, res := [.c 0 true 8] }
theorem i46_eq : compF Try.prog Try.f46 = some i46 := by kernel_rfl
abbrev i47r0 : List IOper := [
  ⟨(some 2), .mv (.c (.b false)), none, false⟩]
abbrev i47r1 : List IOper := [
  ⟨(some 6), .call (.c (.fn 46 [])) [], none, false⟩,
  ⟨(some 3), .new [.b false, .b false, .b false, .b false, .i .i64 0, .i .i64 0, .i .i64 0, .i .i64 0], none, false⟩,
  ⟨none, .st 8 (.t 3) (.t 6), none, false⟩]
abbrev i47r2 : List IOper := [
  ⟨(some 7), .mv (.t 0), none, false⟩,
  ⟨(some 8), .call (.t 7) [.t 3], none, false⟩]
abbrev i47r3 : List IOper := [
  ⟨(some 10), .ld true 8 (.t 3), none, false⟩,
  ⟨(some 11), .call (.c (.fn 15 [])) [.t 10], none, false⟩,
  ⟨(some 9), .mv (.t 11), none, false⟩,
  ⟨(some 12), .ext (.t 9) 0, none, false⟩,
  ⟨(some 13), .ext (.t 9) 1, none, false⟩,
  ⟨(some 4), .mv (.t 12), none, false⟩,
  ⟨(some 5), .mv (.t 13), none, false⟩]
abbrev i47r4 : List IOper := [
  ⟨(some 14), .ld true 8 (.t 3), none, false⟩,
  ⟨(some 15), .call (.c (.fn 14 [])) [.t 14], none, false⟩,
  ⟨(some 16), .bin .eql (.t 15) (.c (.i .i64 400)), none, false⟩,
  ⟨(some 17), .mv (.t 16), none, true⟩,
  ⟨(some 18), .mv (.t 5), (some (17, true)), false⟩,
  ⟨(some 19), .bin .eql (.t 18) (.c (.i .i64 400)), (some (17, true)), false⟩,
  ⟨(some 20), .pick (.t 17) (.t 19) (.c (.b false)), none, false⟩,
  ⟨(some 21), .mv (.t 20), none, true⟩,
  ⟨(some 22), .mv (.t 4), (some (21, true)), false⟩,
  ⟨(some 23), .bin .eql (.t 22) (.c (.s [])), (some (21, true)), false⟩,
  ⟨(some 24), .pick (.t 21) (.t 23) (.c (.b false)), none, false⟩,
  ⟨(some 2), .mv (.t 24), none, false⟩]
abbrev i47c : ICode := (.seq (.reg i47r0) (.seq (.reg i47r1) (.seq (.reg i47r2) (.seq (.reg i47r3) (.seq (.reg i47r4) .ret)))))
def i47 : IFn := { np := 1, N := 25, ct := [], code := i47c, res := [.t 2] }
theorem i47_eq : compF Try.prog Try.f47 = some i47 := by kernel_rfl
abbrev i48r0 : List IOper := [
  ⟨(some 2), .mv (.t 0), none, false⟩,
  ⟨(some 3), .nck (.t 2), none, false⟩,
  ⟨(some 4), .fa 2 (.t 3), none, false⟩,
  ⟨none, .st 1 (.t 4) (.c (.b true)), none, false⟩]
abbrev i48c : ICode := (.reg i48r0)
def i48 : IFn := { np := 1, N := 5, ct := [], code := i48c, res := [] }
theorem i48_eq : compF Try.prog Try.f48 = some i48 := by kernel_rfl
abbrev i49r0 : List IOper := [
  ⟨(some 2), .mv (.t 0), none, false⟩,
  ⟨(some 3), .nck (.t 2), none, false⟩,
  ⟨(some 4), .fa 6 (.t 3), none, false⟩,
  ⟨none, .st 1 (.t 4) (.c (.i .i64 1)), none, false⟩]
abbrev i49c : ICode := (.reg i49r0)
def i49 : IFn := { np := 1, N := 5, ct := [], code := i49c, res := [] }
theorem i49_eq : compF Try.prog Try.f49 = some i49 := by kernel_rfl
abbrev i50r0 : List IOper := [
  ⟨(some 2), .mv (.t 0), none, false⟩,
  ⟨(some 3), .nck (.t 2), none, false⟩,
  ⟨(some 4), .fa 4 (.t 3), none, false⟩,
  ⟨none, .st 1 (.t 4) (.c (.i .i64 32768)), none, false⟩]
abbrev i50c : ICode := (.reg i50r0)
def i50 : IFn := { np := 1, N := 5, ct := [], code := i50c, res := [] }
theorem i50_eq : compF Try.prog Try.f50 = some i50 := by kernel_rfl
abbrev i51r0 : List IOper := [
  ⟨(some 2), .box (.t 0), none, false⟩,
  ⟨(some 3), .box (.t 1), none, false⟩,
  ⟨(some 4), .new [.b false, .i .i64 0, .i .i64 0, .i .i64 0, .b false, .i .i64 0, .i .i64 0, .i .i64 0, .b false, .i .i64 0, .i .i64 0, .i .i64 0], none, false⟩,
  ⟨(some 5), .mv (.c (.b false)), none, false⟩]
abbrev i51r1 : List IOper := [
  ⟨(some 10), .fa 7 (.t 3), none, false⟩,
  ⟨(some 11), .ld false 1 (.t 10), none, false⟩,
  ⟨(some 12), .fa 0 (.t 2), none, false⟩,
  ⟨(some 13), .ixaA 3 4 (.t 12) (.t 11), none, false⟩,
  ⟨(some 14), .ld true 4 (.t 13), none, false⟩,
  ⟨(some 6), .new [.b false, .i .i64 0, .i .i64 0, .i .i64 0], none, false⟩,
  ⟨none, .st 4 (.t 6) (.t 14), none, false⟩]
abbrev i51r2 : List IOper := [
  ⟨(some 15), .fa 7 (.t 3), none, false⟩,
  ⟨(some 16), .ld false 1 (.t 15), none, false⟩,
  ⟨(some 17), .bin .eql (.t 16) (.c (.i .i64 0)), none, false⟩,
  ⟨(some 7), .mv (.t 17), none, false⟩]
abbrev i51r3 : List IOper := [
  ⟨(some 18), .mv (.t 7), none, false⟩,
  ⟨(some 19), .not (.t 18), none, true⟩]
abbrev i51r4 : List IOper := [
  ⟨(some 20), .fa 7 (.t 3), none, false⟩,
  ⟨(some 21), .ld false 1 (.t 20), none, false⟩,
  ⟨(some 22), .bin .sub (.t 21) (.c (.i .i64 1)), none, false⟩,
  ⟨(some 23), .fa 0 (.t 2), none, false⟩,
  ⟨(some 24), .ixaA 3 4 (.t 23) (.t 22), none, false⟩,
  ⟨(some 25), .ld true 4 (.t 24), none, false⟩,
  ⟨(some 8), .new [.b false, .i .i64 0, .i .i64 0, .i .i64 0], none, false⟩,
  ⟨none, .st 4 (.t 8) (.t 25), none, false⟩]
abbrev i51r5 : List IOper := [
  ⟨(some 26), .fa 0 (.t 8), none, false⟩,
  ⟨(some 27), .ld false 1 (.t 26), none, false⟩,
  ⟨(some 28), .mv (.t 27), none, true⟩,
  ⟨(some 29), .fa 1 (.t 8), (some (28, true)), false⟩,
  ⟨(some 30), .ld false 1 (.t 29), (some (28, true)), false⟩,
  ⟨(some 31), .fa 4 (.t 3), (some (28, true)), false⟩,
  ⟨(some 32), .ld false 1 (.t 31), (some (28, true)), false⟩,
  ⟨(some 33), .bin .eql (.t 30) (.t 32), (some (28, true)), false⟩,
  ⟨(some 34), .pick (.t 28) (.t 33) (.c (.b false)), none, false⟩,
  ⟨(some 7), .mv (.t 34), none, false⟩]
abbrev i51r6 : List IOper := [
  ⟨(some 35), .fa 0 (.t 6), none, false⟩,
  ⟨(some 36), .ld false 1 (.t 35), none, false⟩,
  ⟨(some 37), .mv (.t 36), none, true⟩,
  ⟨(some 38), .fa 4 (.t 3), (some (37, true)), false⟩,
  ⟨(some 39), .ld false 1 (.t 38), (some (37, true)), false⟩,
  ⟨(some 40), .fa 1 (.t 6), (some (37, true)), false⟩,
  ⟨(some 41), .ld false 1 (.t 40), (some (37, true)), false⟩,
  ⟨(some 42), .call (.c (.fn 67 [])) [.t 39, .t 41, .c (.i .i64 15)], (some (37, true)), false⟩,
  ⟨(some 43), .bin .gtr (.t 42) (.c (.i .i64 0)), (some (37, true)), false⟩,
  ⟨(some 44), .pick (.t 37) (.t 43) (.c (.b false)), none, false⟩,
  ⟨(some 9), .mv (.t 44), none, false⟩]
abbrev i51r7 : List IOper := [
  ⟨(some 45), .fa 1 (.t 3), none, false⟩,
  ⟨(some 46), .ld false 1 (.t 45), none, true⟩]
abbrev i51r8 : List IOper := [
  ⟨(some 47), .mv (.t 7), none, false⟩,
  ⟨(some 48), .not (.t 47), none, true⟩]
abbrev i51r9 : List IOper := [
  ⟨(some 49), .ld true 12 (.t 2), none, false⟩,
  ⟨none, .st 12 (.t 4) (.t 49), none, false⟩,
  ⟨(some 5), .mv (.c (.b false)), none, false⟩]
abbrev i51r10 : List IOper := [
  ⟨(some 50), .ld true 12 (.t 2), none, false⟩,
  ⟨(some 51), .fa 7 (.t 3), none, false⟩,
  ⟨(some 52), .ld false 1 (.t 51), none, false⟩,
  ⟨(some 53), .call (.c (.fn 68 [])) [.t 50, .t 52], none, false⟩,
  ⟨none, .st 12 (.t 2) (.t 53), none, false⟩]
abbrev i51r11 : List IOper := [
  ⟨(some 54), .fa 7 (.t 3), none, false⟩,
  ⟨(some 55), .ld false 1 (.t 54), none, false⟩,
  ⟨(some 56), .fa 4 (.t 3), none, false⟩,
  ⟨(some 57), .ld false 1 (.t 56), none, false⟩,
  ⟨(some 58), .fa 5 (.t 3), none, false⟩,
  ⟨(some 59), .ld false 1 (.t 58), none, false⟩,
  ⟨(some 60), .build [.b false, .i .i64 0, .i .i64 0, .i .i64 0] [(0, 1, .c (.b true)), (1, 1, .t 57), (2, 1, .t 59)], none, false⟩,
  ⟨(some 61), .fa 0 (.t 2), none, false⟩,
  ⟨(some 62), .ixaA 3 4 (.t 61) (.t 55), none, false⟩,
  ⟨none, .st 4 (.t 62) (.t 60), none, false⟩]
abbrev i51r12 : List IOper := [
  ⟨(some 63), .ld true 12 (.t 2), none, false⟩,
  ⟨none, .st 12 (.t 4) (.t 63), none, false⟩,
  ⟨(some 5), .mv (.c (.b true)), none, false⟩]
abbrev i51r13 : List IOper := [
  ⟨(some 64), .fa 6 (.t 3), none, false⟩,
  ⟨(some 65), .ld false 1 (.t 64), none, false⟩,
  ⟨(some 66), .bin .eql (.t 65) (.c (.i .i64 0)), none, true⟩]
abbrev i51r14 : List IOper := [
  ⟨(some 67), .mv (.t 7), none, false⟩,
  ⟨(some 68), .mv (.t 67), none, true⟩,
  ⟨(some 69), .mv (.t 9), (some (68, true)), false⟩,
  ⟨(some 70), .pick (.t 68) (.t 69) (.c (.b false)), none, false⟩,
  ⟨(some 71), .mv (.t 70), none, true⟩,
  ⟨(some 72), .fa 5 (.t 3), (some (71, true)), false⟩,
  ⟨(some 73), .ld false 1 (.t 72), (some (71, true)), false⟩,
  ⟨(some 74), .fa 2 (.t 6), (some (71, true)), false⟩,
  ⟨(some 75), .ld false 1 (.t 74), (some (71, true)), false⟩,
  ⟨(some 76), .bin .add (.t 75) (.c (.i .i64 1)), (some (71, true)), false⟩,
  ⟨(some 77), .bin .rem (.t 76) (.c (.i .i64 256)), (some (71, true)), false⟩,
  ⟨(some 78), .bin .eql (.t 73) (.t 77), (some (71, true)), false⟩,
  ⟨(some 79), .pick (.t 71) (.t 78) (.c (.b false)), none, true⟩]
abbrev i51r15 : List IOper := [
  ⟨(some 80), .fa 7 (.t 3), none, false⟩,
  ⟨(some 81), .ld false 1 (.t 80), none, false⟩,
  ⟨(some 82), .fa 4 (.t 3), none, false⟩,
  ⟨(some 83), .ld false 1 (.t 82), none, false⟩,
  ⟨(some 84), .fa 0 (.t 2), none, false⟩,
  ⟨(some 85), .ixaA 3 4 (.t 84) (.t 81), none, false⟩,
  ⟨(some 86), .fa 1 (.t 85), none, false⟩,
  ⟨none, .st 1 (.t 86) (.t 83), none, false⟩]
abbrev i51r16 : List IOper := [
  ⟨(some 87), .fa 7 (.t 3), none, false⟩,
  ⟨(some 88), .ld false 1 (.t 87), none, false⟩,
  ⟨(some 89), .fa 5 (.t 3), none, false⟩,
  ⟨(some 90), .ld false 1 (.t 89), none, false⟩,
  ⟨(some 91), .fa 0 (.t 2), none, false⟩,
  ⟨(some 92), .ixaA 3 4 (.t 91) (.t 88), none, false⟩,
  ⟨(some 93), .fa 2 (.t 92), none, false⟩,
  ⟨none, .st 1 (.t 93) (.t 90), none, false⟩]
abbrev i51r17 : List IOper := [
  ⟨(some 94), .ld true 12 (.t 2), none, false⟩,
  ⟨none, .st 12 (.t 4) (.t 94), none, false⟩,
  ⟨(some 5), .mv (.c (.b true)), none, false⟩]
abbrev i51r18 : List IOper := [
  ⟨(some 95), .mv (.t 9), none, true⟩]
abbrev i51r19 : List IOper := [
  ⟨(some 96), .ld true 12 (.t 2), none, false⟩,
  ⟨(some 97), .fa 7 (.t 3), none, false⟩,
  ⟨(some 98), .ld false 1 (.t 97), none, false⟩,
  ⟨(some 99), .call (.c (.fn 68 [])) [.t 96, .t 98], none, false⟩,
  ⟨none, .st 12 (.t 2) (.t 99), none, false⟩]
abbrev i51r20 : List IOper := [
  ⟨(some 100), .ld true 12 (.t 2), none, false⟩,
  ⟨none, .st 12 (.t 4) (.t 100), none, false⟩,
  ⟨(some 5), .mv (.c (.b false)), none, false⟩]
abbrev i51r21 : List IOper := [
  ⟨(some 101), .mv (.t 7), none, false⟩,
  ⟨(some 102), .mv (.t 101), none, true⟩,
  ⟨(some 103), .mv (.t 9), (some (102, true)), false⟩,
  ⟨(some 104), .pick (.t 102) (.t 103) (.c (.b false)), none, false⟩,
  ⟨(some 105), .mv (.t 104), none, true⟩,
  ⟨(some 106), .fa 5 (.t 3), (some (105, true)), false⟩,
  ⟨(some 107), .ld false 1 (.t 106), (some (105, true)), false⟩,
  ⟨(some 108), .fa 2 (.t 6), (some (105, true)), false⟩,
  ⟨(some 109), .ld false 1 (.t 108), (some (105, true)), false⟩,
  ⟨(some 110), .bin .eql (.t 107) (.t 109), (some (105, true)), false⟩,
  ⟨(some 111), .pick (.t 105) (.t 110) (.c (.b false)), none, false⟩,
  ⟨(some 112), .mv (.t 111), none, true⟩,
  ⟨(some 113), .fa 6 (.t 3), (some (112, true)), false⟩,
  ⟨(some 114), .ld false 1 (.t 113), (some (112, true)), false⟩,
  ⟨(some 115), .fa 3 (.t 6), (some (112, true)), false⟩,
  ⟨(some 116), .ld false 1 (.t 115), (some (112, true)), false⟩,
  ⟨(some 117), .bin .leq (.t 114) (.t 116), (some (112, true)), false⟩,
  ⟨(some 118), .mv (.t 117), (some (112, true)), true⟩,
  ⟨(some 119), .fa 2 (.t 3), (some (118, false)), false⟩,
  ⟨(some 120), .ld false 1 (.t 119), (some (118, false)), false⟩,
  ⟨(some 121), .mv (.t 120), (some (118, false)), true⟩,
  ⟨(some 122), .fa 6 (.t 3), (some (121, true)), false⟩,
  ⟨(some 123), .ld false 1 (.t 122), (some (121, true)), false⟩,
  ⟨(some 124), .fa 3 (.t 6), (some (121, true)), false⟩,
  ⟨(some 125), .ld false 1 (.t 124), (some (121, true)), false⟩,
  ⟨(some 126), .bin .add (.t 125) (.c (.i .i64 1)), (some (121, true)), false⟩,
  ⟨(some 127), .bin .eql (.t 123) (.t 126), (some (121, true)), false⟩,
  ⟨(some 128), .pick (.t 121) (.t 127) (.c (.b false)), (some (118, false)), false⟩,
  ⟨(some 129), .pick (.t 118) (.c (.b true)) (.t 128), (some (112, true)), false⟩,
  ⟨(some 130), .pick (.t 112) (.t 129) (.c (.b false)), none, true⟩]
abbrev i51r22 : List IOper := [
  ⟨(some 131), .fa 7 (.t 3), none, false⟩,
  ⟨(some 132), .ld false 1 (.t 131), none, false⟩,
  ⟨(some 133), .fa 4 (.t 3), none, false⟩,
  ⟨(some 134), .ld false 1 (.t 133), none, false⟩,
  ⟨(some 135), .fa 0 (.t 2), none, false⟩,
  ⟨(some 136), .ixaA 3 4 (.t 135) (.t 132), none, false⟩,
  ⟨(some 137), .fa 1 (.t 136), none, false⟩,
  ⟨none, .st 1 (.t 137) (.t 134), none, false⟩]
abbrev i51r23 : List IOper := [
  ⟨(some 138), .fa 7 (.t 3), none, false⟩,
  ⟨(some 139), .ld false 1 (.t 138), none, false⟩,
  ⟨(some 140), .fa 3 (.t 6), none, false⟩,
  ⟨(some 141), .ld false 1 (.t 140), none, false⟩,
  ⟨(some 142), .fa 6 (.t 3), none, false⟩,
  ⟨(some 143), .ld false 1 (.t 142), none, false⟩,
  ⟨(some 144), .mx (.t 141) [.t 143], none, false⟩,
  ⟨(some 145), .fa 0 (.t 2), none, false⟩,
  ⟨(some 146), .ixaA 3 4 (.t 145) (.t 139), none, false⟩,
  ⟨(some 147), .fa 3 (.t 146), none, false⟩,
  ⟨none, .st 1 (.t 147) (.t 144), none, false⟩]
abbrev i51r24 : List IOper := [
  ⟨(some 148), .ld true 12 (.t 2), none, false⟩,
  ⟨none, .st 12 (.t 4) (.t 148), none, false⟩,
  ⟨(some 5), .mv (.c (.b true)), none, false⟩]
abbrev i51r25 : List IOper := [
  ⟨(some 149), .ld true 12 (.t 2), none, false⟩,
  ⟨none, .st 12 (.t 4) (.t 149), none, false⟩,
  ⟨(some 5), .mv (.c (.b false)), none, false⟩]
abbrev i51c : ICode := (.seq (.reg i51r0) (.seq (.reg i51r1) (.seq (.reg i51r2) (.seq (.seq (.reg i51r3) (.cond (.t 19) (.seq (.reg i51r4) (.reg i51r5)) .skip)) (.seq (.reg i51r6) (.seq (.seq (.reg i51r7) (.cond (.t 46) (.seq (.seq (.reg i51r8) (.cond (.t 48) (.seq (.reg i51r9) .ret) .skip)) (.seq (.reg i51r10) (.seq (.reg i51r11) (.seq (.reg i51r12) .ret)))) .skip)) (.seq (.seq (.reg i51r13) (.cond (.t 66) (.seq (.seq (.reg i51r14) (.cond (.t 79) (.seq (.reg i51r15) (.seq (.reg i51r16) (.seq (.reg i51r17) .ret))) .skip)) (.seq (.seq (.reg i51r18) (.cond (.t 95) (.reg i51r19) .skip)) (.seq (.reg i51r20) .ret))) .skip)) (.seq (.seq (.reg i51r21) (.cond (.t 130) (.seq (.reg i51r22) (.seq (.reg i51r23) (.seq (.reg i51r24) .ret))) .skip)) (.seq (.reg i51r25) .ret)))))))))
def i51 : IFn := { np := 2, N := 150, ct := [19, 46, 48, 66, 79, 95, 130], code := i51c, res := [.c 4 true 12, .t 5] }
theorem i51_eq : compF Try.prog Try.f51 = some i51 := by kernel_rfl
abbrev i52r0 : List IOper := [
  ⟨(some 2), .mv (.c (.b false)), none, false⟩]
abbrev i52r1 : List (IOper × List Nat) := [
  (⟨(some 9), .mv (.t 0), none, false⟩, []),
  (⟨(some 10), .nck (.t 9), none, false⟩, []),
  (⟨(some 11), .fa 12 (.t 10), none, false⟩, []),
  (⟨(some 12), .ld true 8 (.t 11), none, false⟩, []),
  (⟨(some 13), .mv (.t 0), none, false⟩, [0, 1, 2, 3]),
  (⟨(some 14), .mv (.t 0), none, false⟩, [0, 1, 2, 3, 4]),
  (⟨(some 15), .nck (.t 14), none, false⟩, [0, 1, 2, 3, 4]),
  (⟨(some 16), .fa 12 (.t 15), none, false⟩, [0, 1, 2, 3, 4]),
  (⟨(some 17), .fa 7 (.t 16), none, false⟩, [0, 1, 2, 3, 4]),
  (⟨(some 18), .ld false 1 (.t 17), none, false⟩, [0, 1, 2, 3, 4]),
  (⟨(some 19), .nck (.t 13), none, false⟩, [0, 1, 2, 3, 5, 6, 7, 8, 9]),
  (⟨(some 20), .fa 0 (.t 19), none, false⟩, [0, 1, 2, 3, 5, 6, 7, 8, 9]),
  (⟨(some 21), .fa 0 (.t 20), none, false⟩, [0, 1, 2, 3, 5, 6, 7, 8, 9]),
  (⟨(some 22), .ixaA 3 4 (.t 21) (.t 18), none, false⟩, [0, 1, 2, 3]),
  (⟨(some 3), .new [.b false, .b false, .b false, .b false, .i .i64 0, .i .i64 0, .i .i64 0, .i .i64 0], none, false⟩, [0, 1, 2, 3, 4, 5, 6, 7, 8, 9, 10, 11, 12, 13]),
  (⟨none, .st 8 (.t 3) (.t 12), none, false⟩, [4, 5, 6, 7, 8, 9, 10, 11, 12, 13]),
  (⟨(some 4), .mv (.t 22), none, false⟩, [])]
abbrev i52r2 : List (IOper × List Nat) := [
  (⟨(some 24), .fa 4 (.t 3), none, false⟩, []),
  (⟨(some 25), .ld false 1 (.t 24), none, false⟩, []),
  (⟨(some 26), .mv (.t 4), none, false⟩, [0, 1]),
  (⟨(some 27), .nck (.t 26), none, false⟩, [0, 1]),
  (⟨(some 28), .fa 1 (.t 27), none, false⟩, [0, 1]),
  (⟨(some 29), .ld false 1 (.t 28), none, false⟩, [0, 1]),
  (⟨(some 30), .call (.c (.fn 69 [])) [.t 25, .t 29, .c (.i .i64 15)], none, false⟩, []),
  (⟨(some 23), .mv (.t 30), none, false⟩, []),
  (⟨(some 31), .ext (.t 23) 0, none, false⟩, []),
  (⟨(some 32), .ext (.t 23) 1, none, false⟩, [8]),
  (⟨(some 5), .mv (.t 31), none, false⟩, [9]),
  (⟨(some 6), .mv (.t 32), none, false⟩, [])]
abbrev i52r3 : List IOper := [
  ⟨(some 33), .mv (.t 4), none, false⟩,
  ⟨(some 34), .nck (.t 33), none, false⟩,
  ⟨(some 35), .fa 0 (.t 34), none, false⟩,
  ⟨(some 36), .ld false 1 (.t 35), none, false⟩,
  ⟨(some 37), .mv (.t 36), none, true⟩,
  ⟨(some 38), .mv (.t 5), (some (37, true)), false⟩,
  ⟨(some 39), .bin .gtr (.t 38) (.c (.i .i64 0)), (some (37, true)), false⟩,
  ⟨(some 40), .pick (.t 37) (.t 39) (.c (.b false)), none, false⟩,
  ⟨(some 7), .mv (.t 40), none, false⟩]
abbrev i52r4 : List IOper := [
  ⟨(some 98), .fa 1 (.t 3), none, false⟩,
  ⟨(some 99), .ld false 1 (.t 98), none, false⟩,
  ⟨(some 97), .mv (.t 99), none, true⟩]
abbrev i52r5 : List IOper := [
  ⟨(some 100), .mv (.t 0), none, false⟩,
  ⟨(some 101), .call (.c (.fn 70 [])) [.t 100], none, false⟩,
  ⟨(some 102), .not (.t 101), none, true⟩]
abbrev i52r6 : List IOper := [
  ⟨(some 2), .mv (.c (.b false)), none, false⟩]
abbrev i52r7 : List IOper := [
  ⟨(some 103), .mv (.t 0), none, false⟩,
  ⟨(some 104), .call (.c (.fn 71 [])) [.t 103], none, false⟩]
abbrev i52r8 : List IOper := [
  ⟨(some 105), .mv (.t 4), none, false⟩,
  ⟨(some 106), .fa 4 (.t 3), none, false⟩,
  ⟨(some 107), .ld false 1 (.t 106), none, false⟩,
  ⟨(some 108), .fa 5 (.t 3), none, false⟩,
  ⟨(some 109), .ld false 1 (.t 108), none, false⟩,
  ⟨(some 110), .build [.b false, .i .i64 0, .i .i64 0, .i .i64 0] [(0, 1, .c (.b true)), (1, 1, .t 107), (2, 1, .t 109)], none, false⟩,
  ⟨(some 111), .nck (.t 105), none, false⟩,
  ⟨none, .st 4 (.t 111) (.t 110), none, false⟩]
abbrev i52r9 : List IOper := [
  ⟨(some 113), .fa 6 (.t 3), none, false⟩,
  ⟨(some 114), .ld false 1 (.t 113), none, false⟩,
  ⟨(some 115), .bin .eql (.t 114) (.c (.i .i64 0)), none, false⟩,
  ⟨(some 112), .mv (.t 115), none, true⟩]
abbrev i52r10 : List IOper := [
  ⟨(some 116), .mv (.t 7), none, false⟩,
  ⟨(some 117), .not (.t 116), none, true⟩]
abbrev i52r11 : List IOper := [
  ⟨(some 2), .mv (.c (.b false)), none, false⟩]
abbrev i52r12 : List (IOper × List Nat) := [
  (⟨(some 118), .mv (.t 0), none, false⟩, []),
  (⟨(some 119), .call (.c (.fn 70 [])) [.t 118], none, false⟩, []),
  (⟨(some 120), .not (.t 119), none, false⟩, []),
  (⟨(some 121), .mv (.t 120), none, true⟩, []),
  (⟨(some 122), .fa 5 (.t 3), (some (121, false)), false⟩, []),
  (⟨(some 123), .ld false 1 (.t 122), (some (121, false)), false⟩, []),
  (⟨(some 124), .mv (.t 4), (some (121, false)), false⟩, [4, 5]),
  (⟨(some 125), .nck (.t 124), (some (121, false)), false⟩, [4, 5]),
  (⟨(some 126), .fa 2 (.t 125), (some (121, false)), false⟩, [4, 5]),
  (⟨(some 127), .ld false 1 (.t 126), (some (121, false)), false⟩, [4, 5]),
  (⟨(some 128), .bin .add (.t 127) (.c (.i .i64 1)), (some (121, false)), false⟩, [4, 5]),
  (⟨(some 129), .bin .and (.t 128) (.c (.i .i64 255)), (some (121, false)), false⟩, [4, 5]),
  (⟨(some 130), .bin .neq (.t 123) (.t 129), (some (121, false)), false⟩, []),
  (⟨(some 131), .pick (.t 121) (.c (.b true)) (.t 130), none, true⟩, [])]
abbrev i52r13 : List IOper := [
  ⟨(some 132), .mv (.t 0), none, false⟩,
  ⟨(some 133), .call (.c (.fn 71 [])) [.t 132], none, false⟩]
abbrev i52r14 : List IOper := [
  ⟨(some 2), .mv (.c (.b false)), none, false⟩]
abbrev i52r15 : List (IOper × List Nat) := [
  (⟨(some 134), .mv (.t 4), none, false⟩, []),
  (⟨(some 135), .mv (.t 4), none, false⟩, [0]),
  (⟨(some 136), .fa 4 (.t 3), none, false⟩, [0, 1]),
  (⟨(some 137), .ld false 1 (.t 136), none, false⟩, [0, 1]),
  (⟨(some 138), .fa 5 (.t 3), none, false⟩, [0, 1, 2, 3]),
  (⟨(some 139), .ld false 1 (.t 138), none, false⟩, [0, 1, 2, 3]),
  (⟨(some 140), .nck (.t 134), none, false⟩, [1, 4, 5]),
  (⟨(some 141), .fa 1 (.t 140), none, false⟩, [1, 4, 5]),
  (⟨none, .st 1 (.t 141) (.t 137), none, false⟩, [1, 4, 5]),
  (⟨(some 142), .nck (.t 135), none, false⟩, []),
  (⟨(some 143), .fa 2 (.t 142), none, false⟩, []),
  (⟨none, .st 1 (.t 143) (.t 139), none, false⟩, [])]
abbrev i52r16 : List (IOper × List Nat) := [
  (⟨(some 41), .fa 2 (.t 3), none, false⟩, []),
  (⟨(some 42), .ld false 1 (.t 41), none, false⟩, []),
  (⟨(some 43), .mv (.t 42), none, true⟩, []),
  (⟨(some 44), .fa 6 (.t 3), (some (43, true)), false⟩, []),
  (⟨(some 45), .ld false 1 (.t 44), (some (43, true)), false⟩, []),
  (⟨(some 46), .mv (.t 4), (some (43, true)), false⟩, [3, 4]),
  (⟨(some 47), .nck (.t 46), (some (43, true)), false⟩, [3, 4]),
  (⟨(some 48), .fa 3 (.t 47), (some (43, true)), false⟩, [3, 4]),
  (⟨(some 49), .ld false 1 (.t 48), (some (43, true)), false⟩, [3, 4]),
  (⟨(some 50), .bin .add (.t 49) (.c (.i .i64 1)), (some (43, true)), false⟩, [3, 4]),
  (⟨(some 51), .bin .eql (.t 45) (.t 50), (some (43, true)), false⟩, []),
  (⟨(some 52), .pick (.t 43) (.t 51) (.c (.b false)), none, false⟩, []),
  (⟨(some 8), .mv (.t 52), none, false⟩, [])]
abbrev i52r17 : List (IOper × List Nat) := [
  (⟨(some 53), .mv (.t 7), none, false⟩, []),
  (⟨(some 54), .not (.t 53), none, false⟩, []),
  (⟨(some 55), .mv (.t 54), none, true⟩, []),
  (⟨(some 56), .mv (.t 0), (some (55, false)), false⟩, []),
  (⟨(some 57), .call (.c (.fn 70 [])) [.t 56], (some (55, false)), false⟩, []),
  (⟨(some 58), .not (.t 57), (some (55, false)), false⟩, []),
  (⟨(some 59), .pick (.t 55) (.c (.b true)) (.t 58), none, false⟩, []),
  (⟨(some 60), .mv (.t 59), none, true⟩, []),
  (⟨(some 61), .fa 5 (.t 3), (some (60, false)), false⟩, []),
  (⟨(some 62), .ld false 1 (.t 61), (some (60, false)), false⟩, []),
  (⟨(some 63), .mv (.t 4), (some (60, false)), false⟩, [8, 9]),
  (⟨(some 64), .nck (.t 63), (some (60, false)), false⟩, [8, 9]),
  (⟨(some 65), .fa 2 (.t 64), (some (60, false)), false⟩, [8, 9]),
  (⟨(some 66), .ld false 1 (.t 65), (some (60, false)), false⟩, [8, 9]),
  (⟨(some 67), .bin .neq (.t 62) (.t 66), (some (60, false)), false⟩, []),
  (⟨(some 68), .pick (.t 60) (.c (.b true)) (.t 67), none, false⟩, []),
  (⟨(some 69), .mv (.t 68), none, true⟩, []),
  (⟨(some 70), .fa 6 (.t 3), (some (69, false)), false⟩, []),
  (⟨(some 71), .ld false 1 (.t 70), (some (69, false)), false⟩, []),
  (⟨(some 72), .mv (.t 4), (some (69, false)), false⟩, [17, 18]),
  (⟨(some 73), .nck (.t 72), (some (69, false)), false⟩, [17, 18]),
  (⟨(some 74), .fa 3 (.t 73), (some (69, false)), false⟩, [17, 18]),
  (⟨(some 75), .ld false 1 (.t 74), (some (69, false)), false⟩, [17, 18]),
  (⟨(some 76), .bin .gtr (.t 71) (.t 75), (some (69, false)), false⟩, []),
  (⟨(some 77), .mv (.t 76), (some (69, false)), true⟩, []),
  (⟨(some 78), .mv (.t 8), (some (77, true)), false⟩, []),
  (⟨(some 79), .not (.t 78), (some (77, true)), false⟩, []),
  (⟨(some 80), .pick (.t 77) (.t 79) (.c (.b false)), (some (69, false)), false⟩, []),
  (⟨(some 81), .pick (.t 69) (.c (.b true)) (.t 80), none, true⟩, [])]
abbrev i52r18 : List IOper := [
  ⟨(some 2), .mv (.c (.b false)), none, false⟩]
abbrev i52r19 : List (IOper × List Nat) := [
  (⟨(some 82), .mv (.t 4), none, false⟩, []),
  (⟨(some 83), .mv (.t 4), none, false⟩, [0]),
  (⟨(some 84), .fa 4 (.t 3), none, false⟩, [0, 1]),
  (⟨(some 85), .ld false 1 (.t 84), none, false⟩, [0, 1]),
  (⟨(some 86), .mv (.t 4), none, false⟩, [0, 1, 2, 3]),
  (⟨(some 87), .nck (.t 86), none, false⟩, [0, 1, 2, 3]),
  (⟨(some 88), .fa 3 (.t 87), none, false⟩, [0, 1, 2, 3]),
  (⟨(some 89), .ld false 1 (.t 88), none, false⟩, [0, 1, 2, 3]),
  (⟨(some 90), .fa 6 (.t 3), none, false⟩, [0, 1, 2, 3, 4, 5, 6, 7]),
  (⟨(some 91), .ld false 1 (.t 90), none, false⟩, [0, 1, 2, 3, 4, 5, 6, 7]),
  (⟨(some 92), .mx (.t 89) [.t 91], none, false⟩, [0, 1, 2, 3]),
  (⟨(some 93), .nck (.t 82), none, false⟩, [1, 8, 9, 10]),
  (⟨(some 94), .fa 1 (.t 93), none, false⟩, [1, 8, 9, 10]),
  (⟨none, .st 1 (.t 94) (.t 85), none, false⟩, [1, 8, 9, 10]),
  (⟨(some 95), .nck (.t 83), none, false⟩, []),
  (⟨(some 96), .fa 3 (.t 95), none, false⟩, []),
  (⟨none, .st 1 (.t 96) (.t 92), none, false⟩, [])]
abbrev i52r20 : List IOper := [
  ⟨(some 2), .mv (.c (.b true)), none, false⟩]
abbrev i52c : ICode := (.seq (.reg i52r0) (.seq (.dreg i52r1) (.seq (.dreg i52r2) (.seq (.reg i52r3) (.seq (.block 0 (.seq (.reg i52r4) (.cond (.t 97) (.seq (.seq (.reg i52r5) (.cond (.t 102) (.seq (.reg i52r6) .ret) .skip)) (.seq (.reg i52r7) (.reg i52r8))) (.seq (.reg i52r9) (.cond (.t 112) (.seq (.seq (.reg i52r10) (.cond (.t 117) (.seq (.reg i52r11) .ret) .skip)) (.seq (.seq (.dreg i52r12) (.cond (.t 131) (.seq (.reg i52r13) (.seq (.reg i52r14) .ret)) .skip)) (.dreg i52r15))) (.seq (.dreg i52r16) (.seq (.seq (.dreg i52r17) (.cond (.t 81) (.seq (.reg i52r18) .ret) .skip)) (.dreg i52r19)))))))) (.seq (.reg i52r20) .ret))))))
def i52 : IFn := { np := 1, N := 144, ct := [97, 102, 112, 117, 131, 81], code := i52c, res := [.t 2] }
theorem i52_eq : compF Try.prog Try.f52 = some i52 := by kernel_rfl
abbrev i66r0 : List IOper := [
  ⟨(some 2), .mv (.c (.i .u8 0)), none, false⟩]
abbrev i66r1 : List IOper := [
  ⟨(some 3), .mv (.c (.i .u8 0)), none, false⟩]
abbrev i66r2 : List IOper := [
  ⟨(some 6), .mv (.t 0), none, false⟩,
  ⟨(some 7), .lenV (.t 6), none, false⟩,
  ⟨(some 8), .mv (.c (.i .i64 0)), none, false⟩]
abbrev i66r3 : List IOper := [
  ⟨(some 9), .bin .lss (.t 8) (.t 7), none, true⟩]
abbrev i66r4 : List IOper := [
  ⟨(some 10), .ixaV 1 (.t 6) (.t 8), none, false⟩,
  ⟨(some 11), .ld false 1 (.t 10), none, false⟩,
  ⟨(some 5), .mv (.t 11), none, false⟩]
abbrev i66r5 : List IOper := [
  ⟨(some 12), .mv (.t 3), none, false⟩,
  ⟨(some 13), .bin .shl (.t 12) (.c (.i .u64 1)), none, false⟩,
  ⟨(some 3), .mv (.t 13), none, false⟩]
abbrev i66r6 : List IOper := [
  ⟨(some 14), .mv (.t 5), none, true⟩]
abbrev i66r7 : List IOper := [
  ⟨(some 15), .mv (.t 3), none, false⟩,
  ⟨(some 16), .bin .or (.t 15) (.c (.i .u8 1)), none, false⟩,
  ⟨(some 3), .mv (.t 16), none, false⟩]
abbrev i66r8 : List IOper := [
  ⟨(some 17), .bin .add (.t 8) (.c (.i .i64 1)), none, false⟩,
  ⟨(some 8), .mv (.t 17), none, false⟩]
abbrev i66l9 : ICode := (.seq (.reg i66r3) (.seq (.cond (.t 9) .skip (.exit 0)) (.seq (.block 1 (.seq (.reg i66r4) (.seq (.reg i66r5) (.seq (.reg i66r6) (.cond (.t 14) (.reg i66r7) .skip))))) (.reg i66r8))))
abbrev i66r10 : List IOper := [
  ⟨(some 18), .mv (.t 3), none, false⟩,
  ⟨(some 2), .mv (.t 18), none, false⟩]
abbrev i66c : ICode := (.seq (.reg i66r0) (.seq (.reg i66r1) (.seq (.seq (.reg i66r2) (.block 0 (.loop i66l9))) (.seq (.reg i66r10) .ret))))
def i66 : IFn := { np := 1, N := 19, ct := [9, 14], code := i66c, res := [.t 2] }
theorem i66_eq : compF Try.prog Try.f66 = some i66 := by kernel_rfl
abbrev i67r0 : List IOper := [
  ⟨(some 6), .mv (.c (.i .i64 0)), none, false⟩]
abbrev i67r1 : List IOper := [
  ⟨(some 8), .mv (.t 0), none, false⟩,
  ⟨(some 9), .mv (.t 1), none, false⟩,
  ⟨(some 10), .bin .sub (.t 8) (.t 9), none, false⟩,
  ⟨(some 7), .mv (.t 10), none, false⟩]
abbrev i67r2 : List IOper := [
  ⟨(some 11), .mv (.t 7), none, false⟩,
  ⟨(some 12), .mv (.t 2), none, false⟩,
  ⟨(some 13), .bin .sub (.t 12) (.c (.i .i64 1)), none, false⟩,
  ⟨(some 14), .call (.c (.fn 80 [])) [.t 13], none, false⟩,
  ⟨(some 15), .neg (.t 14), none, false⟩,
  ⟨(some 16), .bin .lss (.t 11) (.t 15), none, true⟩]
abbrev i67r3 : List IOper := [
  ⟨(some 17), .mv (.t 7), none, false⟩,
  ⟨(some 18), .mv (.t 2), none, false⟩,
  ⟨(some 19), .call (.c (.fn 80 [])) [.t 18], none, false⟩,
  ⟨(some 20), .bin .add (.t 17) (.t 19), none, false⟩,
  ⟨(some 7), .mv (.t 20), none, false⟩]
abbrev i67r4 : List IOper := [
  ⟨(some 21), .mv (.t 7), none, false⟩,
  ⟨(some 22), .mv (.t 2), none, false⟩,
  ⟨(some 23), .bin .sub (.t 22) (.c (.i .i64 1)), none, false⟩,
  ⟨(some 24), .call (.c (.fn 80 [])) [.t 23], none, false⟩,
  ⟨(some 25), .bin .geq (.t 21) (.t 24), none, true⟩]
abbrev i67r5 : List IOper := [
  ⟨(some 26), .mv (.t 7), none, false⟩,
  ⟨(some 27), .mv (.t 2), none, false⟩,
  ⟨(some 28), .call (.c (.fn 80 [])) [.t 27], none, false⟩,
  ⟨(some 29), .bin .sub (.t 26) (.t 28), none, false⟩,
  ⟨(some 7), .mv (.t 29), none, false⟩]
abbrev i67r6 : List IOper := [
  ⟨(some 30), .mv (.t 7), none, false⟩,
  ⟨(some 6), .mv (.t 30), none, false⟩]
abbrev i67c : ICode := (.seq (.reg i67r0) (.seq (.reg i67r1) (.seq (.seq (.reg i67r2) (.cond (.t 16) (.reg i67r3) .skip)) (.seq (.seq (.reg i67r4) (.cond (.t 25) (.reg i67r5) .skip)) (.seq (.reg i67r6) .ret)))))
def i67 : IFn := { np := 3, N := 31, ct := [16, 25], code := i67c, res := [.t 6] }
theorem i67_eq : compF Try.prog Try.f67 = some i67 := by kernel_rfl
abbrev i68r0 : List IOper := [
  ⟨(some 2), .box (.t 0), none, false⟩,
  ⟨(some 4), .new [.b false, .i .i64 0, .i .i64 0, .i .i64 0, .b false, .i .i64 0, .i .i64 0, .i .i64 0, .b false, .i .i64 0, .i .i64 0, .i .i64 0], none, false⟩]
abbrev i68r1 : List IOper := [
  ⟨(some 6), .mv (.t 1), none, false⟩,
  ⟨(some 5), .mv (.t 6), none, false⟩]
abbrev i68r2 : List IOper := [
  ⟨(some 7), .mv (.t 5), none, false⟩,
  ⟨(some 8), .bin .lss (.t 7) (.c (.i .i64 3)), none, true⟩]
abbrev i68r3 : List IOper := [
  ⟨(some 11), .mv (.t 5), none, false⟩,
  ⟨(some 12), .build [.b false, .i .i64 0, .i .i64 0, .i .i64 0] [], none, false⟩,
  ⟨(some 13), .fa 0 (.t 2), none, false⟩,
  ⟨(some 14), .ixaA 3 4 (.t 13) (.t 11), none, false⟩,
  ⟨none, .st 4 (.t 14) (.t 12), none, false⟩]
abbrev i68r4 : List IOper := [
  ⟨(some 9), .mv (.t 5), none, false⟩,
  ⟨(some 10), .bin .add (.t 9) (.c (.i .i64 1)), none, false⟩,
  ⟨(some 5), .mv (.t 10), none, false⟩]
abbrev i68l5 : ICode := (.seq (.seq (.reg i68r2) (.cond (.t 8) .skip (.exit 0))) (.seq (.block 1 (.reg i68r3)) (.reg i68r4)))
abbrev i68r6 : List IOper := [
  ⟨(some 15), .ld true 12 (.t 2), none, false⟩,
  ⟨none, .st 12 (.t 4) (.t 15), none, false⟩]
abbrev i68c : ICode := (.seq (.reg i68r0) (.seq (.seq (.reg i68r1) (.block 0 (.loop i68l5))) (.seq (.reg i68r6) .ret)))
def i68 : IFn := { np := 2, N := 16, ct := [8], code := i68c, res := [.c 4 true 12] }
theorem i68_eq : compF Try.prog Try.f68 = some i68 := by kernel_rfl
abbrev i69r0 : List IOper := [
  ⟨(some 6), .mv (.c (.i .i64 0)), none, false⟩,
  ⟨(some 7), .mv (.c (.i .i64 0)), none, false⟩]
abbrev i69r1 : List IOper := [
  ⟨(some 9), .mv (.t 2), none, false⟩,
  ⟨(some 10), .bin .lss (.t 9) (.c (.i .i64 1)), none, false⟩,
  ⟨(some 11), .mv (.t 10), none, true⟩,
  ⟨(some 12), .mv (.t 2), (some (11, false)), false⟩,
  ⟨(some 13), .bin .gtr (.t 12) (.c (.i .i64 32)), (some (11, false)), false⟩,
  ⟨(some 14), .pick (.t 11) (.c (.b true)) (.t 13), none, false⟩,
  ⟨(some 15), .mv (.t 14), none, true⟩,
  ⟨(some 16), .mv (.t 0), (some (15, false)), false⟩,
  ⟨(some 17), .bin .lss (.t 16) (.c (.i .i64 0)), (some (15, false)), false⟩,
  ⟨(some 18), .pick (.t 15) (.c (.b true)) (.t 17), none, false⟩,
  ⟨(some 19), .mv (.t 18), none, true⟩,
  ⟨(some 20), .mv (.t 0), (some (19, false)), false⟩,
  ⟨(some 21), .mv (.t 2), (some (19, false)), false⟩,
  ⟨(some 22), .bin .shr (.t 20) (.t 21), (some (19, false)), false⟩,
  ⟨(some 23), .bin .neq (.t 22) (.c (.i .i64 0)), (some (19, false)), false⟩,
  ⟨(some 24), .pick (.t 19) (.c (.b true)) (.t 23), none, false⟩,
  ⟨(some 25), .mv (.t 24), none, true⟩,
  ⟨(some 26), .mv (.t 1), (some (25, false)), false⟩,
  ⟨(some 27), .bin .lss (.t 26) (.c (.i .i64 0)), (some (25, false)), false⟩,
  ⟨(some 28), .pick (.t 25) (.c (.b true)) (.t 27), none, false⟩,
  ⟨(some 29), .mv (.t 28), none, true⟩,
  ⟨(some 30), .mv (.t 1), (some (29, false)), false⟩,
  ⟨(some 31), .mv (.t 2), (some (29, false)), false⟩,
  ⟨(some 32), .bin .shr (.t 30) (.t 31), (some (29, false)), false⟩,
  ⟨(some 33), .bin .neq (.t 32) (.c (.i .i64 0)), (some (29, false)), false⟩,
  ⟨(some 34), .pick (.t 29) (.c (.b true)) (.t 33), none, true⟩]
abbrev i69r2 : List IOper := [
  ⟨(some 6), .mv (.c (.i .i64 0)), none, false⟩,
  ⟨(some 7), .mv (.c (.i .i64 2)), none, false⟩]
abbrev i69r3 : List IOper := [
  ⟨(some 35), .mv (.t 0), none, false⟩,
  ⟨(some 36), .mv (.t 1), none, false⟩,
  ⟨(some 37), .bin .sub (.t 35) (.t 36), none, false⟩,
  ⟨(some 38), .mv (.t 2), none, false⟩,
  ⟨(some 39), .bin .shl (.c (.i .i64 1)) (.t 38), none, false⟩,
  ⟨(some 40), .bin .sub (.t 39) (.c (.i .i64 1)), none, false⟩,
  ⟨(some 41), .bin .and (.t 37) (.t 40), none, false⟩,
  ⟨(some 8), .mv (.t 41), none, false⟩]
abbrev i69r4 : List IOper := [
  ⟨(some 42), .mv (.t 8), none, false⟩,
  ⟨(some 43), .mv (.t 2), none, false⟩,
  ⟨(some 44), .bin .sub (.t 43) (.c (.i .i64 1)), none, false⟩,
  ⟨(some 45), .bin .shr (.t 42) (.t 44), none, false⟩,
  ⟨(some 46), .bin .eql (.t 45) (.c (.i .i64 1)), none, true⟩]
abbrev i69r5 : List IOper := [
  ⟨(some 47), .mv (.t 8), none, false⟩,
  ⟨(some 48), .mv (.t 2), none, false⟩,
  ⟨(some 49), .bin .shl (.c (.i .i64 1)) (.t 48), none, false⟩,
  ⟨(some 50), .bin .sub (.t 47) (.t 49), none, false⟩,
  ⟨(some 8), .mv (.t 50), none, false⟩]
abbrev i69r6 : List IOper := [
  ⟨(some 51), .mv (.t 8), none, false⟩,
  ⟨(some 6), .mv (.t 51), none, false⟩,
  ⟨(some 7), .mv (.c (.i .i64 0)), none, false⟩]
abbrev i69c : ICode := (.seq (.reg i69r0) (.seq (.seq (.reg i69r1) (.cond (.t 34) (.seq (.reg i69r2) .ret) .skip)) (.seq (.reg i69r3) (.seq (.seq (.reg i69r4) (.cond (.t 46) (.reg i69r5) .skip)) (.seq (.reg i69r6) .ret)))))
def i69 : IFn := { np := 3, N := 52, ct := [34, 46], code := i69c, res := [.t 6, .t 7] }
theorem i69_eq : compF Try.prog Try.f69 = some i69 := by kernel_rfl
abbrev i70r0 : List IOper := [
  ⟨(some 2), .mv (.c (.b false)), none, false⟩]
abbrev i70r1 : List IOper := [
  ⟨(some 4), .mv (.t 0), none, false⟩,
  ⟨(some 5), .nck (.t 4), none, false⟩,
  ⟨(some 6), .fa 12 (.t 5), none, false⟩,
  ⟨(some 7), .fa 7 (.t 6), none, false⟩,
  ⟨(some 8), .ld false 1 (.t 7), none, false⟩,
  ⟨(some 9), .bin .eql (.t 8) (.c (.i .i64 0)), none, true⟩]
abbrev i70r2 : List IOper := [
  ⟨(some 2), .mv (.c (.b true)), none, false⟩]
abbrev i70r3 : List (IOper × List Nat) := [
  (⟨(some 10), .mv (.t 0), none, false⟩, []),
  (⟨(some 11), .mv (.t 0), none, false⟩, [0]),
  (⟨(some 12), .nck (.t 11), none, false⟩, [0]),
  (⟨(some 13), .fa 12 (.t 12), none, false⟩, [0]),
  (⟨(some 14), .fa 7 (.t 13), none, false⟩, [0]),
  (⟨(some 15), .ld false 1 (.t 14), none, false⟩, [0]),
  (⟨(some 16), .bin .sub (.t 15) (.c (.i .i64 1)), none, false⟩, [0]),
  (⟨(some 17), .nck (.t 10), none, false⟩, [1, 2, 3, 4, 5, 6]),
  (⟨(some 18), .fa 0 (.t 17), none, false⟩, [1, 2, 3, 4, 5, 6]),
  (⟨(some 19), .fa 0 (.t 18), none, false⟩, [1, 2, 3, 4, 5, 6]),
  (⟨(some 20), .ixaA 3 4 (.t 19) (.t 16), none, false⟩, []),
  (⟨(some 21), .ld true 4 (.t 20), none, false⟩, []),
  (⟨(some 3), .new [.b false, .i .i64 0, .i .i64 0, .i .i64 0], none, false⟩, [0, 1, 2, 3, 4, 5, 6, 7, 8, 9, 10, 11]),
  (⟨none, .st 4 (.t 3) (.t 21), none, false⟩, [])]
abbrev i70r4 : List (IOper × List Nat) := [
  (⟨(some 22), .fa 0 (.t 3), none, false⟩, []),
  (⟨(some 23), .ld false 1 (.t 22), none, false⟩, []),
  (⟨(some 24), .mv (.t 23), none, true⟩, []),
  (⟨(some 25), .fa 1 (.t 3), (some (24, true)), false⟩, []),
  (⟨(some 26), .ld false 1 (.t 25), (some (24, true)), false⟩, []),
  (⟨(some 27), .mv (.t 0), (some (24, true)), false⟩, [3, 4]),
  (⟨(some 28), .nck (.t 27), (some (24, true)), false⟩, [3, 4]),
  (⟨(some 29), .fa 12 (.t 28), (some (24, true)), false⟩, [3, 4]),
  (⟨(some 30), .fa 4 (.t 29), (some (24, true)), false⟩, [3, 4]),
  (⟨(some 31), .ld false 1 (.t 30), (some (24, true)), false⟩, [3, 4]),
  (⟨(some 32), .bin .eql (.t 26) (.t 31), (some (24, true)), false⟩, []),
  (⟨(some 33), .pick (.t 24) (.t 32) (.c (.b false)), none, false⟩, []),
  (⟨(some 2), .mv (.t 33), none, false⟩, [])]
abbrev i70c : ICode := (.seq (.reg i70r0) (.seq (.seq (.reg i70r1) (.cond (.t 9) (.seq (.reg i70r2) .ret) .skip)) (.seq (.dreg i70r3) (.seq (.dreg i70r4) .ret))))
def i70 : IFn := { np := 1, N := 34, ct := [9], code := i70c, res := [.t 2] }
theorem i70_eq : compF Try.prog Try.f70 = some i70 := by kernel_rfl
abbrev i71r0 : List (IOper × List Nat) := [
  (⟨(some 2), .mv (.t 0), none, false⟩, []),
  (⟨(some 3), .nck (.t 2), none, false⟩, []),
  (⟨(some 4), .fa 0 (.t 3), none, false⟩, []),
  (⟨(some 5), .fa 0 (.t 4), none, false⟩, []),
  (⟨(some 6), .mv (.t 0), none, false⟩, [0, 1, 2, 3]),
  (⟨(some 7), .nck (.t 6), none, false⟩, [0, 1, 2, 3]),
  (⟨(some 8), .fa 12 (.t 7), none, false⟩, [0, 1, 2, 3]),
  (⟨(some 9), .fa 7 (.t 8), none, false⟩, [0, 1, 2, 3]),
  (⟨(some 10), .ld false 1 (.t 9), none, false⟩, [0, 1, 2, 3]),
  (⟨(some 11), .slA 3 4 (.t 5) (some (.t 10)) none none, none, false⟩, []),
  (⟨none, .clr 4 [.b false, .i .i64 0, .i .i64 0, .i .i64 0] (.t 11), none, false⟩, [])]
abbrev i71c : ICode := (.dreg i71r0)
def i71 : IFn := { np := 1, N := 12, ct := [], code := i71c, res := [] }
theorem i71_eq : compF Try.prog Try.f71 = some i71 := by kernel_rfl
abbrev i80r0 : List IOper := [
  ⟨(some 2), .mv (.c (.i .i64 0)), none, false⟩]
abbrev i80r1 : List IOper := [
  ⟨(some 3), .mv (.c (.i .i64 1)), none, false⟩]
abbrev i80r2 : List IOper := [
  ⟨(some 4), .mv (.c (.i .i64 0)), none, false⟩]
abbrev i80r3 : List IOper := [
  ⟨(some 5), .mv (.t 4), none, false⟩,
  ⟨(some 6), .mv (.t 0), none, false⟩,
  ⟨(some 7), .bin .lss (.t 5) (.t 6), none, true⟩]
abbrev i80r4 : List IOper := [
  ⟨(some 10), .mv (.t 3), none, false⟩,
  ⟨(some 11), .bin .mul (.c (.i .i64 2)) (.t 10), none, false⟩,
  ⟨(some 3), .mv (.t 11), none, false⟩]
abbrev i80r5 : List IOper := [
  ⟨(some 8), .mv (.t 4), none, false⟩,
  ⟨(some 9), .bin .add (.t 8) (.c (.i .i64 1)), none, false⟩,
  ⟨(some 4), .mv (.t 9), none, false⟩]
abbrev i80l6 : ICode := (.seq (.seq (.reg i80r3) (.cond (.t 7) .skip (.exit 0))) (.seq (.block 1 (.reg i80r4)) (.reg i80r5)))
abbrev i80r7 : List IOper := [
  ⟨(some 12), .mv (.t 3), none, false⟩,
  ⟨(some 2), .mv (.t 12), none, false⟩]
abbrev i80c : ICode := (.seq (.reg i80r0) (.seq (.reg i80r1) (.seq (.seq (.reg i80r2) (.block 0 (.loop i80l6))) (.seq (.reg i80r7) .ret))))
def i80 : IFn := { np := 1, N := 13, ct := [7], code := i80c, res := [.t 2] }
theorem i80_eq : compF Try.prog Try.f80 = some i80 := by kernel_rfl
end Go.Proofs.Pic
