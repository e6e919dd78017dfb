/- The small language's text of the functions; printed by ShowI.lean. -/
import Derived.Test.YtbnmgcfipgfllaaDoorProg
import Derived.Test.YtbnmgcfipgfllaaDoorAbRuns
namespace Go.Proofs.Rate
open Go.Ab
abbrev i9r0 : List IOper := [
  ⟨(some 0), .mv (.c (.b false)), none, false⟩]
abbrev i9r1 : List IOper := [
  ⟨(some 28), .call (.c (.fn 16 [])) [.c (.i .i64 100000000), .c (.i .i64 100000000), .c (.i .i64 100000000)], none, false⟩,
  ⟨(some 27), .mv (.t 28), none, false⟩,
  ⟨(some 29), .ext (.t 27) 0, none, false⟩,
  ⟨(some 30), .ext (.t 27) 1, none, false⟩,
  ⟨(some 1), .new [.i .i64 0, .i .i64 0, .i .i64 0, .i .i64 0, .i .i64 0, .i .i64 0, .i .i64 0, .i .i64 0], none, false⟩,
  ⟨none, .st 8 (.t 1) (.t 29), none, false⟩,
  ⟨(some 2), .mv (.t 30), none, false⟩]
abbrev i9r2 : List IOper := [
  ⟨(some 32), .call (.c (.fn 16 [])) [.c (.i .i64 1000), .c (.i .i64 1000), .c (.i .i64 100000000)], none, false⟩,
  ⟨(some 31), .mv (.t 32), none, false⟩,
  ⟨(some 33), .ext (.t 31) 0, none, false⟩,
  ⟨(some 34), .ext (.t 31) 1, none, false⟩,
  ⟨(some 3), .new [.i .i64 0, .i .i64 0, .i .i64 0, .i .i64 0, .i .i64 0, .i .i64 0, .i .i64 0, .i .i64 0], none, false⟩,
  ⟨none, .st 8 (.t 3) (.t 33), none, false⟩,
  ⟨(some 4), .mv (.t 34), none, false⟩]
abbrev i9r3 : List IOper := [
  ⟨(some 35), .ld true 8 (.t 3), none, false⟩,
  ⟨(some 36), .call (.c (.fn 25 [])) [.t 35, .c (.i .i64 0), .c (.i .i64 1), .c (.i .i64 1000)], none, false⟩,
  ⟨(some 5), .new [.i .i64 0, .i .i64 0, .i .i64 0, .i .i64 0, .i .i64 0, .i .i64 0, .i .i64 0, .i .i64 0], none, false⟩,
  ⟨none, .st 8 (.t 5) (.t 36), none, false⟩]
abbrev i9r4 : List IOper := [
  ⟨(some 37), .ld true 8 (.t 5), none, false⟩,
  ⟨(some 38), .call (.c (.fn 25 [])) [.t 37, .c (.i .i64 1), .c (.i .i64 0), .c (.i .i64 0)], none, false⟩,
  ⟨(some 39), .call (.c (.fn 25 [])) [.t 38, .c (.i .i64 2), .c (.i .i64 0), .c (.i .i64 0)], none, false⟩,
  ⟨(some 6), .new [.i .i64 0, .i .i64 0, .i .i64 0, .i .i64 0, .i .i64 0, .i .i64 0, .i .i64 0, .i .i64 0], none, false⟩,
  ⟨none, .st 8 (.t 6) (.t 39), none, false⟩]
abbrev i9r5 : List IOper := [
  ⟨(some 40), .call (.c (.fn 27 [])) [], none, false⟩,
  ⟨(some 41), .call (.c (.fn 25 [])) [.t 40, .c (.i .i64 1000), .c (.i .i64 0), .c (.i .i64 20000)], none, false⟩,
  ⟨(some 7), .new [.i .i64 0, .i .i64 0, .i .i64 0, .i .i64 0, .i .i64 0, .i .i64 0, .i .i64 0, .i .i64 0], none, false⟩,
  ⟨none, .st 8 (.t 7) (.t 41), none, false⟩]
abbrev i9r6 : List IOper := [
  ⟨(some 42), .call (.c (.fn 27 [])) [], none, false⟩,
  ⟨(some 43), .call (.c (.fn 25 [])) [.t 42, .c (.i .i64 1000), .c (.i .i64 0), .c (.i .i64 62000)], none, false⟩,
  ⟨(some 8), .new [.i .i64 0, .i .i64 0, .i .i64 0, .i .i64 0, .i .i64 0, .i .i64 0, .i .i64 0, .i .i64 0], none, false⟩,
  ⟨none, .st 8 (.t 8) (.t 43), none, false⟩]
abbrev i9r7 : List IOper := [
  ⟨(some 44), .call (.c (.fn 27 [])) [], none, false⟩,
  ⟨(some 45), .call (.c (.fn 25 [])) [.t 44, .c (.i .i64 1000), .c (.i .i64 0), .c (.i .i64 64000)], none, false⟩,
  ⟨(some 9), .new [.i .i64 0, .i .i64 0, .i .i64 0, .i .i64 0, .i .i64 0, .i .i64 0, .i .i64 0, .i .i64 0], none, false⟩,
  ⟨none, .st 8 (.t 9) (.t 45), none, false⟩]
abbrev i9r8 : List IOper := [
  ⟨(some 47), .build [.i .i64 0, .i .i64 0, .i .i64 0, .i .i64 0, .i .i64 0, .i .i64 0, .i .i64 0, .i .i64 0] [], none, false⟩,
  ⟨(some 48), .call (.c (.fn 19 [])) [.t 47, .c (.i .i64 (-1)), .c (.i .i64 9), .c (.i .i64 (-1))], none, false⟩,
  ⟨(some 46), .mv (.t 48), none, false⟩,
  ⟨(some 49), .ext (.t 46) 0, none, false⟩,
  ⟨(some 50), .ext (.t 46) 1, none, false⟩,
  ⟨(some 10), .new [.i .i64 0, .i .i64 0, .i .i64 0, .i .i64 0, .i .i64 0, .i .i64 0, .i .i64 0, .i .i64 0], none, false⟩,
  ⟨none, .st 8 (.t 10) (.t 49), none, false⟩,
  ⟨(some 11), .mv (.t 50), none, false⟩]
abbrev i9r9 : List IOper := [
  ⟨(some 52), .ld true 8 (.t 1), none, false⟩,
  ⟨(some 53), .call (.c (.fn 19 [])) [.t 52, .c (.i .i64 1099511627777), .c (.i .i64 9), .c (.i .i64 (-1))], none, false⟩,
  ⟨(some 51), .mv (.t 53), none, false⟩,
  ⟨(some 54), .ext (.t 51) 0, none, false⟩,
  ⟨(some 55), .ext (.t 51) 1, none, false⟩,
  ⟨(some 12), .new [.i .i64 0, .i .i64 0, .i .i64 0, .i .i64 0, .i .i64 0, .i .i64 0, .i .i64 0, .i .i64 0], none, false⟩,
  ⟨none, .st 8 (.t 12) (.t 54), none, false⟩,
  ⟨(some 13), .mv (.t 55), none, false⟩]
abbrev i9r10 : List IOper := [
  ⟨(some 57), .ld true 8 (.t 1), none, false⟩,
  ⟨(some 58), .call (.c (.fn 19 [])) [.t 57, .c (.i .i64 0), .c (.i .i64 0), .c (.i .i64 100000001)], none, false⟩,
  ⟨(some 56), .mv (.t 58), none, false⟩,
  ⟨(some 59), .ext (.t 56) 0, none, false⟩,
  ⟨(some 60), .ext (.t 56) 1, none, false⟩,
  ⟨(some 14), .new [.i .i64 0, .i .i64 0, .i .i64 0, .i .i64 0, .i .i64 0, .i .i64 0, .i .i64 0, .i .i64 0], none, false⟩,
  ⟨none, .st 8 (.t 14) (.t 59), none, false⟩,
  ⟨(some 15), .mv (.t 60), none, false⟩]
abbrev i9r11 : List IOper := [
  ⟨(some 62), .ld true 8 (.t 1), none, false⟩,
  ⟨(some 63), .call (.c (.fn 21 [])) [.t 62, .c (.i .i64 0), .c (.i .i64 256)], none, false⟩,
  ⟨(some 61), .mv (.t 63), none, false⟩,
  ⟨(some 64), .ext (.t 61) 0, none, false⟩,
  ⟨(some 65), .ext (.t 61) 1, none, false⟩,
  ⟨(some 16), .new [.i .i64 0, .i .i64 0, .i .i64 0, .i .i64 0, .i .i64 0, .i .i64 0, .i .i64 0, .i .i64 0], none, false⟩,
  ⟨none, .st 8 (.t 16) (.t 64), none, false⟩,
  ⟨(some 17), .mv (.t 65), none, false⟩]
abbrev i9r12 : List IOper := [
  ⟨(some 67), .ld true 8 (.t 1), none, false⟩,
  ⟨(some 68), .call (.c (.fn 23 [])) [.t 67, .c (.i .i64 0), .c (.i .i64 999), .c (.i .i64 1000)], none, false⟩,
  ⟨(some 66), .mv (.t 68), none, false⟩,
  ⟨(some 69), .ext (.t 66) 0, none, false⟩,
  ⟨(some 70), .ext (.t 66) 1, none, false⟩,
  ⟨(some 18), .new [.i .i64 0, .i .i64 0, .i .i64 0, .i .i64 0, .i .i64 0, .i .i64 0, .i .i64 0, .i .i64 0], none, false⟩,
  ⟨none, .st 8 (.t 18) (.t 69), none, false⟩,
  ⟨(some 19), .mv (.t 70), none, false⟩]
abbrev i9r13 : List IOper := [
  ⟨(some 72), .ld true 8 (.t 1), none, false⟩,
  ⟨(some 73), .call (.c (.fn 13 [])) [.t 72, .c (.i .i64 0), .c (.i .i64 2000), .c (.i .i64 1999)], none, false⟩,
  ⟨(some 71), .mv (.t 73), none, false⟩,
  ⟨(some 74), .ext (.t 71) 0, none, false⟩,
  ⟨(some 75), .ext (.t 71) 1, none, false⟩,
  ⟨(some 20), .new [.i .i64 0, .i .i64 0, .i .i64 0, .i .i64 0, .i .i64 0, .i .i64 0, .i .i64 0, .i .i64 0], none, false⟩,
  ⟨none, .st 8 (.t 20) (.t 74), none, false⟩,
  ⟨(some 21), .mv (.t 75), none, false⟩]
abbrev i9r14 : List IOper := [
  ⟨(some 76), .call (.c (.fn 27 [])) [], none, false⟩,
  ⟨(some 22), .new [.i .i64 0, .i .i64 0, .i .i64 0, .i .i64 0, .i .i64 0, .i .i64 0, .i .i64 0, .i .i64 0], none, false⟩,
  ⟨none, .st 8 (.t 22) (.t 76), none, false⟩]
abbrev i9r15 : List IOper := [
  ⟨(some 77), .fa 6 (.t 22), none, false⟩,
  ⟨none, .st 1 (.t 77) (.c (.i .i64 1)), none, false⟩]
abbrev i9r16 : List IOper := [
  ⟨(some 78), .call (.c (.fn 27 [])) [], none, false⟩,
  ⟨(some 23), .new [.i .i64 0, .i .i64 0, .i .i64 0, .i .i64 0, .i .i64 0, .i .i64 0, .i .i64 0, .i .i64 0], none, false⟩,
  ⟨none, .st 8 (.t 23) (.t 78), none, false⟩]
abbrev i9r17 : List IOper := [
  ⟨(some 79), .fa 4 (.t 23), none, false⟩,
  ⟨none, .st 1 (.t 79) (.c (.i .i64 999)), none, false⟩]
abbrev i9r18 : List IOper := [
  ⟨(some 80), .call (.c (.fn 27 [])) [], none, false⟩,
  ⟨(some 81), .call (.c (.fn 28 [])) [.t 80, .c (.i .i64 1), .c (.i .i64 5)], none, false⟩,
  ⟨(some 82), .call (.c (.fn 28 [])) [.t 81, .c (.i .i64 1000), .c (.i .i64 0)], none, false⟩,
  ⟨(some 24), .new [.i .i64 0, .i .i64 0, .i .i64 0, .i .i64 0, .i .i64 0, .i .i64 0, .i .i64 0, .i .i64 0], none, false⟩,
  ⟨none, .st 8 (.t 24) (.t 82), none, false⟩]
abbrev i9r19 : List IOper := [
  ⟨(some 83), .call (.c (.fn 27 [])) [], none, false⟩,
  ⟨(some 84), .call (.c (.fn 28 [])) [.t 83, .c (.i .i64 1), .c (.i .i64 5)], none, false⟩,
  ⟨(some 85), .call (.c (.fn 28 [])) [.t 84, .c (.i .i64 1001), .c (.i .i64 0)], none, false⟩,
  ⟨(some 25), .new [.i .i64 0, .i .i64 0, .i .i64 0, .i .i64 0, .i .i64 0, .i .i64 0, .i .i64 0, .i .i64 0], none, false⟩,
  ⟨none, .st 8 (.t 25) (.t 85), none, false⟩]
abbrev i9r20 : List IOper := [
  ⟨(some 86), .mv (.t 2), none, false⟩,
  ⟨(some 87), .bin .eql (.t 86) (.c (.i .i64 0)), none, false⟩,
  ⟨(some 88), .mv (.t 87), none, true⟩,
  ⟨(some 89), .mv (.t 4), (some (88, true)), false⟩,
  ⟨(some 90), .bin .eql (.t 89) (.c (.i .i64 0)), (some (88, true)), false⟩,
  ⟨(some 91), .pick (.t 88) (.t 90) (.c (.b false)), none, false⟩,
  ⟨(some 92), .mv (.t 91), none, true⟩,
  ⟨(some 93), .ld true 8 (.t 1), (some (92, true)), false⟩,
  ⟨(some 94), .call (.c (.fn 25 [])) [.t 93, .c (.i .i64 1099511627776), .c (.i .i64 0), .c (.i .i64 0)], (some (92, true)), false⟩,
  ⟨(some 95), .fld false 1 0 (.t 94), (some (92, true)), false⟩,
  ⟨(some 96), .bin .eql (.t 95) (.c (.i .i64 100000000)), (some (92, true)), false⟩,
  ⟨(some 97), .pick (.t 92) (.t 96) (.c (.b false)), none, false⟩,
  ⟨(some 98), .mv (.t 97), none, true⟩,
  ⟨(some 99), .ld true 8 (.t 1), (some (98, true)), false⟩,
  ⟨(some 100), .call (.c (.fn 25 [])) [.t 99, .c (.i .i64 0), .c (.i .i64 1), .c (.i .i64 1)], (some (98, true)), false⟩,
  ⟨(some 101), .fld false 1 0 (.t 100), (some (98, true)), false⟩,
  ⟨(some 102), .bin .eql (.t 101) (.c (.i .i64 100000000)), (some (98, true)), false⟩,
  ⟨(some 103), .pick (.t 98) (.t 102) (.c (.b false)), none, false⟩,
  ⟨(some 104), .mv (.t 103), none, true⟩,
  ⟨(some 105), .fa 0 (.t 5), (some (104, true)), false⟩,
  ⟨(some 106), .ld false 1 (.t 105), (some (104, true)), false⟩,
  ⟨(some 107), .bin .eql (.t 106) (.c (.i .i64 1000)), (some (104, true)), false⟩,
  ⟨(some 108), .pick (.t 104) (.t 107) (.c (.b false)), none, false⟩,
  ⟨(some 109), .mv (.t 108), none, true⟩,
  ⟨(some 110), .fa 4 (.t 5), (some (109, true)), false⟩,
  ⟨(some 111), .ld false 1 (.t 110), (some (109, true)), false⟩,
  ⟨(some 112), .bin .eql (.t 111) (.c (.i .i64 1000)), (some (109, true)), false⟩,
  ⟨(some 113), .pick (.t 109) (.t 112) (.c (.b false)), none, false⟩,
  ⟨(some 114), .mv (.t 113), none, true⟩,
  ⟨(some 115), .fa 0 (.t 6), (some (114, true)), false⟩,
  ⟨(some 116), .ld false 1 (.t 115), (some (114, true)), false⟩,
  ⟨(some 117), .bin .eql (.t 116) (.c (.i .i64 1050)), (some (114, true)), false⟩,
  ⟨(some 118), .pick (.t 114) (.t 117) (.c (.b false)), none, false⟩,
  ⟨(some 119), .mv (.t 118), none, true⟩,
  ⟨(some 120), .fa 0 (.t 7), (some (119, true)), false⟩,
  ⟨(some 121), .ld false 1 (.t 120), (some (119, true)), false⟩,
  ⟨(some 122), .bin .eql (.t 121) (.c (.i .i64 100000)), (some (119, true)), false⟩,
  ⟨(some 123), .pick (.t 119) (.t 122) (.c (.b false)), none, false⟩,
  ⟨(some 124), .mv (.t 123), none, true⟩,
  ⟨(some 125), .fa 0 (.t 8), (some (124, true)), false⟩,
  ⟨(some 126), .ld false 1 (.t 125), (some (124, true)), false⟩,
  ⟨(some 127), .bin .eql (.t 126) (.c (.i .i64 103000)), (some (124, true)), false⟩,
  ⟨(some 128), .pick (.t 124) (.t 127) (.c (.b false)), none, false⟩,
  ⟨(some 129), .mv (.t 128), none, true⟩,
  ⟨(some 130), .fa 0 (.t 9), (some (129, true)), false⟩,
  ⟨(some 131), .ld false 1 (.t 130), (some (129, true)), false⟩,
  ⟨(some 132), .bin .eql (.t 131) (.c (.i .i64 106000)), (some (129, true)), false⟩,
  ⟨(some 133), .pick (.t 129) (.t 132) (.c (.b false)), none, false⟩,
  ⟨(some 134), .mv (.t 133), none, true⟩,
  ⟨(some 135), .ld true 8 (.t 5), (some (134, true)), false⟩,
  ⟨(some 136), .call (.c (.fn 25 [])) [.t 135, .c (.i .i64 0), .c (.i .i64 1), .c (.i .i64 1)], (some (134, true)), false⟩,
  ⟨(some 137), .fld false 1 4 (.t 136), (some (134, true)), false⟩,
  ⟨(some 138), .bin .eql (.t 137) (.c (.i .i64 0)), (some (134, true)), false⟩,
  ⟨(some 139), .pick (.t 134) (.t 138) (.c (.b false)), none, false⟩,
  ⟨(some 26), .mv (.t 139), none, false⟩]
abbrev i9r21 : List IOper := [
  ⟨(some 140), .mv (.c (.b true)), none, true⟩,
  ⟨(some 141), .call (.c (.fn 18 [])) [], (some (140, true)), false⟩,
  ⟨(some 142), .pick (.t 140) (.t 141) (.c (.b false)), none, false⟩,
  ⟨(some 143), .mv (.t 142), none, true⟩,
  ⟨(some 144), .mv (.t 26), (some (143, true)), false⟩,
  ⟨(some 145), .pick (.t 143) (.t 144) (.c (.b false)), none, false⟩,
  ⟨(some 146), .mv (.t 145), none, true⟩,
  ⟨(some 147), .mv (.t 11), (some (146, true)), false⟩,
  ⟨(some 148), .bin .eql (.t 147) (.c (.i .i64 300)), (some (146, true)), false⟩,
  ⟨(some 149), .pick (.t 146) (.t 148) (.c (.b false)), none, false⟩,
  ⟨(some 150), .mv (.t 149), none, true⟩,
  ⟨(some 151), .mv (.t 13), (some (150, true)), false⟩,
  ⟨(some 152), .bin .eql (.t 151) (.c (.i .i64 2)), (some (150, true)), false⟩,
  ⟨(some 153), .pick (.t 150) (.t 152) (.c (.b false)), none, false⟩,
  ⟨(some 154), .mv (.t 153), none, true⟩,
  ⟨(some 155), .mv (.t 15), (some (154, true)), false⟩,
  ⟨(some 156), .bin .eql (.t 155) (.c (.i .i64 2)), (some (154, true)), false⟩,
  ⟨(some 157), .pick (.t 154) (.t 156) (.c (.b false)), none, false⟩,
  ⟨(some 158), .mv (.t 157), none, true⟩,
  ⟨(some 159), .mv (.t 17), (some (158, true)), false⟩,
  ⟨(some 160), .bin .eql (.t 159) (.c (.i .i64 2)), (some (158, true)), false⟩,
  ⟨(some 161), .pick (.t 158) (.t 160) (.c (.b false)), none, false⟩,
  ⟨(some 162), .mv (.t 161), none, true⟩,
  ⟨(some 163), .mv (.t 19), (some (162, true)), false⟩,
  ⟨(some 164), .bin .eql (.t 163) (.c (.i .i64 2)), (some (162, true)), false⟩,
  ⟨(some 165), .pick (.t 162) (.t 164) (.c (.b false)), none, false⟩,
  ⟨(some 166), .mv (.t 165), none, true⟩,
  ⟨(some 167), .mv (.t 21), (some (166, true)), false⟩,
  ⟨(some 168), .bin .eql (.t 167) (.c (.i .i64 2)), (some (166, true)), false⟩,
  ⟨(some 169), .pick (.t 166) (.t 168) (.c (.b false)), none, false⟩,
  ⟨(some 170), .mv (.t 169), none, true⟩,
  ⟨(some 171), .ld true 8 (.t 22), (some (170, true)), false⟩,
  ⟨(some 172), .call (.c (.fn 11 [])) [.t 171], (some (170, true)), false⟩,
  ⟨(some 173), .bin .eql (.t 172) (.c (.i .i64 300)), (some (170, true)), false⟩,
  ⟨(some 174), .pick (.t 170) (.t 173) (.c (.b false)), none, false⟩,
  ⟨(some 175), .mv (.t 174), none, true⟩,
  ⟨(some 176), .ld true 8 (.t 23), (some (175, true)), false⟩,
  ⟨(some 177), .call (.c (.fn 11 [])) [.t 176], (some (175, true)), false⟩,
  ⟨(some 178), .bin .eql (.t 177) (.c (.i .i64 300)), (some (175, true)), false⟩,
  ⟨(some 179), .pick (.t 175) (.t 178) (.c (.b false)), none, false⟩,
  ⟨(some 180), .mv (.t 179), none, true⟩,
  ⟨(some 181), .fa 0 (.t 24), (some (180, true)), false⟩,
  ⟨(some 182), .ld false 1 (.t 181), (some (180, true)), false⟩,
  ⟨(some 183), .bin .eql (.t 182) (.c (.i .i64 105000)), (some (180, true)), false⟩,
  ⟨(some 184), .pick (.t 180) (.t 183) (.c (.b false)), none, false⟩,
  ⟨(some 185), .mv (.t 184), none, true⟩,
  ⟨(some 186), .fa 0 (.t 25), (some (185, true)), false⟩,
  ⟨(some 187), .ld false 1 (.t 186), (some (185, true)), false⟩,
  ⟨(some 188), .bin .eql (.t 187) (.c (.i .i64 110250)), (some (185, true)), false⟩,
  ⟨(some 189), .pick (.t 185) (.t 188) (.c (.b false)), none, false⟩,
  ⟨(some 190), .mv (.t 189), none, true⟩,
  ⟨(some 191), .call (.c (.fn 27 [])) [], (some (190, true)), false⟩,
  ⟨(some 192), .call (.c (.fn 28 [])) [.t 191, .c (.i .i64 1), .c (.i .i64 6)], (some (190, true)), false⟩,
  ⟨(some 193), .build [.i .i64 0, .i .i64 0, .i .i64 0, .i .i64 0, .i .i64 0, .i .i64 0, .i .i64 0, .i .i64 0] [(0, 1, .c (.i .i64 100000)), (1, 1, .c (.i .i64 50000)), (2, 1, .c (.i .i64 200000)), (3, 1, .c (.i .i64 1)), (5, 1, .c (.i .i64 1))], (some (190, true)), false⟩,
  ⟨(some 194), .eqk false true [.i, .i, .i, .i, .i, .i, .i, .i] (.t 192) (.t 193), (some (190, true)), false⟩,
  ⟨(some 195), .pick (.t 190) (.t 194) (.c (.b false)), none, false⟩,
  ⟨(some 196), .mv (.t 195), none, true⟩,
  ⟨(some 197), .call (.c (.fn 27 [])) [], (some (196, true)), false⟩,
  ⟨(some 198), .call (.c (.fn 28 [])) [.t 197, .c (.i .i64 1), .c (.i .i64 255)], (some (196, true)), false⟩,
  ⟨(some 199), .fld false 1 0 (.t 198), (some (196, true)), false⟩,
  ⟨(some 200), .bin .eql (.t 199) (.c (.i .i64 50195)), (some (196, true)), false⟩,
  ⟨(some 201), .pick (.t 196) (.t 200) (.c (.b false)), none, false⟩,
  ⟨(some 202), .mv (.t 201), none, true⟩,
  ⟨(some 203), .call (.c (.fn 27 [])) [], (some (202, true)), false⟩,
  ⟨(some 204), .call (.c (.fn 28 [])) [.t 203, .c (.i .i64 1), .c (.i .i64 26)], (some (202, true)), false⟩,
  ⟨(some 205), .fld false 1 0 (.t 204), (some (202, true)), false⟩,
  ⟨(some 206), .bin .eql (.t 205) (.c (.i .i64 94921)), (some (202, true)), false⟩,
  ⟨(some 207), .pick (.t 202) (.t 206) (.c (.b false)), none, false⟩,
  ⟨(some 208), .mv (.t 207), none, true⟩,
  ⟨(some 209), .call (.c (.fn 27 [])) [], (some (208, true)), false⟩,
  ⟨(some 210), .call (.c (.fn 28 [])) [.t 209, .c (.i .i64 1), .c (.i .i64 25)], (some (208, true)), false⟩,
  ⟨(some 211), .fld false 1 0 (.t 210), (some (208, true)), false⟩,
  ⟨(some 212), .bin .eql (.t 211) (.c (.i .i64 100000)), (some (208, true)), false⟩,
  ⟨(some 213), .pick (.t 208) (.t 212) (.c (.b false)), none, false⟩,
  ⟨(some 0), .mv (.t 213), none, false⟩]
abbrev i9c : ICode := (.seq (.reg i9r0) (.seq (.reg i9r1) (.seq (.reg i9r2) (.seq (.reg i9r3) (.seq (.reg i9r4) (.seq (.reg i9r5) (.seq (.reg i9r6) (.seq (.reg i9r7) (.seq (.reg i9r8) (.seq (.reg i9r9) (.seq (.reg i9r10) (.seq (.reg i9r11) (.seq (.reg i9r12) (.seq (.reg i9r13) (.seq (.reg i9r14) (.seq (.reg i9r15) (.seq (.reg i9r16) (.seq (.reg i9r17) (.seq (.reg i9r18) (.seq (.reg i9r19) (.seq (.reg i9r20) (.seq (.reg i9r21) .ret))))))))))))))))))))))
def i9 : IFn := { np := 0, N := 214, ct := [], code := i9c, res := [.t 0] }
theorem i9_eq : compF Tryd.prog Tryd.f9 = some i9 := by kernel_rfl
abbrev i11r0 : List IOper := [
  ⟨(some 1), .box (.t 0), none, false⟩,
  ⟨(some 2), .mv (.c (.i .i64 0)), none, false⟩]
abbrev i11r1 : List IOper := [
  ⟨(some 4), .fa 1 (.t 1), none, false⟩,
  ⟨(some 5), .ld false 1 (.t 4), none, false⟩,
  ⟨(some 6), .fa 0 (.t 1), none, false⟩,
  ⟨(some 7), .ld false 1 (.t 6), none, false⟩,
  ⟨(some 8), .fa 2 (.t 1), none, false⟩,
  ⟨(some 9), .ld false 1 (.t 8), none, false⟩,
  ⟨(some 10), .bsl [.i .i64 0, .i .i64 0, .i .i64 0] 3 [(0, 1, .t 5), (1, 1, .t 7), (2, 1, .t 9)], none, false⟩,
  ⟨(some 11), .call (.c (.fn 30 [])) [.t 10], none, false⟩,
  ⟨(some 12), .mv (.t 11), none, true⟩,
  ⟨(some 13), .fa 3 (.t 1), (some (12, true)), false⟩,
  ⟨(some 14), .ld false 1 (.t 13), (some (12, true)), false⟩,
  ⟨(some 15), .bsl [.i .i64 0] 1 [(0, 1, .t 14)], (some (12, true)), false⟩,
  ⟨(some 16), .call (.c (.fn 31 [])) [.c (.i .i64 0), .c (.i .i64 1), .t 15], (some (12, true)), false⟩,
  ⟨(some 17), .pick (.t 12) (.t 16) (.c (.b false)), none, false⟩,
  ⟨(some 18), .mv (.t 17), none, true⟩,
  ⟨(some 19), .fa 5 (.t 1), (some (18, true)), false⟩,
  ⟨(some 20), .ld false 1 (.t 19), (some (18, true)), false⟩,
  ⟨(some 21), .bsl [.i .i64 0] 1 [(0, 1, .t 20)], (some (18, true)), false⟩,
  ⟨(some 22), .call (.c (.fn 31 [])) [.c (.i .i64 0), .c (.i .i64 1099511627776), .t 21], (some (18, true)), false⟩,
  ⟨(some 23), .pick (.t 18) (.t 22) (.c (.b false)), none, false⟩,
  ⟨(some 24), .mv (.t 23), none, true⟩,
  ⟨(some 25), .fa 5 (.t 1), (some (24, true)), false⟩,
  ⟨(some 26), .ld false 1 (.t 25), (some (24, true)), false⟩,
  ⟨(some 27), .fa 6 (.t 1), (some (24, true)), false⟩,
  ⟨(some 28), .ld false 1 (.t 27), (some (24, true)), false⟩,
  ⟨(some 29), .fa 7 (.t 1), (some (24, true)), false⟩,
  ⟨(some 30), .ld false 1 (.t 29), (some (24, true)), false⟩,
  ⟨(some 31), .bsl [.i .i64 0, .i .i64 0] 2 [(0, 1, .t 28), (1, 1, .t 30)], (some (24, true)), false⟩,
  ⟨(some 32), .call (.c (.fn 31 [])) [.c (.i .i64 0), .t 26, .t 31], (some (24, true)), false⟩,
  ⟨(some 33), .pick (.t 24) (.t 32) (.c (.b false)), none, false⟩,
  ⟨(some 3), .mv (.t 33), none, false⟩]
abbrev i11r2 : List IOper := [
  ⟨(some 34), .mv (.t 3), none, false⟩,
  ⟨(some 35), .not (.t 34), none, false⟩,
  ⟨(some 36), .mv (.t 35), none, true⟩,
  ⟨(some 37), .fa 4 (.t 1), (some (36, false)), false⟩,
  ⟨(some 38), .ld false 1 (.t 37), (some (36, false)), false⟩,
  ⟨(some 39), .bin .neq (.t 38) (.c (.i .i64 0)), (some (36, false)), false⟩,
  ⟨(some 40), .mv (.t 39), (some (36, false)), true⟩,
  ⟨(some 41), .fa 4 (.t 1), (some (40, true)), false⟩,
  ⟨(some 42), .ld false 1 (.t 41), (some (40, true)), false⟩,
  ⟨(some 43), .bsl [.i .i64 0] 1 [(0, 1, .t 42)], (some (40, true)), false⟩,
  ⟨(some 44), .call (.c (.fn 30 [])) [.t 43], (some (40, true)), false⟩,
  ⟨(some 45), .not (.t 44), (some (40, true)), false⟩,
  ⟨(some 46), .pick (.t 40) (.t 45) (.c (.b false)), (some (36, false)), false⟩,
  ⟨(some 47), .pick (.t 36) (.c (.b true)) (.t 46), none, true⟩]
abbrev i11r3 : List IOper := [
  ⟨(some 2), .mv (.c (.i .i64 300)), none, false⟩]
abbrev i11r4 : List IOper := [
  ⟨(some 2), .mv (.c (.i .i64 0)), none, false⟩]
abbrev i11c : ICode := (.seq (.reg i11r0) (.seq (.reg i11r1) (.seq (.seq (.reg i11r2) (.cond (.t 47) (.seq (.reg i11r3) .ret) .skip)) (.seq (.reg i11r4) .ret))))
def i11 : IFn := { np := 1, N := 48, ct := [47], code := i11c, res := [.t 2] }
theorem i11_eq : compF Tryd.prog Tryd.f11 = some i11 := by kernel_rfl
abbrev i13r0 : List IOper := [
  ⟨(some 4), .box (.t 0), none, false⟩,
  ⟨(some 8), .new [.i .i64 0, .i .i64 0, .i .i64 0, .i .i64 0, .i .i64 0, .i .i64 0, .i .i64 0, .i .i64 0], none, false⟩,
  ⟨(some 9), .mv (.c (.i .i64 0)), none, false⟩]
abbrev i13r1 : List IOper := [
  ⟨(some 13), .ld true 8 (.t 4), none, false⟩,
  ⟨(some 14), .mv (.t 1), none, false⟩,
  ⟨(some 15), .call (.c (.fn 33 [])) [.t 13, .t 14], none, false⟩,
  ⟨(some 12), .mv (.t 15), none, false⟩,
  ⟨(some 16), .ext (.t 12) 0, none, false⟩,
  ⟨(some 17), .ext (.t 12) 1, none, false⟩,
  ⟨(some 10), .mv (.t 16), none, false⟩,
  ⟨(some 11), .mv (.t 17), none, false⟩]
abbrev i13r2 : List IOper := [
  ⟨(some 18), .mv (.t 11), none, false⟩,
  ⟨(some 19), .bin .neq (.t 18) (.c (.i .i64 0)), none, true⟩]
abbrev i13r3 : List IOper := [
  ⟨(some 20), .build [.i .i64 0, .i .i64 0, .i .i64 0, .i .i64 0, .i .i64 0, .i .i64 0, .i .i64 0, .i .i64 0] [], none, false⟩,
  ⟨(some 21), .mv (.t 11), none, false⟩,
  ⟨none, .st 8 (.t 8) (.t 20), none, false⟩,
  ⟨(some 9), .mv (.t 21), none, false⟩]
abbrev i13r4 : List IOper := [
  ⟨(some 22), .mv (.t 2), none, false⟩,
  ⟨(some 23), .mv (.t 3), none, false⟩,
  ⟨(some 24), .bsl [.i .i64 0, .i .i64 0] 2 [(0, 1, .t 22), (1, 1, .t 23)], none, false⟩,
  ⟨(some 25), .call (.c (.fn 30 [])) [.t 24], none, false⟩,
  ⟨(some 26), .not (.t 25), none, true⟩]
abbrev i13r5 : List IOper := [
  ⟨(some 27), .build [.i .i64 0, .i .i64 0, .i .i64 0, .i .i64 0, .i .i64 0, .i .i64 0, .i .i64 0, .i .i64 0] [], none, false⟩,
  ⟨none, .st 8 (.t 8) (.t 27), none, false⟩,
  ⟨(some 9), .mv (.c (.i .i64 2)), none, false⟩]
abbrev i13r6 : List IOper := [
  ⟨(some 28), .mv (.t 10), none, false⟩,
  ⟨(some 29), .mv (.t 10), none, false⟩,
  ⟨(some 30), .mv (.t 2), none, false⟩,
  ⟨(some 31), .mv (.t 3), none, false⟩,
  ⟨(some 32), .nck (.t 28), none, false⟩,
  ⟨(some 33), .fa 0 (.t 32), none, false⟩,
  ⟨(some 34), .fa 1 (.t 33), none, false⟩,
  ⟨none, .st 1 (.t 34) (.t 30), none, false⟩,
  ⟨(some 35), .nck (.t 29), none, false⟩,
  ⟨(some 36), .fa 0 (.t 35), none, false⟩,
  ⟨(some 37), .fa 2 (.t 36), none, false⟩,
  ⟨none, .st 1 (.t 37) (.t 31), none, false⟩]
abbrev i13r7 : List IOper := [
  ⟨(some 38), .mv (.t 10), none, false⟩,
  ⟨(some 39), .mv (.t 10), none, false⟩,
  ⟨(some 40), .nck (.t 39), none, false⟩,
  ⟨(some 41), .fa 0 (.t 40), none, false⟩,
  ⟨(some 42), .fa 0 (.t 41), none, false⟩,
  ⟨(some 43), .ld false 1 (.t 42), none, false⟩,
  ⟨(some 44), .call (.c (.fn 34 [])) [.t 38, .t 43], none, false⟩]
abbrev i13r8 : List IOper := [
  ⟨(some 45), .mv (.t 10), none, false⟩,
  ⟨(some 46), .nck (.t 45), none, false⟩,
  ⟨(some 47), .fa 0 (.t 46), none, false⟩,
  ⟨(some 48), .ld true 8 (.t 47), none, false⟩,
  ⟨none, .st 8 (.t 8) (.t 48), none, false⟩,
  ⟨(some 9), .mv (.c (.i .i64 0)), none, false⟩]
abbrev i13c : ICode := (.seq (.reg i13r0) (.seq (.reg i13r1) (.seq (.seq (.reg i13r2) (.cond (.t 19) (.seq (.reg i13r3) .ret) .skip)) (.seq (.seq (.reg i13r4) (.cond (.t 26) (.seq (.reg i13r5) .ret) .skip)) (.seq (.reg i13r6) (.seq (.reg i13r7) (.seq (.reg i13r8) .ret)))))))
def i13 : IFn := { np := 4, N := 49, ct := [19, 26], code := i13c, res := [.c 8 true 8, .t 9] }
theorem i13_eq : compF Tryd.prog Tryd.f13 = some i13 := by kernel_rfl
abbrev i16r0 : List IOper := [
  ⟨(some 6), .new [.i .i64 0, .i .i64 0, .i .i64 0, .i .i64 0, .i .i64 0, .i .i64 0, .i .i64 0, .i .i64 0], none, false⟩,
  ⟨(some 7), .mv (.c (.i .i64 0)), none, false⟩]
abbrev i16r1 : List IOper := [
  ⟨(some 8), .mv (.t 1), none, false⟩,
  ⟨(some 9), .mv (.t 0), none, false⟩,
  ⟨(some 10), .mv (.t 2), none, false⟩,
  ⟨(some 11), .bsl [.i .i64 0, .i .i64 0, .i .i64 0] 3 [(0, 1, .t 8), (1, 1, .t 9), (2, 1, .t 10)], none, false⟩,
  ⟨(some 12), .call (.c (.fn 30 [])) [.t 11], none, false⟩,
  ⟨(some 13), .not (.t 12), none, true⟩]
abbrev i16r2 : List IOper := [
  ⟨(some 14), .build [.i .i64 0, .i .i64 0, .i .i64 0, .i .i64 0, .i .i64 0, .i .i64 0, .i .i64 0, .i .i64 0] [], none, false⟩,
  ⟨none, .st 8 (.t 6) (.t 14), none, false⟩,
  ⟨(some 7), .mv (.c (.i .i64 2)), none, false⟩]
abbrev i16r3 : List IOper := [
  ⟨(some 15), .mv (.t 0), none, false⟩,
  ⟨(some 16), .mv (.t 1), none, false⟩,
  ⟨(some 17), .mv (.t 2), none, false⟩,
  ⟨(some 18), .build [.i .i64 0, .i .i64 0, .i .i64 0, .i .i64 0, .i .i64 0, .i .i64 0, .i .i64 0, .i .i64 0] [(0, 1, .t 15), (1, 1, .t 16), (2, 1, .t 17), (3, 1, .c (.i .i64 1))], none, false⟩,
  ⟨none, .st 8 (.t 6) (.t 18), none, false⟩,
  ⟨(some 7), .mv (.c (.i .i64 0)), none, false⟩]
abbrev i16c : ICode := (.seq (.reg i16r0) (.seq (.seq (.reg i16r1) (.cond (.t 13) (.seq (.reg i16r2) .ret) .skip)) (.seq (.reg i16r3) .ret)))
def i16 : IFn := { np := 3, N := 19, ct := [13], code := i16c, res := [.c 6 true 8, .t 7] }
theorem i16_eq : compF Tryd.prog Tryd.f16 = some i16 := by kernel_rfl
abbrev i18r0 : List IOper := [
  ⟨(some 0), .mv (.c (.b false)), none, false⟩]
abbrev i18r1 : List IOper := [
  ⟨(some 16), .call (.c (.fn 27 [])) [], none, false⟩,
  ⟨(some 1), .new [.i .i64 0, .i .i64 0, .i .i64 0, .i .i64 0, .i .i64 0, .i .i64 0, .i .i64 0, .i .i64 0], none, false⟩,
  ⟨none, .st 8 (.t 1) (.t 16), none, false⟩]
abbrev i18r2 : List IOper := [
  ⟨(some 17), .ld true 8 (.t 1), none, false⟩,
  ⟨(some 18), .call (.c (.fn 25 [])) [.t 17, .c (.i .i64 10), .c (.i .i64 1), .c (.i .i64 80000)], none, false⟩,
  ⟨(some 2), .new [.i .i64 0, .i .i64 0, .i .i64 0, .i .i64 0, .i .i64 0, .i .i64 0, .i .i64 0, .i .i64 0], none, false⟩,
  ⟨none, .st 8 (.t 2) (.t 18), none, false⟩]
abbrev i18r3 : List IOper := [
  ⟨(some 19), .ld true 8 (.t 2), none, false⟩,
  ⟨(some 20), .call (.c (.fn 25 [])) [.t 19, .c (.i .i64 20), .c (.i .i64 0), .c (.i .i64 80000)], none, false⟩,
  ⟨(some 3), .new [.i .i64 0, .i .i64 0, .i .i64 0, .i .i64 0, .i .i64 0, .i .i64 0, .i .i64 0, .i .i64 0], none, false⟩,
  ⟨none, .st 8 (.t 3) (.t 20), none, false⟩]
abbrev i18r4 : List IOper := [
  ⟨(some 21), .ld true 8 (.t 3), none, false⟩,
  ⟨(some 22), .call (.c (.fn 25 [])) [.t 21, .c (.i .i64 120), .c (.i .i64 0), .c (.i .i64 80000)], none, false⟩,
  ⟨(some 4), .new [.i .i64 0, .i .i64 0, .i .i64 0, .i .i64 0, .i .i64 0, .i .i64 0, .i .i64 0, .i .i64 0], none, false⟩,
  ⟨none, .st 8 (.t 4) (.t 22), none, false⟩]
abbrev i18r5 : List IOper := [
  ⟨(some 23), .ld true 8 (.t 1), none, false⟩,
  ⟨(some 24), .call (.c (.fn 25 [])) [.t 23, .c (.i .i64 10), .c (.i .i64 1), .c (.i .i64 0)], none, false⟩,
  ⟨(some 5), .new [.i .i64 0, .i .i64 0, .i .i64 0, .i .i64 0, .i .i64 0, .i .i64 0, .i .i64 0, .i .i64 0], none, false⟩,
  ⟨none, .st 8 (.t 5) (.t 24), none, false⟩]
abbrev i18r6 : List IOper := [
  ⟨(some 25), .ld true 8 (.t 1), none, false⟩,
  ⟨(some 26), .call (.c (.fn 28 [])) [.t 25, .c (.i .i64 1000), .c (.i .i64 64)], none, false⟩,
  ⟨(some 6), .new [.i .i64 0, .i .i64 0, .i .i64 0, .i .i64 0, .i .i64 0, .i .i64 0, .i .i64 0, .i .i64 0], none, false⟩,
  ⟨none, .st 8 (.t 6) (.t 26), none, false⟩]
abbrev i18r7 : List IOper := [
  ⟨(some 27), .ld true 8 (.t 6), none, false⟩,
  ⟨(some 28), .call (.c (.fn 28 [])) [.t 27, .c (.i .i64 1200), .c (.i .i64 64)], none, false⟩,
  ⟨(some 7), .new [.i .i64 0, .i .i64 0, .i .i64 0, .i .i64 0, .i .i64 0, .i .i64 0, .i .i64 0, .i .i64 0], none, false⟩,
  ⟨none, .st 8 (.t 7) (.t 28), none, false⟩]
abbrev i18r8 : List IOper := [
  ⟨(some 29), .ld true 8 (.t 6), none, false⟩,
  ⟨(some 30), .call (.c (.fn 28 [])) [.t 29, .c (.i .i64 1300), .c (.i .i64 64)], none, false⟩,
  ⟨(some 8), .new [.i .i64 0, .i .i64 0, .i .i64 0, .i .i64 0, .i .i64 0, .i .i64 0, .i .i64 0, .i .i64 0], none, false⟩,
  ⟨none, .st 8 (.t 8) (.t 30), none, false⟩]
abbrev i18r9 : List IOper := [
  ⟨(some 32), .ld true 8 (.t 1), none, false⟩,
  ⟨(some 33), .call (.c (.fn 13 [])) [.t 32, .c (.i .i64 1), .c (.i .i64 120000), .c (.i .i64 130000)], none, false⟩,
  ⟨(some 31), .mv (.t 33), none, false⟩,
  ⟨(some 34), .ext (.t 31) 0, none, false⟩,
  ⟨(some 35), .ext (.t 31) 1, none, false⟩,
  ⟨(some 9), .new [.i .i64 0, .i .i64 0, .i .i64 0, .i .i64 0, .i .i64 0, .i .i64 0, .i .i64 0, .i .i64 0], none, false⟩,
  ⟨none, .st 8 (.t 9) (.t 34), none, false⟩,
  ⟨(some 10), .mv (.t 35), none, false⟩]
abbrev i18r10 : List IOper := [
  ⟨(some 37), .call (.c (.fn 16 [])) [.c (.i .i64 100), .c (.i .i64 100), .c (.i .i64 100)], none, false⟩,
  ⟨(some 36), .mv (.t 37), none, false⟩,
  ⟨(some 38), .ext (.t 36) 0, none, false⟩,
  ⟨(some 39), .ext (.t 36) 1, none, false⟩,
  ⟨(some 11), .new [.i .i64 0, .i .i64 0, .i .i64 0, .i .i64 0, .i .i64 0, .i .i64 0, .i .i64 0, .i .i64 0], none, false⟩,
  ⟨none, .st 8 (.t 11) (.t 38), none, false⟩,
  ⟨(some 12), .mv (.t 39), none, false⟩]
abbrev i18r11 : List IOper := [
  ⟨(some 41), .ld true 8 (.t 1), none, false⟩,
  ⟨(some 42), .call (.c (.fn 19 [])) [.t 41, .c (.i .i64 0), .c (.i .i64 3), .c (.i .i64 0)], none, false⟩,
  ⟨(some 40), .mv (.t 42), none, false⟩,
  ⟨(some 43), .ext (.t 40) 0, none, false⟩,
  ⟨(some 44), .ext (.t 40) 1, none, false⟩,
  ⟨(some 13), .new [.i .i64 0, .i .i64 0, .i .i64 0, .i .i64 0, .i .i64 0, .i .i64 0, .i .i64 0, .i .i64 0], none, false⟩,
  ⟨none, .st 8 (.t 13) (.t 43), none, false⟩,
  ⟨(some 14), .mv (.t 44), none, false⟩]
abbrev i18r12 : List IOper := [
  ⟨(some 45), .ld true 8 (.t 1), none, false⟩,
  ⟨(some 46), .call (.c (.fn 25 [])) [.t 45, .c (.i .i64 500), .c (.i .i64 0), .c (.i .i64 0)], none, false⟩,
  ⟨(some 47), .fld false 1 0 (.t 46), none, false⟩,
  ⟨(some 48), .bin .eql (.t 47) (.c (.i .i64 104000)), none, false⟩,
  ⟨(some 49), .mv (.t 48), none, true⟩,
  ⟨(some 50), .ld true 8 (.t 1), (some (49, true)), false⟩,
  ⟨(some 51), .call (.c (.fn 25 [])) [.t 50, .c (.i .i64 1000), .c (.i .i64 0), .c (.i .i64 0)], (some (49, true)), false⟩,
  ⟨(some 52), .fld false 1 0 (.t 51), (some (49, true)), false⟩,
  ⟨(some 53), .bin .eql (.t 52) (.c (.i .i64 108000)), (some (49, true)), false⟩,
  ⟨(some 54), .pick (.t 49) (.t 53) (.c (.b false)), none, false⟩,
  ⟨(some 55), .mv (.t 54), none, true⟩,
  ⟨(some 56), .ld true 8 (.t 1), (some (55, true)), false⟩,
  ⟨(some 57), .call (.c (.fn 25 [])) [.t 56, .c (.i .i64 5000), .c (.i .i64 0), .c (.i .i64 0)], (some (55, true)), false⟩,
  ⟨(some 58), .fld false 1 0 (.t 57), (some (55, true)), false⟩,
  ⟨(some 59), .bin .eql (.t 58) (.c (.i .i64 108000)), (some (55, true)), false⟩,
  ⟨(some 60), .pick (.t 55) (.t 59) (.c (.b false)), none, false⟩,
  ⟨(some 61), .mv (.t 60), none, true⟩,
  ⟨(some 62), .fa 0 (.t 2), (some (61, true)), false⟩,
  ⟨(some 63), .ld false 1 (.t 62), (some (61, true)), false⟩,
  ⟨(some 64), .bin .eql (.t 63) (.c (.i .i64 68000)), (some (61, true)), false⟩,
  ⟨(some 65), .pick (.t 61) (.t 64) (.c (.b false)), none, false⟩,
  ⟨(some 66), .mv (.t 65), none, true⟩,
  ⟨(some 67), .fa 4 (.t 2), (some (66, true)), false⟩,
  ⟨(some 68), .ld false 1 (.t 67), (some (66, true)), false⟩,
  ⟨(some 69), .bin .eql (.t 68) (.c (.i .i64 80000)), (some (66, true)), false⟩,
  ⟨(some 70), .pick (.t 66) (.t 69) (.c (.b false)), none, false⟩,
  ⟨(some 71), .mv (.t 70), none, true⟩,
  ⟨(some 72), .fa 3 (.t 2), (some (71, true)), false⟩,
  ⟨(some 73), .ld false 1 (.t 72), (some (71, true)), false⟩,
  ⟨(some 74), .bin .eql (.t 73) (.c (.i .i64 0)), (some (71, true)), false⟩,
  ⟨(some 75), .pick (.t 71) (.t 74) (.c (.b false)), none, false⟩,
  ⟨(some 76), .mv (.t 75), none, true⟩,
  ⟨(some 77), .fa 0 (.t 3), (some (76, true)), false⟩,
  ⟨(some 78), .ld false 1 (.t 77), (some (76, true)), false⟩,
  ⟨(some 79), .bin .eql (.t 78) (.c (.i .i64 68000)), (some (76, true)), false⟩,
  ⟨(some 80), .pick (.t 76) (.t 79) (.c (.b false)), none, false⟩,
  ⟨(some 81), .mv (.t 80), none, true⟩,
  ⟨(some 82), .fa 3 (.t 3), (some (81, true)), false⟩,
  ⟨(some 83), .ld false 1 (.t 82), (some (81, true)), false⟩,
  ⟨(some 84), .bin .eql (.t 83) (.c (.i .i64 1)), (some (81, true)), false⟩,
  ⟨(some 85), .pick (.t 81) (.t 84) (.c (.b false)), none, false⟩,
  ⟨(some 86), .mv (.t 85), none, true⟩,
  ⟨(some 87), .fa 0 (.t 4), (some (86, true)), false⟩,
  ⟨(some 88), .ld false 1 (.t 87), (some (86, true)), false⟩,
  ⟨(some 89), .bin .eql (.t 88) (.c (.i .i64 68544)), (some (86, true)), false⟩,
  ⟨(some 90), .pick (.t 86) (.t 89) (.c (.b false)), none, false⟩,
  ⟨(some 15), .mv (.t 90), none, false⟩]
abbrev i18r13 : List IOper := [
  ⟨(some 91), .mv (.t 15), none, false⟩,
  ⟨(some 92), .mv (.t 91), none, true⟩,
  ⟨(some 93), .fa 0 (.t 5), (some (92, true)), false⟩,
  ⟨(some 94), .ld false 1 (.t 93), (some (92, true)), false⟩,
  ⟨(some 95), .bin .eql (.t 94) (.c (.i .i64 85000)), (some (92, true)), false⟩,
  ⟨(some 96), .pick (.t 92) (.t 95) (.c (.b false)), none, false⟩,
  ⟨(some 97), .mv (.t 96), none, true⟩,
  ⟨(some 98), .fa 4 (.t 5), (some (97, true)), false⟩,
  ⟨(some 99), .ld false 1 (.t 98), (some (97, true)), false⟩,
  ⟨(some 100), .bin .eql (.t 99) (.c (.i .i64 0)), (some (97, true)), false⟩,
  ⟨(some 101), .pick (.t 97) (.t 100) (.c (.b false)), none, false⟩,
  ⟨(some 102), .mv (.t 101), none, true⟩,
  ⟨(some 103), .fa 0 (.t 6), (some (102, true)), false⟩,
  ⟨(some 104), .ld false 1 (.t 103), (some (102, true)), false⟩,
  ⟨(some 105), .bin .eql (.t 104) (.c (.i .i64 87500)), (some (102, true)), false⟩,
  ⟨(some 106), .pick (.t 102) (.t 105) (.c (.b false)), none, false⟩,
  ⟨(some 107), .mv (.t 106), none, true⟩,
  ⟨(some 108), .fa 0 (.t 7), (some (107, true)), false⟩,
  ⟨(some 109), .ld false 1 (.t 108), (some (107, true)), false⟩,
  ⟨(some 110), .bin .eql (.t 109) (.c (.i .i64 87500)), (some (107, true)), false⟩,
  ⟨(some 111), .pick (.t 107) (.t 110) (.c (.b false)), none, false⟩,
  ⟨(some 112), .mv (.t 111), none, true⟩,
  ⟨(some 113), .fa 0 (.t 8), (some (112, true)), false⟩,
  ⟨(some 114), .ld false 1 (.t 113), (some (112, true)), false⟩,
  ⟨(some 115), .bin .eql (.t 114) (.c (.i .i64 76562)), (some (112, true)), false⟩,
  ⟨(some 116), .pick (.t 112) (.t 115) (.c (.b false)), none, false⟩,
  ⟨(some 117), .mv (.t 116), none, true⟩,
  ⟨(some 118), .ld true 8 (.t 1), (some (117, true)), false⟩,
  ⟨(some 119), .call (.c (.fn 37 [])) [.t 118, .c (.i .i64 1), .c (.i .i64 300000), .c (.i .i64 150000)], (some (117, true)), false⟩,
  ⟨(some 120), .fld false 1 0 (.t 119), (some (117, true)), false⟩,
  ⟨(some 121), .bin .eql (.t 120) (.c (.i .i64 142500)), (some (117, true)), false⟩,
  ⟨(some 122), .pick (.t 117) (.t 121) (.c (.b false)), none, false⟩,
  ⟨(some 123), .mv (.t 122), none, true⟩,
  ⟨(some 124), .ld true 8 (.t 1), (some (123, true)), false⟩,
  ⟨(some 125), .call (.c (.fn 37 [])) [.t 124, .c (.i .i64 1), .c (.i .i64 160000), .c (.i .i64 150000)], (some (123, true)), false⟩,
  ⟨(some 126), .fld false 1 0 (.t 125), (some (123, true)), false⟩,
  ⟨(some 127), .bin .eql (.t 126) (.c (.i .i64 150000)), (some (123, true)), false⟩,
  ⟨(some 128), .pick (.t 123) (.t 127) (.c (.b false)), none, false⟩,
  ⟨(some 129), .mv (.t 128), none, true⟩,
  ⟨(some 130), .fa 0 (.t 9), (some (129, true)), false⟩,
  ⟨(some 131), .ld false 1 (.t 130), (some (129, true)), false⟩,
  ⟨(some 132), .bin .eql (.t 131) (.c (.i .i64 120000)), (some (129, true)), false⟩,
  ⟨(some 133), .pick (.t 129) (.t 132) (.c (.b false)), none, false⟩,
  ⟨(some 134), .mv (.t 133), none, true⟩,
  ⟨(some 135), .mv (.t 10), (some (134, true)), false⟩,
  ⟨(some 136), .bin .eql (.t 135) (.c (.i .i64 0)), (some (134, true)), false⟩,
  ⟨(some 137), .pick (.t 134) (.t 136) (.c (.b false)), none, false⟩,
  ⟨(some 138), .mv (.t 137), none, true⟩,
  ⟨(some 139), .mv (.t 12), (some (138, true)), false⟩,
  ⟨(some 140), .bin .eql (.t 139) (.c (.i .i64 2)), (some (138, true)), false⟩,
  ⟨(some 141), .pick (.t 138) (.t 140) (.c (.b false)), none, false⟩,
  ⟨(some 142), .mv (.t 141), none, true⟩,
  ⟨(some 143), .mv (.t 14), (some (142, true)), false⟩,
  ⟨(some 144), .bin .eql (.t 143) (.c (.i .i64 2)), (some (142, true)), false⟩,
  ⟨(some 145), .pick (.t 142) (.t 144) (.c (.b false)), none, false⟩,
  ⟨(some 0), .mv (.t 145), none, false⟩]
abbrev i18c : ICode := (.seq (.reg i18r0) (.seq (.reg i18r1) (.seq (.reg i18r2) (.seq (.reg i18r3) (.seq (.reg i18r4) (.seq (.reg i18r5) (.seq (.reg i18r6) (.seq (.reg i18r7) (.seq (.reg i18r8) (.seq (.reg i18r9) (.seq (.reg i18r10) (.seq (.reg i18r11) (.seq (.reg i18r12) (.seq (.reg i18r13) .ret))))))))))))))
def i18 : IFn := { np := 0, N := 146, ct := [], code := i18c, res := [.t 0] }
theorem i18_eq : compF Tryd.prog Tryd.f18 = some i18 := by kernel_rfl
abbrev i19r0 : List IOper := [
  ⟨(some 4), .box (.t 0), none, false⟩,
  ⟨(some 8), .new [.i .i64 0, .i .i64 0, .i .i64 0, .i .i64 0, .i .i64 0, .i .i64 0, .i .i64 0, .i .i64 0], none, false⟩,
  ⟨(some 9), .mv (.c (.i .i64 0)), none, false⟩]
abbrev i19r1 : List IOper := [
  ⟨(some 13), .ld true 8 (.t 4), none, false⟩,
  ⟨(some 14), .mv (.t 1), none, false⟩,
  ⟨(some 15), .call (.c (.fn 33 [])) [.t 13, .t 14], none, false⟩,
  ⟨(some 12), .mv (.t 15), none, false⟩,
  ⟨(some 16), .ext (.t 12) 0, none, false⟩,
  ⟨(some 17), .ext (.t 12) 1, none, false⟩,
  ⟨(some 10), .mv (.t 16), none, false⟩,
  ⟨(some 11), .mv (.t 17), none, false⟩]
abbrev i19r2 : List IOper := [
  ⟨(some 18), .mv (.t 11), none, false⟩,
  ⟨(some 19), .bin .neq (.t 18) (.c (.i .i64 0)), none, true⟩]
abbrev i19r3 : List IOper := [
  ⟨(some 20), .build [.i .i64 0, .i .i64 0, .i .i64 0, .i .i64 0, .i .i64 0, .i .i64 0, .i .i64 0, .i .i64 0] [], none, false⟩,
  ⟨(some 21), .mv (.t 11), none, false⟩,
  ⟨none, .st 8 (.t 8) (.t 20), none, false⟩,
  ⟨(some 9), .mv (.t 21), none, false⟩]
abbrev i19r4 : List IOper := [
  ⟨(some 22), .mv (.t 2), none, false⟩,
  ⟨(some 23), .bsl [.i .i64 0] 1 [(0, 1, .t 22)], none, false⟩,
  ⟨(some 24), .call (.c (.fn 31 [])) [.c (.i .i64 0), .c (.i .i64 2), .t 23], none, false⟩,
  ⟨(some 25), .not (.t 24), none, false⟩,
  ⟨(some 26), .mv (.t 25), none, true⟩,
  ⟨(some 27), .mv (.t 3), (some (26, false)), false⟩,
  ⟨(some 28), .bsl [.i .i64 0] 1 [(0, 1, .t 27)], (some (26, false)), false⟩,
  ⟨(some 29), .call (.c (.fn 31 [])) [.c (.i .i64 0), .c (.i .i64 100000000), .t 28], (some (26, false)), false⟩,
  ⟨(some 30), .not (.t 29), (some (26, false)), false⟩,
  ⟨(some 31), .pick (.t 26) (.c (.b true)) (.t 30), none, true⟩]
abbrev i19r5 : List IOper := [
  ⟨(some 32), .build [.i .i64 0, .i .i64 0, .i .i64 0, .i .i64 0, .i .i64 0, .i .i64 0, .i .i64 0, .i .i64 0] [], none, false⟩,
  ⟨none, .st 8 (.t 8) (.t 32), none, false⟩,
  ⟨(some 9), .mv (.c (.i .i64 2)), none, false⟩]
abbrev i19r6 : List IOper := [
  ⟨(some 33), .mv (.t 10), none, false⟩,
  ⟨(some 34), .nck (.t 33), none, false⟩,
  ⟨(some 35), .fa 0 (.t 34), none, false⟩,
  ⟨(some 36), .fa 4 (.t 35), none, false⟩,
  ⟨(some 37), .ld false 1 (.t 36), none, false⟩,
  ⟨(some 38), .bin .neq (.t 37) (.c (.i .i64 0)), none, false⟩,
  ⟨(some 39), .mv (.t 38), none, true⟩,
  ⟨(some 40), .mv (.t 3), (some (39, true)), false⟩,
  ⟨(some 41), .mv (.t 10), (some (39, true)), false⟩,
  ⟨(some 42), .nck (.t 41), (some (39, true)), false⟩,
  ⟨(some 43), .fa 0 (.t 42), (some (39, true)), false⟩,
  ⟨(some 44), .fa 4 (.t 43), (some (39, true)), false⟩,
  ⟨(some 45), .ld false 1 (.t 44), (some (39, true)), false⟩,
  ⟨(some 46), .bin .mul (.c (.i .i64 11)) (.t 45), (some (39, true)), false⟩,
  ⟨(some 47), .bin .quo (.t 46) (.c (.i .i64 10)), (some (39, true)), false⟩,
  ⟨(some 48), .bin .gtr (.t 40) (.t 47), (some (39, true)), false⟩,
  ⟨(some 49), .pick (.t 39) (.t 48) (.c (.b false)), none, true⟩]
abbrev i19r7 : List IOper := [
  ⟨(some 50), .mv (.t 10), none, false⟩,
  ⟨(some 51), .nck (.t 50), none, false⟩,
  ⟨(some 52), .fa 0 (.t 51), none, false⟩,
  ⟨(some 53), .fa 4 (.t 52), none, false⟩,
  ⟨none, .st 1 (.t 53) (.c (.i .i64 0)), none, false⟩]
abbrev i19r8 : List IOper := [
  ⟨(some 54), .mv (.t 10), none, false⟩,
  ⟨(some 55), .mv (.t 3), none, false⟩,
  ⟨(some 56), .nck (.t 54), none, false⟩,
  ⟨(some 57), .fa 9 (.t 56), none, false⟩,
  ⟨none, .st 1 (.t 57) (.t 55), none, false⟩]
abbrev i19r9 : List IOper := [
  ⟨(some 58), .mv (.t 2), none, false⟩,
  ⟨(some 59), .ixaA 3 1 (.g 0) (.t 58), none, false⟩,
  ⟨(some 60), .ld false 1 (.t 59), none, false⟩,
  ⟨(some 61), .mv (.t 10), none, false⟩,
  ⟨(some 62), .call (.t 60) [.t 61], none, false⟩]
abbrev i19r10 : List IOper := [
  ⟨(some 63), .mv (.t 10), none, false⟩,
  ⟨(some 64), .nck (.t 63), none, false⟩,
  ⟨(some 65), .fa 0 (.t 64), none, false⟩,
  ⟨(some 66), .ld true 8 (.t 65), none, false⟩,
  ⟨none, .st 8 (.t 8) (.t 66), none, false⟩,
  ⟨(some 9), .mv (.c (.i .i64 0)), none, false⟩]
abbrev i19c : ICode := (.seq (.reg i19r0) (.seq (.reg i19r1) (.seq (.seq (.reg i19r2) (.cond (.t 19) (.seq (.reg i19r3) .ret) .skip)) (.seq (.seq (.reg i19r4) (.cond (.t 31) (.seq (.reg i19r5) .ret) .skip)) (.seq (.seq (.reg i19r6) (.cond (.t 49) (.reg i19r7) .skip)) (.seq (.reg i19r8) (.seq (.reg i19r9) (.seq (.reg i19r10) .ret))))))))
def i19 : IFn := { np := 4, N := 67, ct := [19, 31, 49], code := i19c, res := [.c 8 true 8, .t 9] }
theorem i19_eq : compF Tryd.prog Tryd.f19 = some i19 := by kernel_rfl
abbrev i21r0 : List IOper := [
  ⟨(some 3), .box (.t 0), none, false⟩,
  ⟨(some 6), .new [.i .i64 0, .i .i64 0, .i .i64 0, .i .i64 0, .i .i64 0, .i .i64 0, .i .i64 0, .i .i64 0], none, false⟩,
  ⟨(some 7), .mv (.c (.i .i64 0)), none, false⟩]
abbrev i21r1 : List IOper := [
  ⟨(some 11), .ld true 8 (.t 3), none, false⟩,
  ⟨(some 12), .mv (.t 1), none, false⟩,
  ⟨(some 13), .call (.c (.fn 33 [])) [.t 11, .t 12], none, false⟩,
  ⟨(some 10), .mv (.t 13), none, false⟩,
  ⟨(some 14), .ext (.t 10) 0, none, false⟩,
  ⟨(some 15), .ext (.t 10) 1, none, false⟩,
  ⟨(some 8), .mv (.t 14), none, false⟩,
  ⟨(some 9), .mv (.t 15), none, false⟩]
abbrev i21r2 : List IOper := [
  ⟨(some 16), .mv (.t 9), none, false⟩,
  ⟨(some 17), .bin .neq (.t 16) (.c (.i .i64 0)), none, true⟩]
abbrev i21r3 : List IOper := [
  ⟨(some 18), .build [.i .i64 0, .i .i64 0, .i .i64 0, .i .i64 0, .i .i64 0, .i .i64 0, .i .i64 0, .i .i64 0] [], none, false⟩,
  ⟨(some 19), .mv (.t 9), none, false⟩,
  ⟨none, .st 8 (.t 6) (.t 18), none, false⟩,
  ⟨(some 7), .mv (.t 19), none, false⟩]
abbrev i21r4 : List IOper := [
  ⟨(some 20), .mv (.t 2), none, false⟩,
  ⟨(some 21), .bsl [.i .i64 0] 1 [(0, 1, .t 20)], none, false⟩,
  ⟨(some 22), .call (.c (.fn 31 [])) [.c (.i .i64 0), .c (.i .i64 255), .t 21], none, false⟩,
  ⟨(some 23), .not (.t 22), none, true⟩]
abbrev i21r5 : List IOper := [
  ⟨(some 24), .build [.i .i64 0, .i .i64 0, .i .i64 0, .i .i64 0, .i .i64 0, .i .i64 0, .i .i64 0, .i .i64 0] [], none, false⟩,
  ⟨none, .st 8 (.t 6) (.t 24), none, false⟩,
  ⟨(some 7), .mv (.c (.i .i64 2)), none, false⟩]
abbrev i21r6 : List IOper := [
  ⟨(some 26), .mv (.t 2), none, false⟩,
  ⟨(some 27), .bin .geq (.t 26) (.c (.i .i64 26)), none, false⟩,
  ⟨(some 28), .mv (.t 27), none, true⟩,
  ⟨(some 29), .mv (.t 8), (some (28, true)), false⟩,
  ⟨(some 30), .nck (.t 29), (some (28, true)), false⟩,
  ⟨(some 31), .fa 0 (.t 30), (some (28, true)), false⟩,
  ⟨(some 32), .fa 6 (.t 31), (some (28, true)), false⟩,
  ⟨(some 33), .ld false 1 (.t 32), (some (28, true)), false⟩,
  ⟨(some 34), .bin .eql (.t 33) (.c (.i .i64 0)), (some (28, true)), false⟩,
  ⟨(some 35), .mv (.t 34), (some (28, true)), true⟩,
  ⟨(some 36), .mv (.t 1), (some (35, false)), false⟩,
  ⟨(some 37), .mv (.t 8), (some (35, false)), false⟩,
  ⟨(some 38), .nck (.t 37), (some (35, false)), false⟩,
  ⟨(some 39), .fa 0 (.t 38), (some (35, false)), false⟩,
  ⟨(some 40), .fa 6 (.t 39), (some (35, false)), false⟩,
  ⟨(some 41), .ld false 1 (.t 40), (some (35, false)), false⟩,
  ⟨(some 42), .bin .sub (.t 36) (.t 41), (some (35, false)), false⟩,
  ⟨(some 43), .bin .geq (.t 42) (.c (.i .i64 300)), (some (35, false)), false⟩,
  ⟨(some 44), .pick (.t 35) (.c (.b true)) (.t 43), (some (28, true)), false⟩,
  ⟨(some 45), .pick (.t 28) (.t 44) (.c (.b false)), none, false⟩,
  ⟨(some 25), .mv (.t 45), none, true⟩]
abbrev i21r7 : List IOper := [
  ⟨(some 46), .mv (.t 8), none, false⟩,
  ⟨(some 47), .mv (.t 8), none, false⟩,
  ⟨(some 48), .nck (.t 47), none, false⟩,
  ⟨(some 49), .fa 0 (.t 48), none, false⟩,
  ⟨(some 50), .fa 0 (.t 49), none, false⟩,
  ⟨(some 51), .ld false 1 (.t 50), none, false⟩,
  ⟨(some 52), .mv (.t 2), none, false⟩,
  ⟨(some 53), .bin .sub (.c (.i .i64 512)) (.t 52), none, false⟩,
  ⟨(some 54), .bin .mul (.t 51) (.t 53), none, false⟩,
  ⟨(some 55), .bin .quo (.t 54) (.c (.i .i64 512)), none, false⟩,
  ⟨(some 56), .call (.c (.fn 34 [])) [.t 46, .t 55], none, false⟩]
abbrev i21r8 : List IOper := [
  ⟨(some 57), .mv (.t 8), none, false⟩,
  ⟨(some 58), .mv (.t 8), none, false⟩,
  ⟨(some 59), .mv (.t 1), none, false⟩,
  ⟨(some 60), .nck (.t 57), none, false⟩,
  ⟨(some 61), .fa 0 (.t 60), none, false⟩,
  ⟨(some 62), .fa 6 (.t 61), none, false⟩,
  ⟨none, .st 1 (.t 62) (.t 59), none, false⟩,
  ⟨(some 63), .nck (.t 58), none, false⟩,
  ⟨(some 64), .fa 0 (.t 63), none, false⟩,
  ⟨(some 65), .fa 3 (.t 64), none, false⟩,
  ⟨none, .st 1 (.t 65) (.c (.i .i64 0)), none, false⟩]
abbrev i21r9 : List IOper := [
  ⟨(some 67), .mv (.t 2), none, false⟩,
  ⟨(some 68), .bin .leq (.t 67) (.c (.i .i64 5)), none, false⟩,
  ⟨(some 69), .mv (.t 68), none, true⟩,
  ⟨(some 70), .mv (.t 8), (some (69, true)), false⟩,
  ⟨(some 71), .nck (.t 70), (some (69, true)), false⟩,
  ⟨(some 72), .fa 0 (.t 71), (some (69, true)), false⟩,
  ⟨(some 73), .fa 7 (.t 72), (some (69, true)), false⟩,
  ⟨(some 74), .ld false 1 (.t 73), (some (69, true)), false⟩,
  ⟨(some 75), .bin .eql (.t 74) (.c (.i .i64 0)), (some (69, true)), false⟩,
  ⟨(some 76), .mv (.t 75), (some (69, true)), true⟩,
  ⟨(some 77), .mv (.t 1), (some (76, false)), false⟩,
  ⟨(some 78), .mv (.t 8), (some (76, false)), false⟩,
  ⟨(some 79), .nck (.t 78), (some (76, false)), false⟩,
  ⟨(some 80), .fa 0 (.t 79), (some (76, false)), false⟩,
  ⟨(some 81), .fa 7 (.t 80), (some (76, false)), false⟩,
  ⟨(some 82), .ld false 1 (.t 81), (some (76, false)), false⟩,
  ⟨(some 83), .bin .sub (.t 77) (.t 82), (some (76, false)), false⟩,
  ⟨(some 84), .bin .geq (.t 83) (.c (.i .i64 1000)), (some (76, false)), false⟩,
  ⟨(some 85), .pick (.t 76) (.c (.b true)) (.t 84), (some (69, true)), false⟩,
  ⟨(some 86), .pick (.t 69) (.t 85) (.c (.b false)), none, false⟩,
  ⟨(some 66), .mv (.t 86), none, true⟩]
abbrev i21r10 : List (IOper × List Nat) := [
  (⟨(some 87), .mv (.t 8), none, false⟩, []),
  (⟨(some 88), .mv (.t 8), none, false⟩, [0]),
  (⟨(some 89), .nck (.t 88), none, false⟩, [0]),
  (⟨(some 90), .fa 0 (.t 89), none, false⟩, [0]),
  (⟨(some 91), .fa 0 (.t 90), none, false⟩, [0]),
  (⟨(some 92), .ld false 1 (.t 91), none, false⟩, [0]),
  (⟨(some 93), .mv (.t 8), none, false⟩, [0, 1, 2, 3, 4, 5]),
  (⟨(some 94), .nck (.t 93), none, false⟩, [0, 1, 2, 3, 4, 5]),
  (⟨(some 95), .fa 0 (.t 94), none, false⟩, [0, 1, 2, 3, 4, 5]),
  (⟨(some 96), .fa 0 (.t 95), none, false⟩, [0, 1, 2, 3, 4, 5]),
  (⟨(some 97), .ld false 1 (.t 96), none, false⟩, [0, 1, 2, 3, 4, 5]),
  (⟨(some 98), .bin .quo (.t 97) (.c (.i .i64 20)), none, false⟩, [0, 1, 2, 3, 4, 5]),
  (⟨(some 99), .bin .add (.t 92) (.t 98), none, false⟩, [0]),
  (⟨(some 100), .call (.c (.fn 34 [])) [.t 87, .t 99], none, false⟩, [])]
abbrev i21r11 : List IOper := [
  ⟨(some 101), .mv (.t 8), none, false⟩,
  ⟨(some 102), .mv (.t 1), none, false⟩,
  ⟨(some 103), .nck (.t 101), none, false⟩,
  ⟨(some 104), .fa 0 (.t 103), none, false⟩,
  ⟨(some 105), .fa 7 (.t 104), none, false⟩,
  ⟨none, .st 1 (.t 105) (.t 102), none, false⟩]
abbrev i21r12 : List IOper := [
  ⟨(some 106), .mv (.t 8), none, false⟩,
  ⟨(some 107), .nck (.t 106), none, false⟩,
  ⟨(some 108), .fa 0 (.t 107), none, false⟩,
  ⟨(some 109), .ld true 8 (.t 108), none, false⟩,
  ⟨none, .st 8 (.t 6) (.t 109), none, false⟩,
  ⟨(some 7), .mv (.c (.i .i64 0)), none, false⟩]
abbrev i21c : ICode := (.seq (.reg i21r0) (.seq (.reg i21r1) (.seq (.seq (.reg i21r2) (.cond (.t 17) (.seq (.reg i21r3) .ret) .skip)) (.seq (.seq (.reg i21r4) (.cond (.t 23) (.seq (.reg i21r5) .ret) .skip)) (.seq (.block 0 (.seq (.reg i21r6) (.cond (.t 25) (.seq (.reg i21r7) (.reg i21r8)) (.seq (.reg i21r9) (.cond (.t 66) (.seq (.dreg i21r10) (.reg i21r11)) .skip))))) (.seq (.reg i21r12) .ret))))))
def i21 : IFn := { np := 3, N := 110, ct := [17, 23, 25, 66], code := i21c, res := [.c 6 true 8, .t 7] }
theorem i21_eq : compF Tryd.prog Tryd.f21 = some i21 := by kernel_rfl
abbrev i23r0 : List IOper := [
  ⟨(some 4), .box (.t 0), none, false⟩,
  ⟨(some 8), .new [.i .i64 0, .i .i64 0, .i .i64 0, .i .i64 0, .i .i64 0, .i .i64 0, .i .i64 0, .i .i64 0], none, false⟩,
  ⟨(some 9), .mv (.c (.i .i64 0)), none, false⟩]
abbrev i23r1 : List IOper := [
  ⟨(some 14), .ld true 8 (.t 4), none, false⟩,
  ⟨(some 15), .mv (.t 1), none, false⟩,
  ⟨(some 16), .call (.c (.fn 33 [])) [.t 14, .t 15], none, false⟩,
  ⟨(some 13), .mv (.t 16), none, false⟩,
  ⟨(some 17), .ext (.t 13) 0, none, false⟩,
  ⟨(some 18), .ext (.t 13) 1, none, false⟩,
  ⟨(some 10), .mv (.t 17), none, false⟩,
  ⟨(some 11), .mv (.t 18), none, false⟩]
abbrev i23r2 : List IOper := [
  ⟨(some 19), .mv (.t 11), none, false⟩,
  ⟨(some 20), .bin .neq (.t 19) (.c (.i .i64 0)), none, true⟩]
abbrev i23r3 : List IOper := [
  ⟨(some 21), .build [.i .i64 0, .i .i64 0, .i .i64 0, .i .i64 0, .i .i64 0, .i .i64 0, .i .i64 0, .i .i64 0] [], none, false⟩,
  ⟨(some 22), .mv (.t 11), none, false⟩,
  ⟨none, .st 8 (.t 8) (.t 21), none, false⟩,
  ⟨(some 9), .mv (.t 22), none, false⟩]
abbrev i23r4 : List IOper := [
  ⟨(some 23), .mv (.t 2), none, false⟩,
  ⟨(some 24), .bsl [.i .i64 0] 1 [(0, 1, .t 23)], none, false⟩,
  ⟨(some 25), .call (.c (.fn 30 [])) [.t 24], none, false⟩,
  ⟨(some 26), .not (.t 25), none, false⟩,
  ⟨(some 27), .mv (.t 26), none, true⟩,
  ⟨(some 28), .mv (.t 3), (some (27, false)), false⟩,
  ⟨(some 29), .bsl [.i .i64 0] 1 [(0, 1, .t 28)], (some (27, false)), false⟩,
  ⟨(some 30), .call (.c (.fn 30 [])) [.t 29], (some (27, false)), false⟩,
  ⟨(some 31), .not (.t 30), (some (27, false)), false⟩,
  ⟨(some 32), .pick (.t 27) (.c (.b true)) (.t 31), none, true⟩]
abbrev i23r5 : List IOper := [
  ⟨(some 33), .build [.i .i64 0, .i .i64 0, .i .i64 0, .i .i64 0, .i .i64 0, .i .i64 0, .i .i64 0, .i .i64 0] [], none, false⟩,
  ⟨none, .st 8 (.t 8) (.t 33), none, false⟩,
  ⟨(some 9), .mv (.c (.i .i64 2)), none, false⟩]
abbrev i23r6 : List IOper := [
  ⟨(some 34), .mv (.t 2), none, false⟩,
  ⟨(some 35), .mv (.t 3), none, false⟩,
  ⟨(some 36), .mn (.t 34) [.t 35], none, false⟩,
  ⟨(some 12), .mv (.t 36), none, false⟩]
abbrev i23r7 : List IOper := [
  ⟨(some 37), .mv (.t 3), none, false⟩,
  ⟨(some 38), .bin .mul (.c (.i .i64 10)) (.t 37), none, false⟩,
  ⟨(some 39), .mv (.t 2), none, false⟩,
  ⟨(some 40), .bin .mul (.c (.i .i64 9)) (.t 39), none, false⟩,
  ⟨(some 41), .bin .lss (.t 38) (.t 40), none, true⟩]
abbrev i23r8 : List IOper := [
  ⟨(some 42), .mv (.t 3), none, false⟩,
  ⟨(some 43), .bin .mul (.c (.i .i64 95)) (.t 42), none, false⟩,
  ⟨(some 44), .bin .quo (.t 43) (.c (.i .i64 100)), none, false⟩,
  ⟨(some 12), .mv (.t 44), none, false⟩]
abbrev i23r9 : List IOper := [
  ⟨(some 45), .mv (.t 12), none, false⟩,
  ⟨(some 46), .mv (.t 10), none, false⟩,
  ⟨(some 47), .nck (.t 46), none, false⟩,
  ⟨(some 48), .fa 0 (.t 47), none, false⟩,
  ⟨(some 49), .fa 0 (.t 48), none, false⟩,
  ⟨(some 50), .ld false 1 (.t 49), none, false⟩,
  ⟨(some 51), .bin .leq (.t 45) (.t 50), none, true⟩]
abbrev i23r10 : List IOper := [
  ⟨(some 52), .mv (.t 10), none, false⟩,
  ⟨(some 53), .nck (.t 52), none, false⟩,
  ⟨(some 54), .fa 0 (.t 53), none, false⟩,
  ⟨(some 55), .ld true 8 (.t 54), none, false⟩,
  ⟨none, .st 8 (.t 8) (.t 55), none, false⟩,
  ⟨(some 9), .mv (.c (.i .i64 0)), none, false⟩]
abbrev i23r11 : List IOper := [
  ⟨(some 56), .mv (.t 10), none, false⟩,
  ⟨(some 57), .mv (.t 12), none, false⟩,
  ⟨(some 58), .call (.c (.fn 34 [])) [.t 56, .t 57], none, false⟩]
abbrev i23r12 : List IOper := [
  ⟨(some 59), .mv (.t 10), none, false⟩,
  ⟨(some 60), .nck (.t 59), none, false⟩,
  ⟨(some 61), .fa 0 (.t 60), none, false⟩,
  ⟨(some 62), .fa 3 (.t 61), none, false⟩,
  ⟨none, .st 1 (.t 62) (.c (.i .i64 1)), none, false⟩]
abbrev i23r13 : List IOper := [
  ⟨(some 63), .mv (.t 10), none, false⟩,
  ⟨(some 64), .nck (.t 63), none, false⟩,
  ⟨(some 65), .fa 0 (.t 64), none, false⟩,
  ⟨(some 66), .fa 4 (.t 65), none, false⟩,
  ⟨(some 67), .ld false 1 (.t 66), none, false⟩,
  ⟨(some 68), .mv (.t 12), none, false⟩,
  ⟨(some 69), .bin .lss (.t 67) (.t 68), none, true⟩]
abbrev i23r14 : List IOper := [
  ⟨(some 70), .mv (.t 10), none, false⟩,
  ⟨(some 71), .nck (.t 70), none, false⟩,
  ⟨(some 72), .fa 0 (.t 71), none, false⟩,
  ⟨(some 73), .fa 4 (.t 72), none, false⟩,
  ⟨none, .st 1 (.t 73) (.c (.i .i64 0)), none, false⟩]
abbrev i23r15 : List IOper := [
  ⟨(some 74), .mv (.t 10), none, false⟩,
  ⟨(some 75), .nck (.t 74), none, false⟩,
  ⟨(some 76), .fa 0 (.t 75), none, false⟩,
  ⟨(some 77), .ld true 8 (.t 76), none, false⟩,
  ⟨none, .st 8 (.t 8) (.t 77), none, false⟩,
  ⟨(some 9), .mv (.c (.i .i64 0)), none, false⟩]
abbrev i23c : ICode := (.seq (.reg i23r0) (.seq (.reg i23r1) (.seq (.seq (.reg i23r2) (.cond (.t 20) (.seq (.reg i23r3) .ret) .skip)) (.seq (.seq (.reg i23r4) (.cond (.t 32) (.seq (.reg i23r5) .ret) .skip)) (.seq (.reg i23r6) (.seq (.seq (.reg i23r7) (.cond (.t 41) (.reg i23r8) .skip)) (.seq (.seq (.reg i23r9) (.cond (.t 51) (.seq (.reg i23r10) .ret) .skip)) (.seq (.reg i23r11) (.seq (.reg i23r12) (.seq (.seq (.reg i23r13) (.cond (.t 69) (.reg i23r14) .skip)) (.seq (.reg i23r15) .ret)))))))))))
def i23 : IFn := { np := 4, N := 78, ct := [20, 32, 41, 51, 69], code := i23c, res := [.c 8 true 8, .t 9] }
theorem i23_eq : compF Tryd.prog Tryd.f23 = some i23 := by kernel_rfl
abbrev i25r0 : List IOper := [
  ⟨(some 4), .box (.t 0), none, false⟩,
  ⟨(some 8), .new [.i .i64 0, .i .i64 0, .i .i64 0, .i .i64 0, .i .i64 0, .i .i64 0, .i .i64 0, .i .i64 0], none, false⟩]
abbrev i25r1 : List IOper := [
  ⟨(some 12), .ld true 8 (.t 4), none, false⟩,
  ⟨(some 13), .mv (.t 1), none, false⟩,
  ⟨(some 14), .mv (.t 2), none, false⟩,
  ⟨(some 15), .mv (.t 3), none, false⟩,
  ⟨(some 16), .call (.c (.fn 19 [])) [.t 12, .t 13, .t 14, .t 15], none, false⟩,
  ⟨(some 11), .mv (.t 16), none, false⟩,
  ⟨(some 17), .ext (.t 11) 0, none, false⟩,
  ⟨(some 18), .ext (.t 11) 1, none, false⟩,
  ⟨(some 9), .new [.i .i64 0, .i .i64 0, .i .i64 0, .i .i64 0, .i .i64 0, .i .i64 0, .i .i64 0, .i .i64 0], none, false⟩,
  ⟨none, .st 8 (.t 9) (.t 17), none, false⟩,
  ⟨(some 10), .mv (.t 18), none, false⟩]
abbrev i25r2 : List IOper := [
  ⟨(some 19), .ld true 8 (.t 9), none, false⟩,
  ⟨none, .st 8 (.t 8) (.t 19), none, false⟩]
abbrev i25c : ICode := (.seq (.reg i25r0) (.seq (.reg i25r1) (.seq (.reg i25r2) .ret)))
def i25 : IFn := { np := 4, N := 20, ct := [], code := i25c, res := [.c 8 true 8] }
theorem i25_eq : compF Tryd.prog Tryd.f25 = some i25 := by kernel_rfl
abbrev i27r0 : List IOper := [
  ⟨(some 0), .new [.i .i64 0, .i .i64 0, .i .i64 0, .i .i64 0, .i .i64 0, .i .i64 0, .i .i64 0, .i .i64 0], none, false⟩]
abbrev i27r1 : List IOper := [
  ⟨(some 4), .call (.c (.fn 16 [])) [.c (.i .i64 100000), .c (.i .i64 50000), .c (.i .i64 200000)], none, false⟩,
  ⟨(some 3), .mv (.t 4), none, false⟩,
  ⟨(some 5), .ext (.t 3) 0, none, false⟩,
  ⟨(some 6), .ext (.t 3) 1, none, false⟩,
  ⟨(some 1), .new [.i .i64 0, .i .i64 0, .i .i64 0, .i .i64 0, .i .i64 0, .i .i64 0, .i .i64 0, .i .i64 0], none, false⟩,
  ⟨none, .st 8 (.t 1) (.t 5), none, false⟩,
  ⟨(some 2), .mv (.t 6), none, false⟩]
abbrev i27r2 : List IOper := [
  ⟨(some 7), .ld true 8 (.t 1), none, false⟩,
  ⟨none, .st 8 (.t 0) (.t 7), none, false⟩]
abbrev i27c : ICode := (.seq (.reg i27r0) (.seq (.reg i27r1) (.seq (.reg i27r2) .ret)))
def i27 : IFn := { np := 0, N := 8, ct := [], code := i27c, res := [.c 0 true 8] }
theorem i27_eq : compF Tryd.prog Tryd.f27 = some i27 := by kernel_rfl
abbrev i28r0 : List IOper := [
  ⟨(some 3), .box (.t 0), none, false⟩,
  ⟨(some 6), .new [.i .i64 0, .i .i64 0, .i .i64 0, .i .i64 0, .i .i64 0, .i .i64 0, .i .i64 0, .i .i64 0], none, false⟩]
abbrev i28r1 : List IOper := [
  ⟨(some 10), .ld true 8 (.t 3), none, false⟩,
  ⟨(some 11), .mv (.t 1), none, false⟩,
  ⟨(some 12), .mv (.t 2), none, false⟩,
  ⟨(some 13), .call (.c (.fn 21 [])) [.t 10, .t 11, .t 12], none, false⟩,
  ⟨(some 9), .mv (.t 13), none, false⟩,
  ⟨(some 14), .ext (.t 9) 0, none, false⟩,
  ⟨(some 15), .ext (.t 9) 1, none, false⟩,
  ⟨(some 7), .new [.i .i64 0, .i .i64 0, .i .i64 0, .i .i64 0, .i .i64 0, .i .i64 0, .i .i64 0, .i .i64 0], none, false⟩,
  ⟨none, .st 8 (.t 7) (.t 14), none, false⟩,
  ⟨(some 8), .mv (.t 15), none, false⟩]
abbrev i28r2 : List IOper := [
  ⟨(some 16), .ld true 8 (.t 7), none, false⟩,
  ⟨none, .st 8 (.t 6) (.t 16), none, false⟩]
abbrev i28c : ICode := (.seq (.reg i28r0) (.seq (.reg i28r1) (.seq (.reg i28r2) .ret)))
def i28 : IFn := { np := 3, N := 17, ct := [], code := i28c, res := [.c 6 true 8] }
theorem i28_eq : compF Tryd.prog Tryd.f28 = some i28 := by kernel_rfl
abbrev i30r0 : List IOper := [
  ⟨(some 2), .mv (.c (.b false)), none, false⟩]
abbrev i30r1 : List IOper := [
  ⟨(some 3), .mv (.t 0), none, false⟩,
  ⟨(some 4), .call (.c (.fn 31 [])) [.c (.i .i64 1000), .c (.i .i64 100000000), .t 3], none, false⟩,
  ⟨(some 5), .mv (.t 4), none, true⟩,
  ⟨(some 6), .mv (.t 0), (some (5, true)), false⟩,
  ⟨(some 7), .call (.c (.fn 39 [])) [.t 6], (some (5, true)), false⟩,
  ⟨(some 8), .pick (.t 5) (.t 7) (.c (.b false)), none, false⟩,
  ⟨(some 2), .mv (.t 8), none, false⟩]
abbrev i30c : ICode := (.seq (.reg i30r0) (.seq (.reg i30r1) .ret))
def i30 : IFn := { np := 1, N := 9, ct := [], code := i30c, res := [.t 2] }
theorem i30_eq : compF Tryd.prog Tryd.f30 = some i30 := by kernel_rfl
abbrev i31r0 : List IOper := [
  ⟨(some 3), .box (.t 0), none, false⟩,
  ⟨(some 4), .box (.t 1), none, false⟩,
  ⟨(some 6), .mv (.c (.b false)), none, false⟩]
abbrev i31r1 : List IOper := [
  ⟨(some 7), .mv (.t 2), none, false⟩,
  ⟨(some 8), .mkf 41 [.t 3, .t 4], none, false⟩,
  ⟨(some 9), .call (.c (.fn 40 [])) [.t 7, .t 8], none, false⟩,
  ⟨(some 10), .not (.t 9), none, false⟩,
  ⟨(some 6), .mv (.t 10), none, false⟩]
abbrev i31c : ICode := (.seq (.reg i31r0) (.seq (.reg i31r1) .ret))
def i31 : IFn := { np := 3, N := 11, ct := [], code := i31c, res := [.t 6] }
theorem i31_eq : compF Tryd.prog Tryd.f31 = some i31 := by kernel_rfl
abbrev i33r0 : List IOper := [
  ⟨(some 2), .box (.t 0), none, false⟩,
  ⟨(some 4), .mv (.c (.np)), none, false⟩,
  ⟨(some 5), .mv (.c (.i .i64 0)), none, false⟩]
abbrev i33r1 : List IOper := [
  ⟨(some 8), .ld true 8 (.t 2), none, false⟩,
  ⟨(some 9), .call (.c (.fn 11 [])) [.t 8], none, false⟩,
  ⟨(some 6), .mv (.t 9), none, false⟩]
abbrev i33r2 : List IOper := [
  ⟨(some 10), .mv (.t 6), none, false⟩,
  ⟨(some 11), .bin .neq (.t 10) (.c (.i .i64 0)), none, true⟩]
abbrev i33r3 : List IOper := [
  ⟨(some 12), .mv (.t 6), none, false⟩,
  ⟨(some 4), .mv (.c (.np)), none, false⟩,
  ⟨(some 5), .mv (.t 12), none, false⟩]
abbrev i33r4 : List IOper := [
  ⟨(some 13), .mv (.t 1), none, false⟩,
  ⟨(some 14), .fa 5 (.t 2), none, false⟩,
  ⟨(some 15), .ld false 1 (.t 14), none, false⟩,
  ⟨(some 16), .bin .lss (.t 13) (.t 15), none, false⟩,
  ⟨(some 17), .mv (.t 16), none, true⟩,
  ⟨(some 18), .mv (.t 1), (some (17, false)), false⟩,
  ⟨(some 19), .bin .gtr (.t 18) (.c (.i .i64 1099511627776)), (some (17, false)), false⟩,
  ⟨(some 20), .pick (.t 17) (.c (.b true)) (.t 19), none, true⟩]
abbrev i33r5 : List IOper := [
  ⟨(some 4), .mv (.c (.np)), none, false⟩,
  ⟨(some 5), .mv (.c (.i .i64 2)), none, false⟩]
abbrev i33r6 : List IOper := [
  ⟨(some 21), .ld true 8 (.t 2), none, false⟩,
  ⟨(some 22), .mv (.t 1), none, false⟩,
  ⟨(some 23), .fa 5 (.t 2), none, false⟩,
  ⟨(some 24), .ld false 1 (.t 23), none, false⟩,
  ⟨(some 25), .bin .sub (.t 22) (.t 24), none, false⟩,
  ⟨(some 26), .build [.i .i64 0, .i .i64 0, .i .i64 0, .i .i64 0, .i .i64 0, .i .i64 0, .i .i64 0, .i .i64 0, .i .i64 0, .i .i64 0] [(0, 8, .t 21), (8, 1, .t 25)], none, false⟩,
  ⟨(some 27), .box (.t 26), none, false⟩,
  ⟨(some 7), .mv (.t 27), none, false⟩]
abbrev i33r7 : List IOper := [
  ⟨(some 28), .mv (.t 7), none, false⟩,
  ⟨(some 29), .mv (.t 1), none, false⟩,
  ⟨(some 30), .nck (.t 28), none, false⟩,
  ⟨(some 31), .fa 0 (.t 30), none, false⟩,
  ⟨(some 32), .fa 5 (.t 31), none, false⟩,
  ⟨none, .st 1 (.t 32) (.t 29), none, false⟩]
abbrev i33r8 : List IOper := [
  ⟨(some 33), .mv (.t 7), none, false⟩,
  ⟨(some 4), .mv (.t 33), none, false⟩,
  ⟨(some 5), .mv (.c (.i .i64 0)), none, false⟩]
abbrev i33c : ICode := (.seq (.reg i33r0) (.seq (.seq (.reg i33r1) (.seq (.reg i33r2) (.cond (.t 11) (.seq (.reg i33r3) .ret) .skip))) (.seq (.seq (.reg i33r4) (.cond (.t 20) (.seq (.reg i33r5) .ret) .skip)) (.seq (.reg i33r6) (.seq (.reg i33r7) (.seq (.reg i33r8) .ret))))))
def i33 : IFn := { np := 2, N := 34, ct := [11, 20], code := i33c, res := [.t 4, .t 5] }
theorem i33_eq : compF Tryd.prog Tryd.f33 = some i33 := by kernel_rfl
abbrev i34r0 : List (IOper × List Nat) := [
  (⟨(some 4), .mv (.t 0), none, false⟩, []),
  (⟨(some 5), .mv (.t 0), none, false⟩, [0]),
  (⟨(some 6), .nck (.t 5), none, false⟩, [0]),
  (⟨(some 7), .fa 0 (.t 6), none, false⟩, [0]),
  (⟨(some 8), .fa 1 (.t 7), none, false⟩, [0]),
  (⟨(some 9), .ld false 1 (.t 8), none, false⟩, [0]),
  (⟨(some 10), .mv (.t 1), none, false⟩, [0, 1, 2, 3, 4, 5]),
  (⟨(some 11), .mv (.t 0), none, false⟩, [0, 1, 2, 3, 4, 5, 6]),
  (⟨(some 12), .nck (.t 11), none, false⟩, [0, 1, 2, 3, 4, 5, 6]),
  (⟨(some 13), .fa 0 (.t 12), none, false⟩, [0, 1, 2, 3, 4, 5, 6]),
  (⟨(some 14), .fa 2 (.t 13), none, false⟩, [0, 1, 2, 3, 4, 5, 6]),
  (⟨(some 15), .ld false 1 (.t 14), none, false⟩, [0, 1, 2, 3, 4, 5, 6]),
  (⟨(some 16), .mn (.t 10) [.t 15], none, false⟩, [0, 1, 2, 3, 4, 5]),
  (⟨(some 17), .mx (.t 9) [.t 16], none, false⟩, [0]),
  (⟨(some 18), .nck (.t 4), none, false⟩, []),
  (⟨(some 19), .fa 0 (.t 18), none, false⟩, []),
  (⟨(some 20), .fa 0 (.t 19), none, false⟩, []),
  (⟨none, .st 1 (.t 20) (.t 17), none, false⟩, [])]
abbrev i34c : ICode := (.dreg i34r0)
def i34 : IFn := { np := 2, N := 21, ct := [], code := i34c, res := [] }
theorem i34_eq : compF Tryd.prog Tryd.f34 = some i34 := by kernel_rfl
abbrev i37r0 : List IOper := [
  ⟨(some 4), .box (.t 0), none, false⟩,
  ⟨(some 8), .new [.i .i64 0, .i .i64 0, .i .i64 0, .i .i64 0, .i .i64 0, .i .i64 0, .i .i64 0, .i .i64 0], none, false⟩]
abbrev i37r1 : List IOper := [
  ⟨(some 12), .ld true 8 (.t 4), none, false⟩,
  ⟨(some 13), .mv (.t 1), none, false⟩,
  ⟨(some 14), .mv (.t 2), none, false⟩,
  ⟨(some 15), .mv (.t 3), none, false⟩,
  ⟨(some 16), .call (.c (.fn 23 [])) [.t 12, .t 13, .t 14, .t 15], none, false⟩,
  ⟨(some 11), .mv (.t 16), none, false⟩,
  ⟨(some 17), .ext (.t 11) 0, none, false⟩,
  ⟨(some 18), .ext (.t 11) 1, none, false⟩,
  ⟨(some 9), .new [.i .i64 0, .i .i64 0, .i .i64 0, .i .i64 0, .i .i64 0, .i .i64 0, .i .i64 0, .i .i64 0], none, false⟩,
  ⟨none, .st 8 (.t 9) (.t 17), none, false⟩,
  ⟨(some 10), .mv (.t 18), none, false⟩]
abbrev i37r2 : List IOper := [
  ⟨(some 19), .ld true 8 (.t 9), none, false⟩,
  ⟨none, .st 8 (.t 8) (.t 19), none, false⟩]
abbrev i37c : ICode := (.seq (.reg i37r0) (.seq (.reg i37r1) (.seq (.reg i37r2) .ret)))
def i37 : IFn := { np := 4, N := 20, ct := [], code := i37c, res := [.c 8 true 8] }
theorem i37_eq : compF Tryd.prog Tryd.f37 = some i37 := by kernel_rfl
abbrev i39r0 : List IOper := [
  ⟨(some 2), .mv (.c (.b false)), none, false⟩]
abbrev i39r1 : List IOper := [
  ⟨(some 4), .mv (.t 0), none, false⟩,
  ⟨(some 5), .lenV (.t 4), none, false⟩,
  ⟨(some 6), .bin .sub (.t 5) (.c (.i .i64 1)), none, false⟩,
  ⟨(some 3), .mv (.t 6), none, false⟩]
abbrev i39r2 : List IOper := [
  ⟨(some 7), .mv (.t 3), none, false⟩,
  ⟨(some 8), .bin .gtr (.t 7) (.c (.i .i64 0)), none, true⟩]
abbrev i39r3 : List (IOper × List Nat) := [
  (⟨(some 11), .mv (.t 0), none, false⟩, []),
  (⟨(some 12), .mv (.t 3), none, false⟩, [0]),
  (⟨(some 13), .ixaV 1 (.t 11) (.t 12), none, false⟩, []),
  (⟨(some 14), .ld false 1 (.t 13), none, false⟩, []),
  (⟨(some 15), .mv (.t 0), none, false⟩, [0, 1, 2, 3]),
  (⟨(some 16), .mv (.t 3), none, false⟩, [0, 1, 2, 3, 4]),
  (⟨(some 17), .bin .sub (.t 16) (.c (.i .i64 1)), none, false⟩, [0, 1, 2, 3, 4]),
  (⟨(some 18), .ixaV 1 (.t 15) (.t 17), none, false⟩, [0, 1, 2, 3]),
  (⟨(some 19), .ld false 1 (.t 18), none, false⟩, [0, 1, 2, 3]),
  (⟨(some 20), .call (.c (.fn 42 [])) [.t 14, .t 19], none, true⟩, [])]
abbrev i39r4 : List IOper := [
  ⟨(some 2), .mv (.c (.b false)), none, false⟩]
abbrev i39r5 : List IOper := [
  ⟨(some 9), .mv (.t 3), none, false⟩,
  ⟨(some 10), .bin .sub (.t 9) (.c (.i .i64 1)), none, false⟩,
  ⟨(some 3), .mv (.t 10), none, false⟩]
abbrev i39l6 : ICode := (.seq (.seq (.reg i39r2) (.cond (.t 8) .skip (.exit 0))) (.seq (.block 1 (.seq (.dreg i39r3) (.cond (.t 20) (.seq (.reg i39r4) .ret) .skip))) (.reg i39r5)))
abbrev i39r7 : List IOper := [
  ⟨(some 2), .mv (.c (.b true)), none, false⟩]
abbrev i39c : ICode := (.seq (.reg i39r0) (.seq (.seq (.reg i39r1) (.block 0 (.loop i39l6))) (.seq (.reg i39r7) .ret)))
def i39 : IFn := { np := 1, N := 21, ct := [8, 20], code := i39c, res := [.t 2] }
theorem i39_eq : compF Tryd.prog Tryd.f39 = some i39 := by kernel_rfl
abbrev i40r0 : List IOper := [
  ⟨(some 4), .mv (.c (.b false)), none, false⟩]
abbrev i40r1 : List IOper := [
  ⟨(some 5), .mv (.t 0), none, false⟩,
  ⟨(some 6), .mv (.t 1), none, false⟩,
  ⟨(some 7), .call (.c (.fn 43 [])) [.t 5, .t 6], none, false⟩,
  ⟨(some 8), .bin .geq (.t 7) (.c (.i .i64 0)), none, false⟩,
  ⟨(some 4), .mv (.t 8), none, false⟩]
abbrev i40c : ICode := (.seq (.reg i40r0) (.seq (.reg i40r1) .ret))
def i40 : IFn := { np := 2, N := 9, ct := [], code := i40c, res := [.t 4] }
theorem i40_eq : compF Tryd.prog Tryd.f40 = some i40 := by kernel_rfl
abbrev i41r0 : List IOper := [
  ⟨(some 4), .mv (.c (.b false)), none, false⟩]
abbrev i41r1 : List IOper := [
  ⟨(some 5), .mv (.t 0), none, false⟩,
  ⟨(some 6), .ld false 1 (.t 1), none, false⟩,
  ⟨(some 7), .bin .lss (.t 5) (.t 6), none, false⟩,
  ⟨(some 8), .mv (.t 7), none, true⟩,
  ⟨(some 9), .mv (.t 0), (some (8, false)), false⟩,
  ⟨(some 10), .ld false 1 (.t 2), (some (8, false)), false⟩,
  ⟨(some 11), .bin .gtr (.t 9) (.t 10), (some (8, false)), false⟩,
  ⟨(some 12), .pick (.t 8) (.c (.b true)) (.t 11), none, false⟩,
  ⟨(some 4), .mv (.t 12), none, false⟩]
abbrev i41c : ICode := (.seq (.reg i41r0) (.seq (.reg i41r1) .ret))
def i41 : IFn := { np := 3, N := 13, ct := [], code := i41c, res := [.t 4] }
theorem i41_eq : compF Tryd.prog Tryd.f41 = some i41 := by kernel_rfl
abbrev i42r0 : List IOper := [
  ⟨(some 4), .mv (.c (.b false)), none, false⟩]
abbrev i42r1 : List IOper := [
  ⟨(some 5), .mv (.t 0), none, false⟩,
  ⟨(some 6), .call (.c (.fn 44 [])) [.t 5], none, false⟩,
  ⟨(some 7), .mv (.t 6), none, true⟩,
  ⟨(some 8), .mv (.t 1), (some (7, true)), false⟩,
  ⟨(some 9), .call (.c (.fn 44 [])) [.t 8], (some (7, true)), false⟩,
  ⟨(some 10), .not (.t 9), (some (7, true)), false⟩,
  ⟨(some 11), .pick (.t 7) (.t 10) (.c (.b false)), none, false⟩,
  ⟨(some 12), .mv (.t 11), none, true⟩,
  ⟨(some 13), .mv (.t 0), (some (12, false)), false⟩,
  ⟨(some 14), .mv (.t 1), (some (12, false)), false⟩,
  ⟨(some 15), .bin .lss (.t 13) (.t 14), (some (12, false)), false⟩,
  ⟨(some 16), .pick (.t 12) (.c (.b true)) (.t 15), none, false⟩,
  ⟨(some 4), .mv (.t 16), none, false⟩]
abbrev i42c : ICode := (.seq (.reg i42r0) (.seq (.reg i42r1) .ret))
def i42 : IFn := { np := 2, N := 17, ct := [], code := i42c, res := [.t 4] }
theorem i42_eq : compF Tryd.prog Tryd.f42 = some i42 := by kernel_rfl
abbrev i43r0 : List IOper := [
  ⟨(some 4), .mv (.c (.i .i64 0)), none, false⟩]
abbrev i43r1 : List IOper := [
  ⟨(some 6), .mv (.t 0), none, false⟩,
  ⟨(some 7), .lenV (.t 6), none, false⟩,
  ⟨(some 8), .mv (.c (.i .i64 0)), none, false⟩]
abbrev i43r2 : List IOper := [
  ⟨(some 9), .bin .lss (.t 8) (.t 7), none, true⟩]
abbrev i43r3 : List IOper := [
  ⟨(some 10), .mv (.t 8), none, false⟩,
  ⟨(some 5), .mv (.t 10), none, false⟩]
abbrev i43r4 : List IOper := [
  ⟨(some 11), .mv (.t 1), none, false⟩,
  ⟨(some 12), .mv (.t 0), none, false⟩,
  ⟨(some 13), .mv (.t 5), none, false⟩,
  ⟨(some 14), .ixaV 1 (.t 12) (.t 13), none, false⟩,
  ⟨(some 15), .ld false 1 (.t 14), none, false⟩,
  ⟨(some 16), .call (.t 11) [.t 15], none, true⟩]
abbrev i43r5 : List IOper := [
  ⟨(some 17), .mv (.t 5), none, false⟩,
  ⟨(some 4), .mv (.t 17), none, false⟩]
abbrev i43r6 : List IOper := [
  ⟨(some 18), .bin .add (.t 8) (.c (.i .i64 1)), none, false⟩,
  ⟨(some 8), .mv (.t 18), none, false⟩]
abbrev i43l7 : ICode := (.seq (.reg i43r2) (.seq (.cond (.t 9) .skip (.exit 0)) (.seq (.block 1 (.seq (.reg i43r3) (.seq (.reg i43r4) (.cond (.t 16) (.seq (.reg i43r5) .ret) .skip)))) (.reg i43r6))))
abbrev i43r8 : List IOper := [
  ⟨(some 4), .mv (.c (.i .i64 (-1))), none, false⟩]
abbrev i43c : ICode := (.seq (.reg i43r0) (.seq (.seq (.reg i43r1) (.block 0 (.loop i43l7))) (.seq (.reg i43r8) .ret)))
def i43 : IFn := { np := 2, N := 19, ct := [9, 16], code := i43c, res := [.t 4] }
theorem i43_eq : compF Tryd.prog Tryd.f43 = some i43 := by kernel_rfl
abbrev i44r0 : List IOper := [
  ⟨(some 2), .mv (.c (.b false)), none, false⟩]
abbrev i44r1 : List IOper := [
  ⟨(some 3), .mv (.t 0), none, false⟩,
  ⟨(some 4), .mv (.t 0), none, false⟩,
  ⟨(some 5), .bin .neq (.t 3) (.t 4), none, false⟩,
  ⟨(some 2), .mv (.t 5), none, false⟩]
abbrev i44c : ICode := (.seq (.reg i44r0) (.seq (.reg i44r1) .ret))
def i44 : IFn := { np := 1, N := 6, ct := [], code := i44c, res := [.t 2] }
theorem i44_eq : compF Tryd.prog Tryd.f44 = some i44 := by kernel_rfl
abbrev i60r0 : List IOper := [
  ⟨(some 4), .mv (.t 0), none, false⟩,
  ⟨(some 5), .nck (.t 4), none, false⟩,
  ⟨(some 6), .fa 0 (.t 5), none, false⟩,
  ⟨(some 7), .fa 3 (.t 6), none, false⟩,
  ⟨(some 8), .ld false 1 (.t 7), none, false⟩,
  ⟨(some 9), .bin .eql (.t 8) (.c (.i .i64 0)), none, true⟩]
abbrev i60r1 : List IOper := [
  ⟨(some 10), .mv (.t 0), none, false⟩,
  ⟨(some 11), .nck (.t 10), none, false⟩,
  ⟨(some 12), .fa 0 (.t 11), none, false⟩,
  ⟨(some 13), .fa 3 (.t 12), none, false⟩,
  ⟨none, .st 1 (.t 13) (.c (.i .i64 1)), none, false⟩]
abbrev i60r2 : List IOper := [
  ⟨(some 14), .mv (.t 0), none, false⟩,
  ⟨(some 15), .nck (.t 14), none, false⟩,
  ⟨(some 16), .fa 8 (.t 15), none, false⟩,
  ⟨(some 17), .ld false 1 (.t 16), none, false⟩,
  ⟨(some 18), .mn (.t 17) [.c (.i .i64 1000)], none, false⟩,
  ⟨(some 2), .mv (.t 18), none, false⟩]
abbrev i60r3 : List IOper := [
  ⟨(some 19), .mv (.t 0), none, false⟩,
  ⟨(some 20), .nck (.t 19), none, false⟩,
  ⟨(some 21), .fa 0 (.t 20), none, false⟩,
  ⟨(some 22), .fa 0 (.t 21), none, false⟩,
  ⟨(some 23), .ld false 1 (.t 22), none, false⟩,
  ⟨(some 24), .mv (.t 2), none, false⟩,
  ⟨(some 25), .bin .mul (.c (.i .i64 50)) (.t 24), none, false⟩,
  ⟨(some 26), .bin .add (.t 23) (.t 25), none, false⟩,
  ⟨(some 3), .mv (.t 26), none, false⟩]
abbrev i60r4 : List (IOper × List Nat) := [
  (⟨(some 43), .mv (.t 0), none, false⟩, []),
  (⟨(some 44), .nck (.t 43), none, false⟩, []),
  (⟨(some 45), .fa 0 (.t 44), none, false⟩, []),
  (⟨(some 46), .fa 4 (.t 45), none, false⟩, []),
  (⟨(some 47), .ld false 1 (.t 46), none, false⟩, []),
  (⟨(some 48), .bin .neq (.t 47) (.c (.i .i64 0)), none, false⟩, []),
  (⟨(some 49), .mv (.t 48), none, true⟩, []),
  (⟨(some 50), .mv (.t 0), (some (49, true)), false⟩, []),
  (⟨(some 51), .nck (.t 50), (some (49, true)), false⟩, []),
  (⟨(some 52), .fa 0 (.t 51), (some (49, true)), false⟩, []),
  (⟨(some 53), .fa 0 (.t 52), (some (49, true)), false⟩, []),
  (⟨(some 54), .ld false 1 (.t 53), (some (49, true)), false⟩, []),
  (⟨(some 55), .mv (.t 0), (some (49, true)), false⟩, [7, 8, 9, 10, 11]),
  (⟨(some 56), .nck (.t 55), (some (49, true)), false⟩, [7, 8, 9, 10, 11]),
  (⟨(some 57), .fa 0 (.t 56), (some (49, true)), false⟩, [7, 8, 9, 10, 11]),
  (⟨(some 58), .fa 4 (.t 57), (some (49, true)), false⟩, [7, 8, 9, 10, 11]),
  (⟨(some 59), .ld false 1 (.t 58), (some (49, true)), false⟩, [7, 8, 9, 10, 11]),
  (⟨(some 60), .bin .mul (.c (.i .i64 9)) (.t 59), (some (49, true)), false⟩, [7, 8, 9, 10, 11]),
  (⟨(some 61), .bin .quo (.t 60) (.c (.i .i64 10)), (some (49, true)), false⟩, [7, 8, 9, 10, 11]),
  (⟨(some 62), .bin .geq (.t 54) (.t 61), (some (49, true)), false⟩, []),
  (⟨(some 63), .pick (.t 49) (.t 62) (.c (.b false)), none, false⟩, []),
  (⟨(some 42), .mv (.t 63), none, true⟩, [])]
abbrev i60r5 : List (IOper × List Nat) := [
  (⟨(some 27), .mv (.t 0), none, false⟩, []),
  (⟨(some 28), .nck (.t 27), none, false⟩, []),
  (⟨(some 29), .fa 0 (.t 28), none, false⟩, []),
  (⟨(some 30), .fa 0 (.t 29), none, false⟩, []),
  (⟨(some 31), .ld false 1 (.t 30), none, false⟩, []),
  (⟨(some 32), .mv (.t 0), none, false⟩, [0, 1, 2, 3, 4]),
  (⟨(some 33), .nck (.t 32), none, false⟩, [0, 1, 2, 3, 4]),
  (⟨(some 34), .fa 0 (.t 33), none, false⟩, [0, 1, 2, 3, 4]),
  (⟨(some 35), .fa 0 (.t 34), none, false⟩, [0, 1, 2, 3, 4]),
  (⟨(some 36), .ld false 1 (.t 35), none, false⟩, [0, 1, 2, 3, 4]),
  (⟨(some 37), .bin .mul (.c (.i .i64 8)) (.t 36), none, false⟩, [0, 1, 2, 3, 4]),
  (⟨(some 38), .mv (.t 2), none, false⟩, [0, 1, 2, 3, 4, 5, 6, 7, 8, 9, 10]),
  (⟨(some 39), .bin .mul (.t 37) (.t 38), none, false⟩, [0, 1, 2, 3, 4]),
  (⟨(some 40), .bin .quo (.t 39) (.c (.i .i64 100000)), none, false⟩, [0, 1, 2, 3, 4]),
  (⟨(some 41), .bin .add (.t 31) (.t 40), none, false⟩, []),
  (⟨(some 3), .mv (.t 41), none, false⟩, [])]
abbrev i60r6 : List IOper := [
  ⟨(some 64), .mv (.t 0), none, false⟩,
  ⟨(some 65), .nck (.t 64), none, false⟩,
  ⟨(some 66), .fa 9 (.t 65), none, false⟩,
  ⟨(some 67), .ld false 1 (.t 66), none, false⟩,
  ⟨(some 68), .bin .neq (.t 67) (.c (.i .i64 0)), none, true⟩]
abbrev i60r7 : List (IOper × List Nat) := [
  (⟨(some 69), .mv (.t 3), none, false⟩, []),
  (⟨(some 70), .mv (.t 0), none, false⟩, [0]),
  (⟨(some 71), .nck (.t 70), none, false⟩, [0]),
  (⟨(some 72), .fa 0 (.t 71), none, false⟩, [0]),
  (⟨(some 73), .fa 0 (.t 72), none, false⟩, [0]),
  (⟨(some 74), .ld false 1 (.t 73), none, false⟩, [0]),
  (⟨(some 75), .mv (.t 0), none, false⟩, [0, 1, 2, 3, 4, 5]),
  (⟨(some 76), .nck (.t 75), none, false⟩, [0, 1, 2, 3, 4, 5]),
  (⟨(some 77), .fa 9 (.t 76), none, false⟩, [0, 1, 2, 3, 4, 5]),
  (⟨(some 78), .ld false 1 (.t 77), none, false⟩, [0, 1, 2, 3, 4, 5]),
  (⟨(some 79), .bin .mul (.c (.i .i64 3)) (.t 78), none, false⟩, [0, 1, 2, 3, 4, 5]),
  (⟨(some 80), .bin .quo (.t 79) (.c (.i .i64 2)), none, false⟩, [0, 1, 2, 3, 4, 5]),
  (⟨(some 81), .bin .add (.t 80) (.c (.i .i64 10000)), none, false⟩, [0, 1, 2, 3, 4, 5]),
  (⟨(some 82), .mx (.t 74) [.t 81], none, false⟩, [0]),
  (⟨(some 83), .mn (.t 69) [.t 82], none, false⟩, []),
  (⟨(some 3), .mv (.t 83), none, false⟩, [])]
abbrev i60r8 : List IOper := [
  ⟨(some 84), .mv (.t 0), none, false⟩,
  ⟨(some 85), .mv (.t 3), none, false⟩,
  ⟨(some 86), .call (.c (.fn 34 [])) [.t 84, .t 85], none, false⟩]
abbrev i60c : ICode := (.scope (.seq (.seq (.reg i60r0) (.cond (.t 9) (.seq (.reg i60r1) .ret) .skip)) (.seq (.reg i60r2) (.seq (.reg i60r3) (.seq .skip (.seq (.block 0 (.seq (.dreg i60r4) (.cond (.t 42) (.exit 0) (.dreg i60r5)))) (.seq (.seq (.reg i60r6) (.cond (.t 68) (.dreg i60r7) .skip)) (.reg i60r8))))))))
def i60 : IFn := { np := 1, N := 87, ct := [9, 42, 68], code := i60c, res := [] }
theorem i60_eq : compF Tryd.prog Tryd.f60 = some i60 := by kernel_rfl
abbrev i62r0 : List IOper := [
  ⟨(some 2), .mv (.t 0), none, false⟩,
  ⟨(some 3), .nck (.t 2), none, false⟩,
  ⟨(some 4), .fa 0 (.t 3), none, false⟩,
  ⟨(some 5), .fa 3 (.t 4), none, false⟩,
  ⟨none, .st 1 (.t 5) (.c (.i .i64 0)), none, false⟩]
abbrev i62r1 : List IOper := [
  ⟨(some 6), .mv (.t 0), none, false⟩,
  ⟨(some 7), .nck (.t 6), none, false⟩,
  ⟨(some 8), .fa 9 (.t 7), none, false⟩,
  ⟨(some 9), .ld false 1 (.t 8), none, false⟩,
  ⟨(some 10), .bin .eql (.t 9) (.c (.i .i64 0)), none, true⟩]
abbrev i62r2 : List IOper := [
  ⟨(some 11), .mv (.t 0), none, false⟩,
  ⟨(some 12), .mv (.t 0), none, false⟩,
  ⟨(some 13), .nck (.t 12), none, false⟩,
  ⟨(some 14), .fa 0 (.t 13), none, false⟩,
  ⟨(some 15), .fa 0 (.t 14), none, false⟩,
  ⟨(some 16), .ld false 1 (.t 15), none, false⟩,
  ⟨(some 17), .bin .mul (.c (.i .i64 85)) (.t 16), none, false⟩,
  ⟨(some 18), .bin .quo (.t 17) (.c (.i .i64 100)), none, false⟩,
  ⟨(some 19), .call (.c (.fn 34 [])) [.t 11, .t 18], none, false⟩]
abbrev i62r3 : List (IOper × List Nat) := [
  (⟨(some 20), .mv (.t 0), none, false⟩, []),
  (⟨(some 21), .mv (.t 0), none, false⟩, [0]),
  (⟨(some 22), .nck (.t 21), none, false⟩, [0]),
  (⟨(some 23), .fa 0 (.t 22), none, false⟩, [0]),
  (⟨(some 24), .fa 0 (.t 23), none, false⟩, [0]),
  (⟨(some 25), .ld false 1 (.t 24), none, false⟩, [0]),
  (⟨(some 26), .mv (.t 0), none, false⟩, [0, 1, 2, 3, 4, 5]),
  (⟨(some 27), .nck (.t 26), none, false⟩, [0, 1, 2, 3, 4, 5]),
  (⟨(some 28), .fa 9 (.t 27), none, false⟩, [0, 1, 2, 3, 4, 5]),
  (⟨(some 29), .ld false 1 (.t 28), none, false⟩, [0, 1, 2, 3, 4, 5]),
  (⟨(some 30), .bin .mul (.c (.i .i64 85)) (.t 29), none, false⟩, [0, 1, 2, 3, 4, 5]),
  (⟨(some 31), .bin .quo (.t 30) (.c (.i .i64 100)), none, false⟩, [0, 1, 2, 3, 4, 5]),
  (⟨(some 32), .mn (.t 25) [.t 31], none, false⟩, [0]),
  (⟨(some 33), .call (.c (.fn 34 [])) [.t 20, .t 32], none, false⟩, [])]
abbrev i62r4 : List IOper := [
  ⟨(some 34), .mv (.t 0), none, false⟩,
  ⟨(some 35), .nck (.t 34), none, false⟩,
  ⟨(some 36), .fa 0 (.t 35), none, false⟩,
  ⟨(some 37), .fa 4 (.t 36), none, false⟩,
  ⟨(some 38), .ld false 1 (.t 37), none, false⟩,
  ⟨(some 39), .bin .eql (.t 38) (.c (.i .i64 0)), none, true⟩]
abbrev i62r5 : List IOper := [
  ⟨(some 40), .mv (.t 0), none, false⟩,
  ⟨(some 41), .mv (.t 0), none, false⟩,
  ⟨(some 42), .nck (.t 41), none, false⟩,
  ⟨(some 43), .fa 9 (.t 42), none, false⟩,
  ⟨(some 44), .ld false 1 (.t 43), none, false⟩,
  ⟨(some 45), .nck (.t 40), none, false⟩,
  ⟨(some 46), .fa 0 (.t 45), none, false⟩,
  ⟨(some 47), .fa 4 (.t 46), none, false⟩,
  ⟨none, .st 1 (.t 47) (.t 44), none, false⟩]
abbrev i62r6 : List (IOper × List Nat) := [
  (⟨(some 48), .mv (.t 0), none, false⟩, []),
  (⟨(some 49), .mv (.t 0), none, false⟩, [0]),
  (⟨(some 50), .nck (.t 49), none, false⟩, [0]),
  (⟨(some 51), .fa 0 (.t 50), none, false⟩, [0]),
  (⟨(some 52), .fa 4 (.t 51), none, false⟩, [0]),
  (⟨(some 53), .ld false 1 (.t 52), none, false⟩, [0]),
  (⟨(some 54), .bin .mul (.c (.i .i64 95)) (.t 53), none, false⟩, [0]),
  (⟨(some 55), .mv (.t 0), none, false⟩, [0, 1, 2, 3, 4, 5, 6]),
  (⟨(some 56), .nck (.t 55), none, false⟩, [0, 1, 2, 3, 4, 5, 6]),
  (⟨(some 57), .fa 9 (.t 56), none, false⟩, [0, 1, 2, 3, 4, 5, 6]),
  (⟨(some 58), .ld false 1 (.t 57), none, false⟩, [0, 1, 2, 3, 4, 5, 6]),
  (⟨(some 59), .bin .mul (.c (.i .i64 5)) (.t 58), none, false⟩, [0, 1, 2, 3, 4, 5, 6]),
  (⟨(some 60), .bin .add (.t 54) (.t 59), none, false⟩, [0]),
  (⟨(some 61), .bin .quo (.t 60) (.c (.i .i64 100)), none, false⟩, [0]),
  (⟨(some 62), .nck (.t 48), none, false⟩, []),
  (⟨(some 63), .fa 0 (.t 62), none, false⟩, []),
  (⟨(some 64), .fa 4 (.t 63), none, false⟩, []),
  (⟨none, .st 1 (.t 64) (.t 61), none, false⟩, [])]
abbrev i62r7 : List IOper := [
  ⟨(some 65), .mv (.t 0), none, false⟩,
  ⟨(some 66), .nck (.t 65), none, false⟩,
  ⟨(some 67), .fa 0 (.t 66), none, false⟩,
  ⟨(some 68), .fa 4 (.t 67), none, false⟩,
  ⟨(some 69), .ld false 1 (.t 68), none, false⟩,
  ⟨(some 70), .bin .lss (.t 69) (.c (.i .i64 1000)), none, true⟩]
abbrev i62r8 : List IOper := [
  ⟨(some 71), .mv (.t 0), none, false⟩,
  ⟨(some 72), .nck (.t 71), none, false⟩,
  ⟨(some 73), .fa 0 (.t 72), none, false⟩,
  ⟨(some 74), .fa 4 (.t 73), none, false⟩,
  ⟨none, .st 1 (.t 74) (.c (.i .i64 0)), none, false⟩]
abbrev i62c : ICode := (.seq (.reg i62r0) (.seq (.seq (.reg i62r1) (.cond (.t 10) (.seq (.reg i62r2) .ret) .skip)) (.seq (.dreg i62r3) (.seq (.seq (.reg i62r4) (.cond (.t 39) (.reg i62r5) (.dreg i62r6))) (.seq (.reg i62r7) (.cond (.t 70) (.reg i62r8) .skip))))))
def i62 : IFn := { np := 1, N := 75, ct := [10, 39, 70], code := i62c, res := [] }
theorem i62_eq : compF Tryd.prog Tryd.f62 = some i62 := by kernel_rfl
abbrev i63r0 : List IOper := [
  ⟨(some 2), .mv (.t 0), none, false⟩,
  ⟨(some 3), .nck (.t 2), none, false⟩,
  ⟨(some 4), .fa 0 (.t 3), none, false⟩,
  ⟨(some 5), .fa 3 (.t 4), none, false⟩,
  ⟨none, .st 1 (.t 5) (.c (.i .i64 0)), none, false⟩]
abbrev i63c : ICode := (.reg i63r0)
def i63 : IFn := { np := 1, N := 6, ct := [], code := i63c, res := [] }
theorem i63_eq : compF Tryd.prog Tryd.f63 = some i63 := by kernel_rfl
end Go.Proofs.Rate
