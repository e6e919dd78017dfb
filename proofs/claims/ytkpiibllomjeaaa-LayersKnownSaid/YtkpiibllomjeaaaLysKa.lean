/- Texts laid as one: LysKT LysK. -/
import Derived.Test.YtkpiibllomjeaaaLysCe
import Derived.Test.YtkpiibllomjeaaaAbFast
import Derived.Test.YtkpiibllomjeaaaAbShelf
import Derived.Test.YtkpiibllomjeaaaAbWka
import Derived.Test.YtkpiibllomjeaaaAbVwT
section
/- The table of the functions that works reaches; Push, New, Want, Needs, Encode and Decode are known by their contracts. -/
namespace Go.Proofs.Lys
open Go.Ab
set_option linter.unusedVariables false
set_option maxRecDepth 100000
def TK : List (Nat × IFn) := [(27, i27), (28, i28), (29, i29)]
theorem TK_valid : Valid Try.prog TK :=
 .cons Try.func27 i27_eq (by kernel_rfl) <|
 .cons Try.func28 i28_eq (by kernel_rfl) <|
 .cons Try.func29 i29_eq (by kernel_rfl) .nil
def nrm : AV → AV
 | .ns => .fz [] 0
 | .ze => .fz [] 0
 | x => x
theorem Wka.nrm (x : AV) : Wka x (Lys.nrm x) := by
 cases x with
 | ns => exact Wka.ns
 | ze => exact Wka.ze
 | _ => exact Wka.refl _
theorem WkaL.nrm : ∀ l : List AV, WkaL l (l.map Lys.nrm)
 | [] => trivial
 | a :: l => ⟨Wka.nrm a, WkaL.nrm l⟩
def o22 : List AV → Option AV
 | [.agg c, .agg q] => (swA (c.map nrm)).bind fun s => (md9 (q.map nrm)).bind fun p => bif pushC s p then some (pushV (pushS s p)) else none
 | _ => none
theorem f22 {a : List AV} {v : AV} (e : o22 a = some v) : FTL Try.prog 22 a [] 0 v [] 0 := by
 unfold o22 at e
 split at e
 · rename_i c q
   simp only [Option.bind_eq_some_iff] at e
   obtain ⟨b, hb, p, hp, e⟩ := e
   cases hd : pushC b p
   · rw [hd] at e; cases e
   · rw [hd] at e
     cases e
     refine FTL.wka (xs := [.agg c, .agg q]) (ys := [.agg b.a, .agg p.l]) ⟨?_, ?_, trivial⟩ (w22 b p hd)
     · rw [← swA_eq hb]; exact Wka.agg (WkaL.nrm c)
     · rw [← md9_eq hp]; exact Wka.agg (WkaL.nrm q)
 · cases e
def o17 : List AV → Option AV
 | [v, .i .i64 ou, .i .i64 st, .agg [.i .i64 a, .i .i64 b, .i .i64 c, .i .i64 d]] => match nrm v with
  | .fz L m => (unrows 1 intV m L).bind fun l => bif decide (8 * l.length ≤ growMax) then some (swV (newS l ou st a b c d)) else none
  | _ => none
 | _ => none
theorem f17 {a : List AV} {v : AV} (e : o17 a = some v) : FTL Try.prog 17 a [] 0 v [] 0 := by
 unfold o17 at e
 split at e
 · rename_i x ou st a b c d
   split at e
   · rename_i L m hn
     simp only [Option.bind_eq_some_iff] at e
     obtain ⟨l, hl, e⟩ := e
     cases hd : decide (8 * l.length ≤ growMax)
     · rw [hd] at e; cases e
     · rw [hd] at e
       cases e
       obtain ⟨rfl, rfl⟩ := unrows_eq (f := int1) (fun c a h => intV_eq c a h) hl
       refine FTL.wka (xs := [x, .i .i64 ou, .i .i64 st, .agg [.i .i64 a, .i .i64 b, .i .i64 c, .i .i64 d]]) (ys := [.fz (rows int1 l) l.length, .i .i64 ou, .i .i64 st, .agg [.i .i64 a, .i .i64 b, .i .i64 c, .i .i64 d]]) ⟨?_, Wka.refl _, Wka.refl _, Wka.refl _, trivial⟩ (w17 l ou st a b c d (of_decide_eq_true hd))
       rw [← hn]; exact Wka.nrm x
   · cases e
 · cases e
def o14 : List AV → Option AV
 | [.agg c, .i .i64 la, .i .i64 ai] => (swA (c.map nrm)).bind fun s => bif decide (s.l.length ≤ 9223372036854775807) then some (swV (wantS s la ai)) else none
 | _ => none
theorem f14 {a : List AV} {v : AV} (e : o14 a = some v) : FTL Try.prog 14 a [] 0 v [] 0 := by
 unfold o14 at e
 split at e
 · rename_i c la ai
   simp only [Option.bind_eq_some_iff] at e
   obtain ⟨b, hb, e⟩ := e
   cases hd : decide (b.l.length ≤ 9223372036854775807)
   · rw [hd] at e; cases e
   · rw [hd] at e
     cases e
     refine FTL.wka (xs := [.agg c, .i .i64 la, .i .i64 ai]) (ys := [.agg b.a, .i .i64 la, .i .i64 ai]) ⟨?_, Wka.refl _, Wka.refl _, trivial⟩ (w14 b la ai (of_decide_eq_true hd))
     rw [← swA_eq hb]; exact Wka.agg (WkaL.nrm c)
 · cases e
def o10 : List AV → Option AV
 | [.agg c] => (swA (c.map nrm)).bind fun s => bif decide (s.l.length ≤ 9223372036854775807) then some (.tup [.i .i64 (needsS s).1, .i .i64 (needsS s).2]) else none
 | _ => none
theorem f10 {a : List AV} {v : AV} (e : o10 a = some v) : FTL Try.prog 10 a [] 0 v [] 0 := by
 unfold o10 at e
 split at e
 · rename_i c
   simp only [Option.bind_eq_some_iff] at e
   obtain ⟨b, hb, e⟩ := e
   cases hd : decide (b.l.length ≤ 9223372036854775807)
   · rw [hd] at e; cases e
   · rw [hd] at e
     cases e
     refine FTL.wka (xs := [.agg c]) (ys := [.agg b.a]) ⟨?_, trivial⟩ (w10 b (of_decide_eq_true hd))
     rw [← swA_eq hb]; exact Wka.agg (WkaL.nrm c)
 · cases e
def o65 : List AV → Option AV
 | [.agg [.b st, .b ky, .b sy, .b la, .i .i64 id, .i .i64 ba, .i .i64 te, .i .i64 sp]] => some (.tup [.s (if (Sh.mk st ky sy la id ba te sp).good then (Sh.mk st ky sy la id ba te sp).enc else []), .i .i64 (if (Sh.mk st ky sy la id ba te sp).good then 0 else 400)])
 | _ => none
theorem f65 {a : List AV} {v : AV} (e : o65 a = some v) : FTL Try.prog 65 a [] 0 v [] 0 := by
 unfold o65 at e
 split at e
 · cases e; exact w65 _ _ _ _ _ _ _ _
 · cases e
def o46 : List AV → Option AV
 | [.s l] => some (decV (dec l))
 | _ => none
theorem f46 {a : List AV} {v : AV} (e : o46 a = some v) : FTL Try.prog 46 a [] 0 v [] 0 := by
 unfold o46 at e
 split at e
 · cases e; exact w46 _
 · cases e
end Go.Proofs.Lys
end
section
/- works, computed. -/
namespace Go.Proofs.Lys
open Go.Ab
set_option maxRecDepth 100000
/- value .b true; none; entries 28; ops left 997; costs [0, 0, 0, 0, 0, 0, 0, 0, 0, 0, 0, 0, 0, 0, 0, 0, 0, 0, 0, 0, 0, 0, 0, 0, 0, 0, 0, 0] -/
def kM0 : List MEnt := []
theorem kM0_ok : MOK Try.prog kM0 := MOK.nil
def kE0 : MEnt := ⟨17, [.sl 0 0 2 2, .i .i64 5, .i .i64 3000, .agg [.i .i64 99, .i .i64 1000, .i .i64 9, .i .i64 4]], [(0, { cells := [.i .i64 10, .i .i64 20] })], 1, .tup [.agg [.fz [.i .i64 10, .i .i64 20] 2, .i .i64 5, .i .i64 3000, .i .i64 (-1), .i .i64 (-1), .i .i64 0, .i .i64 0, .i .i64 0, .i .i64 0, .b false, .i .i64 0, .i .i64 0, .i .i64 0, .i .i64 0, .i .i64 99, .i .i64 1000, .i .i64 9, .i .i64 4], .i .i64 0], [], 1⟩
theorem kE0_ok : kE0.ok Try.prog := MEnt.ok_give (aF := [.fz [.i .i64 10, .i .i64 20] 2, .i .i64 5, .i .i64 3000, .agg [.i .i64 99, .i .i64 1000, .i .i64 9, .i .i64 4]]) (by kernel_rfl) (by kernel_rfl) (by kernel_rfl) (by kernel_rfl) (f17 (by kernel_rfl))
def kM1 : List MEnt := kE0 :: kM0
theorem kM1_ok : MOK Try.prog kM1 := MOK.cons kE0_ok kM0_ok
def kE1 : MEnt := ⟨65, [.agg [.b true, .b true, .b false, .b true, .i .i64 300, .i .i64 7, .i .i64 0, .i .i64 0]], [], 0, .tup [.s [232, 129, 44, 7, 0], .i .i64 0], [], 0⟩
theorem kE1_ok : kE1.ok Try.prog := MEnt.ok_ext (by kernel_rfl) (f65 (by kernel_rfl))
def kM2 : List MEnt := kE1 :: kM1
theorem kM2_ok : MOK Try.prog kM2 := MOK.cons kE1_ok kM1_ok
def kE2 : MEnt := ⟨22, [.agg [.fz [.i .i64 10, .i .i64 20] 2, .i .i64 5, .i .i64 3000, .i .i64 (-1), .i .i64 (-1), .i .i64 0, .i .i64 0, .i .i64 0, .i .i64 0, .b false, .i .i64 0, .i .i64 0, .i .i64 0, .i .i64 0, .i .i64 99, .i .i64 1000, .i .i64 9, .i .i64 4], .agg [.b false, .i .i64 96, .i .i64 500, .i .i64 70000, .i .i64 10, .ns, .ns, .i .i64 0, .s [232, 129, 44, 7, 0, 97]]], [], 0, .tup [.agg [.fz [.i .i64 10, .i .i64 20] 2, .i .i64 5, .i .i64 3000, .i .i64 (-1), .i .i64 (-1), .i .i64 0, .i .i64 0, .i .i64 0, .i .i64 0, .b false, .i .i64 0, .i .i64 0, .i .i64 0, .i .i64 0, .i .i64 99, .i .i64 1000, .i .i64 9, .i .i64 4], .fz [] 0, .i .i64 0], [], 0⟩
theorem kE2_ok : kE2.ok Try.prog := MEnt.ok_ext (by kernel_rfl) (f22 (by kernel_rfl))
def kM3 : List MEnt := kE2 :: kM2
theorem kM3_ok : MOK Try.prog kM3 := MOK.cons kE2_ok kM2_ok
def kE3 : MEnt := ⟨10, [.agg [.fz [.i .i64 10, .i .i64 20] 2, .i .i64 5, .i .i64 3000, .i .i64 (-1), .i .i64 (-1), .i .i64 0, .i .i64 0, .i .i64 0, .i .i64 0, .b false, .i .i64 0, .i .i64 0, .i .i64 0, .i .i64 0, .i .i64 99, .i .i64 1000, .i .i64 9, .i .i64 4]], [], 0, .tup [.i .i64 0, .i .i64 4], [], 0⟩
theorem kE3_ok : kE3.ok Try.prog := MEnt.ok_ext (by kernel_rfl) (f10 (by kernel_rfl))
def kM4 : List MEnt := kE3 :: kM3
theorem kM4_ok : MOK Try.prog kM4 := MOK.cons kE3_ok kM3_ok
def kE4 : MEnt := ⟨14, [.agg [.fz [.i .i64 10, .i .i64 20] 2, .i .i64 5, .i .i64 3000, .i .i64 (-1), .i .i64 (-1), .i .i64 0, .i .i64 0, .i .i64 0, .i .i64 0, .b false, .i .i64 0, .i .i64 0, .i .i64 0, .i .i64 0, .i .i64 99, .i .i64 1000, .i .i64 9, .i .i64 4], .i .i64 0, .i .i64 1], [], 0, .tup [.agg [.fz [.i .i64 10, .i .i64 20] 2, .i .i64 5, .i .i64 3000, .i .i64 (-1), .i .i64 0, .i .i64 0, .i .i64 1, .i .i64 0, .i .i64 0, .b false, .i .i64 0, .i .i64 0, .i .i64 0, .i .i64 0, .i .i64 99, .i .i64 1000, .i .i64 9, .i .i64 4], .i .i64 0], [], 0⟩
theorem kE4_ok : kE4.ok Try.prog := MEnt.ok_ext (by kernel_rfl) (f14 (by kernel_rfl))
def kM5 : List MEnt := kE4 :: kM4
theorem kM5_ok : MOK Try.prog kM5 := MOK.cons kE4_ok kM4_ok
def kE5 : MEnt := ⟨10, [.agg [.fz [.i .i64 10, .i .i64 20] 2, .i .i64 5, .i .i64 3000, .i .i64 (-1), .i .i64 0, .i .i64 0, .i .i64 1, .i .i64 0, .i .i64 0, .b false, .i .i64 0, .i .i64 0, .i .i64 0, .i .i64 0, .i .i64 99, .i .i64 1000, .i .i64 9, .i .i64 4]], [], 0, .tup [.i .i64 0, .i .i64 0], [], 0⟩
theorem kE5_ok : kE5.ok Try.prog := MEnt.ok_ext (by kernel_rfl) (f10 (by kernel_rfl))
def kM6 : List MEnt := kE5 :: kM5
theorem kM6_ok : MOK Try.prog kM6 := MOK.cons kE5_ok kM5_ok
def kE6 : MEnt := ⟨22, [.agg [.fz [.i .i64 10, .i .i64 20] 2, .i .i64 5, .i .i64 3000, .i .i64 (-1), .i .i64 0, .i .i64 0, .i .i64 1, .i .i64 0, .i .i64 0, .b false, .i .i64 0, .i .i64 0, .i .i64 0, .i .i64 0, .i .i64 99, .i .i64 1000, .i .i64 9, .i .i64 4], .agg [.b false, .i .i64 96, .i .i64 500, .i .i64 70000, .i .i64 10, .ns, .ns, .i .i64 0, .s [232, 129, 44, 7, 0, 97]]], [], 0, .tup [.agg [.fz [.i .i64 10, .i .i64 20] 2, .i .i64 5, .i .i64 3000, .i .i64 0, .i .i64 0, .i .i64 0, .i .i64 1, .i .i64 500, .i .i64 300, .b true, .i .i64 65136, .i .i64 4294901296, .i .i64 32478, .i .i64 254, .i .i64 100, .i .i64 4000, .i .i64 10, .i .i64 5], .fz [.b false, .i .i64 96, .i .i64 100, .i .i64 4000, .i .i64 5, .fz [] 0, .fz [] 0, .i .i64 0, .s [232, 128, 10, 5, 0, 97]] 1, .i .i64 0], [], 0⟩
theorem kE6_ok : kE6.ok Try.prog := MEnt.ok_ext (by kernel_rfl) (f22 (by kernel_rfl))
def kM7 : List MEnt := kE6 :: kM6
theorem kM7_ok : MOK Try.prog kM7 := MOK.cons kE6_ok kM6_ok
def kE7 : MEnt := ⟨65, [.agg [.b true, .b false, .b false, .b true, .i .i64 301, .i .i64 7, .i .i64 1, .i .i64 0]], [], 0, .tup [.s [200, 129, 45, 7, 64], .i .i64 0], [], 0⟩
theorem kE7_ok : kE7.ok Try.prog := MEnt.ok_ext (by kernel_rfl) (f65 (by kernel_rfl))
def kM8 : List MEnt := kE7 :: kM7
theorem kM8_ok : MOK Try.prog kM8 := MOK.cons kE7_ok kM7_ok
def kE8 : MEnt := ⟨22, [.agg [.fz [.i .i64 10, .i .i64 20] 2, .i .i64 5, .i .i64 3000, .i .i64 0, .i .i64 0, .i .i64 0, .i .i64 1, .i .i64 500, .i .i64 300, .b true, .i .i64 65136, .i .i64 4294901296, .i .i64 32478, .i .i64 254, .i .i64 100, .i .i64 4000, .i .i64 10, .i .i64 5], .agg [.b false, .i .i64 96, .i .i64 501, .i .i64 73000, .i .i64 10, .ns, .ns, .i .i64 0, .s [200, 129, 45, 7, 64, 97]]], [], 0, .tup [.agg [.fz [.i .i64 10, .i .i64 20] 2, .i .i64 5, .i .i64 3000, .i .i64 0, .i .i64 0, .i .i64 0, .i .i64 1, .i .i64 501, .i .i64 301, .b false, .i .i64 65135, .i .i64 4294901296, .i .i64 32477, .i .i64 254, .i .i64 100, .i .i64 4000, .i .i64 10, .i .i64 5], .fz [] 0, .i .i64 0], [], 0⟩
theorem kE8_ok : kE8.ok Try.prog := MEnt.ok_ext (by kernel_rfl) (f22 (by kernel_rfl))
def kM9 : List MEnt := kE8 :: kM8
theorem kM9_ok : MOK Try.prog kM9 := MOK.cons kE8_ok kM8_ok
def kE9 : MEnt := ⟨65, [.agg [.b true, .b false, .b false, .b true, .i .i64 302, .i .i64 8, .i .i64 0, .i .i64 0]], [], 0, .tup [.s [200, 129, 46, 8, 0], .i .i64 0], [], 0⟩
theorem kE9_ok : kE9.ok Try.prog := MEnt.ok_ext (by kernel_rfl) (f65 (by kernel_rfl))
def kM10 : List MEnt := kE9 :: kM9
theorem kM10_ok : MOK Try.prog kM10 := MOK.cons kE9_ok kM9_ok
def kE10 : MEnt := ⟨22, [.agg [.fz [.i .i64 10, .i .i64 20] 2, .i .i64 5, .i .i64 3000, .i .i64 0, .i .i64 0, .i .i64 0, .i .i64 1, .i .i64 501, .i .i64 301, .b false, .i .i64 65135, .i .i64 4294901296, .i .i64 32477, .i .i64 254, .i .i64 100, .i .i64 4000, .i .i64 10, .i .i64 5], .agg [.b false, .i .i64 96, .i .i64 502, .i .i64 76000, .i .i64 10, .ns, .ns, .i .i64 0, .s [200, 129, 46, 8, 0, 97]]], [], 0, .tup [.agg [.fz [.i .i64 10, .i .i64 20] 2, .i .i64 5, .i .i64 3000, .i .i64 0, .i .i64 0, .i .i64 0, .i .i64 1, .i .i64 502, .i .i64 302, .b true, .i .i64 65135, .i .i64 4294901296, .i .i64 32477, .i .i64 254, .i .i64 101, .i .i64 10000, .i .i64 11, .i .i64 6], .fz [.b false, .i .i64 96, .i .i64 101, .i .i64 10000, .i .i64 5, .fz [] 0, .fz [] 0, .i .i64 0, .s [200, 128, 11, 6, 0, 97]] 1, .i .i64 0], [], 0⟩
theorem kE10_ok : kE10.ok Try.prog := MEnt.ok_ext (by kernel_rfl) (f22 (by kernel_rfl))
def kM11 : List MEnt := kE10 :: kM10
theorem kM11_ok : MOK Try.prog kM11 := MOK.cons kE10_ok kM10_ok
def kE11 : MEnt := ⟨65, [.agg [.b true, .b false, .b true, .b true, .i .i64 303, .i .i64 8, .i .i64 1, .i .i64 0]], [], 0, .tup [.s [216, 129, 47, 8, 64], .i .i64 0], [], 0⟩
theorem kE11_ok : kE11.ok Try.prog := MEnt.ok_ext (by kernel_rfl) (f65 (by kernel_rfl))
def kM12 : List MEnt := kE11 :: kM11
theorem kM12_ok : MOK Try.prog kM12 := MOK.cons kE11_ok kM11_ok
def kE12 : MEnt := ⟨22, [.agg [.fz [.i .i64 10, .i .i64 20] 2, .i .i64 5, .i .i64 3000, .i .i64 0, .i .i64 0, .i .i64 0, .i .i64 1, .i .i64 502, .i .i64 302, .b true, .i .i64 65135, .i .i64 4294901296, .i .i64 32477, .i .i64 254, .i .i64 101, .i .i64 10000, .i .i64 11, .i .i64 6], .agg [.b false, .i .i64 96, .i .i64 503, .i .i64 79000, .i .i64 10, .ns, .ns, .i .i64 0, .s [216, 129, 47, 8, 64, 97]]], [], 0, .tup [.agg [.fz [.i .i64 10, .i .i64 20] 2, .i .i64 5, .i .i64 3000, .i .i64 0, .i .i64 0, .i .i64 1, .i .i64 1, .i .i64 503, .i .i64 303, .b true, .i .i64 65135, .i .i64 4294901296, .i .i64 32477, .i .i64 254, .i .i64 102, .i .i64 13000, .i .i64 12, .i .i64 6], .fz [.b false, .i .i64 96, .i .i64 102, .i .i64 13000, .i .i64 5, .fz [] 0, .fz [] 0, .i .i64 0, .s [216, 128, 12, 6, 64, 97]] 1, .i .i64 0], [], 0⟩
theorem kE12_ok : kE12.ok Try.prog := MEnt.ok_ext (by kernel_rfl) (f22 (by kernel_rfl))
def kM13 : List MEnt := kE12 :: kM12
theorem kM13_ok : MOK Try.prog kM13 := MOK.cons kE12_ok kM12_ok
def kE13 : MEnt := ⟨22, [.agg [.fz [.i .i64 10, .i .i64 20] 2, .i .i64 5, .i .i64 3000, .i .i64 0, .i .i64 0, .i .i64 1, .i .i64 1, .i .i64 503, .i .i64 303, .b true, .i .i64 65135, .i .i64 4294901296, .i .i64 32477, .i .i64 254, .i .i64 102, .i .i64 13000, .i .i64 12, .i .i64 6], .agg [.b false, .i .i64 96, .i .i64 503, .i .i64 79000, .i .i64 10, .ns, .ns, .i .i64 0, .s [216, 129, 47, 8, 64, 97]]], [], 0, .tup [.agg [.fz [.i .i64 10, .i .i64 20] 2, .i .i64 5, .i .i64 3000, .i .i64 0, .i .i64 0, .i .i64 1, .i .i64 1, .i .i64 503, .i .i64 303, .b true, .i .i64 65135, .i .i64 4294901296, .i .i64 32477, .i .i64 254, .i .i64 102, .i .i64 13000, .i .i64 12, .i .i64 6], .fz [] 0, .i .i64 0], [], 0⟩
theorem kE13_ok : kE13.ok Try.prog := MEnt.ok_ext (by kernel_rfl) (f22 (by kernel_rfl))
def kM14 : List MEnt := kE13 :: kM13
theorem kM14_ok : MOK Try.prog kM14 := MOK.cons kE13_ok kM13_ok
def kE14 : MEnt := ⟨22, [.agg [.fz [.i .i64 10, .i .i64 20] 2, .i .i64 5, .i .i64 3000, .i .i64 0, .i .i64 0, .i .i64 1, .i .i64 1, .i .i64 503, .i .i64 303, .b true, .i .i64 65135, .i .i64 4294901296, .i .i64 32477, .i .i64 254, .i .i64 102, .i .i64 13000, .i .i64 12, .i .i64 6], .agg [.b false, .i .i64 96, .i .i64 502, .i .i64 76000, .i .i64 10, .ns, .ns, .i .i64 0, .s [200, 129, 46, 8, 0, 97]]], [], 0, .tup [.agg [.fz [.i .i64 10, .i .i64 20] 2, .i .i64 5, .i .i64 3000, .i .i64 0, .i .i64 0, .i .i64 1, .i .i64 1, .i .i64 503, .i .i64 303, .b true, .i .i64 65135, .i .i64 4294901296, .i .i64 32477, .i .i64 254, .i .i64 102, .i .i64 13000, .i .i64 12, .i .i64 6], .fz [] 0, .i .i64 0], [], 0⟩
theorem kE14_ok : kE14.ok Try.prog := MEnt.ok_ext (by kernel_rfl) (f22 (by kernel_rfl))
def kM15 : List MEnt := kE14 :: kM14
theorem kM15_ok : MOK Try.prog kM15 := MOK.cons kE14_ok kM14_ok
def kE15 : MEnt := ⟨14, [.agg [.fz [.i .i64 10, .i .i64 20] 2, .i .i64 5, .i .i64 3000, .i .i64 0, .i .i64 0, .i .i64 1, .i .i64 1, .i .i64 503, .i .i64 303, .b true, .i .i64 65135, .i .i64 4294901296, .i .i64 32477, .i .i64 254, .i .i64 102, .i .i64 13000, .i .i64 12, .i .i64 6], .i .i64 1, .i .i64 1], [], 0, .tup [.agg [.fz [.i .i64 10, .i .i64 20] 2, .i .i64 5, .i .i64 3000, .i .i64 0, .i .i64 1, .i .i64 1, .i .i64 1, .i .i64 503, .i .i64 303, .b true, .i .i64 65135, .i .i64 4294901296, .i .i64 32477, .i .i64 254, .i .i64 102, .i .i64 13000, .i .i64 12, .i .i64 6], .i .i64 0], [], 0⟩
theorem kE15_ok : kE15.ok Try.prog := MEnt.ok_ext (by kernel_rfl) (f14 (by kernel_rfl))
def kM16 : List MEnt := kE15 :: kM15
theorem kM16_ok : MOK Try.prog kM16 := MOK.cons kE15_ok kM15_ok
def kE16 : MEnt := ⟨65, [.agg [.b true, .b false, .b false, .b true, .i .i64 304, .i .i64 9, .i .i64 0, .i .i64 0]], [], 0, .tup [.s [200, 129, 48, 9, 0], .i .i64 0], [], 0⟩
theorem kE16_ok : kE16.ok Try.prog := MEnt.ok_ext (by kernel_rfl) (f65 (by kernel_rfl))
def kM17 : List MEnt := kE16 :: kM16
theorem kM17_ok : MOK Try.prog kM17 := MOK.cons kE16_ok kM16_ok
def kE17 : MEnt := ⟨22, [.agg [.fz [.i .i64 10, .i .i64 20] 2, .i .i64 5, .i .i64 3000, .i .i64 0, .i .i64 1, .i .i64 1, .i .i64 1, .i .i64 503, .i .i64 303, .b true, .i .i64 65135, .i .i64 4294901296, .i .i64 32477, .i .i64 254, .i .i64 102, .i .i64 13000, .i .i64 12, .i .i64 6], .agg [.b false, .i .i64 96, .i .i64 504, .i .i64 82000, .i .i64 10, .ns, .ns, .i .i64 0, .s [200, 129, 48, 9, 0, 97]]], [], 0, .tup [.agg [.fz [.i .i64 10, .i .i64 20] 2, .i .i64 5, .i .i64 3000, .i .i64 0, .i .i64 1, .i .i64 1, .i .i64 1, .i .i64 504, .i .i64 304, .b true, .i .i64 65135, .i .i64 4294901296, .i .i64 32477, .i .i64 254, .i .i64 103, .i .i64 16000, .i .i64 13, .i .i64 7], .fz [.b false, .i .i64 96, .i .i64 103, .i .i64 16000, .i .i64 5, .fz [] 0, .fz [] 0, .i .i64 0, .s [200, 128, 13, 7, 0, 97]] 1, .i .i64 0], [], 0⟩
theorem kE17_ok : kE17.ok Try.prog := MEnt.ok_ext (by kernel_rfl) (f22 (by kernel_rfl))
def kM18 : List MEnt := kE17 :: kM17
theorem kM18_ok : MOK Try.prog kM18 := MOK.cons kE17_ok kM17_ok
def kE18 : MEnt := ⟨65, [.agg [.b true, .b true, .b false, .b true, .i .i64 0, .i .i64 200, .i .i64 0, .i .i64 0]], [], 0, .tup [.s [232, 128, 0, 200, 0], .i .i64 0], [], 0⟩
theorem kE18_ok : kE18.ok Try.prog := MEnt.ok_ext (by kernel_rfl) (f65 (by kernel_rfl))
def kM19 : List MEnt := kE18 :: kM18
theorem kM19_ok : MOK Try.prog kM19 := MOK.cons kE18_ok kM18_ok
def kE19 : MEnt := ⟨22, [.agg [.fz [.i .i64 10, .i .i64 20] 2, .i .i64 5, .i .i64 3000, .i .i64 0, .i .i64 1, .i .i64 1, .i .i64 1, .i .i64 504, .i .i64 304, .b true, .i .i64 65135, .i .i64 4294901296, .i .i64 32477, .i .i64 254, .i .i64 103, .i .i64 16000, .i .i64 13, .i .i64 7], .agg [.b false, .i .i64 96, .i .i64 7, .i .i64 5, .i .i64 20, .ns, .ns, .i .i64 0, .s [232, 128, 0, 200, 0, 97]]], [], 0, .tup [.agg [.fz [.i .i64 10, .i .i64 20] 2, .i .i64 5, .i .i64 3000, .i .i64 1, .i .i64 1, .i .i64 0, .i .i64 1, .i .i64 7, .i .i64 0, .b true, .i .i64 97, .i .i64 18995, .i .i64 14, .i .i64 64, .i .i64 104, .i .i64 19000, .i .i64 14, .i .i64 8], .fz [.b false, .i .i64 96, .i .i64 104, .i .i64 19000, .i .i64 5, .fz [] 0, .fz [] 0, .i .i64 0, .s [232, 128, 14, 8, 0, 97]] 1, .i .i64 0], [], 0⟩
theorem kE19_ok : kE19.ok Try.prog := MEnt.ok_ext (by kernel_rfl) (f22 (by kernel_rfl))
def kM20 : List MEnt := kE19 :: kM19
theorem kM20_ok : MOK Try.prog kM20 := MOK.cons kE19_ok kM19_ok
def kE20 : MEnt := ⟨22, [.agg [.fz [.i .i64 10, .i .i64 20] 2, .i .i64 5, .i .i64 3000, .i .i64 0, .i .i64 1, .i .i64 1, .i .i64 1, .i .i64 504, .i .i64 304, .b true, .i .i64 65135, .i .i64 4294901296, .i .i64 32477, .i .i64 254, .i .i64 103, .i .i64 16000, .i .i64 13, .i .i64 7], .agg [.b false, .i .i64 0, .i .i64 0, .i .i64 0, .i .i64 30, .ns, .ns, .i .i64 0, .s []]], [], 0, .tup [.agg [.fz [] 0, .i .i64 0, .i .i64 0, .i .i64 0, .i .i64 0, .i .i64 0, .i .i64 0, .i .i64 0, .i .i64 0, .b false, .i .i64 0, .i .i64 0, .i .i64 0, .i .i64 0, .i .i64 0, .i .i64 0, .i .i64 0, .i .i64 0], .fz [] 0, .i .i64 4], [], 0⟩
theorem kE20_ok : kE20.ok Try.prog := MEnt.ok_ext (by kernel_rfl) (f22 (by kernel_rfl))
def kM21 : List MEnt := kE20 :: kM20
theorem kM21_ok : MOK Try.prog kM21 := MOK.cons kE20_ok kM20_ok
def kE21 : MEnt := ⟨22, [.agg [.fz [.i .i64 10, .i .i64 20] 2, .i .i64 5, .i .i64 3000, .i .i64 0, .i .i64 1, .i .i64 1, .i .i64 1, .i .i64 504, .i .i64 304, .b true, .i .i64 65135, .i .i64 4294901296, .i .i64 32477, .i .i64 254, .i .i64 103, .i .i64 16000, .i .i64 13, .i .i64 7], .agg [.b false, .i .i64 0, .i .i64 0, .i .i64 0, .i .i64 10, .ns, .ns, .i .i64 0, .s [97, 98, 99, 100]]], [], 0, .tup [.agg [.fz [] 0, .i .i64 0, .i .i64 0, .i .i64 0, .i .i64 0, .i .i64 0, .i .i64 0, .i .i64 0, .i .i64 0, .b false, .i .i64 0, .i .i64 0, .i .i64 0, .i .i64 0, .i .i64 0, .i .i64 0, .i .i64 0, .i .i64 0], .fz [] 0, .i .i64 7], [], 0⟩
theorem kE21_ok : kE21.ok Try.prog := MEnt.ok_ext (by kernel_rfl) (f22 (by kernel_rfl))
def kM22 : List MEnt := kE21 :: kM21
theorem kM22_ok : MOK Try.prog kM22 := MOK.cons kE21_ok kM21_ok
def kE22 : MEnt := ⟨14, [.agg [.fz [.i .i64 10, .i .i64 20] 2, .i .i64 5, .i .i64 3000, .i .i64 0, .i .i64 1, .i .i64 1, .i .i64 1, .i .i64 504, .i .i64 304, .b true, .i .i64 65135, .i .i64 4294901296, .i .i64 32477, .i .i64 254, .i .i64 103, .i .i64 16000, .i .i64 13, .i .i64 7], .i .i64 2, .i .i64 0], [], 0, .tup [.agg [.fz [] 0, .i .i64 0, .i .i64 0, .i .i64 0, .i .i64 0, .i .i64 0, .i .i64 0, .i .i64 0, .i .i64 0, .b false, .i .i64 0, .i .i64 0, .i .i64 0, .i .i64 0, .i .i64 0, .i .i64 0, .i .i64 0, .i .i64 0], .i .i64 2], [], 0⟩
theorem kE22_ok : kE22.ok Try.prog := MEnt.ok_ext (by kernel_rfl) (f14 (by kernel_rfl))
def kM23 : List MEnt := kE22 :: kM22
theorem kM23_ok : MOK Try.prog kM23 := MOK.cons kE22_ok kM22_ok
def kE23 : MEnt := ⟨46, [.s [232, 128, 10, 5, 0, 97]], [], 0, .tup [.agg [.b true, .b true, .b false, .b true, .i .i64 10, .i .i64 5, .i .i64 0, .i .i64 0], .s [97], .i .i64 0], [], 0⟩
theorem kE23_ok : kE23.ok Try.prog := MEnt.ok_ext (by kernel_rfl) (f46 (by kernel_rfl))
def kM24 : List MEnt := kE23 :: kM23
theorem kM24_ok : MOK Try.prog kM24 := MOK.cons kE23_ok kM23_ok
def kE24 : MEnt := ⟨46, [.s [200, 128, 11, 6, 0, 97]], [], 0, .tup [.agg [.b true, .b false, .b false, .b true, .i .i64 11, .i .i64 6, .i .i64 0, .i .i64 0], .s [97], .i .i64 0], [], 0⟩
theorem kE24_ok : kE24.ok Try.prog := MEnt.ok_ext (by kernel_rfl) (f46 (by kernel_rfl))
def kM25 : List MEnt := kE24 :: kM24
theorem kM25_ok : MOK Try.prog kM25 := MOK.cons kE24_ok kM24_ok
def kE25 : MEnt := ⟨46, [.s [216, 128, 12, 6, 64, 97]], [], 0, .tup [.agg [.b true, .b false, .b true, .b true, .i .i64 12, .i .i64 6, .i .i64 1, .i .i64 0], .s [97], .i .i64 0], [], 0⟩
theorem kE25_ok : kE25.ok Try.prog := MEnt.ok_ext (by kernel_rfl) (f46 (by kernel_rfl))
def kM26 : List MEnt := kE25 :: kM25
theorem kM26_ok : MOK Try.prog kM26 := MOK.cons kE25_ok kM25_ok
def kE26 : MEnt := ⟨46, [.s [200, 128, 13, 7, 0, 97]], [], 0, .tup [.agg [.b true, .b false, .b false, .b true, .i .i64 13, .i .i64 7, .i .i64 0, .i .i64 0], .s [97], .i .i64 0], [], 0⟩
theorem kE26_ok : kE26.ok Try.prog := MEnt.ok_ext (by kernel_rfl) (f46 (by kernel_rfl))
def kM27 : List MEnt := kE26 :: kM26
theorem kM27_ok : MOK Try.prog kM27 := MOK.cons kE26_ok kM26_ok
def kE27 : MEnt := ⟨46, [.s [232, 128, 14, 8, 0, 97]], [], 0, .tup [.agg [.b true, .b true, .b false, .b true, .i .i64 14, .i .i64 8, .i .i64 0, .i .i64 0], .s [97], .i .i64 0], [], 0⟩
theorem kE27_ok : kE27.ok Try.prog := MEnt.ok_ext (by kernel_rfl) (f46 (by kernel_rfl))
def kM28 : List MEnt := kE27 :: kM27
theorem kM28_ok : MOK Try.prog kM28 := MOK.cons kE27_ok kM27_ok
theorem tk : (xFn (runM kM28 TK 10000) i19 [] [] 0).map (·.1) = some (.b true) := by kernel_rfl
theorem w19 : FTL Try.prog 19 [] [] 0 (.b true) [] 0 := FTL.of_runM 10000 mo kM28_ok TK_valid Try.func19 i19_eq tk rfl
end Go.Proofs.Lys
end
