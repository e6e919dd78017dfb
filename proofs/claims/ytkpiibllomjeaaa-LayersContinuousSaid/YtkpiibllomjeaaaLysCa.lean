/- Texts laid as one: LysC1 LysC2 LysC3. -/
import Derived.Test.YtkpiibllomjeaaaLysIR
import Derived.Test.YtkpiibllomjeaaaAbRead
import Derived.Test.YtkpiibllomjeaaaAbLoops
import Derived.Test.YtkpiibllomjeaaaAbFzs
import Derived.Test.YtkpiibllomjeaaaAbDfrs
section
/- Contracts of chapter 41's small functions. -/
namespace Go.Proofs.Lys
open Go.Ab
set_option maxRecDepth 100000
set_option maxHeartbeats 4000000
set_option linter.unusedSimpArgs false
set_option linter.unusedVariables false
theorem mo : Try.prog.follows .mixedOrders = true := by kernel_rfl
def inI (lo hi x : Int) : Bool := decide (lo ≤ x) && decide (x ≤ hi)
theorem w49 (lo x hi : Int) : FTL Try.prog 49 [.i .i64 lo, .i .i64 x, .i .i64 hi] [] 0 (.b (inI lo hi x)) [] 0 := by
 refine FTL.of_iw Sound.nil mo Try.func49 i49_eq (by simp [i49]) (iw_of_jw ?_)
 dsimp only [i49]
 simp (maxSteps := 400000) only [go_sem, simprocAttr]
 repeat' (first | refine spB_i (fun _ => ?_) (fun _ => ?_) | refine andB_i ?_ ?_)
 all_goals (refine Ends.pureE rfl (congrArg _ ?_); simp [inI] at *; try omega)
def k49 : Ct
 | [.i .i64 lo, .i .i64 x, .i .i64 hi], _, n => some (true, { v := .b (inI lo hi x), n })
 | _, _, _ => none
theorem s49 : SoundAt Try.prog 49 k49 := fun args h n c E hc ht => by
 unfold k49 at hc
 split at hc
 · cases hc; exact CallOK.pure (by kernel_rfl) rfl rfl (w49 _ _ _) _ _
 · cases hc
theorem w54 (x hi : Int) : FTL Try.prog 54 [.i .i64 x, .i .i64 hi] [] 0 (.b (inI 0 (hi - 1) x)) [] 0 := by
 refine FTL.of_iw Sound.nil mo Try.func54 i54_eq (by simp [i54]) (iw_of_jw ?_)
 dsimp only [i54]
 simp (maxSteps := 400000) only [go_sem, simprocAttr]
 repeat' (first | refine spB_i (fun _ => ?_) (fun _ => ?_) | refine andB_i ?_ ?_)
 all_goals (refine Ends.pureE rfl (congrArg _ ?_); simp only [inI]; grind)
def k54 : Ct
 | [.i .i64 x, .i .i64 hi], _, n => some (true, { v := .b (inI 0 (hi - 1) x), n })
 | _, _, _ => none
theorem s54 : SoundAt Try.prog 54 k54 := fun args h n c E hc ht => by
 unfold k54 at hc
 split at hc
 · cases hc; exact CallOK.pure (by kernel_rfl) rfl rfl (w54 _ _) _ _
 · cases hc
theorem w8k (x : Int) : (x == IntKind.i64.wrap (IntKind.u8.wrap x)) = inI 0 255 x := by
 rw [wrapU8, wrapL (by omega) (by omega), Bool.eq_iff_iff]; simp [inI]; omega
theorem w16k (x : Int) : (x == IntKind.i64.wrap (IntKind.u16.wrap x)) = inI 0 65535 x := by
 rw [wrapU16, wrapL (by omega) (by omega), Bool.eq_iff_iff]; simp [inI]; omega
theorem w32k (x : Int) : (x == IntKind.i64.wrap (IntKind.u32.wrap x)) = inI 0 4294967295 x := by
 rw [wrapU32, wrapL (by omega) (by omega), Bool.eq_iff_iff]; simp [inI]; omega
theorem wIDk (x : Int) : (x == andI .i64 x 32767) = inI 0 32767 x := by
 rw [and15, Bool.eq_iff_iff]; simp [inI]; omega
def numB (s t i b : Int) : Bool := inI 0 65535 s && (inI 0 4294967295 t && (inI 0 32767 i && inI 0 255 b))
theorem w51 (s t i b : Int) : FTL Try.prog 51 [.agg [.i .i64 s, .i .i64 t, .i .i64 i, .i .i64 b]] [] 0 (.b (numB s t i b)) [] 0 := by
 refine FTL.of_iw Sound.nil mo Try.func51 i51_eq (by simp [i51]) (iw_of_jw ?_)
 dsimp only [i51]
 simp (maxSteps := 400000) only [go_sem, w8k, w16k, w32k, wIDk, simprocAttr]
 repeat' (first | refine spB_i (fun _ => ?_) (fun _ => ?_) | refine andB_i ?_ ?_)
 all_goals (refine Ends.pureE rfl (congrArg _ ?_); simp [numB, *])
def k51 : Ct
 | [.agg [.i .i64 s, .i .i64 t, .i .i64 i, .i .i64 b]], _, n => some (true, { v := .b (numB s t i b), n })
 | _, _, _ => none
theorem s51 : SoundAt Try.prog 51 k51 := fun args h n c E hc ht => by
 unfold k51 at hc
 split at hc
 · cases hc; exact CallOK.pure (by kernel_rfl) rfl rfl (w51 _ _ _ _) _ _
 · cases hc
def T71 : List (Nat × Ct) := [(54, k54)]
theorem hT71 : Sound Try.prog (cxT T71) := Sound.cons s54 Sound.nil
theorem w71 (s t i b : Int) : FTL Try.prog 71 [.agg [.i .i64 s, .i .i64 t, .i .i64 i, .i .i64 b]] [] 0 (.b (numB s t i b)) [] 0 := by
 refine FTL.of_iw hT71 mo Try.func71 i71_eq (by simp [i71]) (iw_of_jw ?_)
 dsimp only [i71, T71]
 have e1 : ((65536 : Int) - 1) = 65535 := rfl
 have e2 : ((4294967296 : Int) - 1) = 4294967295 := rfl
 have e3 : ((32768 : Int) - 1) = 32767 := rfl
 have e4 : ((256 : Int) - 1) = 255 := rfl
 simp (maxSteps := 400000) only [go_sem, k54, e1, e2, e3, e4, simprocAttr]
 repeat' (first | refine spB_i (fun _ => ?_) (fun _ => ?_) | refine andB_i ?_ ?_)
 all_goals (refine Ends.pureE rfl (congrArg _ ?_); simp [numB, *])
theorem s71 : SoundAt Try.prog 71 k51 := fun args h n c E hc ht => by
 unfold k51 at hc
 split at hc
 · cases hc; exact CallOK.pure (by kernel_rfl) rfl rfl (w71 _ _ _ _) _ _
 · cases hc
/-! switches -/
structure Sw where
 l : List Int
 ou : Int
 st : Int
 nw : Int
 wa : Int
 ca : Int
 ai : Int
 tp : Int
 fr : Int
 kp : Bool
 sq : Int
 tm : Int
 id : Int
 ba : Int
 ss : Int
 sT : Int
 si : Int
 sb : Int
def Sw.c (s : Sw) (v : AV) : List AV := [v, .i .i64 s.ou, .i .i64 s.st, .i .i64 s.nw, .i .i64 s.wa, .i .i64 s.ca, .i .i64 s.ai, .i .i64 s.tp, .i .i64 s.fr, .b s.kp, .i .i64 s.sq, .i .i64 s.tm, .i .i64 s.id, .i .i64 s.ba, .i .i64 s.ss, .i .i64 s.sT, .i .i64 s.si, .i .i64 s.sb]
def Sw.a (s : Sw) : List AV := [.fz (rows int1 s.l) s.l.length, .i .i64 s.ou, .i .i64 s.st, .i .i64 s.nw, .i .i64 s.wa, .i .i64 s.ca, .i .i64 s.ai, .i .i64 s.tp, .i .i64 s.fr, .b s.kp, .i .i64 s.sq, .i .i64 s.tm, .i .i64 s.id, .i .i64 s.ba, .i .i64 s.ss, .i .i64 s.sT, .i .i64 s.si, .i .i64 s.sb]
theorem ib (j : Nat) (l : List Int) : belL j (rows int1 l) = true := belL_mono0 _ (rows_bel int1_bel)
theorem Sw.bel (j : Nat) (s : Sw) : belL j s.a = true := by simp only [Sw.a, belL, AV.bel, ib, Bool.and_self]
theorem i_un (l : List Int) : unrows 1 intV l.length (rows int1 l) = some l := unrows_rows int1_len (fun a => rfl) l
def swA : List AV → Option Sw
 | [.fz L m, .i .i64 ou, .i .i64 st, .i .i64 nw, .i .i64 wa, .i .i64 ca, .i .i64 ai, .i .i64 tp, .i .i64 fr, .b kp, .i .i64 sq, .i .i64 tm, .i .i64 id, .i .i64 ba, .i .i64 ss, .i .i64 sT, .i .i64 si, .i .i64 sb] =>
  (unrows 1 intV m L).bind fun l => some ⟨l, ou, st, nw, wa, ca, ai, tp, fr, kp, sq, tm, id, ba, ss, sT, si, sb⟩
 | _ => none
theorem swA_a (s : Sw) : swA s.a = some s := by
 obtain ⟨l, ou, st, nw, wa, ca, ai, tp, fr, kp, sq, tm, id, ba, ss, sT, si, sb⟩ := s
 simp only [swA, Sw.a, i_un, Option.bind_some]
theorem swA_eq {c : List AV} {s : Sw} (e : swA c = some s) : c = s.a := by
 unfold swA at e
 split at e
 · simp only [Option.bind_eq_some_iff, Option.some.injEq] at e
   obtain ⟨l, hl, rfl⟩ := e
   obtain ⟨rfl, hm⟩ := unrows_eq (f := int1) (fun c a h => intV_eq c a h) hl
   subst hm
   rfl
 · cases e
theorem w52 (s : Sw) : FTL Try.prog 52 [.agg s.a] [] 0 (.agg [.i .i64 s.sq, .i .i64 s.tm, .i .i64 s.id, .i .i64 s.ba]) [] 0 := by
 refine FTL.of_iw Sound.nil mo Try.func52 i52_eq (by simp [i52]) (iw_of_jw ?_)
 dsimp only [i52]
 simp only [Sw.a]
 simp (maxSteps := 400000) only [go_sem, simprocAttr]
 exact Ends.pureE rfl rfl
theorem w56 (s : Sw) : FTL Try.prog 56 [.agg s.a] [] 0 (.agg [.i .i64 s.sq, .i .i64 s.tm, .i .i64 s.id, .i .i64 s.ba]) [] 0 := by
 refine FTL.of_iw Sound.nil mo Try.func56 i56_eq (by simp [i56]) (iw_of_jw ?_)
 dsimp only [i56]
 simp only [Sw.a]
 simp (maxSteps := 400000) only [go_sem, simprocAttr]
 exact Ends.pureE rfl rfl
def k52 : Ct
 | [.agg c], _, n => (swA c).bind fun s => some (true, { v := .agg [.i .i64 s.sq, .i .i64 s.tm, .i .i64 s.id, .i .i64 s.ba], n })
 | _, _, _ => none
theorem s52 : SoundAt Try.prog 52 k52 := fun args h n c E hc ht => by
 unfold k52 at hc
 split at hc
 · simp only [Option.bind_eq_some_iff, Option.some.injEq, Prod.mk.injEq] at hc
   obtain ⟨s, hs, _, rfl⟩ := hc
   rw [swA_eq hs]
   exact CallOK.pure (by kernel_rfl) (by simp only [belL, AV.bel, Sw.bel, Bool.and_self]) rfl (w52 _) _ _
 · cases hc
theorem s56 : SoundAt Try.prog 56 k52 := fun args h n c E hc ht => by
 unfold k52 at hc
 split at hc
 · simp only [Option.bind_eq_some_iff, Option.some.injEq, Prod.mk.injEq] at hc
   obtain ⟨s, hs, _, rfl⟩ := hc
   rw [swA_eq hs]
   exact CallOK.pure (by kernel_rfl) (by simp only [belL, AV.bel, Sw.bel, Bool.and_self]) rfl (w56 _) _ _
 · cases hc
end Go.Proofs.Lys
end
section
/- Chapter 41: lists of Ssrcs; valid switches (Check, Right). -/
namespace Go.Proofs.Lys
open Go.Ab
set_option maxRecDepth 100000
set_option maxHeartbeats 4000000
set_option linter.unusedSimpArgs false
set_option linter.unusedVariables false
def ixS (l : List Int) (x : Int) : Int := ixf (fun y => x == y) l 0
theorem len3 {l : List Int} (h : l.length ≤ 3) : l = [] ∨ (∃ a, l = [a]) ∨ (∃ a b, l = [a, b]) ∨ ∃ a b c, l = [a, b, c] := by
 match l, h with
 | [], _ => exact .inl rfl
 | [a], _ => exact .inr (.inl ⟨a, rfl⟩)
 | [a, b], _ => exact .inr (.inr (.inl ⟨a, b, rfl⟩))
 | [a, b, c], _ => exact .inr (.inr (.inr ⟨a, b, c, rfl⟩))
 | _ :: _ :: _ :: _ :: _, h => exact absurd h (by simp)
theorem w58 (l : List Int) (x : Int) (hl : l.length ≤ 3) : FTL Try.prog 58 [.fz (rows int1 l) l.length, .i .i64 x] [] 0 (.i .i64 (ixS l x)) [] 0 := by
 refine FTL.of_iw Sound.nil mo Try.func58 i58_eq (by simp [i58]) (iw_of_jw ?_)
 dsimp only [i58]
 rcases len3 hl with rfl | ⟨a, rfl⟩ | ⟨a, b, rfl⟩ | ⟨a, b, c, rfl⟩
 all_goals (
  simp only [rows, int1, List.map_cons, List.map_nil, List.flatten_cons, List.flatten_nil, List.append_nil, List.cons_append, List.nil_append, List.length_cons, List.length_nil]
  simp (maxSteps := 400000) only [go_sem, simprocAttr]
  refine Loop.rounds (F := ⟨Try.prog, cxT [], [9, 16], 19, 0⟩) 4 Sound.nil mo ?_
  simp (maxSteps := 400000) only [go_sem, simprocAttr]
  repeat' (first | refine spB_i (fun _ => ?_) (fun _ => ?_) | refine andB_i ?_ ?_)
  all_goals (refine Ends.pureE rfl (congrArg _ ?_); simp only [ixS, ixf, *]; try rfl))
def k58 : Ct
 | [v, .i .i64 x], h, n => vwK h 1 v fun rd m cs ok => (unrows 1 intV m cs).bind fun l => some (ok && decide (l.length ≤ 3), { v := .i .i64 (ixS l x), n, rd })
 | _, _, _ => none
theorem s58 : SoundAt Try.prog 58 k58 := fun args h n c E hc ht => by
 unfold k58 at hc
 split at hc
 · rename_i v x
   rw [vwK_eq] at hc
   simp only [Option.bind_eq_some_iff, Option.some.injEq, Prod.mk.injEq] at hc
   obtain ⟨⟨rd, m, cs, ok⟩, hv, l, hl, hc, rfl⟩ := hc
   subst hc
   simp only [Bool.and_eq_true, decide_eq_true_eq] at ht
   obtain ⟨rfl, h3⟩ := ht
   obtain ⟨rfl, rfl⟩ := unrows_eq (f := int1) (fun c a h => intV_eq c a h) hl
   exact CallOK.view (pre := []) (post := [.i .i64 x]) (by kernel_rfl) hv (ib 0 l) rfl rfl rfl (w58 l x h3)
 · cases hc
def T72 : List (Nat × Ct) := [(58, k58)]
theorem hT72 : Sound Try.prog (cxT T72) := Sound.cons s58 Sound.nil
theorem ix_any (l : List Int) (x : Int) : decide (0 ≤ ixS l x) = l.any fun y => x == y := ixf_neg _ l 0 (by omega)
theorem w72 (l : List Int) (x : Int) (hl : l.length ≤ 3) : FTL Try.prog 72 [.fz (rows int1 l) l.length, .i .i64 x] [] 0 (.b (l.any fun y => x == y)) [] 0 := by
 refine FTL.of_iw hT72 mo Try.func72 i72_eq (by simp [i72]) (iw_of_jw ?_)
 dsimp only [i72, T72]
 have h1 := fun k => vwK_rows (α := Int) (β := Bool × Eff) (h := ([] : Hp)) (f := int1) int1_len (l := l) (k := k)
 have h3 : decide (l.length ≤ 3) = true := decide_eq_true hl
 have h4 := ix_any l x
 simp (maxSteps := 400000) only [go_sem, k58, h1, i_un, h3, h4, ge_iff_le, simprocAttr]
 exact Ends.pureE rfl rfl
def k72 : Ct
 | [v, .i .i64 x], h, n => vwK h 1 v fun rd m cs ok => (unrows 1 intV m cs).bind fun l => some (ok && decide (l.length ≤ 3), { v := .b (l.any fun y => x == y), n, rd })
 | _, _, _ => none
theorem s72 : SoundAt Try.prog 72 k72 := fun args h n c E hc ht => by
 unfold k72 at hc
 split at hc
 · rename_i v x
   rw [vwK_eq] at hc
   simp only [Option.bind_eq_some_iff, Option.some.injEq, Prod.mk.injEq] at hc
   obtain ⟨⟨rd, m, cs, ok⟩, hv, l, hl, hc, rfl⟩ := hc
   subst hc
   simp only [Bool.and_eq_true, decide_eq_true_eq] at ht
   obtain ⟨rfl, h3⟩ := ht
   obtain ⟨rfl, rfl⟩ := unrows_eq (f := int1) (fun c a h => intV_eq c a h) hl
   exact CallOK.view (pre := []) (post := [.i .i64 x]) (by kernel_rfl) hv (ib 0 l) rfl rfl rfl (w72 l x h3)
 · cases hc
def apS (l : List Int) : Bool := allN (fun i => inI 0 4294967295 (l.getD i 0) && !((l.take i).any fun y => l.getD i 0 == y)) l.length
def T50 : List (Nat × Ct) := [(72, k72)]
theorem hT50 : Sound Try.prog (cxT T50) := Sound.cons s72 Sound.nil
theorem w32n (x : Int) : (x != IntKind.i64.wrap (IntKind.u32.wrap x)) = !inI 0 4294967295 x := by rw [← w32k]; rfl
theorem w50 (l : List Int) (hl : l.length ≤ 3) : FTL Try.prog 50 [.fz (rows int1 l) l.length] [] 0 (.b (apS l)) [] 0 := by
 refine FTL.of_iw hT50 mo Try.func50 i50_eq (by simp [i50]) (iw_of_jw ?_)
 dsimp only [i50]
 rcases len3 hl with rfl | ⟨a, rfl⟩ | ⟨a, b, rfl⟩ | ⟨a, b, c, rfl⟩
 all_goals (
  simp only [rows, int1, List.map_cons, List.map_nil, List.flatten_cons, List.flatten_nil, List.append_nil, List.cons_append, List.nil_append, List.length_cons, List.length_nil]
  simp (maxSteps := 400000) only [go_sem, simprocAttr]
  refine Loop.rounds (F := ⟨Try.prog, cxT T50, [8, 23], 25, 0⟩) 4 hT50 mo ?_
  dsimp only [T50]
  simp (maxSteps := 400000) only [go_sem, k72, w32n, vwK_f, unrows, intV, List.any_cons, List.any_nil, Bool.or_false, simprocAttr]
  repeat' (first | refine spB_i (fun _ => ?_) (fun _ => ?_) | refine andB_i ?_ ?_)
  all_goals (refine Ends.pureE rfl (congrArg _ ?_); simp_all [apS, allN]; try grind))
end Go.Proofs.Lys
end
section
/- Chapter 41: valid switches (Check, Right). -/
namespace Go.Proofs.Lys
open Go.Ab
set_option maxRecDepth 100000
set_option maxHeartbeats 4000000
set_option linter.unusedSimpArgs false
set_option linter.unusedVariables false
def k50 : Ct
 | [v], h, n => vwK h 1 v fun rd m cs ok => (unrows 1 intV m cs).bind fun l => some (ok && decide (l.length ≤ 3), { v := .b (apS l), n, rd })
 | _, _, _ => none
theorem s50 : SoundAt Try.prog 50 k50 := fun args h n c E hc ht => by
 unfold k50 at hc
 split at hc
 · rename_i v
   rw [vwK_eq] at hc
   simp only [Option.bind_eq_some_iff, Option.some.injEq, Prod.mk.injEq] at hc
   obtain ⟨⟨rd, m, cs, ok⟩, hv, l, hl, hc, rfl⟩ := hc
   subst hc
   simp only [Bool.and_eq_true, decide_eq_true_eq] at ht
   obtain ⟨rfl, h3⟩ := ht
   obtain ⟨rfl, rfl⟩ := unrows_eq (f := int1) (fun c a h => intV_eq c a h) hl
   exact CallOK.view (pre := []) (post := []) (by kernel_rfl) hv (ib 0 l) rfl rfl rfl (w50 l h3)
 · cases hc
def goodW (s : Sw) : Bool :=
 (inI 1 3 s.l.length && (apS s.l && (inI 0 4294967295 s.ou && (inI 1 90000 s.st && (inI (-1) (s.l.length - 1) s.nw && inI (-1) (s.l.length - 1) s.wa))))) &&
 ((inI 0 3 s.ca && (inI 0 3 s.ai && (numB s.sq s.tm s.id s.ba && (numB s.ss s.sT s.si s.sb && numB s.tp 0 s.fr 0)))) &&
 (!decide (s.nw < 0) || (s.ca == 0 && (s.tp == 0 && (s.fr == 0 && (!s.kp && (s.sq == 0 && (s.tm == 0 && (s.id == 0 && s.ba == 0)))))))))
def T12 : List (Nat × Ct) := [(49, k49), (50, k50), (51, k51), (52, k52)]
theorem hT12 : Sound Try.prog (cxT T12) := Sound.cons s49 (Sound.cons s50 (Sound.cons s51 (Sound.cons s52 Sound.nil)))
theorem ap1 (x : Int) : apS [x] = inI 0 4294967295 x := by simp [apS, allN]
theorem w12 (s : Sw) (hl : s.l.length ≤ 9223372036854775807) : FTL Try.prog 12 [.agg s.a] [] 0 (.i .i64 (if goodW s then 0 else 410)) [] 0 := by
 have hlen : IntKind.i64.wrap ((s.l.length : Int) - 1) = (s.l.length : Int) - 1 := wrapL (by omega) (by omega)
 refine FTL.of_iw hT12 mo Try.func12 i12_eq (by simp [i12]) (iw_of_jw ?_)
 dsimp only [i12, T12]
 have hgd : goodW s = ((inI 1 3 s.l.length && (apS s.l && (inI 0 4294967295 s.ou && (inI 1 90000 s.st && (inI (-1) (s.l.length - 1) s.nw && inI (-1) (s.l.length - 1) s.wa))))) &&
 ((inI 0 3 s.ca && (inI 0 3 s.ai && (numB s.sq s.tm s.id s.ba && (numB s.ss s.sT s.si s.sb && numB s.tp 0 s.fr 0)))) &&
 (!decide (s.nw < 0) || (s.ca == 0 && (s.tp == 0 && (s.fr == 0 && (!s.kp && (s.sq == 0 && (s.tm == 0 && (s.id == 0 && s.ba == 0)))))))))) := rfl
 have h3 : inI 1 3 s.l.length = true → decide (s.l.length ≤ 3) = true := fun h => by
  simp only [inI, Bool.and_eq_true, decide_eq_true_eq] at h ⊢; omega
 have hsw := swA_a s
 have hr := fun h k => vwK_rows (α := Int) (β := Bool × Eff) (h := h) (f := int1) int1_len (l := s.l) (k := k)
 generalize goodW s = gd at *
 obtain ⟨l, ou, st, nw, wa, ca, ai, tp, fr, kp, sq, tm, id, ba, ss, sT, si, sb⟩ := s
 simp only [Sw.a] at hsw ⊢
 dsimp only at hl hlen hgd h3 hr
 cases a1 : inI 1 3 (l.length : Int)
 · simp (maxSteps := 400000) only [go_sem, k49, k50, k51, k52, hsw, hlen, i_un, ap1, vwK_s, hr, unrows, intV, List.take_of_length_le, rows_len, int1_len, Nat.mul_one, a1, simprocAttr]
   exact Ends.pureE rfl (by rw [hgd]; simp only [a1, Bool.false_and, Bool.and_false, Bool.true_and, Bool.and_true, Bool.not_true, Bool.not_false, Bool.true_or, Bool.or_true, Bool.false_or, Bool.or_false, Bool.false_eq_true, if_false, if_true])
 have b3 := h3 a1
 cases a2 : apS l
 · simp (maxSteps := 400000) only [go_sem, k49, k50, k51, k52, hsw, hlen, i_un, ap1, vwK_s, hr, unrows, intV, List.take_of_length_le, rows_len, int1_len, Nat.mul_one, a1, a2, b3, simprocAttr]
   exact Ends.pureE rfl (by rw [hgd]; simp only [a1, a2, Bool.false_and, Bool.and_false, Bool.true_and, Bool.and_true, Bool.not_true, Bool.not_false, Bool.true_or, Bool.or_true, Bool.false_or, Bool.or_false, Bool.false_eq_true, if_false, if_true])
 cases a3 : inI 0 4294967295 ou
 · simp (maxSteps := 400000) only [go_sem, k49, k50, k51, k52, hsw, hlen, i_un, ap1, vwK_s, hr, unrows, intV, List.take_of_length_le, rows_len, int1_len, Nat.mul_one, a1, a2, a3, b3, simprocAttr]
   exact Ends.pureE rfl (by rw [hgd]; simp only [a1, a2, a3, Bool.false_and, Bool.and_false, Bool.true_and, Bool.and_true, Bool.not_true, Bool.not_false, Bool.true_or, Bool.or_true, Bool.false_or, Bool.or_false, Bool.false_eq_true, if_false, if_true])
 cases a4 : inI 1 90000 st
 · simp (maxSteps := 400000) only [go_sem, k49, k50, k51, k52, hsw, hlen, i_un, ap1, vwK_s, hr, unrows, intV, List.take_of_length_le, rows_len, int1_len, Nat.mul_one, a1, a2, a3, a4, b3, simprocAttr]
   exact Ends.pureE rfl (by rw [hgd]; simp only [a1, a2, a3, a4, Bool.false_and, Bool.and_false, Bool.true_and, Bool.and_true, Bool.not_true, Bool.not_false, Bool.true_or, Bool.or_true, Bool.false_or, Bool.or_false, Bool.false_eq_true, if_false, if_true])
 cases a5 : inI (-1) ((l.length : Int) - 1) nw
 · simp (maxSteps := 400000) only [go_sem, k49, k50, k51, k52, hsw, hlen, i_un, ap1, vwK_s, hr, unrows, intV, List.take_of_length_le, rows_len, int1_len, Nat.mul_one, a1, a2, a3, a4, a5, b3, simprocAttr]
   exact Ends.pureE rfl (by rw [hgd]; simp only [a1, a2, a3, a4, a5, Bool.false_and, Bool.and_false, Bool.true_and, Bool.and_true, Bool.not_true, Bool.not_false, Bool.true_or, Bool.or_true, Bool.false_or, Bool.or_false, Bool.false_eq_true, if_false, if_true])
 cases a6 : inI (-1) ((l.length : Int) - 1) wa
 · simp (maxSteps := 400000) only [go_sem, k49, k50, k51, k52, hsw, hlen, i_un, ap1, vwK_s, hr, unrows, intV, List.take_of_length_le, rows_len, int1_len, Nat.mul_one, a1, a2, a3, a4, a5, a6, b3, simprocAttr]
   exact Ends.pureE rfl (by rw [hgd]; simp only [a1, a2, a3, a4, a5, a6, Bool.false_and, Bool.and_false, Bool.true_and, Bool.and_true, Bool.not_true, Bool.not_false, Bool.true_or, Bool.or_true, Bool.false_or, Bool.or_false, Bool.false_eq_true, if_false, if_true])
 cases a7 : inI 0 3 ca
 · simp (maxSteps := 400000) only [go_sem, k49, k50, k51, k52, hsw, hlen, i_un, ap1, vwK_s, hr, unrows, intV, List.take_of_length_le, rows_len, int1_len, Nat.mul_one, a1, a2, a3, a4, a5, a6, a7, b3, simprocAttr]
   exact Ends.pureE rfl (by rw [hgd]; simp only [a1, a2, a3, a4, a5, a6, a7, Bool.false_and, Bool.and_false, Bool.true_and, Bool.and_true, Bool.not_true, Bool.not_false, Bool.true_or, Bool.or_true, Bool.false_or, Bool.or_false, Bool.false_eq_true, if_false, if_true])
 cases a8 : inI 0 3 ai
 · simp (maxSteps := 400000) only [go_sem, k49, k50, k51, k52, hsw, hlen, i_un, ap1, vwK_s, hr, unrows, intV, List.take_of_length_le, rows_len, int1_len, Nat.mul_one, a1, a2, a3, a4, a5, a6, a7, a8, b3, simprocAttr]
   exact Ends.pureE rfl (by rw [hgd]; simp only [a1, a2, a3, a4, a5, a6, a7, a8, Bool.false_and, Bool.and_false, Bool.true_and, Bool.and_true, Bool.not_true, Bool.not_false, Bool.true_or, Bool.or_true, Bool.false_or, Bool.or_false, Bool.false_eq_true, if_false, if_true])
 cases a9 : numB sq tm id ba
 · simp (maxSteps := 400000) only [go_sem, k49, k50, k51, k52, hsw, hlen, i_un, ap1, vwK_s, hr, unrows, intV, List.take_of_length_le, rows_len, int1_len, Nat.mul_one, a1, a2, a3, a4, a5, a6, a7, a8, a9, b3, simprocAttr]
   exact Ends.pureE rfl (by rw [hgd]; simp only [a1, a2, a3, a4, a5, a6, a7, a8, a9, Bool.false_and, Bool.and_false, Bool.true_and, Bool.and_true, Bool.not_true, Bool.not_false, Bool.true_or, Bool.or_true, Bool.false_or, Bool.or_false, Bool.false_eq_true, if_false, if_true])
 cases a10 : numB ss sT si sb
 · simp (maxSteps := 400000) only [go_sem, k49, k50, k51, k52, hsw, hlen, i_un, ap1, vwK_s, hr, unrows, intV, List.take_of_length_le, rows_len, int1_len, Nat.mul_one, a1, a2, a3, a4, a5, a6, a7, a8, a9, a10, b3, simprocAttr]
   exact Ends.pureE rfl (by rw [hgd]; simp only [a1, a2, a3, a4, a5, a6, a7, a8, a9, a10, Bool.false_and, Bool.and_false, Bool.true_and, Bool.and_true, Bool.not_true, Bool.not_false, Bool.true_or, Bool.or_true, Bool.false_or, Bool.or_false, Bool.false_eq_true, if_false, if_true])
 cases a11 : numB tp 0 fr 0
 · simp (maxSteps := 400000) only [go_sem, k49, k50, k51, k52, hsw, hlen, i_un, ap1, vwK_s, hr, unrows, intV, List.take_of_length_le, rows_len, int1_len, Nat.mul_one, a1, a2, a3, a4, a5, a6, a7, a8, a9, a10, a11, b3, simprocAttr]
   exact Ends.pureE rfl (by rw [hgd]; simp only [a1, a2, a3, a4, a5, a6, a7, a8, a9, a10, a11, Bool.false_and, Bool.and_false, Bool.true_and, Bool.and_true, Bool.not_true, Bool.not_false, Bool.true_or, Bool.or_true, Bool.false_or, Bool.or_false, Bool.false_eq_true, if_false, if_true])
 cases a12 : decide (nw < 0)
 · simp (maxSteps := 400000) only [go_sem, k49, k50, k51, k52, hsw, hlen, i_un, ap1, vwK_s, hr, unrows, intV, List.take_of_length_le, rows_len, int1_len, Nat.mul_one, a1, a2, a3, a4, a5, a6, a7, a8, a9, a10, a11, a12, b3, simprocAttr]
   exact Ends.pureE rfl (by rw [hgd]; simp only [a1, a2, a3, a4, a5, a6, a7, a8, a9, a10, a11, a12, Bool.false_and, Bool.and_false, Bool.true_and, Bool.and_true, Bool.not_true, Bool.not_false, Bool.true_or, Bool.or_true, Bool.false_or, Bool.or_false, Bool.false_eq_true, if_false, if_true])
 cases z1 : (ca == 0)
 · have y1 : (ca != 0) = true := by simp only [bne, z1, Bool.not_false]
   simp (maxSteps := 400000) only [go_sem, k49, k50, k51, k52, hsw, hlen, i_un, ap1, vwK_s, hr, unrows, intV, List.take_of_length_le, rows_len, int1_len, Nat.mul_one, a1, a2, a3, a4, a5, a6, a7, a8, a9, a10, a11, a12, z1, y1, b3, simprocAttr]
   exact Ends.pureE rfl (by rw [hgd]; simp only [a1, a2, a3, a4, a5, a6, a7, a8, a9, a10, a11, a12, z1, Bool.false_and, Bool.and_false, Bool.true_and, Bool.and_true, Bool.not_true, Bool.not_false, Bool.true_or, Bool.or_true, Bool.false_or, Bool.or_false, Bool.false_eq_true, if_false, if_true])
 have y1 : (ca != 0) = false := by simp only [bne, z1, Bool.not_true]
 cases z2 : (tp == 0)
 · have y2 : (tp != 0) = true := by simp only [bne, z2, Bool.not_false]
   simp (maxSteps := 400000) only [go_sem, k49, k50, k51, k52, hsw, hlen, i_un, ap1, vwK_s, hr, unrows, intV, List.take_of_length_le, rows_len, int1_len, Nat.mul_one, a1, a2, a3, a4, a5, a6, a7, a8, a9, a10, a11, a12, z1, z2, y1, y2, b3, simprocAttr]
   exact Ends.pureE rfl (by rw [hgd]; simp only [a1, a2, a3, a4, a5, a6, a7, a8, a9, a10, a11, a12, z1, z2, Bool.false_and, Bool.and_false, Bool.true_and, Bool.and_true, Bool.not_true, Bool.not_false, Bool.true_or, Bool.or_true, Bool.false_or, Bool.or_false, Bool.false_eq_true, if_false, if_true])
 have y2 : (tp != 0) = false := by simp only [bne, z2, Bool.not_true]
 cases z3 : (fr == 0)
 · have y3 : (fr != 0) = true := by simp only [bne, z3, Bool.not_false]
   simp (maxSteps := 400000) only [go_sem, k49, k50, k51, k52, hsw, hlen, i_un, ap1, vwK_s, hr, unrows, intV, List.take_of_length_le, rows_len, int1_len, Nat.mul_one, a1, a2, a3, a4, a5, a6, a7, a8, a9, a10, a11, a12, z1, z2, z3, y1, y2, y3, b3, simprocAttr]
   exact Ends.pureE rfl (by rw [hgd]; simp only [a1, a2, a3, a4, a5, a6, a7, a8, a9, a10, a11, a12, z1, z2, z3, Bool.false_and, Bool.and_false, Bool.true_and, Bool.and_true, Bool.not_true, Bool.not_false, Bool.true_or, Bool.or_true, Bool.false_or, Bool.or_false, Bool.false_eq_true, if_false, if_true])
 have y3 : (fr != 0) = false := by simp only [bne, z3, Bool.not_true]
 cases kp
 case true =>
  simp (maxSteps := 400000) only [go_sem, k49, k50, k51, k52, hsw, hlen, i_un, ap1, vwK_s, hr, unrows, intV, List.take_of_length_le, rows_len, int1_len, Nat.mul_one, a1, a2, a3, a4, a5, a6, a7, a8, a9, a10, a11, a12, z1, z2, z3, y1, y2, y3, b3, simprocAttr]
  exact Ends.pureE rfl (by rw [hgd]; simp only [a1, a2, a3, a4, a5, a6, a7, a8, a9, a10, a11, a12, z1, z2, z3, Bool.false_and, Bool.and_false, Bool.true_and, Bool.and_true, Bool.not_true, Bool.not_false, Bool.true_or, Bool.or_true, Bool.false_or, Bool.or_false, Bool.false_eq_true, if_false, if_true])
 generalize hE : ((sq == 0) && ((tm == 0) && ((id == 0) && (ba == 0)))) = Z at hgd
 simp (maxSteps := 400000) only [go_sem, k49, k50, k51, k52, hsw, hlen, i_un, ap1, vwK_s, hr, unrows, intV, List.take_of_length_le, rows_len, int1_len, Nat.mul_one, eqk, eqs, eq1, hE, a1, a2, a3, a4, a5, a6, a7, a8, a9, a10, a11, a12, z1, z2, z3, y1, y2, y3, b3, simprocAttr]
 cases Z
 · simp (maxSteps := 400000) only [go_sem, simprocAttr]
   exact Ends.pureE rfl (by rw [hgd]; simp only [a1, a2, a3, a4, a5, a6, a7, a8, a9, a10, a11, a12, z1, z2, z3, Bool.false_and, Bool.and_false, Bool.true_and, Bool.and_true, Bool.not_true, Bool.not_false, Bool.true_or, Bool.or_true, Bool.false_or, Bool.or_false, Bool.false_eq_true, if_false, if_true])
 · simp (maxSteps := 400000) only [go_sem, simprocAttr]
   exact Ends.pureE rfl (by rw [hgd]; simp only [a1, a2, a3, a4, a5, a6, a7, a8, a9, a10, a11, a12, z1, z2, z3, Bool.false_and, Bool.and_false, Bool.true_and, Bool.and_true, Bool.not_true, Bool.not_false, Bool.true_or, Bool.or_true, Bool.false_or, Bool.or_false, Bool.false_eq_true, if_false, if_true])
def k12 : Ct
 | [.agg c], _, n => (swA c).bind fun s => some (decide (s.l.length ≤ 9223372036854775807), { v := .i .i64 (if goodW s then 0 else 410), n })
 | _, _, _ => none
theorem s12 : SoundAt Try.prog 12 k12 := fun args h n c E hc ht => by
 unfold k12 at hc
 split at hc
 · simp only [Option.bind_eq_some_iff, Option.some.injEq, Prod.mk.injEq] at hc
   obtain ⟨s, hs, rfl, rfl⟩ := hc
   rw [swA_eq hs]
   exact CallOK.pure (by kernel_rfl) (by simp only [belL, AV.bel, Sw.bel, Bool.and_self]) rfl (w12 _ (of_decide_eq_true ht)) _ _
 · cases hc
def T48 : List (Nat × Ct) := [(54, k54), (71, k51), (56, k52)]
theorem hT48 : Sound Try.prog (cxT T48) := Sound.cons s54 (Sound.cons s71 (Sound.cons s56 Sound.nil))
theorem w48 (s : Sw) : FTL Try.prog 48 [.agg s.a] [] 0 (.b (goodW s)) [] 0 := by
 refine FTL.of_iw hT48 mo Try.func48 i48_eq (by simp [i48]) (iw_of_jw ?_)
 dsimp only [i48, T48]
 have e1 : ((65536 : Int) - 1) = 65535 := rfl
 have e2 : ((4294967296 : Int) - 1) = 4294967295 := rfl
 have e3 : ((32768 : Int) - 1) = 32767 := rfl
 have e4 : ((4 : Int) - 1) = 3 := rfl
 have hgd : goodW s = ((inI 1 3 s.l.length && (apS s.l && (inI 0 4294967295 s.ou && (inI 1 90000 s.st && (inI (-1) (s.l.length - 1) s.nw && inI (-1) (s.l.length - 1) s.wa))))) &&
 ((inI 0 3 s.ca && (inI 0 3 s.ai && (numB s.sq s.tm s.id s.ba && (numB s.ss s.sT s.si s.sb && numB s.tp 0 s.fr 0)))) &&
 (!decide (s.nw < 0) || (s.ca == 0 && (s.tp == 0 && (s.fr == 0 && (!s.kp && (s.sq == 0 && (s.tm == 0 && (s.id == 0 && s.ba == 0)))))))))) := rfl
 have hsw := swA_a s
 generalize goodW s = gd at *
 obtain ⟨l, ou, st, nw, wa, ca, ai, tp, fr, kp, sq, tm, id, ba, ss, sT, si, sb⟩ := s
 simp only [Sw.a] at hsw ⊢
 dsimp only at hgd
 cases a1 : decide ((l.length : Int) < 1)
 case true =>
  simp (maxSteps := 400000) only [go_sem, k54, k51, k52, hsw, e1, e2, e3, e4, gt_iff_lt, ge_iff_le, a1, simprocAttr]
  exact Ends.pureE rfl (congrArg _ (by clear hsw; simp only [inI, numB] at *; grind))
 cases a2 : decide ((l.length : Int) > 3)
 case true =>
  simp (maxSteps := 400000) only [go_sem, k54, k51, k52, hsw, e1, e2, e3, e4, gt_iff_lt, ge_iff_le, a1, a2, simprocAttr]
  exact Ends.pureE rfl (congrArg _ (by clear hsw; simp only [inI, numB] at *; grind))
 cases a3 : inI 0 4294967295 ou
 case false =>
  simp (maxSteps := 400000) only [go_sem, k54, k51, k52, hsw, e1, e2, e3, e4, gt_iff_lt, ge_iff_le, a1, a2, a3, simprocAttr]
  exact Ends.pureE rfl (congrArg _ (by clear hsw; simp only [inI, numB] at *; grind))
 cases a4 : decide (st < 1)
 case true =>
  simp (maxSteps := 400000) only [go_sem, k54, k51, k52, hsw, e1, e2, e3, e4, gt_iff_lt, ge_iff_le, a1, a2, a3, a4, simprocAttr]
  exact Ends.pureE rfl (congrArg _ (by clear hsw; simp only [inI, numB] at *; grind))
 cases a5 : decide (st > 90000)
 case true =>
  simp (maxSteps := 400000) only [go_sem, k54, k51, k52, hsw, e1, e2, e3, e4, gt_iff_lt, ge_iff_le, a1, a2, a3, a4, a5, simprocAttr]
  exact Ends.pureE rfl (congrArg _ (by clear hsw; simp only [inI, numB] at *; grind))
 cases a6 : decide (nw < -1)
 case true =>
  simp (maxSteps := 400000) only [go_sem, k54, k51, k52, hsw, e1, e2, e3, e4, gt_iff_lt, ge_iff_le, a1, a2, a3, a4, a5, a6, simprocAttr]
  exact Ends.pureE rfl (congrArg _ (by clear hsw; simp only [inI, numB] at *; grind))
 cases a7 : decide (nw ≥ (l.length : Int))
 case true =>
  simp (maxSteps := 400000) only [go_sem, k54, k51, k52, hsw, e1, e2, e3, e4, gt_iff_lt, ge_iff_le, a1, a2, a3, a4, a5, a6, a7, simprocAttr]
  exact Ends.pureE rfl (congrArg _ (by clear hsw; simp only [inI, numB] at *; grind))
 cases a8 : decide (wa < -1)
 case true =>
  simp (maxSteps := 400000) only [go_sem, k54, k51, k52, hsw, e1, e2, e3, e4, gt_iff_lt, ge_iff_le, a1, a2, a3, a4, a5, a6, a7, a8, simprocAttr]
  exact Ends.pureE rfl (congrArg _ (by clear hsw; simp only [inI, numB] at *; grind))
 cases a9 : decide (wa ≥ (l.length : Int))
 case true =>
  simp (maxSteps := 400000) only [go_sem, k54, k51, k52, hsw, e1, e2, e3, e4, gt_iff_lt, ge_iff_le, a1, a2, a3, a4, a5, a6, a7, a8, a9, simprocAttr]
  exact Ends.pureE rfl (congrArg _ (by clear hsw; simp only [inI, numB] at *; grind))
 cases a10 : inI 0 3 ca
 case false =>
  simp (maxSteps := 400000) only [go_sem, k54, k51, k52, hsw, e1, e2, e3, e4, gt_iff_lt, ge_iff_le, a1, a2, a3, a4, a5, a6, a7, a8, a9, a10, simprocAttr]
  exact Ends.pureE rfl (congrArg _ (by clear hsw; simp only [inI, numB] at *; grind))
 cases a11 : inI 0 3 ai
 case false =>
  simp (maxSteps := 400000) only [go_sem, k54, k51, k52, hsw, e1, e2, e3, e4, gt_iff_lt, ge_iff_le, a1, a2, a3, a4, a5, a6, a7, a8, a9, a10, a11, simprocAttr]
  exact Ends.pureE rfl (congrArg _ (by clear hsw; simp only [inI, numB] at *; grind))
 cases a12 : inI 0 65535 tp
 case false =>
  simp (maxSteps := 400000) only [go_sem, k54, k51, k52, hsw, e1, e2, e3, e4, gt_iff_lt, ge_iff_le, a1, a2, a3, a4, a5, a6, a7, a8, a9, a10, a11, a12, simprocAttr]
  exact Ends.pureE rfl (congrArg _ (by clear hsw; simp only [inI, numB] at *; grind))
 cases a13 : inI 0 32767 fr
 case false =>
  simp (maxSteps := 400000) only [go_sem, k54, k51, k52, hsw, e1, e2, e3, e4, gt_iff_lt, ge_iff_le, a1, a2, a3, a4, a5, a6, a7, a8, a9, a10, a11, a12, a13, simprocAttr]
  exact Ends.pureE rfl (congrArg _ (by clear hsw; simp only [inI, numB] at *; grind))
 cases a14 : numB sq tm id ba
 case false =>
  simp (maxSteps := 400000) only [go_sem, k54, k51, k52, hsw, e1, e2, e3, e4, gt_iff_lt, ge_iff_le, a1, a2, a3, a4, a5, a6, a7, a8, a9, a10, a11, a12, a13, a14, simprocAttr]
  exact Ends.pureE rfl (congrArg _ (by clear hsw; simp only [inI, numB] at *; grind))
 cases a15 : numB ss sT si sb
 case false =>
  simp (maxSteps := 400000) only [go_sem, k54, k51, k52, hsw, e1, e2, e3, e4, gt_iff_lt, ge_iff_le, a1, a2, a3, a4, a5, a6, a7, a8, a9, a10, a11, a12, a13, a14, a15, simprocAttr]
  exact Ends.pureE rfl (congrArg _ (by clear hsw; simp only [inI, numB] at *; grind))
 have hl3 : l.length ≤ 3 := by have := of_decide_eq_false a2; omega
 rcases len3 hl3 with rfl | ⟨x, rfl⟩ | ⟨x, y, rfl⟩ | ⟨x, y, z, rfl⟩
 · simp at a1
 · simp only [rows, int1, List.map_cons, List.map_nil, List.flatten_cons, List.flatten_nil, List.append_nil, List.cons_append, List.nil_append, List.length_cons, List.length_nil] at hsw ⊢
   have b7 : decide ((1 : Int) ≤ nw) = false := decide_eq_false (by have := of_decide_eq_false a7; simp only [List.length_cons, List.length_nil] at this; omega)
   have b9 : decide ((1 : Int) ≤ wa) = false := decide_eq_false (by have := of_decide_eq_false a9; simp only [List.length_cons, List.length_nil] at this; omega)
   simp (maxSteps := 400000) only [go_sem, k54, k51, k52, hsw, e1, e2, e3, e4, gt_iff_lt, ge_iff_le, b7, b9, a1, a2, a3, a4, a5, a6, a7, a8, a9, a10, a11, a12, a13, a14, a15, simprocAttr]
   iterate 4 (all_goals (try (
    refine Loop.rounds (F := ⟨Try.prog, cxT T48, [88, 91, 100, 103, 116], 146, 0⟩) 4 hT48 mo ?_
    dsimp only [T48]
    simp (maxSteps := 400000) only [go_sem, k54, k51, k52, hsw, e1, e2, e3, e4, gt_iff_lt, ge_iff_le, b7, b9, a1, a2, a3, a4, a5, a6, a7, a8, a9, a10, a11, a12, a13, a14, a15, eqk, eqs, eq1, simprocAttr]
    repeat' (first | refine spB_i (fun _ => ?_) (fun _ => ?_) | refine andB_i ?_ ?_))))
   all_goals (refine Ends.pureE rfl (congrArg _ ?_); clear hsw; rw [hgd]; simp [apS, allN, inI, numB, *] at *; try grind)
 · simp only [rows, int1, List.map_cons, List.map_nil, List.flatten_cons, List.flatten_nil, List.append_nil, List.cons_append, List.nil_append, List.length_cons, List.length_nil] at hsw ⊢
   have b7 : decide ((2 : Int) ≤ nw) = false := decide_eq_false (by have := of_decide_eq_false a7; simp only [List.length_cons, List.length_nil] at this; omega)
   have b9 : decide ((2 : Int) ≤ wa) = false := decide_eq_false (by have := of_decide_eq_false a9; simp only [List.length_cons, List.length_nil] at this; omega)
   simp (maxSteps := 400000) only [go_sem, k54, k51, k52, hsw, e1, e2, e3, e4, gt_iff_lt, ge_iff_le, b7, b9, a1, a2, a3, a4, a5, a6, a7, a8, a9, a10, a11, a12, a13, a14, a15, simprocAttr]
   iterate 4 (all_goals (try (
    refine Loop.rounds (F := ⟨Try.prog, cxT T48, [88, 91, 100, 103, 116], 146, 0⟩) 4 hT48 mo ?_
    dsimp only [T48]
    simp (maxSteps := 400000) only [go_sem, k54, k51, k52, hsw, e1, e2, e3, e4, gt_iff_lt, ge_iff_le, b7, b9, a1, a2, a3, a4, a5, a6, a7, a8, a9, a10, a11, a12, a13, a14, a15, eqk, eqs, eq1, simprocAttr]
    repeat' (first | refine spB_i (fun _ => ?_) (fun _ => ?_) | refine andB_i ?_ ?_))))
   all_goals (refine Ends.pureE rfl (congrArg _ ?_); clear hsw; rw [hgd]; simp [apS, allN, inI, numB, *] at *; try grind)
 · simp only [rows, int1, List.map_cons, List.map_nil, List.flatten_cons, List.flatten_nil, List.append_nil, List.cons_append, List.nil_append, List.length_cons, List.length_nil] at hsw ⊢
   have b7 : decide ((3 : Int) ≤ nw) = false := decide_eq_false (by have := of_decide_eq_false a7; simp only [List.length_cons, List.length_nil] at this; omega)
   have b9 : decide ((3 : Int) ≤ wa) = false := decide_eq_false (by have := of_decide_eq_false a9; simp only [List.length_cons, List.length_nil] at this; omega)
   simp (maxSteps := 400000) only [go_sem, k54, k51, k52, hsw, e1, e2, e3, e4, gt_iff_lt, ge_iff_le, b7, b9, a1, a2, a3, a4, a5, a6, a7, a8, a9, a10, a11, a12, a13, a14, a15, simprocAttr]
   iterate 4 (all_goals (try (
    refine Loop.rounds (F := ⟨Try.prog, cxT T48, [88, 91, 100, 103, 116], 146, 0⟩) 4 hT48 mo ?_
    dsimp only [T48]
    simp (maxSteps := 400000) only [go_sem, k54, k51, k52, hsw, e1, e2, e3, e4, gt_iff_lt, ge_iff_le, b7, b9, a1, a2, a3, a4, a5, a6, a7, a8, a9, a10, a11, a12, a13, a14, a15, eqk, eqs, eq1, simprocAttr]
    repeat' (first | refine spB_i (fun _ => ?_) (fun _ => ?_) | refine andB_i ?_ ?_))))
   all_goals (refine Ends.pureE rfl (congrArg _ ?_); clear hsw; rw [hgd]; simp [apS, allN, inI, numB, *] at *; try grind)
end Go.Proofs.Lys
end
