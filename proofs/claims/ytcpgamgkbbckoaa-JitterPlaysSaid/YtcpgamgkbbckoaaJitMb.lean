/- Texts laid as one: JitM4 JitM5. -/
import Derived.Test.YtcpgamgkbbckoaaJitC1
import Derived.Test.YtcpgamgkbbckoaaAbFzs
import Derived.Test.YtcpgamgkbbckoaaAbGvs
section
/- The contract of the reference's Right (packets). -/
namespace Go.Proofs.Jit
open Go.Ab
set_option maxRecDepth 100000
set_option maxHeartbeats 4000000
set_option linter.unusedSimpArgs false
set_option linter.unusedVariables false
theorem csB (j : Nat) (l : List Int) : belL j (rows int1 l) = true := belL_mono0 _ (rows_bel int1_bel)
theorem xsB (j : Nat) (l : List Xt) : belL j (rows xtR l) = true := belL_mono0 _ (rows_bel xtR_bel)
theorem mdB_sq {p : Md} (h : mdB p = true) : inI 0 65535 p.sq = true := by
 simp only [mdB, mdPre, Bool.and_eq_true] at h
 have := inZ_iff.1 h.1.1.1.1.1.1.2
 exact inI_of this
theorem mdB_tm {p : Md} (h : mdB p = true) : inI 0 4294967295 p.tm = true := by
 simp only [mdB, mdPre, Bool.and_eq_true] at h
 have := inZ_iff.1 h.1.1.1.1.1.2.1
 exact inI_of this
end Go.Proofs.Jit
end
section
/- The contract of the reference's Same: packets with the same data are the same. -/
namespace Go.Proofs.Jit
open Go.Ab
set_option maxRecDepth 100000
set_option maxHeartbeats 8000000
set_option linter.unusedSimpArgs false
set_option linter.unusedVariables false
theorem w49 (p : Md) (hl : p.cs.length ≤ 9223372036854775807 ∧ p.xs.length ≤ 9223372036854775807) : FTL Try.prog 49 [.agg p.l, .agg p.l] [] 0 (.b true) [] 0 := by
 obtain ⟨ma, pty, sq, tm, pss, cs, xs, pd, pl⟩ := p
 simp only [Md.l]
 dsimp only at hl
 obtain ⟨hl1, hl2⟩ := hl
 have hcB : ∀ j, belL j (rows int1 cs) = true := fun j => belL_mono0 _ (rows_bel int1_bel)
 have hxB : ∀ j, belL j (rows xtR xs) = true := fun j => belL_mono0 _ (rows_bel xtR_bel)
 have hrc : ∀ (k : Nat) (x : Int), cs[k]? = some x → (rows int1 cs)[k]? = some (.i .i64 x) := fun k x h => by
  have := rows_get (f := int1) (z := 1) (j := 0) (v := .i .i64 x) int1_len h rfl
  simpa using this
 have hrx : ∀ (k : Nat) (x : Xt), xs[k]? = some x → List.take 2 (List.drop (k * 2) (rows xtR xs)) = xtR x := fun k x h => rows_at xtR_len h
 refine FTL.of_iw Sound.nil mo Try.func49 i49_eq (by simp [i49]) (iw_of_jw ?_)
 dsimp only [i49]
 have b0 : (ma != ma) = false := by simp
 have b1 : (pty != pty) = false := by simp
 have b2 : (sq != sq) = false := by simp
 have b3 : (tm != tm) = false := by simp
 have b4 : (pss != pss) = false := by simp
 have b5 : (pd != pd) = false := by simp
 have b6 : (pl != pl) = false := by simp
 have b7 : ((cs.length : Int) != (cs.length : Int)) = false := by simp
 have b8 : ((xs.length : Int) != (xs.length : Int)) = false := by simp
 have e0 : (ma == ma) = true := by simp
 simp (maxSteps := 400000) only [go_sem, b0, b1, b2, b3, b4, b5, b6, b7, b8, e0, simprocAttr]
 refine Loop.countI (F := ⟨Try.prog, cxT [], [71, 76, 89, 94, 107], 108, 0⟩) Sound.nil mo cs.length (fun k => True)
  (fun k => [(2, .p 0 0), (3, .p 1 0), (5, .i .i64 (k : Int))])
  (fun k => [(0, { cells := [.b ma, .i .i64 pty, .i .i64 sq, .i .i64 tm, .i .i64 pss, .fz (rows int1 cs) cs.length, .fz (rows xtR xs) xs.length, .i .i64 pd, .s pl] }), (1, { cells := [.b ma, .i .i64 pty, .i .i64 sq, .i .i64 tm, .i .i64 pss, .fz (rows int1 cs) cs.length, .fz (rows xtR xs) xs.length, .i .i64 pd, .s pl] })]) 2 (by decide) trivial ?_ ?_ (fun k hk _ => ?_)
 · simp (maxSteps := 400000) only [go_sem, AV.bel, belL, nblt, hcB, hxB, simprocAttr]
 · simp (maxSteps := 400000) only [go_sem, AV.bel, belL, nblt, hcB, hxB, simprocAttr]
 · by_cases hlt : k < cs.length
   · have c1 : decide ((k : Int) < (cs.length : Int)) = true := decide_eq_true (by omega)
     have c2 : decide (0 ≤ (k : Int) ∧ (k : Int) < (cs.length : Int)) = true := decide_eq_true (by omega)
     have hw : IntKind.i64.wrap ((k : Int) + 1) = ((k + 1 : Nat) : Int) := by rw [wrapL (by omega) (by omega)]; omega
     have hx := hrc k cs[k] (List.getElem?_eq_getElem hlt)
     generalize cs[k] = x at hx
     have hx' : (rows int1 cs)[k * 1]? = some (.i .i64 x) := by rw [Nat.mul_one]; exact hx
     have e1 : (x != x) = false := by simp
     simp (maxSteps := 400000) only [go_sem, c1, c2, hw, hx, hx', e1, hlt, AV.bel, belL, nblt, hcB, hxB, simprocAttr]
   · have c1 : decide ((k : Int) < (cs.length : Int)) = false := decide_eq_false (by omega)
     simp (maxSteps := 400000) only [go_sem, c1, simprocAttr]
     refine Loop.countI (F := ⟨Try.prog, cxT [], [71, 76, 89, 94, 107], 108, 0⟩) Sound.nil mo xs.length (fun k => True)
      (fun k => [(2, .p 0 0), (3, .p 1 0), (6, .i .i64 (k : Int))])
      (fun k => [(0, { cells := [.b ma, .i .i64 pty, .i .i64 sq, .i .i64 tm, .i .i64 pss, .fz (rows int1 cs) cs.length, .fz (rows xtR xs) xs.length, .i .i64 pd, .s pl] }), (1, { cells := [.b ma, .i .i64 pty, .i .i64 sq, .i .i64 tm, .i .i64 pss, .fz (rows int1 cs) cs.length, .fz (rows xtR xs) xs.length, .i .i64 pd, .s pl] })]) 2 (by decide) trivial ?_ ?_ (fun k hk _ => ?_)
     · simp (maxSteps := 400000) only [go_sem, AV.bel, belL, nblt, hcB, hxB, simprocAttr]
     · simp (maxSteps := 400000) only [go_sem, AV.bel, belL, nblt, hcB, hxB, simprocAttr]
     · by_cases hlt : k < xs.length
       · have c1 : decide ((k : Int) < (xs.length : Int)) = true := decide_eq_true (by omega)
         have c2 : decide (0 ≤ (k : Int) ∧ (k : Int) < (xs.length : Int)) = true := decide_eq_true (by omega)
         have hw : IntKind.i64.wrap ((k : Int) + 1) = ((k + 1 : Nat) : Int) := by rw [wrapL (by omega) (by omega)]; omega
         have hx := hrx k xs[k] (List.getElem?_eq_getElem hlt)
         generalize xs[k] = x at hx
         have e1 : (x.1 == x.1) = true := by simp
         have e2 : (x.2 == x.2) = true := by simp
         simp (maxSteps := 400000) only [go_sem, c1, c2, hw, hx, xtR, e1, e2, hlt, AV.bel, belL, nblt, hcB, hxB, simprocAttr]
       · have c1 : decide ((k : Int) < (xs.length : Int)) = false := decide_eq_false (by omega)
         simp (maxSteps := 400000) only [go_sem, c1, simprocAttr]
         exact Ends.pureE rfl rfl
noncomputable def k49 : Ct
 | [.agg a, .agg b], _, n => (md9 a).bind fun p => open Classical in if a = b then some (decide (p.cs.length ≤ 9223372036854775807) && decide (p.xs.length ≤ 9223372036854775807), { v := .b true, n }) else none
 | _, _, _ => none
theorem s49 : SoundAt Try.prog 49 k49 := fun args h n c E hc ht => by
 unfold k49 at hc
 split at hc
 · simp only [Option.bind_eq_some_iff] at hc
   obtain ⟨p, hp, he⟩ := hc
   split at he
   · rename_i hab
     subst hab
     cases he
     rw [md9_eq hp]
     simp only [Bool.and_eq_true, decide_eq_true_eq] at ht
     exact CallOK.pure (by kernel_rfl) (by simp only [belL, AV.bel, Md.bel, Bool.and_self]) rfl (w49 p ht) _ _
   · cases he
 · cases hc
end Go.Proofs.Jit
end
