/- Contracts: is one of some packets not valid? -/
import Derived.Test.YtndbgcmgjnjnhaaPicM2
namespace Go.Proofs.Pic
open Go.Ab
set_option maxRecDepth 100000
set_option maxHeartbeats 4000000
set_option linter.unusedSimpArgs false
set_option linter.unusedVariables false
def TM3 : List (Nat × Ct) := [(55, k55)]
theorem hTM3 : Sound Try.prog (cxT TM3) := Sound.cons s55 Sound.nil
theorem w54 (p : Md) (hf : p.fin = true) : FTL Try.prog 54 [.agg p.l] [] 0 (.b !(mdB p)) [] 0 := by
 refine FTL.of_iw hTM3 mo Try.func54 i54_eq (by simp [i54]) (iw_of_jw ?_)
 dsimp only [i54, TM3]
 have h9 : md9 [.b p.ma, .i .i64 p.ty, .i .i64 p.sq, .i .i64 p.tm, .i .i64 p.ss, .fz (rows int1 p.cs) p.cs.length, .fz (rows xtR p.xs) p.xs.length, .i .i64 p.pd, .s p.pl] = some p := md9_l p
 cases hb : mdB p
 · simp (maxSteps := 400000) only [go_sem, k55, Md.l, h9, hf, hb, Bool.false_eq_true, if_false, simprocAttr]
   exact Ends.pureE rfl rfl
 · simp (maxSteps := 400000) only [go_sem, k55, Md.l, h9, hf, hb, if_true, simprocAttr]
   exact Ends.pureE rfl rfl
theorem w72 (l : List Md) (hl : l.length ≤ 9223372036854775807) (hf : l.all Md.fin = true) : FTL Try.prog 72 [.fz (rows Md.l l) l.length, .fn 54 []] [] 0 (.i .i64 (ixf (fun p => !mdB p) l 0)) [] 0 :=
 ixf_fz (row := Md.l) (el := fun p => .agg p.l) mo Try.func72 i72_eq (by kernel_rfl) Md.len Md.bel rfl (fun _ => rfl) (fun a b h => by simp only [AV.agg.injEq] at h; rw [Md.inj h]) l hl (fun p hp => w54 p (by rw [List.all_eq_true] at hf; exact hf p hp))
theorem w53 (l : List Md) (hl : l.length ≤ 9223372036854775807) (hf : l.all Md.fin = true) : FTL Try.prog 53 [.fz (rows Md.l l) l.length, .fn 54 []] [] 0 (.b (l.any fun p => !mdB p)) [] 0 :=
 cof_fz mo Try.func53 i53_eq (by kernel_rfl) (rows_bel Md.bel) rfl (w72 l hl hf) (ixf_neg _ l 0 (by omega))
def k53 : Ct
 | [x, .fn 54 []], h, n => vwK h 9 x fun rd m cs ok => (unrows 9 md9 m cs).bind fun l => some (ok && decide (m ≤ 9223372036854775807) && l.all Md.fin, { v := .b (l.any fun p => !mdB p), n, rd })
 | _, _, _ => none
theorem s53 : SoundAt Try.prog 53 k53 := fun args h n c E hc ht => by
 unfold k53 at hc
 split at hc
 · rename_i x
   rw [vwK_eq] at hc
   simp only [Option.bind_eq_some_iff] at hc
   obtain ⟨⟨rd, m, cs, ok⟩, hv, l, hl, he⟩ := hc
   cases he
   simp only [Bool.and_eq_true, decide_eq_true_eq] at ht
   obtain ⟨⟨rfl, hm⟩, hf⟩ := ht
   obtain ⟨rfl, hlm⟩ := unrows_eq (f := Md.l) md9_eq' hl
   subst hlm
   exact CallOK.viewG (by kernel_rfl) (argsF := [.fz (rows Md.l l) l.length, .fn 54 []]) ⟨vwK_sub hv (rows_bel Md.bel) (fun c hc => hc), VwV.same rfl, trivial⟩ rfl (w53 l hm hf)
 · cases hc
end Go.Proofs.Pic
