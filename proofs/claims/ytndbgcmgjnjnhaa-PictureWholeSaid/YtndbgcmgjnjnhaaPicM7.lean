/- Contracts of Draft.Media and Draft.Packets as table entries. -/
import Derived.Test.YtndbgcmgjnjnhaaPicP3
namespace Go.Proofs.Pic
open Go.Ab
set_option maxRecDepth 100000
set_option maxHeartbeats 4000000
set_option linter.unusedSimpArgs false
set_option linter.unusedVariables false

def k32 : Ct
  | [.agg l], _, n => (dm9 l).bind fun p => some (p.okB, { v := .agg p.md.l, n })
  | _, _, _ => none
theorem s32 : SoundAt Try.prog 32 k32 := fun args h n c E hc ht => by
  unfold k32 at hc
  split at hc
  · simp only [Option.bind_eq_some_iff] at hc
    obtain ⟨p, hp, he⟩ := hc
    cases he
    rw [dm9_eq hp]
    exact CallOK.pure (by kernel_rfl) (by simp only [belL, AV.bel, p.bel, Bool.and_self]) (by simp only [AV.bel, p.md.bel]) (w32 p (Dm.ok_of ht)) _ _
  · cases hc
def k31 : Ct
  | [.agg [.i .u8 f, .i .u16 i, .i .u8 b, .i .u8 t, .i .u8 s], .agg l, .fz C c], _, n => (md9 l).bind fun fm => (unrows 1 strV c C).bind fun ps =>
    some ((draftS f i b t s).good && inZ 0 65535 fm.sq, { v := (gQ Md.l 9 (packets (draftS f i b t s) fm ps)).v n, n := n + 1, nw := (gQ Md.l 9 (packets (draftS f i b t s) fm ps)).h n })
  | _, _, _ => none
theorem s31 : SoundAt Try.prog 31 k31 := fun args h n c E hc ht => by
  unfold k31 at hc
  split at hc
  · rename_i f i b t s l C cl
    simp only [Option.bind_eq_some_iff] at hc
    obtain ⟨fm, hfm, ps, hps, he⟩ := hc
    cases he
    simp only [Bool.and_eq_true, decide_eq_true_eq, inZ_iff] at ht
    obtain ⟨hg, hsq⟩ := ht
    obtain ⟨rfl, hlm⟩ := unrows_eq (f := strR) strV_eq hps
    subst hlm
    rw [md9_eq hfm]
    have hw := w31 f i b t s fm ps hg hsq
    generalize packets (draftS f i b t s) fm ps = P at hw ⊢
    have hq := gQ_is (f := Md.l) Md.bel Md.len P
    have hb : belL 0 [AV.agg [.i .u8 f, .i .u16 i, .i .u8 b, .i .u8 t, .i .u8 s], .agg fm.l, .fz (rows strR ps) ps.length] = true := by
      simp only [belL, AV.bel, fm.bel, rows_bel strR_bel, Bool.and_self]
    have := CallOK.shs (P := Try.prog) (f := 31) (A := [AV.agg [.i .u8 f, .i .u16 i, .i .u8 b, .i .u8 t, .i .u8 s], .agg fm.l, .fz (rows strR ps) ps.length]) (ss := []) (ts := [gQ Md.l 9 P]) (bs := []) (vR := (gQ Md.l 9 P).v 0) (h := h) (n := n) (by kernel_rfl) rfl hb
      (fun i s b h1 => by simp at h1) (fun i j s t b h1 => by simp at h1) (fun t ht => by
        rw [List.mem_singleton.1 ht]; exact ⟨hq.pl, gQ_fresh P⟩) (by simpa [shsH] using hw)
    refine this.cast (renL_fix0 _ hb) ?_
    have e1 : chiS n [] [] 0 = n := rfl
    simp only [v_ren, e1, shsH, shBl, List.length_nil, List.length_cons, Nat.zero_add, Nat.add_zero, List.append_nil]
  · cases hc
end Go.Proofs.Pic
