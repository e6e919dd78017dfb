/- Contract of chapter 29: the state of a draft, made by the reference. -/
import Derived.Test.YtiacdfhaopnekaaArrC11
import Derived.Test.YtiacdfhaopnekaaArrC12
import Derived.Test.YtiacdfhaopnekaaArrP7
import Derived.Test.YtiacdfhaopnekaaAbSeam
import Derived.Test.YtiacdfhaopnekaaArrI11
namespace Go.Proofs.Arr
open Go.Ab
set_option maxRecDepth 100000
set_option maxHeartbeats 16000000
set_option linter.unusedSimpArgs false
set_option linter.unusedVariables false
theorem Dr.eta (d : Dr) : Dr.mk d.f d.e d.la = d := rfl
def k21 : Ct
  | [.agg c], h, n => (drV c).bind fun q => (shAt q.2 h).bind fun s => (rdL pkV 2 s).bind fun l => some (l.all Pk.ok && q.1.ok, { v := .tup [(intQ (sL q.1 l (min l.length 60))).v (n + 1), (intQ (gL q.1 l (min l.length 60))).v (n + 2)], n := n + 3, rd := shR q.2, nw := (intQ (sL q.1 l (min l.length 60))).h (n + 1) ++ (intQ (gL q.1 l (min l.length 60))).h (n + 2) })
  | _, _, _ => none
theorem s21 : SoundAt Try.prog 21 k21 := fun args h n c E hc ht => by
  unfold k21 at hc
  split at hc
  · simp only [Option.bind_eq_some_iff] at hc
    obtain ⟨q, hq, s, hs, l, hl, he⟩ := hc
    obtain ⟨d, v⟩ := q
    cases he
    simp only [Bool.and_eq_true] at ht
    have hp := pks_rd hl
    rw [drV_eq hq]
    have := CallOK.sh1n2 (n := n) (A := fun b => [.agg (d.l (s.v b))]) (U := fun a b => .tup [(intQ (sL d l (min l.length 60))).v a, (intQ (gL d l (min l.length 60))).v b]) (by kernel_rfl) (by simp [belL, AV.bel, Dr.l_bel]) hs hp.pl (intQ_ints _).pl (intQ_fresh _) (intQ_ints _).pl (intQ_fresh _) (fun ψ => by simp [renL, AV.ren, Dr.l_ren]) (fun h0 i => by subst h0; rfl) (fun ψ => by simp [AV.ren, renL, v_ren]) (w21 d s l hp ht.1 ht.2)
    rwa [← (shAt_inv hs).1] at this
  · cases hc
/-- The slices of the states, by the reference. -/
def runR (s g : Nat → Int) : Nat → Sh
  | 0 => .nil
  | k + 1 => adrQ (runS s g k).1 (runS s g k).2 (s k) (g k)
theorem runR_pts (s g : Nat → Int) : ∀ k, Sh.pts (runR s g k) (runS s g k).2
  | 0 => nil_pts
  | k + 1 => adrQ_pts _ _ _ _
theorem runR_fresh (s g : Nat → Int) : ∀ k, (runR s g k).fresh = true
  | 0 => rfl
  | k + 1 => adrQ_fresh _ _ _ _
def T11 : List (Nat × Ct) := [(19, k18), (21, k21), (16, k16)]
theorem hT11 : Sound Try.prog (cxT T11) := Sound.cons s19 <| Sound.cons s21 <| Sound.cons s16 Sound.nil
theorem sL_at {d : Dr} {l : List Pk} {n k : Nat} (h : k < n) : (sL d l n)[k]? = some (sN d l (k + 1)) := by simp [sL, h]
theorem gL_at {d : Dr} {l : List Pk} {n k : Nat} (h : k < n) : (gL d l n)[k]? = some (gN d l (k + 1)) := by simp [gL, h]
abbrev sA (d : Dr) (l : List Pk) : Nat → Int := fun k => sN d l (k + 1)
abbrev gA (d : Dr) (l : List Pk) : Nat → Int := fun k => gN d l (k + 1)
def drU (d : Dr) (l : List Pk) (b : Nat) : AV := .agg ((runS (sA d l) (gA d l) (min l.length 60)).1.l ((runR (sA d l) (gA d l) (min l.length 60)).v b))
theorem w11 (d : Dr) (s : Sh) (l : List Pk) (hs : Sh.pks s l) (hl : l.all Pk.ok = true) (hd : d.ok = true) : FTL Try.prog 11 [.agg (d.l (s.v 0))] (s.h 0) 1 (drU d l 1) (s.h 0 ++ (runR (sA d l) (gA d l) (min l.length 60)).h 1) 2 := by
  refine FTL.of_iw hT11 mo Try.func11 i11_eq (by simp [i11]) (iw_of_jw ?_)
  dsimp only [i11, T11]
  have hp := hs.pl
  have hrd := rd_pks hs
  obtain ⟨m, hm⟩ : ∃ m, min l.length 60 = m := ⟨_, rfl⟩
  have hm60 : m ≤ 60 := by omega
  have hqs := intQ_ints (sL d l m)
  have hqg := intQ_ints (gL d l m)
  have hls : (intQ (sL d l m)).len = m := by rw [hqs.ln, sL_len]
  have hlg : (intQ (gL d l m)).len = m := by rw [hqg.ln, gL_len]
  have hps := hqs.pl
  have hpg := hqg.pl
  have hcs : m ≠ 0 → intQ (sL d l m) ≠ .nil := fun h => hqs.ne (by intro e; have := sL_len d l m; rw [e] at this; simp at this; omega)
  have hcg : m ≠ 0 → intQ (gL d l m) ≠ .nil := fun h => hqg.ne (by intro e; have := gL_len d l m; rw [e] at this; simp at this; omega)
  have hxs : ∀ k, k < m → (intQ (sL d l m)).blk.cells[(intQ (sL d l m)).o + k * 1]? = some (.i .i64 (sN d l (k + 1))) := fun k hk => row_get (j := 0) int1_len (hqs.cells (hcs (by omega))).1 (sL_at hk) rfl
  have hxg : ∀ k, k < m → (intQ (gL d l m)).blk.cells[(intQ (gL d l m)).o + k * 1]? = some (.i .i64 (gN d l (k + 1))) := fun k hk => row_get (j := 0) int1_len (hqg.cells (hcg (by omega))).1 (gL_at hk) rfl
  generalize hQS : intQ (sL d l m) = QS at *
  generalize hQG : intQ (gL d l m) = QG at *
  have hm' : (if l.length ≤ 60 then l.length else 60) = m := by rw [← hm]; split <;> omega
  rw [hm]
  have hR := runR_pts (sA d l) (gA d l) m
  have fin : ∀ (n : Nat) (r : Hp) (v : AV), v = drU d l 7 → hasS r s 0 → hasS r (runR (sA d l) (gA d l) m) 7 → Go.Ab.Ends 1 v r n (drU d l 1) (s.h 0 ++ (runR (sA d l) (gA d l) m).h 1) 2 := fun n r v hv h1 h2 =>
    Ends.s1n (s := s) (U := drU d l) hp hR.pl (by decide) hv (fun ψ => by simp [drU, AV.ren, Tr.l_ren]) (by simp [drU, AV.bel, Tr.l_bel]) h1 h2
  have eU : drU d l 7 = .agg ((runS (sA d l) (gA d l) m).1.l ((runR (sA d l) (gA d l) m).v 7)) := by rw [drU, hm]
  rw [eU] at fin
  obtain ⟨U, hU⟩ : ∃ U, U = drU d l 1 := ⟨_, rfl⟩
  obtain ⟨H2, hH2⟩ : ∃ H2, H2 = s.h 0 ++ (runR (sA d l) (gA d l) m).h 1 := ⟨_, rfl⟩
  rw [← hU, ← hH2]
  rw [← hU, ← hH2] at fin
  clear hU hH2
  simp (config := { maxSteps := 400000 }) only [go_sem, Dr.l, k18, k21, drV, newT, zTr, Tr.l, hrd, hl, hd, hm', hQS, hQG, hls, rngN_hh, hps, hpg, Dr.eta, simprocAttr]
  refine Loop.stepR (F := ⟨Try.prog, cxT T11, [16], 33, 1⟩) hT11 mo (X := Nat) (fun k => k ≤ m) (fun k => m - k)
    (fun k => [(2, .p 2 0), (3, .p 3 0), (4, QS.v 5), (5, QG.v 6), (6, .i .i64 (k : Int))])
    (fun k => (2, { cells := zTr.l .ns }) :: (3, { cells := (runS (sA d l) (gA d l) k).1.l ((runR (sA d l) (gA d l) k).v 7) }) :: ((runR (sA d l) (gA d l) k).h 7 ++ (QS.h 5 ++ (QG.h 6 ++ s.h 0)))) 8 0 (fun k => k + 1) [] (fun _ => [(7, 9)]) (by decide) (by decide) (fun _ => by decide) (Nat.zero_le _) ?_ ?_ (fun k hk => ?_)
  · simp (config := { maxSteps := 400000 }) only [go_sem, AV.ren, renL, AV.bel, belL, nblt, simprocAttr]
  · have h2 : runR (sA d l) (gA d l) 0 = .nil := rfl
    have h3 : runS (sA d l) (gA d l) 0 = (newT, []) := rfl
    simp (config := { maxSteps := 400000 }) only [go_sem, h2, h3, shh_n, shv_n, Tr.l, newT, zTr, AV.bel, belL, nblt, hps, hpg, hp, Blk.ren, renL, AV.ren, simprocAttr]
  · dsimp only [T11]
    by_cases hlt : k < m
    · have hR := runR_pts (sA d l) (gA d l) k
      have hR' := runR_pts (sA d l) (gA d l) (k + 1)
      have hL := runS_len (sA d l) (gA d l) k
      have e1 : runS (sA d l) (gA d l) (k + 1) = addS (runS (sA d l) (gA d l) k).1 (runS (sA d l) (gA d l) k).2 (sA d l k) (gA d l k) := rfl
      have e3 : runR (sA d l) (gA d l) (k + 1) = adrQ (runS (sA d l) (gA d l) k).1 (runS (sA d l) (gA d l) k).2 (sA d l k) (gA d l k) := rfl
      have xs := hxs k hlt
      have xg := hxg k hlt
      change _ = some (AV.i IntKind.i64 (sA d l k)) at xs
      change _ = some (AV.i IntKind.i64 (gA d l k)) at xg
      rw [e1] at hR' ⊢
      rw [e3] at hR' ⊢
      have hns := hcs (by omega)
      have hng := hcg (by omega)
      generalize sA d l k = a at *
      generalize gA d l k = b at *
      generalize runS (sA d l) (gA d l) k = TL at *
      obtain ⟨t, pts⟩ := TL
      generalize runR (sA d l) (gA d l) k = R at *
      dsimp only at hR hR' hL ⊢
      have rR := rd_pts hR
      have pR := hR.pl
      have pR' := hR'.pl
      have dl : decide (pts.length ≤ 1000000) = true := decide_eq_true (by omega)
      have c1 : decide ((k : Int) < (m : Int)) = true := decide_eq_true (by omega)
      have c2 : decide (0 ≤ (k : Int) ∧ (k : Int) < (m : Int)) = true := decide_eq_true (by omega)
      have hw : IntKind.i64.wrap ((k : Int) + 1) = ((k + 1 : Nat) : Int) := by rw [wrapL (by omega) (by omega)]; omega
      have ss := slParts_v (b := 5) hns
      have sg := slParts_v (b := 6) hng
      have gs : ∀ r, hget (QS.h 5 ++ r) 5 = some QS.blk := fun r => hget_at hns
      have gg : ∀ r, hget (QG.h 6 ++ r) 6 = some QG.blk := fun r => hget_at hng
      have hsk : m - (k + 1) < m - k := by omega
      simp (config := { maxSteps := 400000 }) only [go_sem, Tr.l, c1, c2, xs, xg, ss, sg, gs, gg, hls, hlg, k16, trV, Tr.eta, rR, dl, adrU, hw, pR, pR', hps, hpg, hp, hlt, hsk, shD_v, AV.bel, belL, nblt, Blk.ren, renL, AV.ren, okAll_push, simprocAttr]
      omega
    · have c1 : decide ((k : Int) < (m : Int)) = false := decide_eq_false (by omega)
      have hkm : k = m := by omega
      subst hkm
      simp (config := { maxSteps := 400000 }) only [go_sem, Tr.l, c1, hls, zTr, simprocAttr]
      refine fin _ _ _ ?_ ?_ ?_
      · rfl
      · simp [hasS_cons, hasS_skip, hasS_hit0]
      · simp [hasS_cons, hasS_hit]
def k11 : Ct
  | [.agg c], h, n => (drV c).bind fun q => (shAt q.2 h).bind fun s => (rdL pkV 2 s).bind fun l => some (l.all Pk.ok && q.1.ok, { v := drU q.1 l (n + 1), n := n + 2, rd := shR q.2, nw := (runR (sA q.1 l) (gA q.1 l) (min l.length 60)).h (n + 1) })
  | _, _, _ => none
theorem s11 : SoundAt Try.prog 11 k11 := fun args h n c E hc ht => by
  unfold k11 at hc
  split at hc
  · simp only [Option.bind_eq_some_iff] at hc
    obtain ⟨q, hq, s, hs, l, hl, he⟩ := hc
    obtain ⟨d, v⟩ := q
    cases he
    simp only [Bool.and_eq_true] at ht
    have hp := pks_rd hl
    rw [drV_eq hq]
    have := CallOK.sh1n (n := n) (A := fun b => [.agg (d.l (s.v b))]) (U := drU d l) (by kernel_rfl) (by simp [belL, AV.bel, Dr.l_bel]) hs hp.pl (runR_pts _ _ _).pl (runR_fresh _ _ _) (fun ψ => by simp [renL, AV.ren, Dr.l_ren]) (fun h0 i => by subst h0; rfl) (fun ψ => by simp [drU, AV.ren, Tr.l_ren]) (w11 d s l hp ht.1 ht.2)
    rwa [← (shAt_inv hs).1] at this
  · cases hc
end Go.Proofs.Arr
