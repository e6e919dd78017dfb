/- ArrivalSteps: the walk; printed by arrl4.py. -/
import Derived.Test.YtiacdfhaopnekaaArrC12
import Derived.Test.YtiacdfhaopnekaaAbShs
namespace Go.Proofs.Arr
open Go.Ab
set_option maxRecDepth 100000
set_option maxHeartbeats 16000000
set_option linter.unusedSimpArgs false
set_option linter.unusedVariables false
theorem Dr.eta (d : Dr) : Dr.mk d.f d.e d.la = d := rfl
def k21 : Ct
  | [.agg c], h, n => (drV c).bind fun q => (shAt q.2 h).bind fun s => (rdL pkV 2 s).bind fun l => some (l.all Pk.ok && q.1.ok, { v := .tup [(intQ (sL q.1 l (min l.length 60))).v (n + 1), (intQ (gL q.1 l (min l.length 60))).v (n + 2)], n := n + 3, rd := shR q.2, nw := (intQ (sL q.1 l (min l.length 60))).h (n + 1) ++ (intQ (gL q.1 l (min l.length 60))).h (n + 2) })
  | _, _, _ => none
theorem s21 : SoundAt Try.prog 21 k21 := fun args h n c E hc ht => by
  unfold k21 at hc
  split at hc
  · simp only [Option.bind_eq_some_iff] at hc
    obtain ⟨q, hq, s, hs, l, hl, he⟩ := hc
    obtain ⟨d, v⟩ := q
    cases he
    simp only [Bool.and_eq_true] at ht
    have hp := pks_rd hl
    rw [drV_eq hq]
    have := CallOK.sh1n2 (n := n) (A := fun b => [.agg (d.l (s.v b))]) (U := fun a b => .tup [(intQ (sL d l (min l.length 60))).v a, (intQ (gL d l (min l.length 60))).v b]) (by kernel_rfl) (by simp [belL, AV.bel, Dr.l_bel]) hs hp.pl (intQ_ints _).pl (intQ_fresh _) (intQ_ints _).pl (intQ_fresh _) (fun ψ => by simp [renL, AV.ren, Dr.l_ren]) (fun h0 i => by subst h0; rfl) (fun ψ => by simp [AV.ren, renL, v_ren]) (w21 d s l hp ht.1 ht.2)
    rwa [← (shAt_inv hs).1] at this
  · cases hc
theorem weigh_len {t : Tr} {l : List Pt} (h : l.length ≤ 20) : (weighT t l).2.length ≤ 20 := by
  rw [weigh_eq]
  split
  · simp
  · exact (next_len h).2
theorem add_len {t : Tr} {l : List Pt} {a b : Int} (h : l.length ≤ 20) : (addS t l a b).2.length ≤ 20 := by
  unfold addS
  split
  · unfold addT
    split
    · exact h
    · dsimp only
      split
      · exact h
      · split
        · exact h
        · cases t.past
          · exact h
          · exact weigh_len h
  · simp
/-- The states behind the packets of a draft. -/
def stp (d : Dr) (pk : List Pk) : Nat → Tr × List Pt
  | 0 => (newT, [])
  | k + 1 => addS (stp d pk k).1 (stp d pk k).2 (sN d pk (k + 1)) (gN d pk (k + 1))
/-- Their slices: the program's, and the reference's. -/
def stP (d : Dr) (pk : List Pk) : Nat → Sh
  | 0 => .nil
  | k + 1 => addQ (stp d pk k).1 (stP d pk k) (stp d pk k).2 (sN d pk (k + 1)) (gN d pk (k + 1))
def stR (d : Dr) (pk : List Pk) : Nat → Sh
  | 0 => .nil
  | k + 1 => adrQ (stp d pk k).1 (stp d pk k).2 (sN d pk (k + 1)) (gN d pk (k + 1))
theorem stP_pts (d : Dr) (pk : List Pk) : ∀ k, Sh.pts (stP d pk k) (stp d pk k).2
  | 0 => nil_pts
  | k + 1 => addQ_pts (stP_pts d pk k)
theorem stR_pts (d : Dr) (pk : List Pk) : ∀ k, Sh.pts (stR d pk k) (stp d pk k).2
  | 0 => nil_pts
  | k + 1 => adrQ_pts _ _ _ _
theorem stp_len (d : Dr) (pk : List Pk) : ∀ k, (stp d pk k).2.length ≤ 20
  | 0 => by simp [stp]
  | k + 1 => add_len (stp_len d pk k)
def T4 : List (Nat × Ct) := [(18, k18), (19, k18), (21, k21), (15, k15), (16, k16), (17, k17), (20, k20)]
theorem hT4 : Sound Try.prog (cxT T4) := Sound.cons s18 <| Sound.cons s19 <| Sound.cons s21 <| Sound.cons s15 <| Sound.cons s16 <| Sound.cons s17 <| Sound.cons s20 Sound.nil
theorem sL_at {d : Dr} {l : List Pk} {n k : Nat} (h : k < n) : (sL d l n)[k]? = some (sN d l (k + 1)) := by simp [sL, h]
theorem gL_at {d : Dr} {l : List Pk} {n k : Nat} (h : k < n) : (gL d l n)[k]? = some (gN d l (k + 1)) := by simp [gL, h]
theorem w4 (d : Dr) (s : Sh) (l : List Pk) (hs : Sh.pks s l) (hl : l.all Pk.ok = true) (hd : d.ok = true) : FTL Try.prog 4 [.agg (d.l (s.v 0))] (s.h 0) 1 (.b true) [] 1 := by
  refine FTL.of_iw hT4 mo Try.func4 i4_eq (by simp [i4]) (iw_of_jw ?_)
  dsimp only [i4, T4]
  have hp := hs.pl
  have hrd := rd_pks hs
  obtain ⟨m, hm⟩ : ∃ m, min l.length 60 = m := ⟨_, rfl⟩
  have hm60 : m ≤ 60 := by omega
  have hqs := intQ_ints (sL d l m)
  have hqg := intQ_ints (gL d l m)
  have hls : (intQ (sL d l m)).len = m := by rw [hqs.ln, sL_len]
  have hps := hqs.pl
  have hpg := hqg.pl
  have hcs : m ≠ 0 → intQ (sL d l m) ≠ .nil := fun h => hqs.ne (by intro e; have := sL_len d l m; rw [e] at this; simp at this; omega)
  have hcg : m ≠ 0 → intQ (gL d l m) ≠ .nil := fun h => hqg.ne (by intro e; have := gL_len d l m; rw [e] at this; simp at this; omega)
  have hxs : ∀ k, k < m → (intQ (sL d l m)).blk.cells[(intQ (sL d l m)).o + k * 1]? = some (.i .i64 (sN d l (k + 1))) := fun k hk => row_get (j := 0) int1_len (hqs.cells (hcs (by omega))).1 (sL_at hk) rfl
  have hxg : ∀ k, k < m → (intQ (gL d l m)).blk.cells[(intQ (gL d l m)).o + k * 1]? = some (.i .i64 (gN d l (k + 1))) := fun k hk => row_get (j := 0) int1_len (hqg.cells (hcg (by omega))).1 (gL_at hk) rfl
  have hlg : (intQ (gL d l m)).len = m := by rw [hqg.ln, gL_len]
  generalize hQS : intQ (sL d l m) = QS at *
  generalize hQG : intQ (gL d l m) = QG at *
  have hm' : (if l.length ≤ 60 then l.length else 60) = m := by rw [← hm]; split <;> omega
  simp (config := { maxSteps := 400000 }) only [go_sem, Dr.l, k18, k21, drV, newT, zTr, Tr.l, hrd, hl, hd, hm', hQS, hQG, hls, rngN_hh, hps, hpg, Dr.eta, ↓reduceIte, beq_self_eq_true, bne_self_eq_false, Int.reduceAdd, Int.reduceSub, Int.reduceMul, Int.reduceNeg, Int.reduceEq, Int.reduceNe, Int.cast_ofNat_Int, Int.lt_irrefl, Int.le_refl, Nat.reduceEqDiff, Nat.reduceLeDiff, Nat.reduceLT, Int.reducePow, IntKind.bits, Nat.reduceAdd, Nat.reduceMul, Nat.reduceSub, Int.reduceBNe, Int.reduceBEq, Int.reduceLE, Int.reduceLT, Int.reduceToNat, reduceCtorEq, Nat.zero_ne_one, Nat.one_ne_zero, and_self, and_true, true_and, Option.getD_some, Option.isSome_some, wrapL, gt_iff_lt, ge_iff_le, Int.toNat_natCast, Nat.sub_zero, ite_self, spB_TT, Nat.zero_add, Nat.add_zero]
  refine Loop.stepR (F := ⟨Try.prog, cxT T4, [20, 56], 59, 1⟩) hT4 mo (X := Nat) (fun k => k ≤ m) (fun k => m - k)
    (fun k => [(3, .p 2 0), (4, .p 3 0), (5, QS.v 5), (6, QG.v 6), (18, .i .i64 (m : Int)), (19, .i .i64 (k : Int))])
    (fun k => (2, { cells := (stp d l k).1.l ((stP d l k).v 7) }) :: (3, { cells := (stp d l k).1.l ((stR d l k).v 8) }) :: ((stP d l k).h 7 ++ ((stR d l k).h 8 ++ (QS.h 5 ++ QG.h 6)))) 9 0 (fun k => k + 1) [(5, 5), (6, 6)] (fun _ => [(7, 10), (8, 12)]) (by decide) (by decide) (fun _ => by decide) (Nat.zero_le _) ?_ ?_ (fun k hk => ?_)
  · simp (config := { maxSteps := 400000 }) only [go_sem, AV.ren, renL, AV.bel, belL, nblt, ↓reduceIte, beq_self_eq_true, bne_self_eq_false, Int.reduceAdd, Int.reduceSub, Int.reduceMul, Int.reduceNeg, Int.reduceEq, Int.reduceNe, Int.cast_ofNat_Int, Int.lt_irrefl, Int.le_refl, Nat.reduceEqDiff, Nat.reduceLeDiff, Nat.reduceLT, Int.reducePow, IntKind.bits, Nat.reduceAdd, Nat.reduceMul, Nat.reduceSub, Int.reduceBNe, Int.reduceBEq, Int.reduceLE, Int.reduceLT, Int.reduceToNat, reduceCtorEq, Nat.zero_ne_one, Nat.one_ne_zero, and_self, and_true, true_and, Option.getD_some, Option.isSome_some, wrapL, gt_iff_lt, ge_iff_le, Int.toNat_natCast, Nat.sub_zero, ite_self, spB_TT, Nat.zero_add, Nat.add_zero]
  · have h1 : stP d l 0 = .nil := rfl
    have h2 : stR d l 0 = .nil := rfl
    have h3 : stp d l 0 = (newT, []) := rfl
    simp (config := { maxSteps := 400000 }) only [go_sem, h1, h2, h3, shh_n, shv_n, Tr.l, newT, zTr, AV.bel, belL, nblt, hps, hpg, Blk.ren, renL, AV.ren, ↓reduceIte, beq_self_eq_true, bne_self_eq_false, Int.reduceAdd, Int.reduceSub, Int.reduceMul, Int.reduceNeg, Int.reduceEq, Int.reduceNe, Int.cast_ofNat_Int, Int.lt_irrefl, Int.le_refl, Nat.reduceEqDiff, Nat.reduceLeDiff, Nat.reduceLT, Int.reducePow, IntKind.bits, Nat.reduceAdd, Nat.reduceMul, Nat.reduceSub, Int.reduceBNe, Int.reduceBEq, Int.reduceLE, Int.reduceLT, Int.reduceToNat, reduceCtorEq, Nat.zero_ne_one, Nat.one_ne_zero, and_self, and_true, true_and, Option.getD_some, Option.isSome_some, wrapL, gt_iff_lt, ge_iff_le, Int.toNat_natCast, Nat.sub_zero, ite_self, spB_TT, Nat.zero_add, Nat.add_zero]
  · dsimp only [T4]
    by_cases hlt : k < m
    · have hP := stP_pts d l k
      have hR := stR_pts d l k
      have hP' := stP_pts d l (k + 1)
      have hR' := stR_pts d l (k + 1)
      have hL := stp_len d l k
      have hL' := stp_len d l (k + 1)
      have e1 : stp d l (k + 1) = addS (stp d l k).1 (stp d l k).2 (sN d l (k + 1)) (gN d l (k + 1)) := rfl
      have e2 : stP d l (k + 1) = addQ (stp d l k).1 (stP d l k) (stp d l k).2 (sN d l (k + 1)) (gN d l (k + 1)) := rfl
      have e3 : stR d l (k + 1) = adrQ (stp d l k).1 (stp d l k).2 (sN d l (k + 1)) (gN d l (k + 1)) := rfl
      rw [e1] at hL' hP' hR' ⊢
      rw [e2] at hP' ⊢
      rw [e3] at hR' ⊢
      have xs := hxs k hlt
      have xg := hxg k hlt
      have hns := hcs (by omega)
      have hng := hcg (by omega)
      generalize sN d l (k + 1) = a at *
      generalize gN d l (k + 1) = b at *
      generalize stp d l k = TL at *
      obtain ⟨t, pts⟩ := TL
      dsimp only at hP hR hP' hR' hL hL' ⊢
      generalize stP d l k = P at *
      generalize stR d l k = R at *
      have rP := rd_pts hP
      have rR := rd_pts hR
      have rP' := rd_pts hP'
      have rR' := rd_pts hR'
      have pP := hP.pl
      have pR := hR.pl
      have pP' := hP'.pl
      have pR' := hR'.pl
      have dl : decide (pts.length ≤ 1000000) = true := decide_eq_true (by omega)
      have dl' : decide ((addS t pts a b).2.length ≤ 1000000) = true := decide_eq_true (by omega)
      have c1 : decide ((k : Int) < (m : Int)) = true := decide_eq_true (by omega)
      have c2 : decide (0 ≤ (k : Int) ∧ (k : Int) < (m : Int)) = true := decide_eq_true (by omega)
      have hw : IntKind.i64.wrap ((k : Int) + 1) = ((k + 1 : Nat) : Int) := by rw [wrapL (by omega) (by omega)]; omega
      have ss := slParts_v (b := 5) hns
      have sg := slParts_v (b := 6) hng
      have gs : ∀ r, hget (QS.h 5 ++ r) 5 = some QS.blk := fun r => hget_at hns
      have gg : hget (QG.h 6) 6 = some QG.blk := hget_at0 hng
      have hsk : m - (k + 1) < m - k := by omega
      simp (config := { maxSteps := 400000 }) only [go_sem, Tr.l, c1, c2, xs, xg, ss, sg, gs, gg, hls, hlg, k15, k16, k17, trV, Tr.eta, rP, rR, rP', rR', dl, dl', addU, adrU, eqT_rfl, eqP_rfl, hw, pP, pR, pP', pR', hps, hpg, hlt, hsk, AV.bel, belL, nblt, Blk.ren, renL, AV.ren, ↓reduceIte, beq_self_eq_true, bne_self_eq_false, Int.reduceAdd, Int.reduceSub, Int.reduceMul, Int.reduceNeg, Int.reduceEq, Int.reduceNe, Int.cast_ofNat_Int, Int.lt_irrefl, Int.le_refl, Nat.reduceEqDiff, Nat.reduceLeDiff, Nat.reduceLT, Int.reducePow, IntKind.bits, Nat.reduceAdd, Nat.reduceMul, Nat.reduceSub, Int.reduceBNe, Int.reduceBEq, Int.reduceLE, Int.reduceLT, Int.reduceToNat, reduceCtorEq, Nat.zero_ne_one, Nat.one_ne_zero, and_self, and_true, true_and, Option.getD_some, Option.isSome_some, wrapL, gt_iff_lt, ge_iff_le, Int.toNat_natCast, Nat.sub_zero, ite_self, spB_TT, Nat.zero_add, Nat.add_zero]
      first | omega | exact ⟨by omega, trivial⟩
    · have c1 : decide ((k : Int) < (m : Int)) = false := decide_eq_false (by omega)
      simp (config := { maxSteps := 400000 }) only [go_sem, c1, k20, ↓reduceIte, beq_self_eq_true, bne_self_eq_false, Int.reduceAdd, Int.reduceSub, Int.reduceMul, Int.reduceNeg, Int.reduceEq, Int.reduceNe, Int.cast_ofNat_Int, Int.lt_irrefl, Int.le_refl, Nat.reduceEqDiff, Nat.reduceLeDiff, Nat.reduceLT, Int.reducePow, IntKind.bits, Nat.reduceAdd, Nat.reduceMul, Nat.reduceSub, Int.reduceBNe, Int.reduceBEq, Int.reduceLE, Int.reduceLT, Int.reduceToNat, reduceCtorEq, Nat.zero_ne_one, Nat.one_ne_zero, and_self, and_true, true_and, Option.getD_some, Option.isSome_some, wrapL, gt_iff_lt, ge_iff_le, Int.toNat_natCast, Nat.sub_zero, ite_self, spB_TT, Nat.zero_add, Nat.add_zero]
      exact Ends.pure rfl
end Go.Proofs.Arr
