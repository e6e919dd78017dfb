/- ArrivalCalm: the walk. -/
import Derived.Test.YtiacdfhaopnekaaArrP11
import Derived.Test.YtiacdfhaopnekaaArrC12
import Derived.Test.YtiacdfhaopnekaaAbShs
import Derived.Test.YtiacdfhaopnekaaArrI6
namespace Go.Proofs.Arr
open Go.Ab
set_option maxRecDepth 100000
set_option maxHeartbeats 16000000
set_option linter.unusedSimpArgs false
set_option linter.unusedVariables false
theorem shD_vsl {s : Sh} {b c o l k : Nat} (h : b ≠ c) : shD (s.v b) (.sl c o l k) = true := by
  cases s <;> simp [Sh.v, shD, nbeq, h]
theorem Dr.eta (d : Dr) : Dr.mk d.f d.e d.la = d := rfl
def T6 : List (Nat × Ct) := [(18, k18), (24, k24), (20, k20)]
theorem hT6 : Sound Try.prog (cxT T6) := Sound.cons s18 <| Sound.cons s24 <| Sound.cons s20 Sound.nil
abbrev cQ (d : Dr) (pk : List Pk) (m : Nat) (T : Int) : Nat → Sh := runQ (fun k => cS d pk m (k + 1)) (fun k => cS d pk m (k + 1) + T)
theorem w6 (d : Dr) (s : Sh) (l : List Pk) (T : Int) (hs : Sh.pks s l) (hsn : s.sane 2 = true) (hl : l.all Pk.ok = true) (hd : d.ok = true) (hT : 0 ≤ T ∧ T ≤ 65535) : FTL Try.prog 6 [.agg (d.l (s.v 0)), .i .u16 T] (s.h 0) 1 (.b true) [] 1 := by
  refine FTL.of_iw hT6 mo Try.func6 i6_eq (by simp [i6]) (iw_of_jw ?_)
  dsimp only [i6, T6]
  have hp := hs.pl
  have hln : s.len = l.length := hs.ln
  have hrd := rd_pks hs
  obtain ⟨m, hm⟩ : ∃ m, min l.length 60 = m := ⟨_, rfl⟩
  have hm60 : m ≤ 60 := by omega
  have hml : m ≤ l.length := by omega
  have hm' : (if l.length ≤ 60 then l.length else 60) = m := by rw [← hm]; split <;> omega
  have y1 : IntKind.i64.wrap d.f = d.f := by
    have := hd
    simp only [Dr.ok, Bool.and_eq_true, inI_iff] at this
    exact wrapL (by omega) (by omega)
  have hmi : min (l.length : Int) 60 = (m : Int) := by omega
  have hcd : decide (0 ≤ (m : Int) ∧ (m : Int) ≤ (l.length : Int)) = true := decide_eq_true (by omega)
  have hcl : (s.cut m).len = m := cut_len (by omega)
  simp (config := { maxSteps := 400000 }) only [go_sem, Dr.l, k18, k20, newT, zTr, Tr.l, hrd, hl, hd, hm', hmi, hln, hsn, hcd, hcl, y1, Dr.eta, ↓reduceIte, beq_self_eq_true, bne_self_eq_false, Int.reduceAdd, Int.reduceSub, Int.reduceMul, Int.reduceNeg, Int.reduceEq, Int.reduceNe, Int.cast_ofNat_Int, Int.lt_irrefl, Int.le_refl, Nat.reduceEqDiff, Nat.reduceLeDiff, Nat.reduceLT, Int.reducePow, IntKind.bits, Nat.reduceAdd, Nat.reduceMul, Nat.reduceSub, Int.reduceBNe, Int.reduceBEq, Int.reduceLE, Int.reduceLT, Int.reduceToNat, reduceCtorEq, Nat.zero_ne_one, Nat.one_ne_zero, and_self, and_true, true_and, Option.getD_some, Option.isSome_some, wrapL, gt_iff_lt, ge_iff_le, Int.toNat_natCast, Nat.sub_zero, ite_self, spB_TT, Nat.zero_add, Nat.add_zero]
  have tA := cS_times hd hl hml hT 100 (Nat.le_refl _)
  refine Loop.stepR (F := ⟨Try.prog, cxT T6, [14, 28, 86, 90, 118], 124, 1⟩) hT6 mo (X := Nat) (fun k => k ≤ m) (fun k => m - k)
    (fun k => [(1, .i .u16 T), (2, .p 1 0), (5, .p 2 0), (6, .i .i64 (cS d l m k)), (25, (s.cut m).v 0), (26, .i .i64 (m : Int)), (27, .i .i64 (k : Int))])
    (fun k => (1, { cells := d.l (s.v 0) }) :: (2, { cells := (cR d l m T k).1.l ((cQ d l m T k).v 3) }) :: ((cQ d l m T k).h 3 ++ s.h 0)) 4 0 (fun k => k + 1) [] (fun _ => [(3, 8)]) (by decide) (by decide) (fun _ => by decide) (Nat.zero_le _) ?_ ?_ (fun k hk => ?_)
  · have h1 : cS d l m 0 = d.f := rfl
    simp (config := { maxSteps := 400000 }) only [go_sem, h1, AV.ren, renL, AV.bel, belL, nblt, ↓reduceIte, beq_self_eq_true, bne_self_eq_false, Int.reduceAdd, Int.reduceSub, Int.reduceMul, Int.reduceNeg, Int.reduceEq, Int.reduceNe, Int.cast_ofNat_Int, Int.lt_irrefl, Int.le_refl, Nat.reduceEqDiff, Nat.reduceLeDiff, Nat.reduceLT, Int.reducePow, IntKind.bits, Nat.reduceAdd, Nat.reduceMul, Nat.reduceSub, Int.reduceBNe, Int.reduceBEq, Int.reduceLE, Int.reduceLT, Int.reduceToNat, reduceCtorEq, Nat.zero_ne_one, Nat.one_ne_zero, and_self, and_true, true_and, Option.getD_some, Option.isSome_some, wrapL, gt_iff_lt, ge_iff_le, Int.toNat_natCast, Nat.sub_zero, ite_self, spB_TT, Nat.zero_add, Nat.add_zero]
  · have h1 : cQ d l m T 0 = .nil := rfl
    have h3 : cR d l m T 0 = (newT, []) := rfl
    simp (config := { maxSteps := 400000 }) only [go_sem, h1, h3, shh_n, shv_n, Dr.l, Tr.l, newT, zTr, AV.bel, belL, nblt, Blk.ren, renL, AV.ren, hp, ↓reduceIte, beq_self_eq_true, bne_self_eq_false, Int.reduceAdd, Int.reduceSub, Int.reduceMul, Int.reduceNeg, Int.reduceEq, Int.reduceNe, Int.cast_ofNat_Int, Int.lt_irrefl, Int.le_refl, Nat.reduceEqDiff, Nat.reduceLeDiff, Nat.reduceLT, Int.reducePow, IntKind.bits, Nat.reduceAdd, Nat.reduceMul, Nat.reduceSub, Int.reduceBNe, Int.reduceBEq, Int.reduceLE, Int.reduceLT, Int.reduceToNat, reduceCtorEq, Nat.zero_ne_one, Nat.one_ne_zero, and_self, and_true, true_and, Option.getD_some, Option.isSome_some, wrapL, gt_iff_lt, ge_iff_le, Int.toNat_natCast, Nat.sub_zero, ite_self, spB_TT, Nat.zero_add, Nat.add_zero]
  · dsimp only [T6]
    by_cases hlt : k < m
    · have hP := runQ_pts (fun k => cS d l m (k + 1)) (fun k => cS d l m (k + 1) + T) k
      have hP' := runQ_pts (fun k => cS d l m (k + 1)) (fun k => cS d l m (k + 1) + T) (k + 1)
      have okA := run_ok tA (show k < 100 by omega)
      have cal := (calm_run hd hl hml hT (k + 1) (by omega)).1
      have thr := calm_step hd hl hml hT k (by omega)
      have e1 : cR d l m T (k + 1) = addS (cR d l m T k).1 (cR d l m T k).2 (cS d l m (k + 1)) (cS d l m (k + 1) + T) := rfl
      have e2 : cQ d l m T (k + 1) = addQ (cR d l m T k).1 (cQ d l m T k) (cR d l m T k).2 (cS d l m (k + 1)) (cS d l m (k + 1) + T) := rfl
      have e3 : cS d l m (k + 1) = cS d l m k + (d.e % 40 + (l.getD k default).g) := by simp only [cS]; rw [if_pos hlt]
      have pr := pk_at hl (show k < l.length by omega)
      have hne : s ≠ .nil := hs.ne (by rintro rfl; simp at hml; omega)
      have hsp : slParts ((s.cut m).v 0) = some (0, s.o, m) := cut_slParts hne
      have hga0 : hget (s.h 0) 0 = some s.blk := hget_at0 hne
      have xr := row_at (i := k) Pk.len (hs.cells hne).1 (show l[k]? = some (l.getD k default) by rw [List.getD_eq_getElem?_getD, List.getElem?_eq_getElem (by omega)]; rfl)
      have sr := cS_rng hd hl hml (k + 1)
      change List.take 2 (List.drop (s.o + k * 2) s.blk.cells) = _ at xr
      change adOK (cR d l m T k).1 (cR d l m T k).2 (cS d l m (k + 1)) (cS d l m (k + 1) + T) = true at okA
      change Sh.pts (cQ d l m T k) (cR d l m T k).2 at hP
      change Sh.pts (cQ d l m T (k + 1)) (cR d l m T (k + 1)).2 at hP'
      rw [e1] at hP' cal thr
      rw [e2] at hP'
      rw [e1, e2]
      generalize cS d l m (k + 1) = a at *
      generalize cR d l m T k = TL at *
      obtain ⟨t, pts⟩ := TL
      generalize cQ d l m T k = P at *
      generalize l.getD k default = x at *
      dsimp only at hP hP' okA cal thr ⊢
      have rP := rd_pts hP
      have pP := hP.pl
      have pP' := hP'.pl
      obtain ⟨u1, u2, u3, u4, u5, _, _, _, _⟩ := cal
      have uT : decide (t.thr < (addS t pts a (a + T)).1.thr) = false := decide_eq_false (by omega)
      have c1 : decide ((k : Int) < (m : Int)) = true := decide_eq_true (by omega)
      have c2 : decide (0 ≤ (k : Int) ∧ (k : Int) < (m : Int)) = true := decide_eq_true (by omega)
      have hw : IntKind.i64.wrap ((k : Int) + 1) = ((k + 1 : Nat) : Int) := by rw [wrapL (by omega) (by omega)]; omega
      have hsk : m - (k + 1) < m - k := by omega
      have dr := hd
      simp only [Dr.ok, Bool.and_eq_true, inI_iff] at dr
      have v1 : d.e.tmod 40 = d.e % 40 := Int.tmod_eq_emod_of_nonneg (by omega)
      have v2 : IntKind.i64.wrap (d.e % 40) = d.e % 40 := wrapL (by omega) (by omega)
      have v3 : IntKind.i64.wrap x.g = x.g := wrapL (by omega) (by omega)
      have v4 : IntKind.i64.wrap (d.e % 40 + x.g) = d.e % 40 + x.g := wrapL (by omega) (by omega)
      have v5 : IntKind.i64.wrap (cS d l m k + (d.e % 40 + x.g)) = a := by rw [wrapL (by omega) (by omega)]; omega
      have v6 : IntKind.i64.wrap T = T := wrapL (by omega) (by omega)
      have v7 : IntKind.i64.wrap (a + T) = a + T := wrapL (by omega) (by omega)
      simp (config := { maxSteps := 400000 }) only [go_sem, Tr.l, Dr.l, Pk.l, c1, c2, hsp, hga0, xr, k24, trV, Tr.eta, rP, prV, adU, okA, hw, pP, pP', hlt, hsk, v1, v2, v3, v4, v5, v6, v7, u1, u2, u3, u4, u5, uT, shD_vsl, AV.bel, belL, nblt, Blk.ren, renL, AV.ren, hp, ↓reduceIte, beq_self_eq_true, bne_self_eq_false, Int.reduceAdd, Int.reduceSub, Int.reduceMul, Int.reduceNeg, Int.reduceEq, Int.reduceNe, Int.cast_ofNat_Int, Int.lt_irrefl, Int.le_refl, Nat.reduceEqDiff, Nat.reduceLeDiff, Nat.reduceLT, Int.reducePow, IntKind.bits, Nat.reduceAdd, Nat.reduceMul, Nat.reduceSub, Int.reduceBNe, Int.reduceBEq, Int.reduceLE, Int.reduceLT, Int.reduceToNat, reduceCtorEq, Nat.zero_ne_one, Nat.one_ne_zero, and_self, and_true, true_and, Option.getD_some, Option.isSome_some, wrapL, gt_iff_lt, ge_iff_le, Int.toNat_natCast, Nat.sub_zero, ite_self, spB_TT, Nat.zero_add, Nat.add_zero]
      omega
    · have c1 : decide ((k : Int) < (m : Int)) = false := decide_eq_false (by omega)
      have hkm : k = m := by omega
      subst hkm
      simp (config := { maxSteps := 400000 }) only [go_sem, Tr.l, c1, ↓reduceIte, beq_self_eq_true, bne_self_eq_false, Int.reduceAdd, Int.reduceSub, Int.reduceMul, Int.reduceNeg, Int.reduceEq, Int.reduceNe, Int.cast_ofNat_Int, Int.lt_irrefl, Int.le_refl, Nat.reduceEqDiff, Nat.reduceLeDiff, Nat.reduceLT, Int.reducePow, IntKind.bits, Nat.reduceAdd, Nat.reduceMul, Nat.reduceSub, Int.reduceBNe, Int.reduceBEq, Int.reduceLE, Int.reduceLT, Int.reduceToNat, reduceCtorEq, Nat.zero_ne_one, Nat.one_ne_zero, and_self, and_true, true_and, Option.getD_some, Option.isSome_some, wrapL, gt_iff_lt, ge_iff_le, Int.toNat_natCast, Nat.sub_zero, ite_self, spB_TT, Nat.zero_add, Nat.add_zero]
      refine Loop.stepR (F := ⟨Try.prog, cxT T6, [14, 28, 86, 90, 118], 124, 1⟩) hT6 mo (X := Nat) (fun j => j ≤ 30) (fun j => 30 - j)
        (fun j => [(1, .i .u16 T), (5, .p 2 0), (6, .i .i64 (cS d l k (k + j))), (89, .i .i64 (j : Int))])
        (fun j => (2, { cells := (cR d l k T (k + j)).1.l ((cQ d l k T (k + j)).v 3) }) :: (cQ d l k T (k + j)).h 3) 4 0 (fun j => j + 1) [] (fun _ => [(3, 7)]) (by decide) (by decide) (fun _ => by decide) (Nat.zero_le _) ?_ ?_ (fun j hj => ?_)
      · simp (config := { maxSteps := 400000 }) only [go_sem, AV.ren, renL, AV.bel, belL, nblt, ↓reduceIte, beq_self_eq_true, bne_self_eq_false, Int.reduceAdd, Int.reduceSub, Int.reduceMul, Int.reduceNeg, Int.reduceEq, Int.reduceNe, Int.cast_ofNat_Int, Int.lt_irrefl, Int.le_refl, Nat.reduceEqDiff, Nat.reduceLeDiff, Nat.reduceLT, Int.reducePow, IntKind.bits, Nat.reduceAdd, Nat.reduceMul, Nat.reduceSub, Int.reduceBNe, Int.reduceBEq, Int.reduceLE, Int.reduceLT, Int.reduceToNat, reduceCtorEq, Nat.zero_ne_one, Nat.one_ne_zero, and_self, and_true, true_and, Option.getD_some, Option.isSome_some, wrapL, gt_iff_lt, ge_iff_le, Int.toNat_natCast, Nat.sub_zero, ite_self, spB_TT, Nat.zero_add, Nat.add_zero]
      · have pP := (runQ_pts (fun j => cS d l k (j + 1)) (fun j => cS d l k (j + 1) + T) k).pl
        simp (config := { maxSteps := 400000 }) only [go_sem, pP, Tr.l, AV.bel, belL, nblt, Blk.ren, renL, AV.ren, ↓reduceIte, beq_self_eq_true, bne_self_eq_false, Int.reduceAdd, Int.reduceSub, Int.reduceMul, Int.reduceNeg, Int.reduceEq, Int.reduceNe, Int.cast_ofNat_Int, Int.lt_irrefl, Int.le_refl, Nat.reduceEqDiff, Nat.reduceLeDiff, Nat.reduceLT, Int.reducePow, IntKind.bits, Nat.reduceAdd, Nat.reduceMul, Nat.reduceSub, Int.reduceBNe, Int.reduceBEq, Int.reduceLE, Int.reduceLT, Int.reduceToNat, reduceCtorEq, Nat.zero_ne_one, Nat.one_ne_zero, and_self, and_true, true_and, Option.getD_some, Option.isSome_some, wrapL, gt_iff_lt, ge_iff_le, Int.toNat_natCast, Nat.sub_zero, ite_self, spB_TT, Nat.zero_add, Nat.add_zero]
      · dsimp only [T6]
        by_cases hlt : j < 30
        · have hP := runQ_pts (fun j => cS d l k (j + 1)) (fun j => cS d l k (j + 1) + T) (k + j)
          have hP' := runQ_pts (fun j => cS d l k (j + 1)) (fun j => cS d l k (j + 1) + T) (k + j + 1)
          have okA := run_ok tA (show k + j < 100 by omega)
          have cal := (calm_run hd hl hml hT (k + j + 1) (by omega)).1
          have thr := calm_step hd hl hml hT (k + j) (by omega)
          have e1 : cR d l k T (k + j + 1) = addS (cR d l k T (k + j)).1 (cR d l k T (k + j)).2 (cS d l k (k + j + 1)) (cS d l k (k + j + 1) + T) := rfl
          have e2 : cQ d l k T (k + j + 1) = addQ (cR d l k T (k + j)).1 (cQ d l k T (k + j)) (cR d l k T (k + j)).2 (cS d l k (k + j + 1)) (cS d l k (k + j + 1) + T) := rfl
          have e3 : cS d l k (k + j + 1) = cS d l k (k + j) + 100 := by simp only [cS]; rw [if_neg (by omega)]
          have e4 : k + (j + 1) = k + j + 1 := rfl
          have sr := cS_rng hd hl hml (k + j + 1)
          change adOK (cR d l k T (k + j)).1 (cR d l k T (k + j)).2 (cS d l k (k + j + 1)) (cS d l k (k + j + 1) + T) = true at okA
          change Sh.pts (cQ d l k T (k + j)) (cR d l k T (k + j)).2 at hP
          change Sh.pts (cQ d l k T (k + j + 1)) (cR d l k T (k + j + 1)).2 at hP'
          rw [e1] at hP' cal thr
          rw [e2] at hP'
          rw [e4, e1, e2]
          generalize cS d l k (k + j + 1) = a at *
          generalize cR d l k T (k + j) = TL at *
          obtain ⟨t, pts⟩ := TL
          generalize cQ d l k T (k + j) = P at *
          dsimp only at hP hP' okA cal thr ⊢
          have rP := rd_pts hP
          have pP := hP.pl
          have pP' := hP'.pl
          obtain ⟨u1, u2, u3, u4, u5, _, _, _, _⟩ := cal
          have uT : decide (t.thr < (addS t pts a (a + T)).1.thr) = false := decide_eq_false (by omega)
          have c1 : decide ((j : Int) < 30) = true := decide_eq_true (by omega)
          have hw : IntKind.i64.wrap ((j : Int) + 1) = ((j + 1 : Nat) : Int) := by rw [wrapL (by omega) (by omega)]; omega
          have hsk : 30 - (j + 1) < 30 - j := by omega
          have v5 : IntKind.i64.wrap (cS d l k (k + j) + 100) = a := by rw [wrapL (by omega) (by omega)]; omega
          have v6 : IntKind.i64.wrap T = T := wrapL (by omega) (by omega)
          have v7 : IntKind.i64.wrap (a + T) = a + T := wrapL (by omega) (by omega)
          simp (config := { maxSteps := 400000 }) only [go_sem, Tr.l, c1, k24, trV, Tr.eta, rP, prV, adU, okA, hw, pP, pP', hlt, hsk, v5, v6, v7, u1, u2, u3, u4, u5, uT, shD_vsl, AV.bel, belL, nblt, Blk.ren, renL, AV.ren, ↓reduceIte, beq_self_eq_true, bne_self_eq_false, Int.reduceAdd, Int.reduceSub, Int.reduceMul, Int.reduceNeg, Int.reduceEq, Int.reduceNe, Int.cast_ofNat_Int, Int.lt_irrefl, Int.le_refl, Nat.reduceEqDiff, Nat.reduceLeDiff, Nat.reduceLT, Int.reducePow, IntKind.bits, Nat.reduceAdd, Nat.reduceMul, Nat.reduceSub, Int.reduceBNe, Int.reduceBEq, Int.reduceLE, Int.reduceLT, Int.reduceToNat, reduceCtorEq, Nat.zero_ne_one, Nat.one_ne_zero, and_self, and_true, true_and, Option.getD_some, Option.isSome_some, wrapL, gt_iff_lt, ge_iff_le, Int.toNat_natCast, Nat.sub_zero, ite_self, spB_TT, Nat.zero_add, Nat.add_zero]
          omega
        · have c1 : decide ((j : Int) < 30) = false := decide_eq_false (by omega)
          have hj30 : j = 30 := by omega
          subst hj30
          have hend := calm_end hd hl hml hm60 hT
          simp (config := { maxSteps := 400000 }) only [go_sem, Tr.l, c1, hend, ↓reduceIte, beq_self_eq_true, bne_self_eq_false, Int.reduceAdd, Int.reduceSub, Int.reduceMul, Int.reduceNeg, Int.reduceEq, Int.reduceNe, Int.cast_ofNat_Int, Int.lt_irrefl, Int.le_refl, Nat.reduceEqDiff, Nat.reduceLeDiff, Nat.reduceLT, Int.reducePow, IntKind.bits, Nat.reduceAdd, Nat.reduceMul, Nat.reduceSub, Int.reduceBNe, Int.reduceBEq, Int.reduceLE, Int.reduceLT, Int.reduceToNat, reduceCtorEq, Nat.zero_ne_one, Nat.one_ne_zero, and_self, and_true, true_and, Option.getD_some, Option.isSome_some, wrapL, gt_iff_lt, ge_iff_le, Int.toNat_natCast, Nat.sub_zero, ite_self, spB_TT, Nat.zero_add, Nat.add_zero]
          exact Ends.pure rfl
end Go.Proofs.Arr
