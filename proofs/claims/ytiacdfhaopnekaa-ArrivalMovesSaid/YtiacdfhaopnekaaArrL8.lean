/- ArrivalMoves: the walk. -/
import Derived.Test.YtiacdfhaopnekaaArrP7
import Derived.Test.YtiacdfhaopnekaaArrC12
import Derived.Test.YtiacdfhaopnekaaAbShs
import Derived.Test.YtiacdfhaopnekaaArrI8
namespace Go.Proofs.Arr
open Go.Ab
set_option maxRecDepth 100000
set_option maxHeartbeats 16000000
set_option linter.unusedSimpArgs false
set_option linter.unusedVariables false
theorem shD_vsl {s : Sh} {b c o l k : Nat} (h : b ≠ c) : shD (s.v b) (.sl c o l k) = true := by
  cases s <;> simp [Sh.v, shD, nbeq, h]
theorem Dr.eta (d : Dr) : Dr.mk d.f d.e d.la = d := rfl
def k21 : Ct
  | [.agg c], h, n => (drV c).bind fun q => (shAt q.2 h).bind fun s => (rdL pkV 2 s).bind fun l => some (l.all Pk.ok && q.1.ok, { v := .tup [(intQ (sL q.1 l (min l.length 60))).v (n + 1), (intQ (gL q.1 l (min l.length 60))).v (n + 2)], n := n + 3, rd := shR q.2, nw := (intQ (sL q.1 l (min l.length 60))).h (n + 1) ++ (intQ (gL q.1 l (min l.length 60))).h (n + 2) })
  | _, _, _ => none
theorem s21 : SoundAt Try.prog 21 k21 := fun args h n c E hc ht => by
  unfold k21 at hc
  split at hc
  · simp only [Option.bind_eq_some_iff] at hc
    obtain ⟨q, hq, s, hs, l, hl, he⟩ := hc
    obtain ⟨d, v⟩ := q
    cases he
    simp only [Bool.and_eq_true] at ht
    have hp := pks_rd hl
    rw [drV_eq hq]
    have := CallOK.sh1n2 (n := n) (A := fun b => [.agg (d.l (s.v b))]) (U := fun a b => .tup [(intQ (sL d l (min l.length 60))).v a, (intQ (gL d l (min l.length 60))).v b]) (by kernel_rfl) (by simp [belL, AV.bel, Dr.l_bel]) hs hp.pl (intQ_ints _).pl (intQ_fresh _) (intQ_ints _).pl (intQ_fresh _) (fun ψ => by simp [renL, AV.ren, Dr.l_ren]) (fun h0 i => by subst h0; rfl) (fun ψ => by simp [AV.ren, renL, v_ren]) (w21 d s l hp ht.1 ht.2)
    rwa [← (shAt_inv hs).1] at this
  · cases hc

def T8 : List (Nat × Ct) := [(18, k18), (21, k21), (24, k24), (17, k17), (20, k20)]
theorem hT8 : Sound Try.prog (cxT T8) := Sound.cons s18 <| Sound.cons s21 <| Sound.cons s24 <| Sound.cons s17 <| Sound.cons s20 Sound.nil
theorem sL_at {d : Dr} {l : List Pk} {n k : Nat} (h : k < n) : (sL d l n)[k]? = some (sN d l (k + 1)) := by simp [sL, h]
theorem gL_at {d : Dr} {l : List Pk} {n k : Nat} (h : k < n) : (gL d l n)[k]? = some (gN d l (k + 1)) := by simp [gL, h]
theorem w8 (d : Dr) (s : Sh) (l : List Pk) (p q y : Int) (hs : Sh.pks s l) (hl : l.all Pk.ok = true) (hd : d.ok = true) (hp0 : 0 ≤ p ∧ p ≤ 65535) (hq0 : 0 ≤ q ∧ q ≤ 65535) (hy : 0 ≤ y ∧ y ≤ 255) : FTL Try.prog 8 [.agg (d.l (s.v 0)), .agg [.i .u16 p, .i .u16 q], .i .u8 y] (s.h 0) 1 (.b true) [] 1 := by
  refine FTL.of_iw hT8 mo Try.func8 i8_eq (by simp [i8]) (iw_of_jw ?_)
  dsimp only [i8, T8]
  have hp := hs.pl
  have hrd := rd_pks hs
  obtain ⟨m, hm⟩ : ∃ m, min l.length 60 = m := ⟨_, rfl⟩
  have hm60 : m ≤ 60 := by omega
  have hml : m ≤ l.length := by omega
  have hqs := intQ_ints (sL d l m)
  have hqg := intQ_ints (gL d l m)
  have hls : (intQ (sL d l m)).len = m := by rw [hqs.ln, sL_len]
  have hps := hqs.pl
  have hpg := hqg.pl
  have hcs : m ≠ 0 → intQ (sL d l m) ≠ .nil := fun h => hqs.ne (by intro e; have := sL_len d l m; rw [e] at this; simp at this; omega)
  have hcg : m ≠ 0 → intQ (gL d l m) ≠ .nil := fun h => hqg.ne (by intro e; have := gL_len d l m; rw [e] at this; simp at this; omega)
  have hxs : ∀ k, k < m → (intQ (sL d l m)).blk.cells[(intQ (sL d l m)).o + k * 1]? = some (.i .i64 (sN d l (k + 1))) := fun k hk => row_get (j := 0) int1_len (hqs.cells (hcs (by omega))).1 (sL_at hk) rfl
  have hxg : ∀ k, k < m → (intQ (gL d l m)).blk.cells[(intQ (gL d l m)).o + k * 1]? = some (.i .i64 (gN d l (k + 1))) := fun k hk => row_get (j := 0) int1_len (hqg.cells (hcg (by omega))).1 (gL_at hk) rfl
  have hlg : (intQ (gL d l m)).len = m := by rw [hqg.ln, gL_len]
  have hm' : (if l.length ≤ 60 then l.length else 60) = m := by rw [← hm]; split <;> omega
  have tA := dr_times (p := 0) (q := 0) hd hl (by omega) (by omega) hml hm60
  have tB := dr_times (p := p) (q := q) hd hl hp0 hq0 hml hm60
  simp only [Int.add_zero] at tA
  obtain ⟨sA, hsA⟩ : ∃ sA : Nat → Int, sA = fun k => sN d l (k + 1) := ⟨_, rfl⟩
  obtain ⟨gA, hgA⟩ : ∃ gA : Nat → Int, gA = fun k => gN d l (k + 1) := ⟨_, rfl⟩
  rw [← hsA, ← hgA] at tA
  have hxs' : ∀ k, k < m → (intQ (sL d l m)).blk.cells[(intQ (sL d l m)).o + k * 1]? = some (.i .i64 (sA k)) := fun k hk => by rw [hsA]; exact hxs k hk
  have hxg' : ∀ k, k < m → (intQ (gL d l m)).blk.cells[(intQ (gL d l m)).o + k * 1]? = some (.i .i64 (gA k)) := fun k hk => by rw [hgA]; exact hxg k hk
  have tB' : Times (fun k => sA k + p) (fun k => gA k + q) m := by rw [hsA, hgA]; exact tB
  generalize hQS : intQ (sL d l m) = QS at *
  generalize hQG : intQ (gL d l m) = QG at *
  clear hxs hxg tB
  simp (config := { maxSteps := 400000 }) only [go_sem, Dr.l, k18, k21, k20, drV, newT, zTr, Tr.l, hrd, hl, hd, hm', hQS, hQG, hls, rngN_hh, hps, hpg, Dr.eta, ↓reduceIte, beq_self_eq_true, bne_self_eq_false, Int.reduceAdd, Int.reduceSub, Int.reduceMul, Int.reduceNeg, Int.reduceEq, Int.reduceNe, Int.cast_ofNat_Int, Int.lt_irrefl, Int.le_refl, Nat.reduceEqDiff, Nat.reduceLeDiff, Nat.reduceLT, Int.reducePow, IntKind.bits, Nat.reduceAdd, Nat.reduceMul, Nat.reduceSub, Int.reduceBNe, Int.reduceBEq, Int.reduceLE, Int.reduceLT, Int.reduceToNat, reduceCtorEq, Nat.zero_ne_one, Nat.one_ne_zero, and_self, and_true, true_and, Option.getD_some, Option.isSome_some, wrapL, gt_iff_lt, ge_iff_le, Int.toNat_natCast, Nat.sub_zero, ite_self, spB_TT, Nat.zero_add, Nat.add_zero]
  refine Loop.stepR (F := ⟨Try.prog, cxT T8, [19, 30, 157, 163], 188, 1⟩) hT8 mo (X := Nat) (fun k => k ≤ m) (fun k => m - k)
    (fun k => [(2, .i .u8 y), (4, .p 2 0), (7, .p 3 0), (8, .p 4 0), (9, QS.v 6), (10, QG.v 7), (28, .i .i64 (m : Int)), (29, .i .i64 (k : Int))])
    (fun k => (2, { cells := [.i .u16 p, .i .u16 q] }) :: (3, { cells := (runS sA gA k).1.l ((runQ sA gA k).v 8) }) :: (4, { cells := (runS (fun k => sA k + p) (fun k => gA k + q) k).1.l ((runQ (fun k => sA k + p) (fun k => gA k + q) k).v 9) }) :: ((runQ sA gA k).h 8 ++ ((runQ (fun k => sA k + p) (fun k => gA k + q) k).h 9 ++ (QS.h 6 ++ QG.h 7)))) 10 0 (fun k => k + 1) [] (fun _ => [(8, 13), (9, 18)]) (by decide) (by decide) (fun _ => by decide) (Nat.zero_le _) ?_ ?_ (fun k hk => ?_)
  · simp (config := { maxSteps := 400000 }) only [go_sem, AV.ren, renL, AV.bel, belL, nblt, ↓reduceIte, beq_self_eq_true, bne_self_eq_false, Int.reduceAdd, Int.reduceSub, Int.reduceMul, Int.reduceNeg, Int.reduceEq, Int.reduceNe, Int.cast_ofNat_Int, Int.lt_irrefl, Int.le_refl, Nat.reduceEqDiff, Nat.reduceLeDiff, Nat.reduceLT, Int.reducePow, IntKind.bits, Nat.reduceAdd, Nat.reduceMul, Nat.reduceSub, Int.reduceBNe, Int.reduceBEq, Int.reduceLE, Int.reduceLT, Int.reduceToNat, reduceCtorEq, Nat.zero_ne_one, Nat.one_ne_zero, and_self, and_true, true_and, Option.getD_some, Option.isSome_some, wrapL, gt_iff_lt, ge_iff_le, Int.toNat_natCast, Nat.sub_zero, ite_self, spB_TT, Nat.zero_add, Nat.add_zero]
  · have h1 : runQ sA gA 0 = .nil := rfl
    have h2 : runQ (fun k => sA k + p) (fun k => gA k + q) 0 = .nil := rfl
    have h3 : runS sA gA 0 = (newT, []) := rfl
    have h4 : runS (fun k => sA k + p) (fun k => gA k + q) 0 = (newT, []) := rfl
    simp (config := { maxSteps := 400000 }) only [go_sem, h1, h2, h3, h4, shh_n, shv_n, Tr.l, newT, zTr, AV.bel, belL, nblt, hps, hpg, Blk.ren, renL, AV.ren, ↓reduceIte, beq_self_eq_true, bne_self_eq_false, Int.reduceAdd, Int.reduceSub, Int.reduceMul, Int.reduceNeg, Int.reduceEq, Int.reduceNe, Int.cast_ofNat_Int, Int.lt_irrefl, Int.le_refl, Nat.reduceEqDiff, Nat.reduceLeDiff, Nat.reduceLT, Int.reducePow, IntKind.bits, Nat.reduceAdd, Nat.reduceMul, Nat.reduceSub, Int.reduceBNe, Int.reduceBEq, Int.reduceLE, Int.reduceLT, Int.reduceToNat, reduceCtorEq, Nat.zero_ne_one, Nat.one_ne_zero, and_self, and_true, true_and, Option.getD_some, Option.isSome_some, wrapL, gt_iff_lt, ge_iff_le, Int.toNat_natCast, Nat.sub_zero, ite_self, spB_TT, Nat.zero_add, Nat.add_zero]
  · dsimp only [T8]
    by_cases hlt : k < m
    · have hP := runQ_pts sA gA k
      have hR := runQ_pts (fun k => sA k + p) (fun k => gA k + q) k
      have hP' := runQ_pts sA gA (k + 1)
      have hR' := runQ_pts (fun k => sA k + p) (fun k => gA k + q) (k + 1)
      obtain ⟨hmv, hsh⟩ := run_mv tA tB' (k + 1) hlt
      have okA := run_ok tA hlt
      have okB := run_ok tB' hlt
      have gdA := (run_good tA (k + 1) hlt).1
      have adA := add_head ((run_good tA k hk).2 hlt)
      have ra := tA.rs k hlt
      have rb := tA.rg k hlt
      have ra' := tB'.rs k hlt
      have rb' := tB'.rg k hlt
      have e1 : runS sA gA (k + 1) = addS (runS sA gA k).1 (runS sA gA k).2 (sA k) (gA k) := rfl
      have e2 : runQ sA gA (k + 1) = addQ (runS sA gA k).1 (runQ sA gA k) (runS sA gA k).2 (sA k) (gA k) := rfl
      have e3 : runS (fun k => sA k + p) (fun k => gA k + q) (k + 1) = addS (runS (fun k => sA k + p) (fun k => gA k + q) k).1 (runS (fun k => sA k + p) (fun k => gA k + q) k).2 (sA k + p) (gA k + q) := rfl
      have e4 : runQ (fun k => sA k + p) (fun k => gA k + q) (k + 1) = addQ (runS (fun k => sA k + p) (fun k => gA k + q) k).1 (runQ (fun k => sA k + p) (fun k => gA k + q) k) (runS (fun k => sA k + p) (fun k => gA k + q) k).2 (sA k + p) (gA k + q) := rfl
      have xs := hxs' k hlt
      have xg := hxg' k hlt
      have hns := hcs (by omega)
      have hng := hcg (by omega)
      rw [e1] at hP' hmv hsh gdA
      rw [e2] at hP'
      rw [e3] at hR' hmv hsh
      rw [e4] at hR'
      rw [e1, e2, e3, e4]
      generalize sA k = a at *
      generalize gA k = b at *
      generalize runS sA gA k = TL at *
      obtain ⟨t, pts⟩ := TL
      generalize runS (fun k => sA k + p) (fun k => gA k + q) k = UL at *
      obtain ⟨u, pus⟩ := UL
      dsimp only at hP hR hP' hR' hmv hsh gdA adA okA okB ⊢
      generalize runQ sA gA k = P at *
      generalize runQ (fun k => sA k + p) (fun k => gA k + q) k = R at *
      have rP := rd_pts hP
      have rR := rd_pts hR
      have pP := hP.pl
      have pR := hR.pl
      have pP' := hP'.pl
      have pR' := hR'.pl
      have lP' := hP'.ln
      have lR' := hR'.ln
      rw [hsh, shP_len] at lR'
      have G1 := good_iff.1 gdA
      have m1 := hmv.cnt
      have m2 := hmv.sum
      have m3 := hmv.smo
      have m4 := hmv.thr
      have m5 := hmv.ovr
      have m6 := hmv.sta
      have m7 := hmv.bef
      have mst := hmv.st
      have mpa := hmv.past
      have movs := hmv.ovs
      obtain ⟨n1, n2, n3, n4⟩ := hmv.s1 adA.2
      have f1 := G1.f
      have f2 := G1.ls
      have W1 : IntKind.i64.wrap ((addS t pts a b).1.lst - (addS t pts a b).1.fst) = (addS t pts a b).1.lst - (addS t pts a b).1.fst := wrapL (by omega) (by omega)
      have W2 : IntKind.i64.wrap ((addS t pts a b).1.lst + p - ((addS t pts a b).1.fst + p)) = (addS t pts a b).1.lst - (addS t pts a b).1.fst := by rw [wrapL (by omega) (by omega)]; omega
      have W3 : IntKind.i64.wrap ((addS t pts a b).1.fst + p - (addS t pts a b).1.fst) = p := by rw [wrapL (by omega) (by omega)]; omega
      have W4 : IntKind.i64.wrap (a + p) = a + p := wrapL (by omega) (by omega)
      have W5 : IntKind.i64.wrap (b + q) = b + q := wrapL (by omega) (by omega)
      have W6 : IntKind.i64.wrap p = p := wrapL (by omega) (by omega)
      have W7 : IntKind.i64.wrap q = q := wrapL (by omega) (by omega)
      have c1 : decide ((k : Int) < (m : Int)) = true := decide_eq_true (by omega)
      have c2 : decide (0 ≤ (k : Int) ∧ (k : Int) < (m : Int)) = true := decide_eq_true (by omega)
      have hw : IntKind.i64.wrap ((k : Int) + 1) = ((k + 1 : Nat) : Int) := by rw [wrapL (by omega) (by omega)]; omega
      have ss := slParts_v (b := 6) hns
      have sg := slParts_v (b := 7) hng
      have gs : ∀ r, hget (QS.h 6 ++ r) 6 = some QS.blk := fun r => hget_at hns
      have gg : hget (QG.h 7) 7 = some QG.blk := hget_at0 hng
      have hsk : m - (k + 1) < m - k := by omega
      simp (config := { maxSteps := 400000 }) only [go_sem, Tr.l, c1, c2, xs, xg, ss, sg, gs, gg, hls, hlg, k24, trV, Tr.eta, rP, rR, prV, adU, okA, okB, hw, pP, pR, pP', pR', hps, hpg, hlt, hsk, W1, W2, W3, W4, W5, W6, W7, m1, m2, m3, m4, m5, m6, m7, n1, n2, n3, lP', lR', shD_vsl, AV.bel, belL, nblt, Blk.ren, renL, AV.ren, ↓reduceIte, beq_self_eq_true, bne_self_eq_false, Int.reduceAdd, Int.reduceSub, Int.reduceMul, Int.reduceNeg, Int.reduceEq, Int.reduceNe, Int.cast_ofNat_Int, Int.lt_irrefl, Int.le_refl, Nat.reduceEqDiff, Nat.reduceLeDiff, Nat.reduceLT, Int.reducePow, IntKind.bits, Nat.reduceAdd, Nat.reduceMul, Nat.reduceSub, Int.reduceBNe, Int.reduceBEq, Int.reduceLE, Int.reduceLT, Int.reduceToNat, reduceCtorEq, Nat.zero_ne_one, Nat.one_ne_zero, and_self, and_true, true_and, Option.getD_some, Option.isSome_some, wrapL, gt_iff_lt, ge_iff_le, Int.toNat_natCast, Nat.sub_zero, ite_self, spB_TT, Nat.zero_add, Nat.add_zero]
      exact hlt
      
    · have c1 : decide ((k : Int) < (m : Int)) = false := decide_eq_false (by omega)
      have hP := runQ_pts sA gA k
      have gd := (run_good tA k hk).1
      have hat := run_att (c := 1000000) tA (by decide) (fun j hj => by rw [hgA]; have := (gN_rng hd hl (j + 1) (by omega)).2; show gN d l (j + 1) ≤ 1000000; omega) k hk
      have hln := runS_len sA gA k
      generalize runS sA gA k = TL at *
      obtain ⟨t, pts⟩ := TL
      generalize runS (fun k => sA k + p) (fun k => gA k + q) k = UL at *
      obtain ⟨u, pus⟩ := UL
      generalize runQ sA gA k = P at *
      generalize runQ (fun k => sA k + p) (fun k => gA k + q) k = R at *
      dsimp only at hP gd hat hln ⊢
      have rP := rd_pts hP
      have pP := hP.pl
      have G1 := good_iff.1 gd
      have G1f := G1.f
      have G1a := G1.a
      cases h0 : (t.fst == 0)
      · have h0' : t.fst ≠ 0 := by simpa using h0
        have h0n : (t.fst != 0) = true := by simpa using h0
        have r0 : 0 ≤ (IntKind.i64.wrap y).tmod t.fst ∧ (IntKind.i64.wrap y).tmod t.fst < t.fst := by
          rw [wrapL (by omega) (by omega), Int.tmod_eq_emod_of_nonneg hy.1]
          exact ⟨Int.emod_nonneg _ h0', Int.emod_lt_of_pos _ (by omega)⟩
        have W1 : IntKind.i64.wrap (t.att + 7) = t.att + 7 := wrapL (by omega) (by omega)
        have W2 : IntKind.i64.wrap y = y := wrapL (by omega) (by omega)
        rw [W2] at r0
        generalize hr : y.tmod t.fst = r at *
        obtain ⟨okC, eC⟩ := early gd hln r0 (by omega)
        have hEC : addE t pts r (t.att + 7) = 0 := by
          have := okC
          simp only [adOK, Bool.and_eq_true, decide_eq_true_eq] at this
          exact this.1.1
        have eQ := early_q (s := P) hEC r0.2
        have hC := addQ_pts (t := t) (sent := r) (got := t.att + 7) hP
        rw [eQ, eC] at hC
        dsimp only at hC
        have rC := rd_pts hC
        have pC := hC.pl
        have hld : decide (pts.length ≤ 1000000) = true := decide_eq_true (by omega)
        simp (config := { maxSteps := 400000 }) only [go_sem, Tr.l, c1, h0, h0n, W1, W2, hr, k24, k17, trV, Tr.eta, rP, prV, adU, okC, eC, eQ, rC, pC, pP, hps, hpg, hld, shD_vsl, eqT_rfl, eqP_rfl, AV.bel, belL, nblt, Blk.ren, renL, AV.ren, ↓reduceIte, beq_self_eq_true, bne_self_eq_false, Int.reduceAdd, Int.reduceSub, Int.reduceMul, Int.reduceNeg, Int.reduceEq, Int.reduceNe, Int.cast_ofNat_Int, Int.lt_irrefl, Int.le_refl, Nat.reduceEqDiff, Nat.reduceLeDiff, Nat.reduceLT, Int.reducePow, IntKind.bits, Nat.reduceAdd, Nat.reduceMul, Nat.reduceSub, Int.reduceBNe, Int.reduceBEq, Int.reduceLE, Int.reduceLT, Int.reduceToNat, reduceCtorEq, Nat.zero_ne_one, Nat.one_ne_zero, and_self, and_true, true_and, Option.getD_some, Option.isSome_some, wrapL, gt_iff_lt, ge_iff_le, Int.toNat_natCast, Nat.sub_zero, ite_self, spB_TT, Nat.zero_add, Nat.add_zero]
        exact Ends.pure rfl
        
      · have h0n : (t.fst != 0) = false := by simpa using h0
        simp (config := { maxSteps := 400000 }) only [go_sem, Tr.l, c1, h0, h0n, ↓reduceIte, beq_self_eq_true, bne_self_eq_false, Int.reduceAdd, Int.reduceSub, Int.reduceMul, Int.reduceNeg, Int.reduceEq, Int.reduceNe, Int.cast_ofNat_Int, Int.lt_irrefl, Int.le_refl, Nat.reduceEqDiff, Nat.reduceLeDiff, Nat.reduceLT, Int.reducePow, IntKind.bits, Nat.reduceAdd, Nat.reduceMul, Nat.reduceSub, Int.reduceBNe, Int.reduceBEq, Int.reduceLE, Int.reduceLT, Int.reduceToNat, reduceCtorEq, Nat.zero_ne_one, Nat.one_ne_zero, and_self, and_true, true_and, Option.getD_some, Option.isSome_some, wrapL, gt_iff_lt, ge_iff_le, Int.toNat_natCast, Nat.sub_zero, ite_self, spB_TT, Nat.zero_add, Nat.add_zero]
        exact Ends.pure rfl
        
end Go.Proofs.Arr
