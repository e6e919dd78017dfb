/- Law 6 of chapter 30 (RateKeeps), the walk; printed by ratl6.py. -/
import Derived.Test.YtbnmgcfipgfllaaDoorRatP2
namespace Go.Proofs.Rate
open Go.Ab
set_option maxRecDepth 100000
set_option maxHeartbeats 8000000
set_option linter.unusedSimpArgs false
set_option linter.unusedVariables false
def T20 : List (Nat × Ct) := [(18, k18), (15, k15), (16, k16), (21, k21), (23, k23), (13, k13), (19, k19), (11, k11)]
theorem hT20 : Sound Tryd.prog (cxT T20) := Sound.cons s18 <| Sound.cons s15 <| Sound.cons s16 <| Sound.cons s21 <| Sound.cons s23 <| Sound.cons s13 <| Sound.cons s19 <| Sound.cons s11 Sound.nil
theorem w6n (a b c : Int) (ha : u32B a = true) (hb : u32B b = true) (hc : u32B c = true) : FTL Tryd.prog 6 [.agg [.i .u32 a, .i .u32 b, .i .u32 c, .ns]] [(1, gBlk)] 2 (.b true) [] 2 := by
  refine FTL.of_iw hT20 mo' Tryd.func6 i6_eq (by simp [i6]) (iw_of_jw ?_)
  dsimp only [i6, T20]
  unfold gBlk
  have h0 := start_ok ha hb hc
  simp (config := { maxSteps := 400000 }) only [go_sem, evG, hglobC, hglob, k18, gAt, gIs, k15, k16, ha, hb, hc, h0, Rt.l, ↓reduceIte, beq_self_eq_true, bne_self_eq_false, Int.reduceAdd, Int.reduceSub, Int.reduceMul, Int.reduceNeg, Int.reduceEq, Int.reduceNe, Int.cast_ofNat_Int, Int.lt_irrefl, Int.le_refl, Nat.reduceEqDiff, Nat.reduceLeDiff, Nat.reduceLT, Int.reducePow, IntKind.bits, Nat.reduceAdd, Nat.reduceMul, Nat.reduceSub, Int.reduceBNe, Int.reduceBEq, Int.reduceLE, Int.reduceLT, Int.reduceToNat, reduceCtorEq, Nat.zero_ne_one, Nat.one_ne_zero, and_self, and_true, true_and, Option.getD_some, Option.isSome_some, wrapL, gt_iff_lt, ge_iff_le, Int.toNat_natCast, Nat.sub_zero, ite_self, spB_TT, Nat.zero_add, Nat.add_zero]
  refine andB_i (by decide) ?_
  refine Loop.rounds (F := ⟨Tryd.prog, cxT T20, [15, 26, 36, 119, 169, 195, 67, 87, 107, 252], 255, 2⟩) 1 hT20 mo' ?_
  dsimp only [T20]
  simp (config := { maxSteps := 400000 }) only [go_sem, Rt.l, ↓reduceIte, beq_self_eq_true, bne_self_eq_false, Int.reduceAdd, Int.reduceSub, Int.reduceMul, Int.reduceNeg, Int.reduceEq, Int.reduceNe, Int.cast_ofNat_Int, Int.lt_irrefl, Int.le_refl, Nat.reduceEqDiff, Nat.reduceLeDiff, Nat.reduceLT, Int.reducePow, IntKind.bits, Nat.reduceAdd, Nat.reduceMul, Nat.reduceSub, Int.reduceBNe, Int.reduceBEq, Int.reduceLE, Int.reduceLT, Int.reduceToNat, reduceCtorEq, Nat.zero_ne_one, Nat.one_ne_zero, and_self, and_true, true_and, Option.getD_some, Option.isSome_some, wrapL, gt_iff_lt, ge_iff_le, Int.toNat_natCast, Nat.sub_zero, ite_self, spB_TT, Nat.zero_add, Nat.add_zero]
  exact Ends.pure rfl
theorem w6s (a b c : Int) (l : List Ev) (cap : Nat) (hcap : l.length ≤ cap) (hl : l.all Ev.ok = true) (ha : u32B a = true) (hb : u32B b = true) (hc : u32B c = true) : FTL Tryd.prog 6 [.agg [.i .u32 a, .i .u32 b, .i .u32 c, .sl 0 0 l.length cap]] [(0, { cells := rows Ev.l l, ro := true }), (1, gBlk)] 2 (.b true) [] 2 := by
  refine FTL.of_iw hT20 mo' Tryd.func6 i6_eq (by simp [i6]) (iw_of_jw ?_)
  dsimp only [i6, T20]
  unfold gBlk
  have h0 := start_ok ha hb hc
  have hu := evsB_rows l true
  have hLb : belL 4 (rows Ev.l l) = true := belL_mono0 _ (rows_bel Ev.l_bel)
  have hLl : (rows Ev.l l).length = l.length * 5 := rows_len Ev.l_len
  have hrow : ∀ k (h : k < l.length), List.take 5 (List.drop (k * 5) (rows Ev.l l)) = (l[k]).l := fun k h => rows_at Ev.l_len (List.getElem?_eq_getElem h)
  have hsuc : ∀ k (h : k < l.length), behind a b c l (k + 1) = stepS (behind a b c l k) l[k] := fun k h => behind_succ (List.getElem?_eq_getElem h)
  have hgood := behind_good (l := l) ha hb hc hl
  have hz : behind a b c l 0 = ⟨stN a, stL a b, stM a c, 1, 0, 0, 0, 0⟩ := by rw [behind_zero, r0S, h0]
  have hall : ∀ k (h : k < l.length), (l[k]).ok = true := fun k h => List.all_eq_true.1 hl _ (List.getElem_mem h)
  generalize rows Ev.l l = L at *
  simp (config := { maxSteps := 400000 }) only [go_sem, evG, hglobC, hglob, k18, gAt, gIs, k15, k16, ha, hb, hc, h0, hu, Rt.l, ↓reduceIte, beq_self_eq_true, bne_self_eq_false, Int.reduceAdd, Int.reduceSub, Int.reduceMul, Int.reduceNeg, Int.reduceEq, Int.reduceNe, Int.cast_ofNat_Int, Int.lt_irrefl, Int.le_refl, Nat.reduceEqDiff, Nat.reduceLeDiff, Nat.reduceLT, Int.reducePow, IntKind.bits, Nat.reduceAdd, Nat.reduceMul, Nat.reduceSub, Int.reduceBNe, Int.reduceBEq, Int.reduceLE, Int.reduceLT, Int.reduceToNat, reduceCtorEq, Nat.zero_ne_one, Nat.one_ne_zero, and_self, and_true, true_and, Option.getD_some, Option.isSome_some, wrapL, gt_iff_lt, ge_iff_le, Int.toNat_natCast, Nat.sub_zero, ite_self, spB_TT, Nat.zero_add, Nat.add_zero]
  refine andB_i (decide_eq_true (by omega)) ?_
  have hm : ∃ m : Nat, m ≤ 40 ∧ m ≤ l.length ∧ (min (l.length : Int) 40).toNat = m := ⟨min l.length 40, by omega, by omega, by omega⟩
  obtain ⟨m, hm1, hm2, hm3⟩ := hm
  rw [hm3]
  refine Loop.count (F := ⟨Tryd.prog, cxT T20, [15, 26, 36, 119, 169, 195, 67, 87, 107, 252], 255, 2⟩) hT20 mo' m (fun k => [(35, .i .i64 (k : Int)), (34, .i .i64 (m : Int)), (33, .sl 0 0 m cap), (3, .p 3 0)]) (fun k => [(3, { cells := (behind a b c l k).l }), (0, { cells := L, ro := true }), (1, gBlk)]) 4 (by decide) ?_ ?_ (fun k hk => ?_)
  · simp (config := { maxSteps := 400000 }) only [go_sem, AV.bel, belL, nblt, ↓reduceIte, beq_self_eq_true, bne_self_eq_false, Int.reduceAdd, Int.reduceSub, Int.reduceMul, Int.reduceNeg, Int.reduceEq, Int.reduceNe, Int.cast_ofNat_Int, Int.lt_irrefl, Int.le_refl, Nat.reduceEqDiff, Nat.reduceLeDiff, Nat.reduceLT, Int.reducePow, IntKind.bits, Nat.reduceAdd, Nat.reduceMul, Nat.reduceSub, Int.reduceBNe, Int.reduceBEq, Int.reduceLE, Int.reduceLT, Int.reduceToNat, reduceCtorEq, Nat.zero_ne_one, Nat.one_ne_zero, and_self, and_true, true_and, Option.getD_some, Option.isSome_some, wrapL, gt_iff_lt, ge_iff_le, Int.toNat_natCast, Nat.sub_zero, ite_self, spB_TT, Nat.zero_add, Nat.add_zero]
  · rw [hz]
    simp (config := { maxSteps := 400000 }) only [go_sem, Rt.l, gBlk, AV.bel, belL, nblt, hLb, ↓reduceIte, beq_self_eq_true, bne_self_eq_false, Int.reduceAdd, Int.reduceSub, Int.reduceMul, Int.reduceNeg, Int.reduceEq, Int.reduceNe, Int.cast_ofNat_Int, Int.lt_irrefl, Int.le_refl, Nat.reduceEqDiff, Nat.reduceLeDiff, Nat.reduceLT, Int.reducePow, IntKind.bits, Nat.reduceAdd, Nat.reduceMul, Nat.reduceSub, Int.reduceBNe, Int.reduceBEq, Int.reduceLE, Int.reduceLT, Int.reduceToNat, reduceCtorEq, Nat.zero_ne_one, Nat.one_ne_zero, and_self, and_true, true_and, Option.getD_some, Option.isSome_some, wrapL, gt_iff_lt, ge_iff_le, Int.toNat_natCast, Nat.sub_zero, ite_self, spB_TT, Nat.zero_add, Nat.add_zero]
  · dsimp only [T20]
    unfold gBlk
    obtain ⟨hg, hat⟩ := hgood k (by omega)
    by_cases hlt : k < m
    · have d1 : decide ((k : Int) < (m : Int)) = true := decide_eq_true (by omega)
      have d3 : decide (k < m) = true := decide_eq_true hlt
      have d4 : decide (k * 5 + 5 ≤ l.length * 5) = true := decide_eq_true (by omega)
      have d5 : decide (0 ≤ (k : Int) ∧ (k : Int) < (m : Int)) = true := decide_eq_true (by omega)
      have hx := hrow k (by omega)
      have ho := hall k (by omega)
      have hs := hsuc k (by omega)
      generalize l[k] = x at hx ho hs
      have hq : IntKind.i64.wrap ((k : Int) + 1) = ((k + 1 : Nat) : Int) := by rw [wrapL (by omega) (by omega)]; omega
      rw [hs]
      generalize behind a b c l k = r at *
      have gg := good_to hg
      have tt := evT_eq (r := r) ho gg.a1 (by omega)
      obtain ⟨g1, g2, g3, g4, g5⟩ := ev_facts ho
      have t1 : r.att ≤ evT r x := by omega
      have t2 : evT r x ≤ 1099511627776 := by omega
      have q1 : x.wait.tmod 2000 = x.wait % 2000 := Int.tmod_eq_emod_of_nonneg (by omega)
      have q2 : IntKind.u16.wrap (x.wait % 2000) = x.wait % 2000 := wrap_u16 (by omega) (by omega)
      have q3 : IntKind.i64.wrap (x.wait % 2000) = x.wait % 2000 := wrapL (by omega) (by omega)
      have q4 : x.a.tmod 2000000 = x.a % 2000000 := Int.tmod_eq_emod_of_nonneg (by omega)
      have q5 : IntKind.u32.wrap (x.a % 2000000) = x.a % 2000000 := wrap_u32 (by omega) (by omega)
      have q6 : IntKind.i64.wrap (x.a % 2000000) = x.a % 2000000 := wrapL (by omega) (by omega)
      have q7 : IntKind.i64.wrap (1000 + x.a % 2000000) = evA x := wrapL (by omega) (by omega)
      have p4 : x.b.tmod 2000000 = x.b % 2000000 := Int.tmod_eq_emod_of_nonneg (by omega)
      have p5 : IntKind.u32.wrap (x.b % 2000000) = x.b % 2000000 := wrap_u32 (by omega) (by omega)
      have p6 : IntKind.i64.wrap (x.b % 2000000) = x.b % 2000000 := wrapL (by omega) (by omega)
      have p7 : IntKind.i64.wrap (1000 + x.b % 2000000) = evB x := wrapL (by omega) (by omega)
      have z1 : x.what.tmod 8 = x.what % 8 := Int.tmod_eq_emod_of_nonneg (by omega)
      have z2 : IntKind.u8.wrap (x.what % 8) = x.what % 8 := wrap_u8 (by omega) (by omega)
      have z3 : x.small.tmod 3 = x.small % 3 := Int.tmod_eq_emod_of_nonneg (by omega)
      have z4 : IntKind.u8.wrap (x.small % 3) = x.small % 3 := wrap_u8 (by omega) (by omega)
      have z5 : IntKind.i64.wrap (x.small % 3) = x.small % 3 := wrapL (by omega) (by omega)
      have z6 : IntKind.i64.wrap x.small = x.small := wrapL (by omega) (by omega)
      have z7 : IntKind.i64.wrap (r.att + x.wait % 2000) = evT r x := rfl
      have eA := evA_rate ho
      have eB := evB_rate ho
      have eA' := eA
      have eB' := eB
      simp only [isRate, Bool.and_eq_true, decide_eq_true_eq] at eA' eB'
      obtain ⟨l1, l2, l3, l4, _, _, _, _, _, _, _, _, _⟩ := good_to hg
      have r1 : IntKind.i64.wrap (8 * r.now) = 8 * r.now := wrapL (by omega) (by omega)
      have r2 : (8 * r.now).tdiv 100 = 8 * r.now / 100 := Int.tdiv_eq_ediv_of_nonneg (by omega)
      have r3 : IntKind.i64.wrap (8 * r.now / 100) = 8 * r.now / 100 := wrapL (by omega) (by omega)
      have r4 : IntKind.i64.wrap (r.now + max (8 * r.now / 100) 50000) = r.now + max (8 * r.now / 100) 50000 := wrapL (by omega) (by omega)
      by_cases w0 : x.what % 8 = 0
      · have f0 : (x.what % 8 == 0) = true := by simp [w0]
        have hS : stepS r x = (lossyS r (evT r x) x.small).1 := by unfold stepS; rw [if_pos w0]
        obtain ⟨k0, ⟨k1, k2⟩, k3, k4, k5⟩ := lossy_keeps hg t1 t2 g2
        rw [hS]
        generalize hP : lossyS r (evT r x) x.small = Q at *
        obtain ⟨q, e⟩ := Q
        dsimp only at k0 k1 k2 k3 k4 k5
        subst k0
        have gq := good_to k1
        have kb : (q.att != evT r x) = false := by simp [k2]
        have kc : decide (q.now < q.least) = false := decide_eq_false (by have := gq.l2; omega)
        have kd : decide (q.most < q.now) = false := decide_eq_false (by have := gq.l3; omega)
        simp (config := { maxSteps := 400000 }) only [go_sem, evG, hglobC, hglob, gAt, gIs, Rt.l, Ev.l, k21, k23, k13, k19, k11, rtV, Rt.eta, d1, d3, d4, d5, hx, hLl, q1, q2, q3, q4, q5, q6, q7, p4, p5, p6, p7, z1, z2, z3, z4, z5, z6, z7, f0, hlt, k1, hq, hP, kb, kc, kd, AV.bel, belL, nblt, hLb, ↓reduceIte, beq_self_eq_true, bne_self_eq_false, Int.reduceAdd, Int.reduceSub, Int.reduceMul, Int.reduceNeg, Int.reduceEq, Int.reduceNe, Int.cast_ofNat_Int, Int.lt_irrefl, Int.le_refl, Nat.reduceEqDiff, Nat.reduceLeDiff, Nat.reduceLT, Int.reducePow, IntKind.bits, Nat.reduceAdd, Nat.reduceMul, Nat.reduceSub, Int.reduceBNe, Int.reduceBEq, Int.reduceLE, Int.reduceLT, Int.reduceToNat, reduceCtorEq, Nat.zero_ne_one, Nat.one_ne_zero, and_self, and_true, true_and, Option.getD_some, Option.isSome_some, wrapL, gt_iff_lt, ge_iff_le, Int.toNat_natCast, Nat.sub_zero, ite_self, spB_TT, Nat.zero_add, Nat.add_zero]
        repeat' (first | refine spB_i (fun _ => ?_) (fun _ => ?_) | refine andB_i ?_ ?_)
        all_goals first
          | trivial
          | (exfalso; simp only [decide_eq_true_eq, decide_eq_false_iff_not, beq_iff_eq, beq_eq_false_iff_ne, bne_iff_ne, ne_eq, bne_eq_false_iff_eq, Bool.not_eq_true', Bool.not_eq_false'] at *; omega)
          | (exfalso; simp only [decide_eq_true_eq, decide_eq_false_iff_not, beq_iff_eq, beq_eq_false_iff_ne, bne_iff_ne, ne_eq, bne_eq_false_iff_eq, Bool.not_eq_true', Bool.not_eq_false'] at *; grind)
      · have f0 : (x.what % 8 == 0) = false := by simp [w0]
        by_cases w1 : x.what % 8 = 1
        · have f1 : (x.what % 8 == 1) = true := by simp [w1]
          have hS : stepS r x = (probeS r (evT r x) (evA x) (evB x)).1 := by unfold stepS; rw [if_neg w0, if_pos w1]
          obtain ⟨k0, ⟨k1, k2⟩, k3, k4⟩ := probe_keeps hg t1 t2 eA eB
          rw [hS]
          generalize hP : probeS r (evT r x) (evA x) (evB x) = Q at *
          obtain ⟨q, e⟩ := Q
          dsimp only at k0 k1 k2 k3 k4
          subst k0
          have gq := good_to k1
          have kb : (q.att != evT r x) = false := by simp [k2]
          have kc : decide (q.now < q.least) = false := decide_eq_false (by have := gq.l2; omega)
          have kd : decide (q.most < q.now) = false := decide_eq_false (by have := gq.l3; omega)
          simp (config := { maxSteps := 400000 }) only [go_sem, evG, hglobC, hglob, gAt, gIs, Rt.l, Ev.l, k21, k23, k13, k19, k11, rtV, Rt.eta, d1, d3, d4, d5, hx, hLl, q1, q2, q3, q4, q5, q6, q7, p4, p5, p6, p7, z1, z2, z3, z4, z5, z6, z7, f0, f1, hlt, k1, hq, hP, kb, kc, kd, AV.bel, belL, nblt, hLb, ↓reduceIte, beq_self_eq_true, bne_self_eq_false, Int.reduceAdd, Int.reduceSub, Int.reduceMul, Int.reduceNeg, Int.reduceEq, Int.reduceNe, Int.cast_ofNat_Int, Int.lt_irrefl, Int.le_refl, Nat.reduceEqDiff, Nat.reduceLeDiff, Nat.reduceLT, Int.reducePow, IntKind.bits, Nat.reduceAdd, Nat.reduceMul, Nat.reduceSub, Int.reduceBNe, Int.reduceBEq, Int.reduceLE, Int.reduceLT, Int.reduceToNat, reduceCtorEq, Nat.zero_ne_one, Nat.one_ne_zero, and_self, and_true, true_and, Option.getD_some, Option.isSome_some, wrapL, gt_iff_lt, ge_iff_le, Int.toNat_natCast, Nat.sub_zero, ite_self, spB_TT, Nat.zero_add, Nat.add_zero]
          repeat' (first | refine spB_i (fun _ => ?_) (fun _ => ?_) | refine andB_i ?_ ?_)
          all_goals first
            | trivial
            | (exfalso; simp only [decide_eq_true_eq, decide_eq_false_iff_not, beq_iff_eq, beq_eq_false_iff_ne, bne_iff_ne, ne_eq, bne_eq_false_iff_eq, Bool.not_eq_true', Bool.not_eq_false'] at *; omega)
            | (exfalso; simp only [decide_eq_true_eq, decide_eq_false_iff_not, beq_iff_eq, beq_eq_false_iff_ne, bne_iff_ne, ne_eq, bne_eq_false_iff_eq, Bool.not_eq_true', Bool.not_eq_false'] at *; grind)
        · have f1 : (x.what % 8 == 1) = false := by simp [w1]
          by_cases w2 : x.what % 8 = 2
          · have f2 : (x.what % 8 == 2) = true := by simp [w2]
            have hS : stepS r x = (boundS r (evT r x) (min (evA x) (evB x)) (max (evA x) (evB x))).1 := by unfold stepS; rw [if_neg w0, if_neg w1, if_pos w2]
            obtain ⟨k0, ⟨k1, k2⟩, k3⟩ := bound_keeps (a := min (evA x) (evB x)) (b := max (evA x) (evB x)) hg t1 t2 (rate_of (by omega) (by omega)) (rate_of (by omega) (by omega)) (by omega)
            rw [hS]
            generalize hP : boundS r (evT r x) (min (evA x) (evB x)) (max (evA x) (evB x)) = Q at *
            obtain ⟨q, e⟩ := Q
            dsimp only at k0 k1 k2 k3
            subst k0
            have gq := good_to k1
            have kb : (q.att != evT r x) = false := by simp [k2]
            have kc : decide (q.now < q.least) = false := decide_eq_false (by have := gq.l2; omega)
            have kd : decide (q.most < q.now) = false := decide_eq_false (by have := gq.l3; omega)
            simp (config := { maxSteps := 400000 }) only [go_sem, evG, hglobC, hglob, gAt, gIs, Rt.l, Ev.l, k21, k23, k13, k19, k11, rtV, Rt.eta, d1, d3, d4, d5, hx, hLl, q1, q2, q3, q4, q5, q6, q7, p4, p5, p6, p7, z1, z2, z3, z4, z5, z6, z7, f0, f1, f2, hlt, k1, hq, hP, kb, kc, kd, AV.bel, belL, nblt, hLb, ↓reduceIte, beq_self_eq_true, bne_self_eq_false, Int.reduceAdd, Int.reduceSub, Int.reduceMul, Int.reduceNeg, Int.reduceEq, Int.reduceNe, Int.cast_ofNat_Int, Int.lt_irrefl, Int.le_refl, Nat.reduceEqDiff, Nat.reduceLeDiff, Nat.reduceLT, Int.reducePow, IntKind.bits, Nat.reduceAdd, Nat.reduceMul, Nat.reduceSub, Int.reduceBNe, Int.reduceBEq, Int.reduceLE, Int.reduceLT, Int.reduceToNat, reduceCtorEq, Nat.zero_ne_one, Nat.one_ne_zero, and_self, and_true, true_and, Option.getD_some, Option.isSome_some, wrapL, gt_iff_lt, ge_iff_le, Int.toNat_natCast, Nat.sub_zero, ite_self, spB_TT, Nat.zero_add, Nat.add_zero]
            repeat' (first | refine spB_i (fun _ => ?_) (fun _ => ?_) | refine andB_i ?_ ?_)
            all_goals first
              | trivial
              | (exfalso; simp only [decide_eq_true_eq, decide_eq_false_iff_not, beq_iff_eq, beq_eq_false_iff_ne, bne_iff_ne, ne_eq, bne_eq_false_iff_eq, Bool.not_eq_true', Bool.not_eq_false'] at *; omega)
              | (exfalso; simp only [decide_eq_true_eq, decide_eq_false_iff_not, beq_iff_eq, beq_eq_false_iff_ne, bne_iff_ne, ne_eq, bne_eq_false_iff_eq, Bool.not_eq_true', Bool.not_eq_false'] at *; grind)
          · have f2 : (x.what % 8 == 2) = false := by simp [w2]
            by_cases w3 : x.what % 8 = 3
            · have f3 : (x.what % 8 == 3) = true := by simp [w3]
              have hS : stepS r x = (reportS r (evT r x) (x.small % 3) 0).1 := by unfold stepS; rw [if_neg w0, if_neg w1, if_neg w2, if_pos w3]
              obtain ⟨k0, ⟨k1, k2⟩, k3, k4, k5⟩ := report_keeps (t := x.small % 3) (a := 0) hg t1 t2 (by omega) (by omega)
              rw [hS]
              generalize hP : reportS r (evT r x) (x.small % 3) 0 = Q at *
              obtain ⟨q, e⟩ := Q
              dsimp only at k0 k1 k2 k3 k4 k5
              subst k0
              have gq := good_to k1
              have kb : (q.att != evT r x) = false := by simp [k2]
              have kc : decide (q.now < q.least) = false := decide_eq_false (by have := gq.l2; omega)
              have kd : decide (q.most < q.now) = false := decide_eq_false (by have := gq.l3; omega)
              simp (config := { maxSteps := 400000 }) only [go_sem, evG, hglobC, hglob, gAt, gIs, Rt.l, Ev.l, k21, k23, k13, k19, k11, rtV, Rt.eta, d1, d3, d4, d5, hx, hLl, q1, q2, q3, q4, q5, q6, q7, p4, p5, p6, p7, z1, z2, z3, z4, z5, z6, z7, f0, f1, f2, f3, r1, r2, r3, r4, hlt, k1, hq, hP, kb, kc, kd, AV.bel, belL, nblt, hLb, ↓reduceIte, beq_self_eq_true, bne_self_eq_false, Int.reduceAdd, Int.reduceSub, Int.reduceMul, Int.reduceNeg, Int.reduceEq, Int.reduceNe, Int.cast_ofNat_Int, Int.lt_irrefl, Int.le_refl, Nat.reduceEqDiff, Nat.reduceLeDiff, Nat.reduceLT, Int.reducePow, IntKind.bits, Nat.reduceAdd, Nat.reduceMul, Nat.reduceSub, Int.reduceBNe, Int.reduceBEq, Int.reduceLE, Int.reduceLT, Int.reduceToNat, reduceCtorEq, Nat.zero_ne_one, Nat.one_ne_zero, and_self, and_true, true_and, Option.getD_some, Option.isSome_some, wrapL, gt_iff_lt, ge_iff_le, Int.toNat_natCast, Nat.sub_zero, ite_self, spB_TT, Nat.zero_add, Nat.add_zero]
              repeat' (first | refine spB_i (fun _ => ?_) (fun _ => ?_) | refine andB_i ?_ ?_)
              all_goals first
                | trivial
                | (exfalso; simp only [decide_eq_true_eq, decide_eq_false_iff_not, beq_iff_eq, beq_eq_false_iff_ne, bne_iff_ne, ne_eq, bne_eq_false_iff_eq, Bool.not_eq_true', Bool.not_eq_false'] at *; omega)
                | (exfalso; simp only [decide_eq_true_eq, decide_eq_false_iff_not, beq_iff_eq, beq_eq_false_iff_ne, bne_iff_ne, ne_eq, bne_eq_false_iff_eq, Bool.not_eq_true', Bool.not_eq_false'] at *; grind)
            · have f3 : (x.what % 8 == 3) = false := by simp [w3]
              have hS : stepS r x = (reportS r (evT r x) (x.small % 3) (evA x)).1 := by unfold stepS; rw [if_neg w0, if_neg w1, if_neg w2, if_neg w3]
              obtain ⟨k0, ⟨k1, k2⟩, k3, k4, k5⟩ := report_keeps (t := x.small % 3) (a := evA x) hg t1 t2 (by omega) (by omega)
              rw [hS]
              generalize hP : reportS r (evT r x) (x.small % 3) (evA x) = Q at *
              obtain ⟨q, e⟩ := Q
              dsimp only at k0 k1 k2 k3 k4 k5
              subst k0
              have gq := good_to k1
              have kb : (q.att != evT r x) = false := by simp [k2]
              have kc : decide (q.now < q.least) = false := decide_eq_false (by have := gq.l2; omega)
              have kd : decide (q.most < q.now) = false := decide_eq_false (by have := gq.l3; omega)
              simp (config := { maxSteps := 400000 }) only [go_sem, evG, hglobC, hglob, gAt, gIs, Rt.l, Ev.l, k21, k23, k13, k19, k11, rtV, Rt.eta, d1, d3, d4, d5, hx, hLl, q1, q2, q3, q4, q5, q6, q7, p4, p5, p6, p7, z1, z2, z3, z4, z5, z6, z7, f0, f1, f2, f3, r1, r2, r3, r4, hlt, k1, hq, hP, kb, kc, kd, AV.bel, belL, nblt, hLb, ↓reduceIte, beq_self_eq_true, bne_self_eq_false, Int.reduceAdd, Int.reduceSub, Int.reduceMul, Int.reduceNeg, Int.reduceEq, Int.reduceNe, Int.cast_ofNat_Int, Int.lt_irrefl, Int.le_refl, Nat.reduceEqDiff, Nat.reduceLeDiff, Nat.reduceLT, Int.reducePow, IntKind.bits, Nat.reduceAdd, Nat.reduceMul, Nat.reduceSub, Int.reduceBNe, Int.reduceBEq, Int.reduceLE, Int.reduceLT, Int.reduceToNat, reduceCtorEq, Nat.zero_ne_one, Nat.one_ne_zero, and_self, and_true, true_and, Option.getD_some, Option.isSome_some, wrapL, gt_iff_lt, ge_iff_le, Int.toNat_natCast, Nat.sub_zero, ite_self, spB_TT, Nat.zero_add, Nat.add_zero]
              repeat' (first | refine spB_i (fun _ => ?_) (fun _ => ?_) | refine andB_i ?_ ?_)
              all_goals first
                | trivial
                | (exfalso; simp only [decide_eq_true_eq, decide_eq_false_iff_not, beq_iff_eq, beq_eq_false_iff_ne, bne_iff_ne, ne_eq, bne_eq_false_iff_eq, Bool.not_eq_true', Bool.not_eq_false'] at *; omega)
                | (exfalso; simp only [decide_eq_true_eq, decide_eq_false_iff_not, beq_iff_eq, beq_eq_false_iff_ne, bne_iff_ne, ne_eq, bne_eq_false_iff_eq, Bool.not_eq_true', Bool.not_eq_false'] at *; grind)
    · have d1 : decide ((k : Int) < (m : Int)) = false := decide_eq_false (by omega)
      simp (config := { maxSteps := 400000 }) only [go_sem, d1, ↓reduceIte, beq_self_eq_true, bne_self_eq_false, Int.reduceAdd, Int.reduceSub, Int.reduceMul, Int.reduceNeg, Int.reduceEq, Int.reduceNe, Int.cast_ofNat_Int, Int.lt_irrefl, Int.le_refl, Nat.reduceEqDiff, Nat.reduceLeDiff, Nat.reduceLT, Int.reducePow, IntKind.bits, Nat.reduceAdd, Nat.reduceMul, Nat.reduceSub, Int.reduceBNe, Int.reduceBEq, Int.reduceLE, Int.reduceLT, Int.reduceToNat, reduceCtorEq, Nat.zero_ne_one, Nat.one_ne_zero, and_self, and_true, true_and, Option.getD_some, Option.isSome_some, wrapL, gt_iff_lt, ge_iff_le, Int.toNat_natCast, Nat.sub_zero, ite_self, spB_TT, Nat.zero_add, Nat.add_zero]
      exact Ends.pure rfl
end Go.Proofs.Rate
