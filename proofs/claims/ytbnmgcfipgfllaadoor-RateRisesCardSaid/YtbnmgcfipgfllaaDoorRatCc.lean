/- Texts laid as one: RatC6 RatC7. -/
import Derived.Test.YtbnmgcfipgfllaaDoorRatCb
import Derived.Test.YtbnmgcfipgfllaaDoorAbRead
import Derived.Test.YtbnmgcfipgfllaaDoorAbGlob
section
/- Contracts of chapter 30: what the trends do. -/
namespace Go.Proofs.Rate
open Go.Ab
set_option maxRecDepth 100000
set_option maxHeartbeats 4000000
set_option linter.unusedSimpArgs false
set_option linter.unusedVariables false

def Ch.ok (c : Ch) : Bool := decide ((0 ≤ c.r.mean ∧ c.r.mean ≤ 100000000) ∧ (0 ≤ c.r.now ∧ c.r.now ≤ 100000000) ∧ (0 ≤ c.passed ∧ c.passed ≤ 1099511627776) ∧ (0 ≤ c.arr ∧ c.arr ≤ 100000000))
def riseN (c : Ch) : Int :=
  if c.r.mean ≠ 0 ∧ 9 * c.r.mean / 10 ≤ c.r.now then c.r.now + 50 * min c.passed 1000 else c.r.now + 8 * c.r.now * min c.passed 1000 / 100000
def heldN (c : Ch) : Int := if c.arr ≠ 0 then min (riseN c) (max c.r.now (3 * c.arr / 2 + 10000)) else riseN c
def normC (c : Ch) : Ch := if c.r.phase = 0 then { c with r := { c.r with phase := 1 } } else { c with r := setR c.r (heldN c) }
def meanN (c : Ch) : Int := if c.r.mean = 0 then c.arr else (95 * c.r.mean + 5 * c.arr) / 100
def overC (c : Ch) : Ch :=
  if c.arr = 0 then { c with r := { setR c.r (85 * c.r.now / 100) with phase := 0 } }
  else { c with r := { setR c.r (min c.r.now (85 * c.arr / 100)) with phase := 0, mean := if meanN c < 1000 then 0 else meanN c } }
def underC (c : Ch) : Ch := { c with r := { c.r with phase := 0 } }
def T11 : List (Nat × Ct) := [(34, k34)]
theorem hT11 : Sound Tryd.prog (cxT T11) := Sound.cons s34 Sound.nil
theorem w63 (c : Ch) : FTL Tryd.prog 63 [.p 0 0] [(0, { cells := c.l })] 1 (.tup []) [(0, { cells := (underC c).l })] 1 := by
  refine FTL.of_iw Sound.nil mo' Tryd.func63 i63_eq (by simp [i63]) (iw_of_jw ?_)
  dsimp only [i63]
  simp (config := { maxSteps := 400000 }) only [go_sem, Ch.l, underC, ↓reduceIte, beq_self_eq_true, bne_self_eq_false, Int.reduceAdd, Int.reduceSub, Int.reduceMul, Int.reduceNeg, Int.reduceEq, Int.reduceNe, Int.cast_ofNat_Int, Int.lt_irrefl, Int.le_refl, Nat.reduceEqDiff, Nat.reduceLeDiff, Nat.reduceLT, Int.reducePow, IntKind.bits, Nat.reduceAdd, Nat.reduceMul, Nat.reduceSub, Int.reduceBNe, Int.reduceBEq, Int.reduceLE, Int.reduceLT, Int.reduceToNat, reduceCtorEq, Nat.zero_ne_one, Nat.one_ne_zero, and_self, and_true, true_and, Option.getD_some, Option.isSome_some, wrapL, gt_iff_lt, ge_iff_le, Int.toNat_natCast, Nat.sub_zero, ite_self, spB_TT, Nat.zero_add, Nat.add_zero]
  exact Ends.keep1 rfl rfl rfl rfl rfl
theorem w62 (c : Ch) (ho : c.ok = true) : FTL Tryd.prog 62 [.p 0 0] [(0, { cells := c.l })] 1 (.tup []) [(0, { cells := (overC c).l })] 1 := by
  refine FTL.of_iw hT11 mo' Tryd.func62 i62_eq (by simp [i62]) (iw_of_jw ?_)
  dsimp only [i62, T11]
  simp only [Ch.ok, decide_eq_true_eq] at ho
  obtain ⟨g1, g2, g3, g4⟩ := ho
  generalize hR : overC c = R
  have q1 : IntKind.i64.wrap (85 * c.r.now) = 85 * c.r.now := wrapL (by omega) (by omega)
  have q2 : (85 * c.r.now).tdiv 100 = 85 * c.r.now / 100 := Int.tdiv_eq_ediv_of_nonneg (by omega)
  have q3 : IntKind.i64.wrap (85 * c.r.now / 100) = 85 * c.r.now / 100 := wrapL (by omega) (by omega)
  have q4 : IntKind.i64.wrap (85 * c.arr) = 85 * c.arr := wrapL (by omega) (by omega)
  have q5 : (85 * c.arr).tdiv 100 = 85 * c.arr / 100 := Int.tdiv_eq_ediv_of_nonneg (by omega)
  have q6 : IntKind.i64.wrap (85 * c.arr / 100) = 85 * c.arr / 100 := wrapL (by omega) (by omega)
  have q7 : IntKind.i64.wrap (95 * c.r.mean) = 95 * c.r.mean := wrapL (by omega) (by omega)
  have q8 : IntKind.i64.wrap (5 * c.arr) = 5 * c.arr := wrapL (by omega) (by omega)
  have q9 : IntKind.i64.wrap (95 * c.r.mean + 5 * c.arr) = 95 * c.r.mean + 5 * c.arr := wrapL (by omega) (by omega)
  have q10 : (95 * c.r.mean + 5 * c.arr).tdiv 100 = (95 * c.r.mean + 5 * c.arr) / 100 := Int.tdiv_eq_ediv_of_nonneg (by omega)
  have q11 : IntKind.i64.wrap ((95 * c.r.mean + 5 * c.arr) / 100) = (95 * c.r.mean + 5 * c.arr) / 100 := wrapL (by omega) (by omega)
  by_cases ha : c.arr = 0
  · have d1 : (c.arr == 0) = true := by simp [ha]
    simp (config := { maxSteps := 400000 }) only [go_sem, Ch.l, k34, chV, Ch.eta, d1, q1, q2, q3, ↓reduceIte, beq_self_eq_true, bne_self_eq_false, Int.reduceAdd, Int.reduceSub, Int.reduceMul, Int.reduceNeg, Int.reduceEq, Int.reduceNe, Int.cast_ofNat_Int, Int.lt_irrefl, Int.le_refl, Nat.reduceEqDiff, Nat.reduceLeDiff, Nat.reduceLT, Int.reducePow, IntKind.bits, Nat.reduceAdd, Nat.reduceMul, Nat.reduceSub, Int.reduceBNe, Int.reduceBEq, Int.reduceLE, Int.reduceLT, Int.reduceToNat, reduceCtorEq, Nat.zero_ne_one, Nat.one_ne_zero, and_self, and_true, true_and, Option.getD_some, Option.isSome_some, wrapL, gt_iff_lt, ge_iff_le, Int.toNat_natCast, Nat.sub_zero, ite_self, spB_TT, Nat.zero_add, Nat.add_zero]
    exact Ends.keep1 rfl rfl rfl rfl (by rw [← hR]; simp [overC, ha, setR, Ch.l])
  · have d1 : (c.arr == 0) = false := by simp [ha]
    by_cases hm : c.r.mean = 0
    · have d2 : (c.r.mean == 0) = true := by simp [hm]
      simp (config := { maxSteps := 400000 }) only [go_sem, Ch.l, k34, chV, Ch.eta, d1, q1, q2, q3, q4, q5, q6, q7, q8, q9, q10, q11, setR, d2, ↓reduceIte, beq_self_eq_true, bne_self_eq_false, Int.reduceAdd, Int.reduceSub, Int.reduceMul, Int.reduceNeg, Int.reduceEq, Int.reduceNe, Int.cast_ofNat_Int, Int.lt_irrefl, Int.le_refl, Nat.reduceEqDiff, Nat.reduceLeDiff, Nat.reduceLT, Int.reducePow, IntKind.bits, Nat.reduceAdd, Nat.reduceMul, Nat.reduceSub, Int.reduceBNe, Int.reduceBEq, Int.reduceLE, Int.reduceLT, Int.reduceToNat, reduceCtorEq, Nat.zero_ne_one, Nat.one_ne_zero, and_self, and_true, true_and, Option.getD_some, Option.isSome_some, wrapL, gt_iff_lt, ge_iff_le, Int.toNat_natCast, Nat.sub_zero, ite_self, spB_TT, Nat.zero_add, Nat.add_zero]
      repeat' (first | refine spB_i (fun _ => ?_) (fun _ => ?_) | refine andB_i ?_ ?_)
      all_goals (refine Ends.keep1 rfl rfl rfl rfl ?_; rw [← hR]; clear hR q1 q2 q3 q4 q5 q6 q7 q8 q9 q10 q11 d1 d2; simp only [decide_eq_true_eq, decide_eq_false_iff_not, beq_iff_eq, beq_eq_false_iff_ne] at *; simp [overC, meanN, setR, Ch.l, *]; try omega)
    · have d2 : (c.r.mean == 0) = false := by simp [hm]
      simp (config := { maxSteps := 400000 }) only [go_sem, Ch.l, k34, chV, Ch.eta, d1, q1, q2, q3, q4, q5, q6, q7, q8, q9, q10, q11, setR, d2, ↓reduceIte, beq_self_eq_true, bne_self_eq_false, Int.reduceAdd, Int.reduceSub, Int.reduceMul, Int.reduceNeg, Int.reduceEq, Int.reduceNe, Int.cast_ofNat_Int, Int.lt_irrefl, Int.le_refl, Nat.reduceEqDiff, Nat.reduceLeDiff, Nat.reduceLT, Int.reducePow, IntKind.bits, Nat.reduceAdd, Nat.reduceMul, Nat.reduceSub, Int.reduceBNe, Int.reduceBEq, Int.reduceLE, Int.reduceLT, Int.reduceToNat, reduceCtorEq, Nat.zero_ne_one, Nat.one_ne_zero, and_self, and_true, true_and, Option.getD_some, Option.isSome_some, wrapL, gt_iff_lt, ge_iff_le, Int.toNat_natCast, Nat.sub_zero, ite_self, spB_TT, Nat.zero_add, Nat.add_zero]
      repeat' (first | refine spB_i (fun _ => ?_) (fun _ => ?_) | refine andB_i ?_ ?_)
      all_goals (refine Ends.keep1 rfl rfl rfl rfl ?_; rw [← hR]; clear hR q1 q2 q3 q4 q5 q6 q7 q8 q9 q10 q11 d1 d2; simp only [decide_eq_true_eq, decide_eq_false_iff_not, beq_iff_eq, beq_eq_false_iff_ne] at *; simp [overC, meanN, setR, Ch.l, *]; try omega)
theorem w60 (c : Ch) (ho : c.ok = true) : FTL Tryd.prog 60 [.p 0 0] [(0, { cells := c.l })] 1 (.tup []) [(0, { cells := (normC c).l })] 1 := by
  refine FTL.of_iw hT11 mo' Tryd.func60 i60_eq (by simp [i60]) (iw_of_jw ?_)
  dsimp only [i60, T11]
  simp only [Ch.ok, decide_eq_true_eq] at ho
  obtain ⟨g1, g2, g3, g4⟩ := ho
  generalize hR : normC c = R
  by_cases hp : c.r.phase = 0
  · have d1 : (c.r.phase == 0) = true := by simp [hp]
    simp (config := { maxSteps := 400000 }) only [go_sem, Ch.l, k34, chV, Ch.eta, d1, ↓reduceIte, beq_self_eq_true, bne_self_eq_false, Int.reduceAdd, Int.reduceSub, Int.reduceMul, Int.reduceNeg, Int.reduceEq, Int.reduceNe, Int.cast_ofNat_Int, Int.lt_irrefl, Int.le_refl, Nat.reduceEqDiff, Nat.reduceLeDiff, Nat.reduceLT, Int.reducePow, IntKind.bits, Nat.reduceAdd, Nat.reduceMul, Nat.reduceSub, Int.reduceBNe, Int.reduceBEq, Int.reduceLE, Int.reduceLT, Int.reduceToNat, reduceCtorEq, Nat.zero_ne_one, Nat.one_ne_zero, and_self, and_true, true_and, Option.getD_some, Option.isSome_some, wrapL, gt_iff_lt, ge_iff_le, Int.toNat_natCast, Nat.sub_zero, ite_self, spB_TT, Nat.zero_add, Nat.add_zero]
    exact Ends.keep1 rfl rfl rfl rfl (by rw [← hR]; simp [normC, hp, Ch.l])
  · have d1 : (c.r.phase == 0) = false := by simp [hp]
    have hD : ∃ d, d = min c.passed 1000 := ⟨_, rfl⟩
    obtain ⟨d, hd⟩ := hD
    have hd1 : 0 ≤ d ∧ d ≤ 1000 := by omega
    have b1 : 0 ≤ 8 * c.r.now * d := Int.mul_nonneg (by omega) (by omega)
    have b2 : 8 * c.r.now * d ≤ 800000000 * 1000 := Int.mul_le_mul (by omega) (by omega) (by omega) (by omega)
    have q0 : IntKind.i64.wrap (50 * d) = 50 * d := wrapL (by omega) (by omega)
    have q1 : IntKind.i64.wrap (c.r.now + 50 * d) = c.r.now + 50 * d := wrapL (by omega) (by omega)
    have q2 : IntKind.i64.wrap (8 * c.r.now) = 8 * c.r.now := wrapL (by omega) (by omega)
    have q3 : IntKind.i64.wrap (8 * c.r.now * d) = 8 * c.r.now * d := wrapL (by omega) (by omega)
    have q4 : (8 * c.r.now * d).tdiv 100000 = 8 * c.r.now * d / 100000 := Int.tdiv_eq_ediv_of_nonneg b1
    have q5 : IntKind.i64.wrap (8 * c.r.now * d / 100000) = 8 * c.r.now * d / 100000 := wrapL (by omega) (by omega)
    have q6 : IntKind.i64.wrap (c.r.now + 8 * c.r.now * d / 100000) = c.r.now + 8 * c.r.now * d / 100000 := wrapL (by omega) (by omega)
    have q7 : IntKind.i64.wrap (9 * c.r.mean) = 9 * c.r.mean := wrapL (by omega) (by omega)
    have q8 : (9 * c.r.mean).tdiv 10 = 9 * c.r.mean / 10 := Int.tdiv_eq_ediv_of_nonneg (by omega)
    have q9 : IntKind.i64.wrap (9 * c.r.mean / 10) = 9 * c.r.mean / 10 := wrapL (by omega) (by omega)
    have q10 : IntKind.i64.wrap (3 * c.arr) = 3 * c.arr := wrapL (by omega) (by omega)
    have q11 : (3 * c.arr).tdiv 2 = 3 * c.arr / 2 := Int.tdiv_eq_ediv_of_nonneg (by omega)
    have q12 : IntKind.i64.wrap (3 * c.arr / 2) = 3 * c.arr / 2 := wrapL (by omega) (by omega)
    have q13 : IntKind.i64.wrap (3 * c.arr / 2 + 10000) = 3 * c.arr / 2 + 10000 := wrapL (by omega) (by omega)
    have hR' : R = { c with r := setR c.r (heldN c) } := by rw [← hR]; simp [normC, hp]
    simp only [heldN, riseN, ← hd] at hR'
    clear hR
    have hd' := hd.symm
    simp (config := { maxSteps := 400000 }) only [go_sem, Ch.l, k34, chV, Ch.eta, d1, hd', q0, q1, q2, q3, q4, q5, q6, q7, q8, q9, q10, q11, q12, q13, ↓reduceIte, beq_self_eq_true, bne_self_eq_false, Int.reduceAdd, Int.reduceSub, Int.reduceMul, Int.reduceNeg, Int.reduceEq, Int.reduceNe, Int.cast_ofNat_Int, Int.lt_irrefl, Int.le_refl, Nat.reduceEqDiff, Nat.reduceLeDiff, Nat.reduceLT, Int.reducePow, IntKind.bits, Nat.reduceAdd, Nat.reduceMul, Nat.reduceSub, Int.reduceBNe, Int.reduceBEq, Int.reduceLE, Int.reduceLT, Int.reduceToNat, reduceCtorEq, Nat.zero_ne_one, Nat.one_ne_zero, and_self, and_true, true_and, Option.getD_some, Option.isSome_some, wrapL, gt_iff_lt, ge_iff_le, Int.toNat_natCast, Nat.sub_zero, ite_self, spB_TT, Nat.zero_add, Nat.add_zero]
    repeat' (first | refine spB_i (fun _ => ?_) (fun _ => ?_) | refine andB_i ?_ ?_)
    all_goals (refine Ends.keep1 rfl rfl rfl rfl ?_; rw [hR']; clear hR' q0 q1 q2 q3 q4 q5 q6 q7 q8 q9 q10 q11 q12 q13 b1 b2 d1 hd' hd; simp only [decide_eq_true_eq, decide_eq_false_iff_not, beq_iff_eq, beq_eq_false_iff_ne, bne_iff_ne, ne_eq, bne_eq_false_iff_eq] at *; simp [setR, Ch.l, *]; try omega)
end Go.Proofs.Rate
end
section
/- Contracts of chapter 30: Report. -/
namespace Go.Proofs.Rate
open Go.Ab
set_option maxRecDepth 100000
set_option maxHeartbeats 4000000
set_option linter.unusedSimpArgs false
set_option linter.unusedVariables false

def k60 : Ct
  | [.p b 0], h, n => (hget h b).bind fun k => (chV k).bind fun c => some (c.ok, { v := .tup [], n, rd := [b], md := [(b, some { cells := (normC c).l })] })
  | _, _, _ => none
theorem s60 : SoundAt Tryd.prog 60 k60 := fun args h n c E hc ht => by
  unfold k60 at hc
  split at hc
  · rename_i b
    simp only [Option.bind_eq_some_iff] at hc
    obtain ⟨k, hk, ch, hm, he⟩ := hc
    cases he
    rw [chV_eq hm] at hk
    exact CallOK.upd1 (argsL := [.p 0 0]) (by kernel_rfl) rfl rfl rfl rfl rfl hk (w60 ch ht)
  · cases hc
def k62 : Ct
  | [.p b 0], h, n => (hget h b).bind fun k => (chV k).bind fun c => some (c.ok, { v := .tup [], n, rd := [b], md := [(b, some { cells := (overC c).l })] })
  | _, _, _ => none
theorem s62 : SoundAt Tryd.prog 62 k62 := fun args h n c E hc ht => by
  unfold k62 at hc
  split at hc
  · rename_i b
    simp only [Option.bind_eq_some_iff] at hc
    obtain ⟨k, hk, ch, hm, he⟩ := hc
    cases he
    rw [chV_eq hm] at hk
    exact CallOK.upd1 (argsL := [.p 0 0]) (by kernel_rfl) rfl rfl rfl rfl rfl hk (w62 ch ht)
  · cases hc
def k63 : Ct
  | [.p b 0], h, n => (hget h b).bind fun k => (chV k).bind fun c => some (true, { v := .tup [], n, rd := [b], md := [(b, some { cells := (underC c).l })] })
  | _, _, _ => none
theorem s63 : SoundAt Tryd.prog 63 k63 := fun args h n c E hc ht => by
  unfold k63 at hc
  split at hc
  · rename_i b
    simp only [Option.bind_eq_some_iff] at hc
    obtain ⟨k, hk, ch, hm, he⟩ := hc
    cases he
    rw [chV_eq hm] at hk
    exact CallOK.upd1 (argsL := [.p 0 0]) (by kernel_rfl) rfl rfl rfl rfl rfl hk (w63 ch)
  · cases hc
def T12 : List (Nat × Ct) := [(33, k33), (31, kWi), (60, k60), (62, k62), (63, k63)]
theorem hT12 : Sound Tryd.prog (cxT T12) := Sound.cons s33 <| Sound.cons sWi <| Sound.cons s60 <| Sound.cons s62 <| Sound.cons s63 Sound.nil
theorem evG {e : Env} {h : Hp} {n : Nat} : Opd.ev e h (.g n) = hglobC h n := (rfl)
def gBlk : Blk := { cells := [.fn 60 [], .fn 62 [], .fn 63 []], ro := true, gid := some 0 }
def chR (r : Rt) (now m arr : Int) : Ch := ⟨{ r with mean := m, att := now }, now - r.att, arr⟩
def meanR (r : Rt) (arr : Int) : Int := if r.mean ≠ 0 ∧ 11 * r.mean / 10 < arr then 0 else r.mean
def trendC (t : Int) (c : Ch) : Ch := if t = 0 then normC c else if t = 1 then overC c else underC c
def reportS (r : Rt) (now t arr : Int) : Rt × Int :=
  if lateE r now ≠ 0 then (zRt, lateE r now)
  else if (t < 0 ∨ 2 < t) ∨ (arr < 0 ∨ 100000000 < arr) then (zRt, 2)
  else ((trendC t (chR r now (meanR r arr) arr)).r, 0)
theorem w19 (r : Rt) (now t arr : Int) : FTL Tryd.prog 19 [.agg r.l, .i .i64 now, .i .i64 t, .i .i64 arr] [(0, gBlk)] 1 (.tup [.agg (reportS r now t arr).1.l, .i .i64 (reportS r now t arr).2]) [(0, gBlk)] 1 := by
  refine FTL.of_iw hT12 mo' Tryd.func19 i19_eq (by simp [i19]) (iw_of_jw ?_)
  dsimp only [i19, T12, gBlk]
  by_cases h0 : lateE r now = 0
  · obtain ⟨hg, hn1, hn2⟩ := late_ok h0
    obtain ⟨g1, g2, g3, g4, g5, g6, g7, g8, g9, g10⟩ := good_iff hg
    generalize hR : reportS r now t arr = R
    have hd : decide (lateE r now = 0) = true := decide_eq_true h0
    by_cases hf : (t < 0 ∨ 2 < t)
    · have hR2 : R = (zRt, 2) := by rw [← hR]; simp [reportS, h0, hf]
      have hf' : [t].all (inI 0 2) = false := by simp [inI]; omega
      simp (config := { maxSteps := 400000 }) only [go_sem, Rt.l, Ch.l, startC, k33, kWi, rtV, chV, Rt.eta, Ch.eta, hd, iteD_t, intsB, unrows, intV, hf', ↓reduceIte, beq_self_eq_true, bne_self_eq_false, Int.reduceAdd, Int.reduceSub, Int.reduceMul, Int.reduceNeg, Int.reduceEq, Int.reduceNe, Int.cast_ofNat_Int, Int.lt_irrefl, Int.le_refl, Nat.reduceEqDiff, Nat.reduceLeDiff, Nat.reduceLT, Int.reducePow, IntKind.bits, Nat.reduceAdd, Nat.reduceMul, Nat.reduceSub, Int.reduceBNe, Int.reduceBEq, Int.reduceLE, Int.reduceLT, Int.reduceToNat, reduceCtorEq, Nat.zero_ne_one, Nat.one_ne_zero, and_self, and_true, true_and, Option.getD_some, Option.isSome_some, wrapL, gt_iff_lt, ge_iff_le, Int.toNat_natCast, Nat.sub_zero, ite_self, spB_TT, Nat.zero_add, Nat.add_zero]
      exact Ends.keep1 rfl rfl rfl (by rw [hR2]; rfl) rfl
    · have hf' : [t].all (inI 0 2) = true := by simp [inI]; omega
      by_cases ha : arr < 0 ∨ 100000000 < arr
      · have hR2 : R = (zRt, 2) := by rw [← hR]; simp [reportS, h0, ha]
        have ha' : [arr].all (inI 0 100000000) = false := by simp [inI]; omega
        simp (config := { maxSteps := 400000 }) only [go_sem, Rt.l, Ch.l, startC, k33, kWi, rtV, chV, Rt.eta, Ch.eta, hd, iteD_t, intsB, unrows, intV, hf', ha', ↓reduceIte, beq_self_eq_true, bne_self_eq_false, Int.reduceAdd, Int.reduceSub, Int.reduceMul, Int.reduceNeg, Int.reduceEq, Int.reduceNe, Int.cast_ofNat_Int, Int.lt_irrefl, Int.le_refl, Nat.reduceEqDiff, Nat.reduceLeDiff, Nat.reduceLT, Int.reducePow, IntKind.bits, Nat.reduceAdd, Nat.reduceMul, Nat.reduceSub, Int.reduceBNe, Int.reduceBEq, Int.reduceLE, Int.reduceLT, Int.reduceToNat, reduceCtorEq, Nat.zero_ne_one, Nat.one_ne_zero, and_self, and_true, true_and, Option.getD_some, Option.isSome_some, wrapL, gt_iff_lt, ge_iff_le, Int.toNat_natCast, Nat.sub_zero, ite_self, spB_TT, Nat.zero_add, Nat.add_zero]
        exact Ends.keep1 rfl rfl rfl (by rw [hR2]; rfl) rfl
      · have ha' : [arr].all (inI 0 100000000) = true := by simp [inI]; omega
        have q1 : IntKind.i64.wrap (11 * r.mean) = 11 * r.mean := wrapL (by omega) (by omega)
        have q2 : (11 * r.mean).tdiv 10 = 11 * r.mean / 10 := Int.tdiv_eq_ediv_of_nonneg (by omega)
        have q3 : IntKind.i64.wrap (11 * r.mean / 10) = 11 * r.mean / 10 := wrapL (by omega) (by omega)
        have ho : ∀ m, m = 0 ∨ m = r.mean → (Ch.mk ⟨r.now, r.least, r.most, r.phase, m, now, r.low, r.rai⟩ (now - r.att) arr).ok = true := fun m hm => by
          simp only [Ch.ok, decide_eq_true_eq]
          omega
        have ho1 := ho 0 (.inl rfl)
        have ho2 := ho r.mean (.inr rfl)
        have hR' : R = ((trendC t (chR r now (meanR r arr) arr)).r, 0) := by rw [← hR]; simp [reportS, h0, hf, ha]
        clear hR
        have ht : t = 0 ∨ t = 1 ∨ t = 2 := by omega
        rcases ht with rfl | rfl | rfl
        all_goals
          simp (config := { maxSteps := 400000 }) only [go_sem, evG, hglobC, hglob, Rt.l, Ch.l, startC, k33, kWi, k60, k62, k63, rtV, chV, Rt.eta, Ch.eta, hd, iteD_t, intsB, unrows, intV, hf', ha', q1, q2, q3, ho1, ho2, ↓reduceIte, beq_self_eq_true, bne_self_eq_false, Int.reduceAdd, Int.reduceSub, Int.reduceMul, Int.reduceNeg, Int.reduceEq, Int.reduceNe, Int.cast_ofNat_Int, Int.lt_irrefl, Int.le_refl, Nat.reduceEqDiff, Nat.reduceLeDiff, Nat.reduceLT, Int.reducePow, IntKind.bits, Nat.reduceAdd, Nat.reduceMul, Nat.reduceSub, Int.reduceBNe, Int.reduceBEq, Int.reduceLE, Int.reduceLT, Int.reduceToNat, reduceCtorEq, Nat.zero_ne_one, Nat.one_ne_zero, and_self, and_true, true_and, Option.getD_some, Option.isSome_some, wrapL, gt_iff_lt, ge_iff_le, Int.toNat_natCast, Nat.sub_zero, ite_self, spB_TT, Nat.zero_add, Nat.add_zero]
          repeat' (first | refine spB_i (fun _ => ?_) (fun _ => ?_) | refine andB_i ?_ ?_)
        all_goals (refine Ends.keep1 rfl rfl rfl ?_ rfl; rw [hR']; clear hR' q1 q2 q3 ho ho1 ho2 hd hf' ha'; simp only [decide_eq_true_eq, decide_eq_false_iff_not, beq_iff_eq, beq_eq_false_iff_ne, bne_iff_ne, ne_eq, bne_eq_false_iff_eq] at *; simp [trendC, chR, meanR, Rt.l, *])
        all_goals trace_state
  · generalize hR : reportS r now t arr = R
    have hd : decide (lateE r now = 0) = false := decide_eq_false h0
    have he : (lateE r now != 0) = true := by simp [h0]
    have hR' : R = (zRt, lateE r now) := by rw [← hR]; simp [reportS, h0]
    simp (config := { maxSteps := 400000 }) only [go_sem, Rt.l, Ch.l, startC, k33, kWi, rtV, chV, Rt.eta, Ch.eta, hd, iteD_f, he, intsB, unrows, intV, ↓reduceIte, beq_self_eq_true, bne_self_eq_false, Int.reduceAdd, Int.reduceSub, Int.reduceMul, Int.reduceNeg, Int.reduceEq, Int.reduceNe, Int.cast_ofNat_Int, Int.lt_irrefl, Int.le_refl, Nat.reduceEqDiff, Nat.reduceLeDiff, Nat.reduceLT, Int.reducePow, IntKind.bits, Nat.reduceAdd, Nat.reduceMul, Nat.reduceSub, Int.reduceBNe, Int.reduceBEq, Int.reduceLE, Int.reduceLT, Int.reduceToNat, reduceCtorEq, Nat.zero_ne_one, Nat.one_ne_zero, and_self, and_true, true_and, Option.getD_some, Option.isSome_some, wrapL, gt_iff_lt, ge_iff_le, Int.toNat_natCast, Nat.sub_zero, ite_self, spB_TT, Nat.zero_add, Nat.add_zero]
    exact Ends.keep1 rfl rfl rfl (by rw [hR']; rfl) rfl
end Go.Proofs.Rate
end
