/- Contracts of chapter 40: the reference's Show, Told; changed decoders. -/
import Derived.Test.YtndbgcmgjnjnhaaPicC8
import Derived.Test.YtndbgcmgjnjnhaaAbChunk
namespace Go.Proofs.Pic
open Go.Ab
set_option maxRecDepth 100000
set_option maxHeartbeats 8000000
set_option linter.unusedSimpArgs false
set_option linter.unusedVariables false

def T12 : List (Nat × Ct) := [(67, k67), (68, k68)]
theorem hT12 : Sound Try.prog (cxT T12) := Sound.cons s67 <| Sound.cons s68 Sound.nil
theorem w51 (d : Dc) (s : Sh) (hd : d.good = true) (hs : s.good = true) : FTL Try.prog 51 [.agg d.l, .agg s.l] [] 0 (.tup [.agg (showS d s).1.l, .b (showS d s).2]) [] 0 := by
  refine FTL.of_iw hT12 mo Try.func51 i51_eq (by simp [i51]) (iw_of_jw ?_)
  dsimp only [i51, T12]
  have hs' := (Sh.good_iff s).1 hs
  have hsp : spOK s = true := decide_eq_true ⟨hs'.2.2.2.2.2.2.1, hs'.2.2.2.2.2.2.2.1⟩
  have hx := fit_id (get_good hd s.sp)
  have hc : decide ((0 ≤ s.id ∧ s.id ≤ 32767) ∧ 0 ≤ (d.get s.sp).id ∧ (d.get s.sp).id ≤ 32767) = true := decide_eq_true ⟨⟨hs'.1, hs'.2.1⟩, hx.1⟩
  have hw1 : IntKind.i64.wrap ((d.get s.sp).ba + 1) = (d.get s.sp).ba + 1 := wrapL (by omega) (by omega)
  have hw2 : IntKind.i64.wrap ((d.get s.sp).op + 1) = (d.get s.sp).op + 1 := wrapL (by omega) (by omega)
  have hw3 : ((d.get s.sp).ba + 1).tmod 256 = ((d.get s.sp).ba + 1) % 256 := Int.tmod_eq_emod_of_nonneg (by omega)
  generalize hR : showS d s = R
  rcases sp3 hsp with h | h | h
  · have hg : d.get s.sp = d.x := by rw [h]; rfl
    rw [hg] at hc hx hw1 hw2 hw3
    simp only [go_sem, Dc.l, Sh.l, h, k67, k68, dcV, Dc.eta, hc, hw1, hw2, hw3, ↓reduceIte, beq_self_eq_true, bne_self_eq_false, Int.reduceAdd, Int.reduceSub, Int.reduceMul, Int.reduceNeg, Int.reduceEq, Int.reduceNe, Int.cast_ofNat_Int, Int.lt_irrefl, Int.le_refl, Nat.reduceEqDiff, Nat.reduceLeDiff, Nat.reduceLT, Int.reducePow, IntKind.bits, Nat.reduceAdd, Nat.reduceMul, Nat.reduceSub, Int.reduceBNe, Int.reduceBEq, Int.reduceLE, Int.reduceLT, Int.reduceToNat, reduceCtorEq, Nat.zero_ne_one, Nat.one_ne_zero, and_self, and_true, true_and, Option.getD_some, Option.isSome_some, wrapL, gt_iff_lt, ge_iff_le]
    repeat' (first | refine spB_i (fun _ => ?_) (fun _ => ?_) | refine andB_i ?_ ?_)
    all_goals (refine Ends.pureE rfl ?_; rw [← hR]; clear hR hs' hs hd hw1 hw2 hw3 hc hsp; simp only [showS, hg, Dc.set, Dc.cut, h, fitsS, Dc.get, Dc.l]; grind [zLy, zDc])
  · have hg : d.get s.sp = d.y := by rw [h]; rfl
    rw [hg] at hc hx hw1 hw2 hw3
    simp only [go_sem, Dc.l, Sh.l, h, k67, k68, dcV, Dc.eta, hc, hw1, hw2, hw3, ↓reduceIte, beq_self_eq_true, bne_self_eq_false, Int.reduceAdd, Int.reduceSub, Int.reduceMul, Int.reduceNeg, Int.reduceEq, Int.reduceNe, Int.cast_ofNat_Int, Int.lt_irrefl, Int.le_refl, Nat.reduceEqDiff, Nat.reduceLeDiff, Nat.reduceLT, Int.reducePow, IntKind.bits, Nat.reduceAdd, Nat.reduceMul, Nat.reduceSub, Int.reduceBNe, Int.reduceBEq, Int.reduceLE, Int.reduceLT, Int.reduceToNat, reduceCtorEq, Nat.zero_ne_one, Nat.one_ne_zero, and_self, and_true, true_and, Option.getD_some, Option.isSome_some, wrapL, gt_iff_lt, ge_iff_le]
    repeat' (first | refine spB_i (fun _ => ?_) (fun _ => ?_) | refine andB_i ?_ ?_)
    all_goals (refine Ends.pureE rfl ?_; rw [← hR]; clear hR hs' hs hd hw1 hw2 hw3 hc hsp; simp only [showS, hg, Dc.set, Dc.cut, h, fitsS, Dc.get, Dc.l]; grind [zLy, zDc])
  · have hg : d.get s.sp = d.z := by rw [h]; rfl
    rw [hg] at hc hx hw1 hw2 hw3
    simp only [go_sem, Dc.l, Sh.l, h, k67, k68, dcV, Dc.eta, hc, hw1, hw2, hw3, ↓reduceIte, beq_self_eq_true, bne_self_eq_false, Int.reduceAdd, Int.reduceSub, Int.reduceMul, Int.reduceNeg, Int.reduceEq, Int.reduceNe, Int.cast_ofNat_Int, Int.lt_irrefl, Int.le_refl, Nat.reduceEqDiff, Nat.reduceLeDiff, Nat.reduceLT, Int.reducePow, IntKind.bits, Nat.reduceAdd, Nat.reduceMul, Nat.reduceSub, Int.reduceBNe, Int.reduceBEq, Int.reduceLE, Int.reduceLT, Int.reduceToNat, reduceCtorEq, Nat.zero_ne_one, Nat.one_ne_zero, and_self, and_true, true_and, Option.getD_some, Option.isSome_some, wrapL, gt_iff_lt, ge_iff_le]
    repeat' (first | refine spB_i (fun _ => ?_) (fun _ => ?_) | refine andB_i ?_ ?_)
    all_goals (refine Ends.pureE rfl ?_; rw [← hR]; clear hR hs' hs hd hw1 hw2 hw3 hc hsp; simp only [showS, hg, Dc.set, Dc.cut, h, fitsS, Dc.get, Dc.l]; grind [zLy, zDc])
def k51 : Ct
  | [.agg l, .agg m], _, n => (dcV l).bind fun d => (shV m).bind fun s => some (d.good && s.good, { v := .tup [.agg (showS d s).1.l, .b (showS d s).2], n })
  | _, _, _ => none
theorem s51 : SoundAt Try.prog 51 k51 := fun args h n c E hc ht => by
  unfold k51 at hc
  split at hc
  · simp only [Option.bind_eq_some_iff] at hc
    obtain ⟨d, hd, s, hs, he⟩ := hc
    cases he
    rw [dcV_eq hd, shV_eq hs]
    simp only [Bool.and_eq_true] at ht
    exact CallOK.pure (by kernel_rfl) rfl rfl (w51 _ _ ht.1 ht.2) _ _
  · cases hc
def T13 : List (Nat × Ct) := [(16, k16), (27, k27), (51, k51)]
theorem hT13 : Sound Try.prog (cxT T13) := Sound.cons s16 <| Sound.cons s27 <| Sound.cons s51 Sound.nil
theorem w29 (d : Dc) (s : Sh) : FTL Try.prog 29 [.agg d.l, .agg s.l] [] 0 (.tup [.agg (toldS d s).1.l, .b (toldS d s).2.1, .i .i64 (toldS d s).2.2]) [] 0 := by
  refine FTL.of_iw hT13 mo Try.func29 i29_eq (by simp [i29]) (iw_of_jw ?_)
  dsimp only [i29, T13]
  generalize hR : toldS d s = R
  by_cases hd : d.good = true
  · by_cases hs : s.good = true
    · simp only [go_sem, Dc.l, Sh.l, k16, k27, k51, dcV, shV, hd, hs, Dc.eta, Sh.eta, ↓reduceIte, beq_self_eq_true, bne_self_eq_false, Int.reduceAdd, Int.reduceSub, Int.reduceMul, Int.reduceNeg, Int.reduceEq, Int.reduceNe, Int.cast_ofNat_Int, Int.lt_irrefl, Int.le_refl, Nat.reduceEqDiff, Nat.reduceLeDiff, Nat.reduceLT, Int.reducePow, IntKind.bits, Nat.reduceAdd, Nat.reduceMul, Nat.reduceSub, Int.reduceBNe, Int.reduceBEq, Int.reduceLE, Int.reduceLT, Int.reduceToNat, reduceCtorEq, Nat.zero_ne_one, Nat.one_ne_zero, and_self, and_true, true_and, Option.getD_some, Option.isSome_some, wrapL, gt_iff_lt, ge_iff_le]
      rw [← hR]
      exact Ends.pureE rfl (by simp [toldS, hd, hs])
    · simp only [go_sem, Dc.l, Sh.l, k16, k27, k51, dcV, shV, hd, hs, Dc.eta, Sh.eta, ↓reduceIte, beq_self_eq_true, bne_self_eq_false, Int.reduceAdd, Int.reduceSub, Int.reduceMul, Int.reduceNeg, Int.reduceEq, Int.reduceNe, Int.cast_ofNat_Int, Int.lt_irrefl, Int.le_refl, Nat.reduceEqDiff, Nat.reduceLeDiff, Nat.reduceLT, Int.reducePow, IntKind.bits, Nat.reduceAdd, Nat.reduceMul, Nat.reduceSub, Int.reduceBNe, Int.reduceBEq, Int.reduceLE, Int.reduceLT, Int.reduceToNat, reduceCtorEq, Nat.zero_ne_one, Nat.one_ne_zero, and_self, and_true, true_and, Option.getD_some, Option.isSome_some, wrapL, gt_iff_lt, ge_iff_le]
      rw [← hR]
      exact Ends.pureE rfl (by simp [toldS, hd, hs, zDc, zLy])
  · simp only [go_sem, Dc.l, Sh.l, k16, k27, k51, dcV, shV, hd, Dc.eta, Sh.eta, ↓reduceIte, beq_self_eq_true, bne_self_eq_false, Int.reduceAdd, Int.reduceSub, Int.reduceMul, Int.reduceNeg, Int.reduceEq, Int.reduceNe, Int.cast_ofNat_Int, Int.lt_irrefl, Int.le_refl, Nat.reduceEqDiff, Nat.reduceLeDiff, Nat.reduceLT, Int.reducePow, IntKind.bits, Nat.reduceAdd, Nat.reduceMul, Nat.reduceSub, Int.reduceBNe, Int.reduceBEq, Int.reduceLE, Int.reduceLT, Int.reduceToNat, reduceCtorEq, Nat.zero_ne_one, Nat.one_ne_zero, and_self, and_true, true_and, Option.getD_some, Option.isSome_some, wrapL, gt_iff_lt, ge_iff_le]
    rw [← hR]
    exact Ends.pureE rfl (by simp [toldS, hd, zDc, zLy])
theorem s29 : SoundAt Try.prog 29 k28 := fun args h n c E hc ht => by
  unfold k28 at hc
  split at hc
  · simp only [Option.bind_eq_some_iff] at hc
    obtain ⟨d, hd, s, hs, he⟩ := hc
    cases he
    rw [dcV_eq hd, shV_eq hs]
    exact CallOK.pure (by kernel_rfl) rfl rfl (w29 _ _) _ _
  · cases hc
theorem show_good {d : Dc} {s : Sh} (hd : d.good = true) (hs : s.good = true) : (showS d s).1.good = true := by
  rw [Sh.good_iff] at hs
  obtain ⟨h1, h2, h3, h4, h5, h6, h7, h8, -⟩ := hs
  rcases (show s.sp = 0 ∨ s.sp = 1 ∨ s.sp = 2 by omega) with h | h | h
  · simp only [showS, h, Dc.set, Dc.cut, fitsS, Dc.get]
    simp only [Dc.good, Ly.fit] at hd ⊢
    grind [zLy, zDc]
  · simp only [showS, h, Dc.set, Dc.cut, fitsS, Dc.get]
    simp only [Dc.good, Ly.fit] at hd ⊢
    grind [zLy, zDc]
  · simp only [showS, h, Dc.set, Dc.cut, fitsS, Dc.get]
    simp only [Dc.good, Ly.fit] at hd ⊢
    grind [zLy, zDc]
structure Dr where
  f : Int
  i : Int
  b : Int
  t : Int
  s : Int
def Dr.l (x : Dr) : List AV := [.i .u8 x.f, .i .u16 x.i, .i .u8 x.b, .i .u8 x.t, .i .u8 x.s]
def Dr.sh (x : Dr) : Sh := draftS x.f x.i x.b x.t x.s
def Dr.ok (x : Dr) : Bool := decide ((0 ≤ x.i ∧ x.i ≤ 65535) ∧ (0 ≤ x.b ∧ x.b ≤ 255) ∧ (0 ≤ x.t ∧ x.t ≤ 255) ∧ (0 ≤ x.s ∧ x.s ≤ 255))
theorem Dr.good {x : Dr} (h : x.ok = true) : x.sh.good = true := by
  simp only [Dr.ok, decide_eq_true_eq] at h
  exact draft_good h.1 h.2.1 h.2.2.1 h.2.2.2
theorem Dr.len (x : Dr) : x.l.length = 5 := rfl
def drV : List AV → Option Dr
  | [.i .u8 f, .i .u16 i, .i .u8 b, .i .u8 t, .i .u8 s] => some ⟨f, i, b, t, s⟩
  | _ => none
theorem drV_eq (c : List AV) (a : Dr) (h : drV c = some a) : c = a.l := by
  unfold drV at h
  split at h
  · cases h; rfl
  · cases h
theorem Dr.bel (x : Dr) : belL 0 x.l = true := rfl
def shStep (d : Dc) (x : Dr) : Dc := (showS d x.sh).1
def shownS (ls : List Dr) : Dc := (ls.take 30).foldl shStep zDc
theorem fold_good {ls : List Dr} (h : ls.all Dr.ok = true) : ∀ {d : Dc}, d.good = true → (ls.foldl shStep d).good = true := by
  induction ls with
  | nil => intro d hd; exact hd
  | cons x ls ih =>
    intro d hd
    simp only [List.all_cons, Bool.and_eq_true] at h
    exact ih h.2 (show_good hd (Dr.good h.1))
theorem fold_succ {ls : List Dr} {k : Nat} (h : k < ls.length) {d : Dc} : (ls.take (k + 1)).foldl shStep d = shStep ((ls.take k).foldl shStep d) ls[k] := by
  rw [List.take_add_one, List.foldl_append, List.getElem?_eq_getElem h]; rfl
theorem all_take {α : Type} {p : α → Bool} {l : List α} (k : Nat) (h : l.all p = true) : (l.take k).all p = true := by
  rw [List.all_eq_true] at *
  exact fun x hx => h x (List.mem_of_mem_take hx)
def T14 : List (Nat × Ct) := [(12, k12), (51, k51)]
theorem hT14 : Sound Try.prog (cxT T14) := Sound.cons s12 <| Sound.cons s51 Sound.nil
theorem dcV_l (d : Dc) : dcV d.l = some d := rfl
theorem w24 (ls : List Dr) (cap : Nat) (h : ls.all Dr.ok = true) (ro : Bool) : FTL Try.prog 24 [.sl 0 0 ls.length cap] [(0, { cells := rows Dr.l ls, ro := ro })] 1 (.agg (shownS ls).l) [(0, { cells := rows Dr.l ls, ro := ro })] 1 := by
  refine FTL.of_iw hT14 mo Try.func24 i24_eq (by simp [i24]) (iw_of_jw ?_)
  dsimp only [i24, T14]
  generalize hR : (shownS ls) = R
  obtain ⟨m, hm⟩ : ∃ m, m = min ls.length 30 := ⟨_, rfl⟩
  have hLb : belL 0 (rows Dr.l ls) = true := rows_bel Dr.bel
  have hL : ∀ k x, ls[k]? = some x → List.take 5 (List.drop (k * 5) (rows Dr.l ls)) = x.l := fun k x hk => rows_at Dr.len hk
  generalize rows Dr.l ls = L at hL hLb ⊢
  have hLb1 := belL_mono0 (m := 1) _ hLb
  have hLb3 := belL_mono0 (m := 3) _ hLb
  simp only [go_sem, ↓reduceIte, beq_self_eq_true, bne_self_eq_false, Int.reduceAdd, Int.reduceSub, Int.reduceMul, Int.reduceNeg, Int.reduceEq, Int.reduceNe, Int.cast_ofNat_Int, Int.lt_irrefl, Int.le_refl, Nat.reduceEqDiff, Nat.reduceLeDiff, Nat.reduceLT, Int.reducePow, IntKind.bits, Nat.reduceAdd, Nat.reduceMul, Nat.reduceSub, Int.reduceBNe, Int.reduceBEq, Int.reduceLE, Int.reduceLT, Int.reduceToNat, reduceCtorEq, Nat.zero_ne_one, Nat.one_ne_zero, and_self, and_true, true_and, Option.getD_some, Option.isSome_some, wrapL, gt_iff_lt, ge_iff_le]
  refine Loop.countI (F := ⟨Try.prog, cxT T14, [12], 26, 1⟩) hT14 mo m (fun _ => True)
    (fun k => [(0, .sl 0 0 ls.length cap), (2, .p 1 0), (3, .p 2 0), (4, .i .i64 (k : Int))])
    (fun k => [(0, { cells := L, ro := ro }), (1, { cells := zDc.l }), (2, { cells := ((ls.take k).foldl shStep zDc).l })]) 3 (by decide) trivial ?_ ?_ (fun k hk _ => ?_)
  · simp only [go_sem, AV.bel, belL, nblt, ↓reduceIte, beq_self_eq_true, bne_self_eq_false, Int.reduceAdd, Int.reduceSub, Int.reduceMul, Int.reduceNeg, Int.reduceEq, Int.reduceNe, Int.cast_ofNat_Int, Int.lt_irrefl, Int.le_refl, Nat.reduceEqDiff, Nat.reduceLeDiff, Nat.reduceLT, Int.reducePow, IntKind.bits, Nat.reduceAdd, Nat.reduceMul, Nat.reduceSub, Int.reduceBNe, Int.reduceBEq, Int.reduceLE, Int.reduceLT, Int.reduceToNat, reduceCtorEq, Nat.zero_ne_one, Nat.one_ne_zero, and_self, and_true, true_and, Option.getD_some, Option.isSome_some, wrapL, gt_iff_lt, ge_iff_le]
  · simp only [go_sem, AV.bel, belL, nblt, hLb3, Dc.l, zDc, zLy, List.take_zero, List.foldl_nil, ↓reduceIte, beq_self_eq_true, bne_self_eq_false, Int.reduceAdd, Int.reduceSub, Int.reduceMul, Int.reduceNeg, Int.reduceEq, Int.reduceNe, Int.cast_ofNat_Int, Int.lt_irrefl, Int.le_refl, Nat.reduceEqDiff, Nat.reduceLeDiff, Nat.reduceLT, Int.reducePow, IntKind.bits, Nat.reduceAdd, Nat.reduceMul, Nat.reduceSub, Int.reduceBNe, Int.reduceBEq, Int.reduceLE, Int.reduceLT, Int.reduceToNat, reduceCtorEq, Nat.zero_ne_one, Nat.one_ne_zero, and_self, and_true, true_and, Option.getD_some, Option.isSome_some, wrapL, gt_iff_lt, ge_iff_le]
  · dsimp only [T14]
    have hgd := fold_good (all_take k h) (d := zDc) rfl
    by_cases hlt : k < m
    · have c1 : decide ((k : Int) < (ls.length : Int)) = true := decide_eq_true (by omega)
      have c2 : decide ((k : Int) < 30) = true := decide_eq_true (by omega)
      have c3 : decide (0 ≤ (k : Int) ∧ (k : Int) < (ls.length : Int)) = true := decide_eq_true (by omega)
      have hk' : k < ls.length := by omega
      have hx := hL k ls[k] (List.getElem?_eq_getElem hk')
      have hg1 : (draftS ls[k].f ls[k].i ls[k].b ls[k].t ls[k].s).good = true := Dr.good (List.all_eq_true.1 h _ (List.getElem_mem hk'))
      have hfs := fold_succ hk' (d := zDc)
      have hw : IntKind.i64.wrap ((k : Int) + 1) = ((k + 1 : Nat) : Int) := by rw [wrapL (by omega) (by omega)]; omega
      generalize hdk : (ls.take k).foldl shStep zDc = dk at hgd hfs
      have e3 : (showS dk (draftS ls[k].f ls[k].i ls[k].b ls[k].t ls[k].s)).1 = (ls.take (k + 1)).foldl shStep zDc := by rw [hfs]; rfl
      simp only [go_sem, c1, c2, c3, hdk, hx, k12, k51, Dc.l, dcV, Dr.l, Int.toNat_natCast, Nat.zero_add, Sh.l, shV, Dc.eta, Sh.eta, hgd, hg1, hlt, hw, e3, AV.bel, belL, nblt, hLb3, ↓reduceIte, beq_self_eq_true, bne_self_eq_false, Int.reduceAdd, Int.reduceSub, Int.reduceMul, Int.reduceNeg, Int.reduceEq, Int.reduceNe, Int.cast_ofNat_Int, Int.lt_irrefl, Int.le_refl, Nat.reduceEqDiff, Nat.reduceLeDiff, Nat.reduceLT, Int.reducePow, IntKind.bits, Nat.reduceAdd, Nat.reduceMul, Nat.reduceSub, Int.reduceBNe, Int.reduceBEq, Int.reduceLE, Int.reduceLT, Int.reduceToNat, reduceCtorEq, Nat.zero_ne_one, Nat.one_ne_zero, and_self, and_true, true_and, Option.getD_some, Option.isSome_some, wrapL, gt_iff_lt, ge_iff_le]
    · have hkm : k = m := by omega
      have e4 : (ls.take k).foldl shStep zDc = R := by
        rw [← hR, hkm, hm]
        unfold shownS
        congr 1
        rcases Nat.le_total ls.length 30 with hl | hl
        · rw [Nat.min_eq_left hl, List.take_length, List.take_of_length_le hl]
        · rw [Nat.min_eq_right hl]
      by_cases h1 : k < ls.length
      · have c1 : decide ((k : Int) < (ls.length : Int)) = true := decide_eq_true (by omega)
        have c2 : decide ((k : Int) < 30) = false := decide_eq_false (by omega)
        simp only [go_sem, c1, c2, e4, Dc.l, ↓reduceIte, beq_self_eq_true, bne_self_eq_false, Int.reduceAdd, Int.reduceSub, Int.reduceMul, Int.reduceNeg, Int.reduceEq, Int.reduceNe, Int.cast_ofNat_Int, Int.lt_irrefl, Int.le_refl, Nat.reduceEqDiff, Nat.reduceLeDiff, Nat.reduceLT, Int.reducePow, IntKind.bits, Nat.reduceAdd, Nat.reduceMul, Nat.reduceSub, Int.reduceBNe, Int.reduceBEq, Int.reduceLE, Int.reduceLT, Int.reduceToNat, reduceCtorEq, Nat.zero_ne_one, Nat.one_ne_zero, and_self, and_true, true_and, Option.getD_some, Option.isSome_some, wrapL, gt_iff_lt, ge_iff_le]
        refine Ends.keep1 rfl rfl hLb1 rfl rfl
      · have c1 : decide ((k : Int) < (ls.length : Int)) = false := decide_eq_false (by omega)
        simp only [go_sem, c1, e4, Dc.l, ↓reduceIte, beq_self_eq_true, bne_self_eq_false, Int.reduceAdd, Int.reduceSub, Int.reduceMul, Int.reduceNeg, Int.reduceEq, Int.reduceNe, Int.cast_ofNat_Int, Int.lt_irrefl, Int.le_refl, Nat.reduceEqDiff, Nat.reduceLeDiff, Nat.reduceLT, Int.reducePow, IntKind.bits, Nat.reduceAdd, Nat.reduceMul, Nat.reduceSub, Int.reduceBNe, Int.reduceBEq, Int.reduceLE, Int.reduceLT, Int.reduceToNat, reduceCtorEq, Nat.zero_ne_one, Nat.one_ne_zero, and_self, and_true, true_and, Option.getD_some, Option.isSome_some, wrapL, gt_iff_lt, ge_iff_le]
        refine Ends.keep1 rfl rfl hLb1 rfl rfl
theorem w24n : FTL Try.prog 24 [.ns] [] 0 (.agg zDc.l) [] 0 := FTL.of_val 100 mo Valid.nil Try.func24 i24_eq (by kernel_rfl) rfl
def k24 : Ct
  | [.sl b 0 len cap], h, n => (hget h b).bind fun k => (unrows 5 drV len k.cells).bind fun ls => match k with
    | ⟨_, _, none, none⟩ => some (ls.all Dr.ok, { v := .agg (shownS ls).l, n, rd := [b] })
    | _ => none
  | [.ns], _, n => some (true, { v := .agg zDc.l, n })
  | _, _, _ => none
theorem s24 : SoundAt Try.prog 24 k24 := fun args h n c E hc ht => by
  unfold k24 at hc
  split at hc
  · rename_i b len cap
    simp only [Option.bind_eq_some_iff] at hc
    obtain ⟨k, hk, ls, hls, hc⟩ := hc
    obtain ⟨h1, h2⟩ := unrows_eq drV_eq hls
    split at hc
    · rename_i cells ro
      cases hc
      simp only at h1
      subst h1
      subst h2
      exact CallOK.read1 (argsL := [.sl 0 0 ls.length cap]) (by kernel_rfl) rfl (rows_bel Dr.bel) rfl hk (w24 _ _ ht _)
    · cases hc
  · cases hc; exact CallOK.pure (by kernel_rfl) rfl rfl w24n _ _
  · cases hc
def bendL (w m : Int) (q : Ly) : Ly := if w.tmod 4 == 0 then { q with lv := !q.lv } else if w.tmod 4 == 1 then { q with id := m } else if w.tmod 4 == 2 then { q with ba := m } else { q with op := m }
def bendD (w a m : Int) (d : Dc) : Dc := d.set (a.tmod 3) (bendL w m (d.get (a.tmod 3)))
theorem w25 (w a m : Int) (d : Dc) (ha : 0 ≤ a ∧ a ≤ 255) : FTL Try.prog 25 [.agg [.i .u8 w, .i .u8 a, .i .i64 m], .agg d.l] [] 0 (.agg (bendD w a m d).l) [] 0 := by
  refine FTL.of_iw hT1 mo Try.func25 i25_eq (by simp [i25]) (iw_of_jw ?_)
  dsimp only [i25, T1]
  generalize hR : bendD w a m d = R
  have h3 : a.tmod 3 = 0 ∨ a.tmod 3 = 1 ∨ a.tmod 3 = 2 := by rw [Int.tmod_eq_emod_of_nonneg ha.1]; omega
  rcases h3 with h | h | h
  · simp only [go_sem, Dc.l, h, ↓reduceIte, beq_self_eq_true, bne_self_eq_false, Int.reduceAdd, Int.reduceSub, Int.reduceMul, Int.reduceNeg, Int.reduceEq, Int.reduceNe, Int.cast_ofNat_Int, Int.lt_irrefl, Int.le_refl, Nat.reduceEqDiff, Nat.reduceLeDiff, Nat.reduceLT, Int.reducePow, IntKind.bits, Nat.reduceAdd, Nat.reduceMul, Nat.reduceSub, Int.reduceBNe, Int.reduceBEq, Int.reduceLE, Int.reduceLT, Int.reduceToNat, reduceCtorEq, Nat.zero_ne_one, Nat.one_ne_zero, and_self, and_true, true_and, Option.getD_some, Option.isSome_some, wrapL, gt_iff_lt, ge_iff_le]
    repeat' (first | refine spB_i (fun _ => ?_) (fun _ => ?_) | refine andB_i ?_ ?_)
    all_goals (refine Ends.pureE rfl ?_; rw [← hR]; simp [bendD, bendL, Dc.set, Dc.get, Dc.l, h, *])
  · simp only [go_sem, Dc.l, h, ↓reduceIte, beq_self_eq_true, bne_self_eq_false, Int.reduceAdd, Int.reduceSub, Int.reduceMul, Int.reduceNeg, Int.reduceEq, Int.reduceNe, Int.cast_ofNat_Int, Int.lt_irrefl, Int.le_refl, Nat.reduceEqDiff, Nat.reduceLeDiff, Nat.reduceLT, Int.reducePow, IntKind.bits, Nat.reduceAdd, Nat.reduceMul, Nat.reduceSub, Int.reduceBNe, Int.reduceBEq, Int.reduceLE, Int.reduceLT, Int.reduceToNat, reduceCtorEq, Nat.zero_ne_one, Nat.one_ne_zero, and_self, and_true, true_and, Option.getD_some, Option.isSome_some, wrapL, gt_iff_lt, ge_iff_le]
    repeat' (first | refine spB_i (fun _ => ?_) (fun _ => ?_) | refine andB_i ?_ ?_)
    all_goals (refine Ends.pureE rfl ?_; rw [← hR]; simp [bendD, bendL, Dc.set, Dc.get, Dc.l, h, *])
  · simp only [go_sem, Dc.l, h, ↓reduceIte, beq_self_eq_true, bne_self_eq_false, Int.reduceAdd, Int.reduceSub, Int.reduceMul, Int.reduceNeg, Int.reduceEq, Int.reduceNe, Int.cast_ofNat_Int, Int.lt_irrefl, Int.le_refl, Nat.reduceEqDiff, Nat.reduceLeDiff, Nat.reduceLT, Int.reducePow, IntKind.bits, Nat.reduceAdd, Nat.reduceMul, Nat.reduceSub, Int.reduceBNe, Int.reduceBEq, Int.reduceLE, Int.reduceLT, Int.reduceToNat, reduceCtorEq, Nat.zero_ne_one, Nat.one_ne_zero, and_self, and_true, true_and, Option.getD_some, Option.isSome_some, wrapL, gt_iff_lt, ge_iff_le]
    repeat' (first | refine spB_i (fun _ => ?_) (fun _ => ?_) | refine andB_i ?_ ?_)
    all_goals (refine Ends.pureE rfl ?_; rw [← hR]; simp [bendD, bendL, Dc.set, Dc.get, Dc.l, h, *])
def k25 : Ct
  | [.agg [.i .u8 w, .i .u8 a, .i .i64 m], .agg l], _, n => (dcV l).bind fun d => some (decide (0 ≤ a ∧ a ≤ 255), { v := .agg (bendD w a m d).l, n })
  | _, _, _ => none
theorem s25 : SoundAt Try.prog 25 k25 := fun args h n c E hc ht => by
  unfold k25 at hc
  split at hc
  · simp only [Option.bind_eq_some_iff] at hc
    obtain ⟨d, hd, he⟩ := hc
    cases he
    rw [dcV_eq hd]
    exact CallOK.pure (by kernel_rfl) rfl rfl (w25 _ _ _ _ (of_decide_eq_true ht)) _ _
  · cases hc
end Go.Proofs.Pic
