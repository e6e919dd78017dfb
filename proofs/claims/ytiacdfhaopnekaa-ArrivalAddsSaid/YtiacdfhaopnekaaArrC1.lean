/- Contracts of chapter 29: points. -/
import Derived.Test.YtiacdfhaopnekaaArrW
namespace Go.Proofs.Arr
open Go.Ab
set_option maxRecDepth 100000
set_option maxHeartbeats 4000000
set_option linter.unusedSimpArgs false
set_option linter.unusedVariables false

theorem pX_at {l : List Pt} {i : Nat} {p : Pt} (h : l[i]? = some p) : pX l i = p.x := by simp [pX, List.getD_eq_getElem?_getD, h]
theorem pY_at {l : List Pt} {i : Nat} {p : Pt} (h : l[i]? = some p) : pY l i = p.y := by simp [pY, List.getD_eq_getElem?_getD, h]
/-- The cells of a list of points, by index. -/
structure At (c : List AV) (o : Nat) (l : List Pt) : Prop where
  row : ∀ i, i < l.length → List.take 2 (List.drop (o + i * 2) c) = [.i .i64 (pX l i), .i .i64 (pY l i)]
  x : ∀ i, i < l.length → c[o + i * 2]? = some (.i .i64 (pX l i))
  y : ∀ i, i < l.length → c[o + i * 2 + 1]? = some (.i .i64 (pY l i))
theorem at_of {c : List AV} {o : Nat} {l : List Pt} (h : cellsAt c o (l.length * 2) = rows Pt.l l) : At c o l := by
  refine ⟨fun i hi => ?_, fun i hi => ?_, fun i hi => ?_⟩
  · rw [pX_at (List.getElem?_eq_getElem hi), pY_at (List.getElem?_eq_getElem hi)]
    exact row_at Pt.len h (List.getElem?_eq_getElem hi)
  · rw [pX_at (List.getElem?_eq_getElem hi)]
    exact row_get (j := 0) Pt.len h (List.getElem?_eq_getElem hi) rfl
  · rw [pY_at (List.getElem?_eq_getElem hi)]
    exact row_get (j := 1) Pt.len h (List.getElem?_eq_getElem hi) rfl
theorem inI_iff {lo hi x : Int} : inI lo hi x = true ↔ lo ≤ x ∧ x ≤ hi := by simp [inI]
theorem all1 {p : Int → Bool} {x : Int} : [x].all p = p x := by simp
theorem ptI_at {l : List Pt} {step : Int} (h : ptsB l step = true) {i : Nat} (hi : i < l.length) : ptI l step i = true := by
  simp only [ptsB, Bool.and_eq_true, List.all_eq_true, List.mem_range] at h
  exact h.1 i hi
theorem ptsB_no {l : List Pt} {step : Int} {i : Nat} (hi : i < l.length) (h : ptI l step i = false) : ptsB l step = false := by
  cases hp : ptsB l step with
  | false => rfl
  | true => rw [ptI_at hp hi] at h; cases h
theorem ptsB_yes {l : List Pt} {step : Int} (h : ∀ i, i < l.length → ptI l step i = true) : ptsB l step = decide (l.length ≤ 20) := by
  have : (List.range l.length).all (ptI l step) = true := by simpa only [List.all_eq_true, List.mem_range] using h
  simp only [ptsB, this, Bool.true_and]
def TWi : List (Nat × Ct) := [(27, kWi)]
theorem hTWi : Sound Try.prog (cxT TWi) := Sound.cons sWi Sound.nil
theorem w28sl (kb : Blk) (o cap : Nat) (l : List Pt) (hp : belL 0 kb.cells = true) (hc : cellsAt kb.cells o (l.length * 2) = rows Pt.l l) (step : Int) (hl : l.length ≤ 1000000000000) : FTL Try.prog 28 [.sl 0 o l.length cap, .i .i64 step] [(0, kb)] 1 (.b (ptsB l step)) [(0, kb)] 1 := by
  refine FTL.of_iw hTWi mo Try.func28 i28_eq (by simp [i28]) (iw_of_jw ?_)
  dsimp only [i28, TWi]
  obtain ⟨hrow, hx, hy⟩ := at_of hc
  generalize hR : ptsB l step = R
  have hb1 : belL 1 kb.cells = true := belL_mono0 _ hp
  simp (config := { maxSteps := 400000 }) only [go_sem, simprocAttr]
  refine Loop.countI (F := ⟨Try.prog, cxT TWi, [10, 56], 61, 1⟩) hTWi mo l.length (fun k => ∀ i, i < k → ptI l step i = true)
    (fun k => [(0, .sl 0 o l.length cap), (1, .i .i64 step), (7, .sl 0 o l.length cap), (8, .i .i64 (l.length : Int)), (9, .i .i64 (k : Int))])
    (fun k => [(0, kb)]) 1 (by decide) (by simp) ?_ ?_ (fun k hk ho => ?_)
  · simp (config := { maxSteps := 400000 }) only [go_sem, AV.bel, belL, nblt, simprocAttr]
  · simp (config := { maxSteps := 400000 }) only [go_sem, AV.bel, belL, nblt, hb1, simprocAttr]
  · dsimp only [TWi]
    by_cases hlt : k < l.length
    · have c1 : decide ((k : Int) < (l.length : Int)) = true := decide_eq_true (by omega)
      have c2 : decide (0 ≤ (k : Int) ∧ (k : Int) < (l.length : Int)) = true := decide_eq_true (by omega)
      have r0 := hrow k hlt
      have hw : IntKind.i64.wrap ((k : Int) + 1) = ((k + 1 : Nat) : Int) := by rw [wrapL (by omega) (by omega)]; omega
      have x0 := hx 0 (by omega)
      have y0 := hy 0 (by omega)
      rw [Nat.zero_mul, Nat.add_zero] at x0 y0
      have c0 : decide ((0 : Int) < (l.length : Int)) = true := decide_eq_true (by omega)
      have hlt0 : decide (0 < l.length) = true := decide_eq_true (by omega)
      have hI : ∀ b, ptI l step k = b → (b = false → R = false) := fun b hb hf => by rw [← hR]; exact ptsB_no hlt (by rw [hb, hf])
      cases a1 : inI 0 1099511627776 (pX l k)
      · have hf : R = false := hI _ rfl (by simp only [ptI, M40, a1, Bool.false_and])
        simp (config := { maxSteps := 400000 }) only [go_sem, c1, c2, r0, kWi, intsB, unrows, intV, all1, a1, simprocAttr]
        exact Ends.keep1 rfl rfl hb1 (by rw [hf]) rfl
      cases a2 : inI (-1099511627776) 1099511627776 (pY l k)
      · have hf : R = false := hI _ rfl (by simp only [ptI, M40, a1, a2, Bool.false_and, Bool.and_false])
        simp (config := { maxSteps := 400000 }) only [go_sem, c1, c2, r0, kWi, intsB, unrows, intV, all1, a1, a2, simprocAttr]
        exact Ends.keep1 rfl rfl hb1 (by rw [hf]) rfl
      have b1 := inI_iff.1 a1
      have b2 := inI_iff.1 a2
      have q0 : -1099511627776 ≤ pY l 0 ∧ pY l 0 ≤ 1099511627776 := by
        by_cases hk0 : k = 0
        · subst hk0; exact b2
        · have := ho 0 (by omega)
          simp only [ptI, M40, Bool.and_eq_true] at this
          exact inI_iff.1 this.1.1.2
      have q1 : IntKind.i64.wrap (pY l k - pY l 0) = pY l k - pY l 0 := wrapL (by omega) (by omega)
      by_cases hk0 : k = 0
      · have d0 : decide ((0 : Int) < (k : Int)) = false := decide_eq_false (by omega)
        have hkb : (k == 0) = true := by simp [hk0]
        cases a4 : inI (-67108864) 67108864 (pY l k - pY l 0)
        · have hf : R = false := hI _ rfl (by simp only [ptI, a4, Bool.and_false])
          simp (config := { maxSteps := 400000 }) only [go_sem, c1, c2, c0, hlt0, r0, x0, y0, kWi, intsB, unrows, intV, all1, a1, a2, a4, d0, q1, Nat.zero_mul, Int.toNat_zero, Int.natCast_zero, Int.ofNat_zero, simprocAttr]
          exact Ends.keep1 rfl rfl hb1 (by rw [hf]) rfl
        · have hg : ptI l step k = true := by simp only [ptI, M40, a1, a2, hkb, a4, Bool.true_or, Bool.and_self]
          simp (config := { maxSteps := 400000 }) only [go_sem, c1, c2, c0, hlt0, r0, x0, y0, kWi, intsB, unrows, intV, all1, a1, a2, a4, d0, q1, Nat.zero_mul, Int.toNat_zero, Int.natCast_zero, Int.ofNat_zero, hw, hlt, AV.bel, belL, nblt, hb1, simprocAttr]
          exact fun i hi => by obtain rfl : i = k := by omega
                               exact hg
      · have d0 : decide ((0 : Int) < (k : Int)) = true := decide_eq_true (by omega)
        have q2 : IntKind.i64.wrap ((k : Int) - 1) = ((k - 1 : Nat) : Int) := by rw [wrapL (by omega) (by omega)]; omega
        have x1 := hx (k - 1) (by omega)
        have c3 : decide (0 ≤ ((k - 1 : Nat) : Int) ∧ ((k - 1 : Nat) : Int) < (l.length : Int)) = true := decide_eq_true (by omega)
        have p1 : 0 ≤ pX l (k - 1) ∧ pX l (k - 1) ≤ 1099511627776 := by
          have := ho (k - 1) (by omega)
          simp only [ptI, M40, Bool.and_eq_true] at this
          exact inI_iff.1 this.1.1.1
        have q3 : IntKind.i64.wrap (pX l k - pX l (k - 1)) = pX l k - pX l (k - 1) := wrapL (by omega) (by omega)
        have hkb : (k == 0) = false := by simp [hk0]
        cases a3 : inI 0 step (pX l k - pX l (k - 1))
        · have hf : R = false := hI _ rfl (by simp only [ptI, a3, hkb, Bool.or_false, Bool.and_false, Bool.false_and])
          simp (config := { maxSteps := 400000 }) only [go_sem, c1, c2, c3, c0, hlt0, r0, x0, y0, x1, kWi, intsB, unrows, intV, all1, a1, a2, a3, d0, q1, q2, q3, simprocAttr]
          exact Ends.keep1 rfl rfl hb1 (by rw [hf]) rfl
        cases a4 : inI (-67108864) 67108864 (pY l k - pY l 0)
        · have hf : R = false := hI _ rfl (by simp only [ptI, a4, Bool.and_false])
          simp (config := { maxSteps := 400000 }) only [go_sem, c1, c2, c3, c0, hlt0, r0, x0, y0, x1, kWi, intsB, unrows, intV, all1, a1, a2, a3, a4, d0, q1, q2, q3, Nat.zero_mul, Int.toNat_zero, simprocAttr]
          exact Ends.keep1 rfl rfl hb1 (by rw [hf]) rfl
        · have hg : ptI l step k = true := by simp [ptI, M40, a1, a2, a3, a4]
          simp (config := { maxSteps := 400000 }) only [go_sem, c1, c2, c3, c0, hlt0, r0, x0, y0, x1, kWi, intsB, unrows, intV, all1, a1, a2, a3, a4, d0, q1, q2, q3, Nat.zero_mul, Int.toNat_zero, hw, hlt, AV.bel, belL, nblt, hb1, simprocAttr]
          exact fun i hi => by
            rcases Nat.lt_succ_iff_lt_or_eq.1 hi with h | h
            · exact ho i h
            · rw [h]; exact hg
    · have c1 : decide ((k : Int) < (l.length : Int)) = false := decide_eq_false (by omega)
      have hkl : k = l.length := by omega
      have hfo : R = decide (l.length ≤ 20) := by rw [← hR]; exact ptsB_yes (fun i hi => ho i (by omega))
      have hc20 : decide ((l.length : Int) ≤ 20) = decide (l.length ≤ 20) := decide_eq_decide.2 (by omega)
      simp (config := { maxSteps := 400000 }) only [go_sem, c1, hc20, simprocAttr]
      exact Ends.keep1 rfl rfl hb1 (by rw [hfo]) rfl
theorem w28sg (kb : Blk) (o : Nat) (l : List Pt) (hp : belL 0 kb.cells = true) (hc : cellsAt kb.cells o (l.length * 2) = rows Pt.l l) (step : Int) (hl : l.length ≤ 1000000000000) : FTL Try.prog 28 [.sg 0 o l.length, .i .i64 step] [(0, kb)] 1 (.b (ptsB l step)) [(0, kb)] 1 := by
  refine FTL.of_iw hTWi mo Try.func28 i28_eq (by simp [i28]) (iw_of_jw ?_)
  dsimp only [i28, TWi]
  obtain ⟨hrow, hx, hy⟩ := at_of hc
  generalize hR : ptsB l step = R
  have hb1 : belL 1 kb.cells = true := belL_mono0 _ hp
  simp (config := { maxSteps := 400000 }) only [go_sem, simprocAttr]
  refine Loop.countI (F := ⟨Try.prog, cxT TWi, [10, 56], 61, 1⟩) hTWi mo l.length (fun k => ∀ i, i < k → ptI l step i = true)
    (fun k => [(0, .sg 0 o l.length), (1, .i .i64 step), (7, .sg 0 o l.length), (8, .i .i64 (l.length : Int)), (9, .i .i64 (k : Int))])
    (fun k => [(0, kb)]) 1 (by decide) (by simp) ?_ ?_ (fun k hk ho => ?_)
  · simp (config := { maxSteps := 400000 }) only [go_sem, AV.bel, belL, nblt, simprocAttr]
  · simp (config := { maxSteps := 400000 }) only [go_sem, AV.bel, belL, nblt, hb1, simprocAttr]
  · dsimp only [TWi]
    by_cases hlt : k < l.length
    · have c1 : decide ((k : Int) < (l.length : Int)) = true := decide_eq_true (by omega)
      have c2 : decide (0 ≤ (k : Int) ∧ (k : Int) < (l.length : Int)) = true := decide_eq_true (by omega)
      have r0 := hrow k hlt
      have hw : IntKind.i64.wrap ((k : Int) + 1) = ((k + 1 : Nat) : Int) := by rw [wrapL (by omega) (by omega)]; omega
      have x0 := hx 0 (by omega)
      have y0 := hy 0 (by omega)
      rw [Nat.zero_mul, Nat.add_zero] at x0 y0
      have c0 : decide ((0 : Int) < (l.length : Int)) = true := decide_eq_true (by omega)
      have hlt0 : decide (0 < l.length) = true := decide_eq_true (by omega)
      have hI : ∀ b, ptI l step k = b → (b = false → R = false) := fun b hb hf => by rw [← hR]; exact ptsB_no hlt (by rw [hb, hf])
      cases a1 : inI 0 1099511627776 (pX l k)
      · have hf : R = false := hI _ rfl (by simp only [ptI, M40, a1, Bool.false_and])
        simp (config := { maxSteps := 400000 }) only [go_sem, c1, c2, r0, kWi, intsB, unrows, intV, all1, a1, simprocAttr]
        exact Ends.keep1 rfl rfl hb1 (by rw [hf]) rfl
      cases a2 : inI (-1099511627776) 1099511627776 (pY l k)
      · have hf : R = false := hI _ rfl (by simp only [ptI, M40, a1, a2, Bool.false_and, Bool.and_false])
        simp (config := { maxSteps := 400000 }) only [go_sem, c1, c2, r0, kWi, intsB, unrows, intV, all1, a1, a2, simprocAttr]
        exact Ends.keep1 rfl rfl hb1 (by rw [hf]) rfl
      have b1 := inI_iff.1 a1
      have b2 := inI_iff.1 a2
      have q0 : -1099511627776 ≤ pY l 0 ∧ pY l 0 ≤ 1099511627776 := by
        by_cases hk0 : k = 0
        · subst hk0; exact b2
        · have := ho 0 (by omega)
          simp only [ptI, M40, Bool.and_eq_true] at this
          exact inI_iff.1 this.1.1.2
      have q1 : IntKind.i64.wrap (pY l k - pY l 0) = pY l k - pY l 0 := wrapL (by omega) (by omega)
      by_cases hk0 : k = 0
      · have d0 : decide ((0 : Int) < (k : Int)) = false := decide_eq_false (by omega)
        have hkb : (k == 0) = true := by simp [hk0]
        cases a4 : inI (-67108864) 67108864 (pY l k - pY l 0)
        · have hf : R = false := hI _ rfl (by simp only [ptI, a4, Bool.and_false])
          simp (config := { maxSteps := 400000 }) only [go_sem, c1, c2, c0, hlt0, r0, x0, y0, kWi, intsB, unrows, intV, all1, a1, a2, a4, d0, q1, Nat.zero_mul, Int.toNat_zero, Int.natCast_zero, Int.ofNat_zero, simprocAttr]
          exact Ends.keep1 rfl rfl hb1 (by rw [hf]) rfl
        · have hg : ptI l step k = true := by simp only [ptI, M40, a1, a2, hkb, a4, Bool.true_or, Bool.and_self]
          simp (config := { maxSteps := 400000 }) only [go_sem, c1, c2, c0, hlt0, r0, x0, y0, kWi, intsB, unrows, intV, all1, a1, a2, a4, d0, q1, Nat.zero_mul, Int.toNat_zero, Int.natCast_zero, Int.ofNat_zero, hw, hlt, AV.bel, belL, nblt, hb1, simprocAttr]
          exact fun i hi => by obtain rfl : i = k := by omega
                               exact hg
      · have d0 : decide ((0 : Int) < (k : Int)) = true := decide_eq_true (by omega)
        have q2 : IntKind.i64.wrap ((k : Int) - 1) = ((k - 1 : Nat) : Int) := by rw [wrapL (by omega) (by omega)]; omega
        have x1 := hx (k - 1) (by omega)
        have c3 : decide (0 ≤ ((k - 1 : Nat) : Int) ∧ ((k - 1 : Nat) : Int) < (l.length : Int)) = true := decide_eq_true (by omega)
        have p1 : 0 ≤ pX l (k - 1) ∧ pX l (k - 1) ≤ 1099511627776 := by
          have := ho (k - 1) (by omega)
          simp only [ptI, M40, Bool.and_eq_true] at this
          exact inI_iff.1 this.1.1.1
        have q3 : IntKind.i64.wrap (pX l k - pX l (k - 1)) = pX l k - pX l (k - 1) := wrapL (by omega) (by omega)
        have hkb : (k == 0) = false := by simp [hk0]
        cases a3 : inI 0 step (pX l k - pX l (k - 1))
        · have hf : R = false := hI _ rfl (by simp only [ptI, a3, hkb, Bool.or_false, Bool.and_false, Bool.false_and])
          simp (config := { maxSteps := 400000 }) only [go_sem, c1, c2, c3, c0, hlt0, r0, x0, y0, x1, kWi, intsB, unrows, intV, all1, a1, a2, a3, d0, q1, q2, q3, simprocAttr]
          exact Ends.keep1 rfl rfl hb1 (by rw [hf]) rfl
        cases a4 : inI (-67108864) 67108864 (pY l k - pY l 0)
        · have hf : R = false := hI _ rfl (by simp only [ptI, a4, Bool.and_false])
          simp (config := { maxSteps := 400000 }) only [go_sem, c1, c2, c3, c0, hlt0, r0, x0, y0, x1, kWi, intsB, unrows, intV, all1, a1, a2, a3, a4, d0, q1, q2, q3, Nat.zero_mul, Int.toNat_zero, simprocAttr]
          exact Ends.keep1 rfl rfl hb1 (by rw [hf]) rfl
        · have hg : ptI l step k = true := by simp [ptI, M40, a1, a2, a3, a4]
          simp (config := { maxSteps := 400000 }) only [go_sem, c1, c2, c3, c0, hlt0, r0, x0, y0, x1, kWi, intsB, unrows, intV, all1, a1, a2, a3, a4, d0, q1, q2, q3, Nat.zero_mul, Int.toNat_zero, hw, hlt, AV.bel, belL, nblt, hb1, simprocAttr]
          exact fun i hi => by
            rcases Nat.lt_succ_iff_lt_or_eq.1 hi with h | h
            · exact ho i h
            · rw [h]; exact hg
    · have c1 : decide ((k : Int) < (l.length : Int)) = false := decide_eq_false (by omega)
      have hkl : k = l.length := by omega
      have hfo : R = decide (l.length ≤ 20) := by rw [← hR]; exact ptsB_yes (fun i hi => ho i (by omega))
      have hc20 : decide ((l.length : Int) ≤ 20) = decide (l.length ≤ 20) := decide_eq_decide.2 (by omega)
      simp (config := { maxSteps := 400000 }) only [go_sem, c1, hc20, simprocAttr]
      exact Ends.keep1 rfl rfl hb1 (by rw [hfo]) rfl
theorem w28n (step : Int) : FTL Try.prog 28 [.ns, .i .i64 step] [] 1 (.b true) [] 1 := by
  refine FTL.of_iw hTWi mo Try.func28 i28_eq (by simp [i28]) (iw_of_jw ?_)
  dsimp only [i28, TWi]
  simp (config := { maxSteps := 400000 }) only [go_sem, simprocAttr]
  refine Loop.rounds (F := ⟨Try.prog, cxT TWi, [10, 56], 61, 1⟩) 1 hTWi mo ?_
  dsimp only [TWi]
  simp (config := { maxSteps := 400000 }) only [go_sem, simprocAttr]
  exact Ends.pure rfl
theorem w28 (s : Sh) (l : List Pt) (hs : Sh.pts s l) (step : Int) (hl : l.length ≤ 1000000000000) : FTL Try.prog 28 [s.v 0, .i .i64 step] (s.h 0) 1 (.b (ptsB l step)) (s.h 0) 1 := by
  obtain ⟨h1, h2, h3⟩ := hs
  cases s with
  | nil =>
    have : l = [] := List.eq_nil_of_length_eq_zero h2.symm
    subst this
    exact w28n step
  | sl k o len cap => simp only [Sh.len] at h2; subst h2; exact w28sl k o cap l h1 h3 step hl
  | sg k o len => simp only [Sh.len] at h2; subst h2; exact w28sg k o l h1 h3 step hl
def k28 : Ct
  | [v, .i .i64 step], h, n => (shAt v h).bind fun s => (rdL ptV 2 s).bind fun l => some (decide (l.length ≤ 1000000000000), { v := .b (ptsB l step), n := n + 1, rd := shR v })
  | _, _, _ => none
theorem s28 : SoundAt Try.prog 28 k28 := fun args h n c E hc ht => by
  unfold k28 at hc
  split at hc
  · rename_i v step
    simp only [Option.bind_eq_some_iff] at hc
    obtain ⟨s, hs, l, hl, he⟩ := hc
    cases he
    simp only [decide_eq_true_eq] at ht
    have hp := pts_rd hl
    have := CallOK.sh1 (n := n) (A := fun b => [s.v b, .i .i64 step]) (by kernel_rfl) (by simp [belL, v_bel, AV.bel]) hs hp.pl (fun ψ => by simp [renL, v_ren, AV.ren]) (fun h0 i => by subst h0; rfl) rfl (w28 s l hp step ht)
    rwa [← (shAt_inv hs).1] at this
  · cases hc
end Go.Proofs.Arr
