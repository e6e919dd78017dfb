/- Chapter 29: packets that take the same time. -/
import Derived.Test.YtiacdfhaopnekaaArrP7
namespace Go.Proofs.Arr
open Go.Ab
set_option linter.unusedVariables false
/-- Nothing is added up: all packets so far took T, in order. -/
structure Calm (T : Int) (t : Tr) (l : List Pt) : Prop where
  sta : t.sta = 0
  sum : t.sum = 0
  smo : t.smo = 0
  bef : t.bef = 0
  ovr : t.ovr = 0
  th : 6144 ≤ t.thr ∧ t.thr ≤ 614400
  y : ∀ i, i < l.length → pY l i = 0
  c1 : t.st = true → t.got = t.lst + T
  p1 : t.past = true → t.pgot = t.plst + T
theorem pY_app (l : List Pt) (p : Pt) (i : Nat) : pY (l ++ [p]) i = if i < l.length then pY l i else if i = l.length then p.y else 0 := by
  simp only [pY, List.getD_eq_getElem?_getD]
  by_cases h : i < l.length
  · rw [if_pos h, List.getElem?_append_left h]
  · rw [if_neg h, List.getElem?_append_right (by omega)]
    by_cases h2 : i = l.length
    · rw [if_pos h2]; subst h2; simp
    · rw [if_neg h2]
      have : i - l.length ≠ 0 := by omega
      cases hk : i - l.length with
      | zero => omega
      | succ n => simp; rfl
theorem pY_drop (l : List Pt) (i : Nat) : pY (l.drop 1) i = pY l (i + 1) := by
  simp only [pY, List.getD_eq_getElem?_getD, List.getElem?_drop, Nat.add_comm]
theorem next_y {l : List Pt} {p : Pt} (h : ∀ i, i < l.length → pY l i = 0) (hp : p.y = 0) : ∀ i, i < (nextPts l p).length → pY (nextPts l p) i = 0 := by
  have ha : ∀ i, i < (l ++ [p]).length → pY (l ++ [p]) i = 0 := fun i hi => by
    rw [pY_app]
    split
    · exact h i (by assumption)
    · split
      · exact hp
      · rfl
  unfold nextPts
  split
  · intro i hi
    rw [List.length_drop] at hi
    rw [pY_drop]
    exact ha (i + 1) (by omega)
  · exact ha
theorem sum_zero (f : Int → Int → Int) (hf : ∀ x, f x 0 = 0) {l : List Pt} (h : ∀ i, i < l.length → pY l i = 0) : ∀ n, n ≤ l.length → sumI f l n = 0
  | 0, _ => rfl
  | n + 1, hn => by
    have h0 := h n (by omega)
    have h1 := h 0 (by omega)
    simp only [sumI, sum_zero f hf h n (by omega), h0, h1, Int.sub_self, hf, Int.add_zero]
theorem trend_zero {l : List Pt} (h : ∀ i, i < l.length → pY l i = 0) (c : Int) : trendN l c = 0 := by
  unfold trendN
  split
  · rfl
  · unfold lineN
    rw [sum_zero (fun x y => x * y) (fun x => Int.mul_zero x) h _ (Nat.le_refl _), sum_zero (fun _ y => y) (fun _ => rfl) h _ (Nat.le_refl _)]
    simp
theorem adapt_zero {thr dg : Int} (h : 6144 ≤ thr ∧ thr ≤ 614400) (hd : 0 ≤ dg) : adaptN thr 0 dg ≤ thr ∧ (100 ≤ dg → adaptN thr 0 dg = 6144) := by
  unfold adaptN
  have e1 : max (0 : Int) (-0) = 0 := rfl
  rw [e1]
  dsimp only
  rw [if_neg (by omega), if_neg (by omega)]
  have hm : 0 ≤ min dg 100 ∧ min dg 100 ≤ 100 := by omega
  refine ⟨?_, fun h100 => ?_⟩
  · have : (0 - thr) * 390 * min dg 100 / 10000 ≤ 0 := by
      have h2 : (0 - thr) * 390 * min dg 100 ≤ 0 := Int.mul_nonpos_of_nonpos_of_nonneg (by omega) hm.1
      omega
    omega
  · have : min dg 100 = 100 := by omega
    rw [this]
    omega
theorem judge_zero {t : Tr} {ds : Int} (h : 6144 ≤ t.thr) : judgeT t 0 ds = { t with ovr := 0, ovs := 0, sta := 0 } := by
  unfold judgeT
  rw [if_pos (by omega), if_neg (by omega)]
theorem calm_weigh {T : Int} {t : Tr} {l : List Pt} (h : Calm T t l) (hs : t.st = true) (hp : t.past = true) (hd : 0 ≤ t.lst - t.plst) :
    Calm T (weighT t l).1 (weighT t l).2 ∧ (weighT t l).1.thr ≤ t.thr ∧ (wKl t l = false → 100 ≤ t.lst - t.plst → (weighT t l).1.thr = 6144) := by
  obtain ⟨a1, a2, a3, a4, a5, a6, a7, a8, a9⟩ := h
  have b1 := a8 hs
  have b2 := a9 hp
  have eS : wSum t = 0 := by unfold wSum; omega
  have eM : wSmo t = 0 := by unfold wSmo; rw [eS, a3]; rfl
  have hy := next_y (p := wPt t) a7 eM
  rw [weigh_eq]
  cases hk : wKl t l
  · simp only [Bool.false_eq_true, if_false]
    have ed : t.got - t.pgot = t.lst - t.plst := by omega
    have eE : wEnd t l = { t with sum := 0, smo := 0, cnt := min (t.cnt + 1) 60, ovr := 0, ovs := 0, sta := 0, bef := 0, thr := adaptN t.thr 0 (t.lst - t.plst) } := by
      unfold wEnd
      rw [trend_zero hy]
      dsimp only
      rw [judge_zero (t := wAdd t) a6.1, ed]
      simp only [wAdd, eS, eM]
      rfl
    have hz := adapt_zero a6 hd
    rw [eE]
    exact ⟨⟨rfl, rfl, rfl, rfl, rfl, adapt_rng a6, hy, a8, a9⟩, hz.1, fun _ h100 => hz.2 h100⟩
  · simp only [if_true]
    exact ⟨⟨rfl, rfl, rfl, rfl, rfl, a6, fun i hi => absurd hi (by simp), a8, a9⟩, Int.le_refl _, fun h => by cases h⟩
theorem pts_zero {l : List Pt} (h : Stp2 l) (hy : ∀ i, i < l.length → pY l i = 0) (hl : l.length ≤ 20) : ptsB l 2000 = true := by
  rw [ptsB_iff]
  refine ⟨fun i hi => ?_, hl⟩
  have h0 := hy i hi
  have h1 := hy 0 (by omega)
  obtain ⟨a, b⟩ := h i hi
  simp only [ptI, M40, Bool.and_eq_true, Bool.or_eq_true, inI_iff, beq_iff_eq, h0, h1]
  refine ⟨⟨⟨a, by omega⟩, ?_⟩, by omega⟩
  by_cases hi0 : i = 0
  · exact Or.inl hi0
  · exact Or.inr (b (by omega))
/-- A calm state is weighed, if no pause is too long. -/
theorem calm_kl {T : Int} {t : Tr} {l : List Pt} (h : Calm T t l) (hg : good t l = true) (hs : t.st = true) (hp : t.past = true) (hd : 0 ≤ t.lst - t.plst ∧ t.lst - t.plst ≤ 2000) : wKl t l = false := by
  have G := good_iff.1 hg
  obtain ⟨a1, a2, a3, a4, a5, a6, a7, a8, a9⟩ := h
  have b1 := a8 hs
  have b2 := a9 hp
  have eS : wSum t = 0 := by unfold wSum; omega
  have eM : wSmo t = 0 := by unfold wSmo; rw [eS, a3]; rfl
  have hy := next_y (p := wPt t) a7 eM
  have hb := (ptsB_iff.1 G.pt).2
  obtain ⟨p1, p2, p3⟩ := G.p1 hp
  have hk : ptsB (nextPts l (wPt t)) 2000 = true := pts_zero (stp_next (stp_of G.pt) G.g (fun h0 => by
    have : (wPt t).x = t.got := rfl
    omega)) hy (next_len hb).2
  unfold wKl
  rw [hk, eS, decide_eq_false (by omega)]
  rfl
/-- One packet more. -/
theorem calm_add {T s : Int} {t : Tr} {l : List Pt} (h : Calm T t l) (hE : addE t l s (s + T) = 0) (ho : t.st = true → t.lst ≤ s) :
    Calm T (addS t l s (s + T)).1 (addS t l s (s + T)).2 ∧ (addS t l s (s + T)).1.thr ≤ t.thr ∧ (addS t l s (s + T)).1.lst = s ∧ (addS t l s (s + T)).1.st = true ∧ (t.st = true → t.fst + 4 < s → (addS t l s (s + T)).1.past = true ∧ (addS t l s (s + T)).1.plst = t.lst ∧ (addS t l s (s + T)).1.fst = s) ∧
    (t.st = true → t.past = true → t.fst + 4 < s → 100 ≤ t.lst - t.plst → t.lst - t.plst ≤ 2000 → (addS t l s (s + T)).1.thr = 6144) := by
  obtain ⟨g1, g2, g3, g4⟩ := addE_zero hE
  have G1 := good_iff.1 g1
  unfold addS
  rw [if_pos hE]
  unfold addT
  obtain ⟨att, st, past, fst, lst, got, plst, pgot, cnt, sum, smo, thr, ovr, ovs, bef, sta⟩ := t
  obtain ⟨a1, a2, a3, a4, a5, a6, a7, a8, a9⟩ := h
  dsimp only at a1 a2 a3 a4 a5 a6 a7 a8 a9 ho
  subst a1 a2 a3 a4 a5
  dsimp only
  cases st
  · have z1 := (G1.s0 rfl).1
    dsimp only at z1
    subst z1
    rw [if_pos (show (!false) = true from rfl)]
    dsimp only [beginT]
    exact ⟨⟨rfl, rfl, rfl, rfl, rfl, a6, a7, fun _ => rfl, fun hp => (by cases hp)⟩, Int.le_refl _, rfl, rfl, fun hh => (by cases hh), fun hh => (by cases hh)⟩
  · have b1 := a8 rfl
    have o1 := ho rfl
    obtain ⟨q1, q2, q3⟩ := G1.s1 rfl
    dsimp only at q1 q2 q3
    rw [if_neg (show ¬ (!true) = true by decide), if_neg (by omega)]
    by_cases c2 : s ≤ fst + 4
    · rw [if_pos c2]
      have em : max lst s = s := by omega
      rw [em]
      exact ⟨⟨rfl, rfl, rfl, rfl, rfl, a6, a7, fun _ => rfl, a9⟩, Int.le_refl _, rfl, rfl, fun _ hh => absurd hh (by omega), fun _ _ hh => absurd hh (by omega)⟩
    · rw [if_neg c2]
      cases past
      · dsimp only [cond_false, beginT]
        exact ⟨⟨rfl, rfl, rfl, rfl, rfl, a6, a7, fun _ => rfl, fun _ => b1⟩, Int.le_refl _, rfl, rfl, fun _ _ => ⟨rfl, rfl, rfl⟩, fun _ hh => (by cases hh)⟩
      · have b2 := a9 rfl
        obtain ⟨r1, r2, r3⟩ := G1.p1 rfl
        dsimp only at r1 r2 r3
        dsimp only [cond_true]
        have hc : Calm T ⟨s + T, true, true, fst, lst, got, plst, pgot, cnt, 0, 0, thr, 0, ovs, 0, 0⟩ l := ⟨rfl, rfl, rfl, rfl, rfl, a6, a7, a8, a9⟩
        obtain ⟨w1, w2, w3⟩ := calm_weigh hc rfl rfl (show 0 ≤ lst - plst by omega)
        have hkl : wKl ⟨s + T, true, true, fst, lst, got, plst, pgot, cnt, 0, 0, thr, 0, ovs, 0, 0⟩ l = wKl ⟨att, true, true, fst, lst, got, plst, pgot, cnt, 0, 0, thr, 0, ovs, 0, 0⟩ l := rfl
        rw [hkl] at w3
        obtain ⟨c, su, sm, th, o, s', b, a, ek⟩ := weigh_keep ⟨s + T, true, true, fst, lst, got, plst, pgot, cnt, 0, 0, thr, 0, ovs, 0, 0⟩ l
        rw [ek] at w1 w2 w3
        rw [ek]
        obtain ⟨x1, x2, x3, x4, x5, x6, x7, x8, x9⟩ := w1
        dsimp only at x1 x2 x3 x4 x5 x6 x7 x8 x9 w2 w3
        dsimp only [beginT]
        refine ⟨⟨x1, x2, x3, x4, x5, x6, x7, fun _ => rfl, fun _ => b1⟩, w2, rfl, rfl, fun _ _ => ⟨rfl, rfl, rfl⟩, fun _ _ _ h1 h2 => ?_⟩
        exact w3 (calm_kl (T := T) ⟨rfl, rfl, rfl, rfl, rfl, a6, a7, a8, a9⟩ g1 rfl rfl ⟨by dsimp only at h1 ⊢; omega, h2⟩) h1
end Go.Proofs.Arr
