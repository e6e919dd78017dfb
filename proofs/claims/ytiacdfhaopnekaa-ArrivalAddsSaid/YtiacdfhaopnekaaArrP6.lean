/- Chapter 29: moving all times by the same ones. -/
import Derived.Test.YtiacdfhaopnekaaArrP5
namespace Go.Proofs.Arr
open Go.Ab
set_option linter.unusedVariables false

def shP (q : Int) (l : List Pt) : List Pt := l.map fun p => ⟨p.x + q, p.y⟩
theorem shP_len (q : Int) (l : List Pt) : (shP q l).length = l.length := by simp [shP]
theorem shP_x {q : Int} {l : List Pt} {i : Nat} (h : i < l.length) : pX (shP q l) i = pX l i + q := by
  simp only [pX, shP, List.getD_eq_getElem?_getD, List.getElem?_map, List.getElem?_eq_getElem h, Option.map_some, Option.getD_some]
theorem shP_y (q : Int) (l : List Pt) (i : Nat) : pY (shP q l) i = pY l i := by
  simp only [pY, shP, List.getD_eq_getElem?_getD, List.getElem?_map]
  cases l[i]? <;> rfl
theorem shP_next (q : Int) (l : List Pt) (p : Pt) : nextPts (shP q l) ⟨p.x + q, p.y⟩ = shP q (nextPts l p) := by
  unfold nextPts
  rw [shP_len]
  split
  · simp [shP]
  · simp [shP]
theorem shP_sum (f : Int → Int → Int) (q : Int) (l : List Pt) : ∀ n, n ≤ l.length → sumI f (shP q l) n = sumI f l n
  | 0, _ => rfl
  | n + 1, h => by
    have ih := shP_sum f q l n (by omega)
    have e : pX l n + q - (pX l 0 + q) = pX l n - pX l 0 := by omega
    simp only [sumI, ih, shP_x (show n < l.length by omega), shP_x (show 0 < l.length by omega), shP_y, e]
theorem shP_N (q : Int) (l : List Pt) : lineN (shP q l) = lineN l := by
  unfold lineN
  rw [shP_len, shP_sum _ _ _ _ (Nat.le_refl _), shP_sum _ _ _ _ (Nat.le_refl _), shP_sum _ _ _ _ (Nat.le_refl _)]
theorem shP_D (q : Int) (l : List Pt) : lineD (shP q l) = lineD l := by
  unfold lineD
  rw [shP_len, shP_sum _ _ _ _ (Nat.le_refl _), shP_sum _ _ _ _ (Nat.le_refl _)]
theorem shP_trend (q : Int) (l : List Pt) (c : Int) : trendN (shP q l) c = trendN l c := by
  unfold trendN
  rw [shP_N, shP_D, shP_len]
  by_cases h : l.length = 0
  · have : l = [] := List.eq_nil_of_length_eq_zero h
    subst this; rfl
  · rw [shP_x (by omega), shP_x (by omega)]
    by_cases h2 : pX l 0 = pX l (l.length - 1)
    · rw [if_pos h2, if_pos (by omega)]
    · rw [if_neg h2, if_neg (by omega)]
/-- All points' times, moved or not, are times. -/
def XR (q : Int) (l : List Pt) : Prop := ∀ i, i < l.length → (0 ≤ pX l i ∧ pX l i ≤ 1099511627776) ∧ (0 ≤ pX l i + q ∧ pX l i + q ≤ 1099511627776)
theorem shP_pts {q : Int} {l : List Pt} {step : Int} (h : XR q l) : ptsB (shP q l) step = ptsB l step := by
  rw [Bool.eq_iff_iff, ptsB_iff, ptsB_iff, shP_len]
  refine and_congr_left fun _ => forall_congr' fun i => forall_congr' fun hi => ?_
  obtain ⟨a, b⟩ := h i hi
  have h0 : 0 < l.length := by omega
  have e : ptI (shP q l) step i = ptI l step i := by
    by_cases hi0 : i = 0
    · subst hi0
      simp only [ptI, M40, shP_x hi, shP_y]
      rw [show inI 0 1099511627776 (pX l 0 + q) = inI 0 1099511627776 (pX l 0) by rw [Bool.eq_iff_iff, inI_iff, inI_iff]; exact ⟨fun _ => a, fun _ => b⟩]
      simp
    · simp only [ptI, M40, shP_x hi, shP_x (show i - 1 < l.length by omega), shP_y]
      rw [show inI 0 1099511627776 (pX l i + q) = inI 0 1099511627776 (pX l i) by rw [Bool.eq_iff_iff, inI_iff, inI_iff]; exact ⟨fun _ => a, fun _ => b⟩, show pX l i + q - (pX l (i - 1) + q) = pX l i - pX l (i - 1) by omega]
  rw [e]
theorem xr_next {q : Int} {l : List Pt} {p : Pt} (h : XR q l) (hp : (0 ≤ p.x ∧ p.x ≤ 1099511627776) ∧ (0 ≤ p.x + q ∧ p.x + q ≤ 1099511627776)) : XR q (nextPts l p) := by
  have ha : XR q (l ++ [p]) := by
    intro i hi
    rw [List.length_append, List.length_singleton] at hi
    rw [pX_app]
    by_cases h1 : i < l.length
    · rw [if_pos h1]; exact h i h1
    · rw [if_neg h1, if_pos (by omega)]; exact hp
  unfold nextPts
  split
  · intro i hi
    rw [List.length_drop] at hi
    rw [pX_drop]
    exact ha (i + 1) (by omega)
  · exact ha
theorem xr_of {q : Int} {l : List Pt} (h1 : ptsB l 2000 = true) (h2 : ptsB (shP q l) 2000 = true) : XR q l := fun i hi => by
  have a := pt_at h1 hi
  have b := pt_at h2 (show i < (shP q l).length by rw [shP_len]; exact hi)
  have b1 := b.x1
  have b2 := b.x2
  rw [shP_x hi] at b1 b2
  exact ⟨⟨a.x1, a.x2⟩, b1, b2⟩
/-- States that differ by the times alone. -/
structure Mv (p q : Int) (t u : Tr) : Prop where
  st : u.st = t.st
  past : u.past = t.past
  cnt : u.cnt = t.cnt
  sum : u.sum = t.sum
  smo : u.smo = t.smo
  thr : u.thr = t.thr
  ovr : u.ovr = t.ovr
  ovs : u.ovs = t.ovs
  bef : u.bef = t.bef
  sta : u.sta = t.sta
  s1 : t.st = true → u.att = t.att + q ∧ u.fst = t.fst + p ∧ u.lst = t.lst + p ∧ u.got = t.got + q
  p1 : t.past = true → u.plst = t.plst + p ∧ u.pgot = t.pgot + q
theorem judge_same {a b : Tr} {m ds : Int} (h1 : b.thr = a.thr) (h2 : b.ovr = a.ovr) (h3 : b.ovs = a.ovs) (h4 : b.bef = a.bef) (h5 : b.sta = a.sta) : (judgeT b m ds).ovr = (judgeT a m ds).ovr ∧ (judgeT b m ds).ovs = (judgeT a m ds).ovs ∧ (judgeT b m ds).sta = (judgeT a m ds).sta := by
  unfold judgeT
  rw [h1, h2, h3, h4]
  by_cases c : m ≤ a.thr
  · rw [if_pos c, if_pos c]; exact ⟨rfl, rfl, rfl⟩
  · rw [if_neg c, if_neg c]
    dsimp only
    generalize (if a.ovs = 0 then ds / 2 else min (a.ovr + ds) 20000) = o
    by_cases d : 10 < o ∧ 1 < min (a.ovs + 1) 20000 ∧ a.bef ≤ m
    · rw [if_pos d, if_pos d]; exact ⟨rfl, rfl, rfl⟩
    · rw [if_neg d, if_neg d]; exact ⟨rfl, rfl, h5⟩
theorem mv_weigh {p q : Int} {t u : Tr} {l : List Pt} (h : Mv p q t u) (hs : t.st = true) (hp : t.past = true) (hx : XR q l) (hg : (0 ≤ t.got ∧ t.got ≤ 1099511627776) ∧ (0 ≤ t.got + q ∧ t.got + q ≤ 1099511627776)) :
    Mv p q (weighT t l).1 (weighT u (shP q l)).1 ∧ (weighT u (shP q l)).2 = shP q (weighT t l).2 := by
  obtain ⟨a1, a2, a3, a4, a5, a6, a7, a8, a9, a10, a11, a12⟩ := h
  obtain ⟨b1, b2, b3, b4⟩ := a11 hs
  obtain ⟨b5, b6⟩ := a12 hp
  have eds : u.lst - u.plst = t.lst - t.plst := by omega
  have edg : u.got - u.pgot = t.got - t.pgot := by omega
  have eS : wSum u = wSum t := by unfold wSum; rw [a4]; omega
  have eM : wSmo u = wSmo t := by unfold wSmo; rw [eS, a5]
  have eP : wPt u = ⟨(wPt t).x + q, (wPt t).y⟩ := by unfold wPt; rw [eM, b4]
  have eN : nextPts (shP q l) (wPt u) = shP q (nextPts l (wPt t)) := by rw [eP, shP_next]
  have hX : XR q (nextPts l (wPt t)) := xr_next hx hg
  have eK : wKl u (shP q l) = wKl t l := by unfold wKl; rw [eds, edg, eS, eN, shP_pts hX]
  rw [weigh_eq, weigh_eq, eK]
  by_cases hk : wKl t l = true
  · rw [if_pos hk, if_pos hk]
    refine ⟨⟨a1, a2, rfl, rfl, rfl, a6, rfl, rfl, rfl, rfl, a11, a12⟩, rfl⟩
  · rw [if_neg hk, if_neg hk]
    refine ⟨?_, eN⟩
    have eT : trendN (nextPts (shP q l) (wPt u)) (min (u.cnt + 1) 60) = trendN (nextPts l (wPt t)) (min (t.cnt + 1) 60) := by rw [eN, shP_trend, a3]
    unfold wEnd
    dsimp only
    rw [eT, eds, edg]
    generalize trendN (nextPts l (wPt t)) (min (t.cnt + 1) 60) = m
    obtain ⟨j1, j2, j3⟩ := judge_same (a := wAdd t) (b := wAdd u) (m := m) (ds := t.lst - t.plst) a6 a7 a8 a9 a10
    obtain ⟨o, s, a, e1⟩ := judge_keep (wAdd t) m (t.lst - t.plst)
    obtain ⟨o', s', a', e2⟩ := judge_keep (wAdd u) m (t.lst - t.plst)
    rw [e1, e2] at j1 j2 j3
    dsimp only at j1 j2 j3
    rw [e1, e2]
    subst j1 j2 j3
    exact ⟨a1, a2, by simp only [wAdd, a3], eS, eM, by simp only [wAdd, a6], rfl, rfl, rfl, rfl, a11, a12⟩
theorem addE_zero {t : Tr} {l : List Pt} {s g : Int} (h : addE t l s g = 0) : good t l = true ∧ (0 ≤ s ∧ s ≤ 1099511627776) ∧ (0 ≤ g ∧ g ≤ 1099511627776) ∧ t.att ≤ g := by
  unfold addE at h
  cases hg : good t l
  · rw [hg] at h; simp at h
  · rw [hg] at h
    cases h2 : (tm s && tm g)
    · rw [h2] at h; simp at h
    · rw [h2] at h
      have h3 : ¬ g < t.att := by intro hh; simp [hh] at h
      simp only [tm, M40, Bool.and_eq_true, inI_iff] at h2
      exact ⟨rfl, h2.1, h2.2, by omega⟩
theorem addE_of {t : Tr} {l : List Pt} {s g : Int} (h : good t l = true) (h1 : 0 ≤ s ∧ s ≤ 1099511627776) (h2 : 0 ≤ g ∧ g ≤ 1099511627776) (h3 : t.att ≤ g) : addE t l s g = 0 := by
  have e1 : (tm s && tm g) = true := by simp only [tm, M40, Bool.and_eq_true, inI_iff]; exact ⟨h1, h2⟩
  have e2 : decide (g < t.att) = false := decide_eq_false (by omega)
  unfold addE
  rw [h, e1, e2]; rfl
theorem Mv.lit {p q : Int} {att att' : Int} {st past : Bool} {fst lst got plst pgot fst' lst' got' plst' pgot' cnt sum smo thr ovr ovs bef : Int} {sta : Int} (h1 : st = true → att' = att + q ∧ fst' = fst + p ∧ lst' = lst + p ∧ got' = got + q) (h2 : past = true → plst' = plst + p ∧ pgot' = pgot + q) :
    Mv p q ⟨att, st, past, fst, lst, got, plst, pgot, cnt, sum, smo, thr, ovr, ovs, bef, sta⟩ ⟨att', st, past, fst', lst', got', plst', pgot', cnt, sum, smo, thr, ovr, ovs, bef, sta⟩ :=
  ⟨rfl, rfl, rfl, rfl, rfl, rfl, rfl, rfl, rfl, rfl, h1, h2⟩
theorem mv_add {p q : Int} {t u : Tr} {l : List Pt} {s g : Int} (h : Mv p q t u) (e1 : addE t l s g = 0) (e2 : addE u (shP q l) (s + p) (g + q) = 0) : Mv p q (addS t l s g).1 (addS u (shP q l) (s + p) (g + q)).1 ∧ (addS u (shP q l) (s + p) (g + q)).2 = shP q (addS t l s g).2 := by
  obtain ⟨g1, g2, g3, g4⟩ := addE_zero e1
  obtain ⟨k1, k2, k3, k4⟩ := addE_zero e2
  have G1 := good_iff.1 g1
  have G2 := good_iff.1 k1
  have hx := xr_of G1.pt G2.pt
  unfold addS
  rw [if_pos e1, if_pos e2]
  unfold addT
  obtain ⟨att, st, past, fst, lst, got, plst, pgot, cnt, sum, smo, thr, ovr, ovs, bef, sta⟩ := t
  obtain ⟨att', st', past', fst', lst', got', plst', pgot', cnt', sum', smo', thr', ovr', ovs', bef', sta'⟩ := u
  obtain ⟨a1, a2, a3, a4, a5, a6, a7, a8, a9, a10, a11, a12⟩ := h
  dsimp only at a1 a2 a3 a4 a5 a6 a7 a8 a9 a10 a11 a12
  subst a1 a2 a3 a4 a5 a6 a7 a8 a9 a10
  dsimp only
  cases st'
  · have z1 := (G1.s0 rfl).1
    dsimp only at z1
    subst z1
    simp only [Bool.not_false, if_true, beginT]
    exact ⟨Mv.lit (fun _ => ⟨rfl, rfl, rfl, rfl⟩) (fun hp => by cases hp), trivial⟩
  · obtain ⟨b1, b2, b3, b4⟩ := a11 rfl
    subst b1 b2 b3 b4
    simp only [Bool.not_true, Bool.false_eq_true, if_false]
    by_cases c1 : s < fst
    · have c1' : s + p < fst + p := by omega
      rw [if_pos c1, if_pos c1']
      exact ⟨Mv.lit (fun _ => ⟨rfl, rfl, rfl, rfl⟩) a12, rfl⟩
    · have c1' : ¬ s + p < fst + p := by omega
      rw [if_neg c1, if_neg c1']
      by_cases c2 : s ≤ fst + 4
      · have c2' : s + p ≤ fst + p + 4 := by omega
        rw [if_pos c2, if_pos c2']
        exact ⟨Mv.lit (fun _ => ⟨rfl, rfl, by omega, rfl⟩) a12, rfl⟩
      · have c2' : ¬ s + p ≤ fst + p + 4 := by omega
        rw [if_neg c2, if_neg c2']
        cases past'
        · simp only [cond_false, beginT]
          exact ⟨Mv.lit (fun _ => ⟨rfl, rfl, rfl, rfl⟩) (fun _ => ⟨rfl, rfl⟩), trivial⟩
        · obtain ⟨b5, b6⟩ := a12 rfl
          subst b5 b6
          simp only [cond_true]
          have hm := Mv.lit (p := p) (q := q) (att := g) (att' := g + q) (st := true) (past := true) (fst := fst) (lst := lst) (got := got) (plst := plst) (pgot := pgot) (fst' := fst + p) (lst' := lst + p) (got' := got + q) (plst' := plst + p) (pgot' := pgot + q) (cnt := cnt') (sum := sum') (smo := smo') (thr := thr') (ovr := ovr') (ovs := ovs') (bef := bef') (sta := sta') (fun _ => ⟨rfl, rfl, rfl, rfl⟩) (fun _ => ⟨rfl, rfl⟩)
          obtain ⟨w1, w2⟩ := mv_weigh (l := l) hm rfl rfl hx ⟨G1.g, G2.g⟩
          obtain ⟨c, su, sm, th, o, s', b, a, ek⟩ := weigh_keep ⟨g, true, true, fst, lst, got, plst, pgot, cnt', sum', smo', thr', ovr', ovs', bef', sta'⟩ l
          obtain ⟨cc, suu, smm, thh, oo, ss', bb, aa, ekk⟩ := weigh_keep ⟨g + q, true, true, fst + p, lst + p, got + q, plst + p, pgot + q, cnt', sum', smo', thr', ovr', ovs', bef', sta'⟩ (shP q l)
          rw [ek, ekk] at w1
          rw [ek, ekk]
          obtain ⟨x1, x2, x3, x4, x5, x6, x7, x8, x9, x10, x11, x12⟩ := w1
          dsimp only at x1 x2 x3 x4 x5 x6 x7 x8 x9 x10 x11 x12
          subst x3 x4 x5 x6 x7 x8 x9 x10
          simp only [beginT]
          exact ⟨Mv.lit (fun _ => ⟨rfl, rfl, rfl, rfl⟩) (fun _ => ⟨rfl, rfl⟩), w2⟩
end Go.Proofs.Arr
