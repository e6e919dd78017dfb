/- Chapter 29: what a packet makes of a valid state is valid. -/
import Derived.Test.YtiacdfhaopnekaaArrP4
namespace Go.Proofs.Arr
open Go.Ab
set_option linter.unusedVariables false

/-- A valid state, fact by fact. -/
structure G (t : Tr) (l : List Pt) : Prop where
  a : 0 ≤ t.att ∧ t.att ≤ 1099511627776
  f : 0 ≤ t.fst ∧ t.fst ≤ 1099511627776
  ls : 0 ≤ t.lst ∧ t.lst ≤ 1099511627776
  g : 0 ≤ t.got ∧ t.got ≤ 1099511627776
  pl : 0 ≤ t.plst ∧ t.plst ≤ 1099511627776
  pg : 0 ≤ t.pgot ∧ t.pgot ≤ 1099511627776
  th : 6144 ≤ t.thr ∧ t.thr ≤ 614400
  sa : 0 ≤ t.sta ∧ t.sta ≤ 2
  ov : 0 ≤ t.ovr ∧ t.ovr ≤ 20000
  os : 0 ≤ t.ovs ∧ t.ovs ≤ 20000
  cn : 0 ≤ t.cnt ∧ t.cnt ≤ 60
  be : -1099511627776 ≤ t.bef ∧ t.bef ≤ 1099511627776
  su : -1099511627776 ≤ t.sum ∧ t.sum ≤ 1099511627776
  sm : -1099511627776 ≤ t.smo ∧ t.smo ≤ 1099511627776
  pt : ptsB l 2000 = true
  s1 : t.st = true → t.fst ≤ t.lst ∧ t.lst ≤ t.fst + 4 ∧ t.got ≤ t.att
  s0 : t.st = false → t.past = false ∧ t.fst = 0 ∧ t.lst = 0 ∧ t.got = 0
  p1 : t.past = true → t.plst < t.fst ∧ t.pgot ≤ t.got ∧ (l.length = 0 ∨ pX l (l.length - 1) = t.pgot)
  p0 : t.past = false → zeroT t = true ∧ l.length = 0
theorem good_iff {t : Tr} {l : List Pt} : good t l = true ↔ G t l := by
  constructor
  · intro h
    simp only [good, tm, M40, Bool.and_eq_true, inI_iff] at h
    obtain ⟨⟨⟨⟨⟨⟨⟨⟨⟨⟨⟨⟨⟨h1, h2⟩, h3⟩, h4⟩, h5⟩, h6⟩, h7⟩, h8⟩, h9, h10⟩, h11⟩, ⟨h12, h13⟩, h14⟩, h15⟩, h16⟩, h17⟩ := h
    refine ⟨h1, h2, h3, h4, h5, h6, h7, h8, h9, h10, h11, h12, h13, h14, h15, fun e => ?_, fun e => ?_, fun e => ?_, fun e => ?_⟩
    · rw [e] at h16
      simp only [cond_true, Bool.and_eq_true, inI_iff, decide_eq_true_eq] at h16
      omega
    · rw [e] at h16
      simp only [cond_false, Bool.and_eq_true, Bool.not_eq_true', beq_iff_eq] at h16
      exact ⟨h16.1, h16.2.1.1, h16.2.1.2, h16.2.2⟩
    · rw [e] at h17
      simp only [cond_true, Bool.and_eq_true, Bool.or_eq_true, decide_eq_true_eq, beq_iff_eq] at h17
      exact ⟨h17.1.1, h17.1.2, h17.2⟩
    · rw [e] at h17
      simp only [cond_false, Bool.and_eq_true, beq_iff_eq] at h17
      exact h17
  · rintro ⟨h1, h2, h3, h4, h5, h6, h7, h8, h9, h10, h11, h12, h13, h14, h15, h16, h17, h18, h19⟩
    simp only [good, tm, M40, Bool.and_eq_true, inI_iff]
    refine ⟨⟨⟨⟨⟨⟨⟨⟨⟨⟨⟨⟨⟨h1, h2⟩, h3⟩, h4⟩, h5⟩, h6⟩, h7⟩, h8⟩, h9, h10⟩, h11⟩, ⟨h12, h13⟩, h14⟩, h15⟩, ?_⟩, ?_⟩
    · cases hs : t.st
      · obtain ⟨e1, e2, e3, e4⟩ := h17 hs
        simp only [cond_false, Bool.and_eq_true, Bool.not_eq_true', beq_iff_eq]
        exact ⟨e1, ⟨e2, e3⟩, e4⟩
      · have := h16 hs
        simp only [cond_true, Bool.and_eq_true, inI_iff, decide_eq_true_eq]
        omega
    · cases hp : t.past
      · obtain ⟨e1, e2⟩ := h19 hp
        simp only [cond_false, Bool.and_eq_true, beq_iff_eq]
        exact ⟨e1, e2⟩
      · obtain ⟨e1, e2, e3⟩ := h18 hp
        simp only [cond_true, Bool.and_eq_true, Bool.or_eq_true, decide_eq_true_eq, beq_iff_eq]
        exact ⟨⟨e1, e2⟩, e3⟩
/-- Fields that judging leaves. -/
theorem judge_keep (t : Tr) (m ds : Int) : ∃ o s a, judgeT t m ds = { t with ovr := o, ovs := s, sta := a } := by
  unfold judgeT
  split
  · exact ⟨_, _, _, rfl⟩
  · dsimp only
    (repeat' split) <;> exact ⟨_, _, _, rfl⟩
theorem judge_rng {t : Tr} {m ds : Int} (h1 : 0 ≤ t.ovr ∧ t.ovr ≤ 20000) (h2 : 0 ≤ t.ovs ∧ t.ovs ≤ 20000) (h3 : 0 ≤ t.sta ∧ t.sta ≤ 2) (hd : 0 ≤ ds ∧ ds ≤ 2000) : (0 ≤ (judgeT t m ds).ovr ∧ (judgeT t m ds).ovr ≤ 20000) ∧ (0 ≤ (judgeT t m ds).ovs ∧ (judgeT t m ds).ovs ≤ 20000) ∧ (0 ≤ (judgeT t m ds).sta ∧ (judgeT t m ds).sta ≤ 2) := by
  unfold judgeT
  split
  · dsimp only; split <;> omega
  · dsimp only
    (repeat' split) <;> dsimp only <;> omega
theorem adapt_rng {thr m dg : Int} (h : 6144 ≤ thr ∧ thr ≤ 614400) : 6144 ≤ adaptN thr m dg ∧ adaptN thr m dg ≤ 614400 := by
  unfold adaptN
  dsimp only
  split
  · exact h
  · omega
theorem weigh_keep (t : Tr) (l : List Pt) : ∃ c su sm th o s b a, (weighT t l).1 = { t with cnt := c, sum := su, smo := sm, thr := th, ovr := o, ovs := s, bef := b, sta := a } := by
  rw [weigh_eq]
  split
  · exact ⟨_, _, _, _, _, _, _, _, rfl⟩
  · obtain ⟨o, s, a, e⟩ := judge_keep (wAdd t) (trendN (nextPts l (wPt t)) (min (t.cnt + 1) 60)) (t.lst - t.plst)
    refine ⟨(wEnd t l).cnt, (wEnd t l).sum, (wEnd t l).smo, (wEnd t l).thr, (wEnd t l).ovr, (wEnd t l).ovs, (wEnd t l).bef, (wEnd t l).sta, ?_⟩
    show wEnd t l = _
    unfold wEnd
    dsimp only
    rw [e]
    rfl
theorem next_last (l : List Pt) (p : Pt) : pX (nextPts l p) ((nextPts l p).length - 1) = p.x := by
  unfold nextPts
  split
  · rename_i h
    rw [pX_drop, List.length_drop, List.length_append, List.length_singleton, pX_app, if_neg (by omega), if_pos (by omega)]
  · rw [List.length_append, List.length_singleton, pX_app, if_neg (by omega), if_pos (by omega)]
theorem good_add {t : Tr} {l : List Pt} {sent got : Int} (h : addE t l sent got = 0) : good (addS t l sent got).1 (addS t l sent got).2 = true := by
  unfold addS
  rw [if_pos h]
  unfold addE at h
  have hg : good t l = true := by
    cases hh : good t l
    · rw [hh] at h; simp at h
    · rfl
  rw [hg] at h
  have h2 : (tm sent && tm got) = true := by
    cases hh : (tm sent && tm got)
    · rw [hh] at h; simp at h
    · rfl
  rw [h2] at h
  have h3 : ¬ got < t.att := by
    intro hh
    simp [hh] at h
  simp only [tm, M40, Bool.and_eq_true, inI_iff] at h2
  obtain ⟨hs, hgt⟩ := h2
  have g := good_iff.1 hg
  obtain ⟨ga, gf, gl, gg, gpl, gpg, gth, gsa, gov, gos, gcn, gbe, gsu, gsm, gpt, g1, g0, gp1, gp0⟩ := g
  unfold addT
  rw [good_iff]
  obtain ⟨att, st, past, fst, lst, gt, plst, pgot, cnt, sum, smo, thr, ovr, ovs, bef, sta⟩ := t
  dsimp only at ga gf gl gg gpl gpg gth gsa gov gos gcn gbe gsu gsm g1 g0 gp1 gp0 h3 ⊢
  cases st
  · obtain ⟨e1, e2, e3, e4⟩ := g0 rfl
    simp only [Bool.not_false, if_true, beginT]
    exact ⟨hgt, hs, hs, hgt, gpl, gpg, gth, gsa, gov, gos, gcn, gbe, gsu, gsm, gpt, fun _ => (by dsimp only; omega), fun h => (by cases h), fun h => (by rw [e1] at h; cases h), fun h => gp0 e1⟩
  · have s1 := g1 rfl
    simp only [Bool.not_true, Bool.false_eq_true, if_false]
    by_cases c1 : sent < fst
    · rw [if_pos c1]
      exact ⟨hgt, gf, gl, gg, gpl, gpg, gth, gsa, gov, gos, gcn, gbe, gsu, gsm, gpt, fun _ => (by dsimp only; omega), fun h => (by dsimp only at h; cases h), gp1, gp0⟩
    · rw [if_neg c1]
      by_cases c2 : sent ≤ fst + 4
      · rw [if_pos c2]
        exact ⟨hgt, gf, by dsimp only; omega, hgt, gpl, gpg, gth, gsa, gov, gos, gcn, gbe, gsu, gsm, gpt, fun _ => (by dsimp only; omega), fun h => (by dsimp only at h; cases h), fun h => (by have := gp1 h; exact ⟨this.1, by dsimp only; omega, this.2.2⟩), gp0⟩
      · rw [if_neg c2]
        cases past
        · obtain ⟨z, zl⟩ := gp0 rfl
          have hl : l = [] := List.eq_nil_of_length_eq_zero zl
          subst hl
          simp only [cond_false, beginT]
          exact ⟨hgt, hs, hs, hgt, gl, gg, gth, gsa, gov, gos, gcn, gbe, gsu, gsm, gpt, fun _ => (by dsimp only; omega), fun h => (by dsimp only at h; cases h), fun _ => ⟨by dsimp only; omega, by dsimp only; omega, .inl rfl⟩, fun h => (by cases h)⟩
        · obtain ⟨q1, q2, q3⟩ := gp1 rfl
          simp only [cond_true]
          rw [weigh_eq]
          by_cases hk : wKl (⟨got, true, true, fst, lst, gt, plst, pgot, cnt, sum, smo, thr, ovr, ovs, bef, sta⟩ : Tr) l = true
          · rw [if_pos hk]
            simp only [clearT, beginT]
            exact ⟨hgt, hs, hs, hgt, gl, gg, gth, (by dsimp only; omega), (by dsimp only; omega), (by dsimp only; omega), (by dsimp only; omega), (by dsimp only; omega), (by dsimp only; omega), (by dsimp only; omega), rfl, fun _ => (by dsimp only; omega), fun h => (by dsimp only at h; cases h), fun _ => ⟨by dsimp only; omega, by dsimp only; omega, .inl rfl⟩, fun h => (by cases h)⟩
          · rw [if_neg hk]
            simp only [wKl, Bool.or_eq_true, Bool.not_eq_true', decide_eq_true_eq, not_or, Bool.not_eq_false, Bool.and_eq_true, inI_iff] at hk
            obtain ⟨k1, k2, k3⟩ := hk
            obtain ⟨o, s, a, e⟩ := judge_keep (wAdd (⟨got, true, true, fst, lst, gt, plst, pgot, cnt, sum, smo, thr, ovr, ovs, bef, sta⟩ : Tr)) (trendN (nextPts l (wPt (⟨got, true, true, fst, lst, gt, plst, pgot, cnt, sum, smo, thr, ovr, ovs, bef, sta⟩ : Tr))) (min (cnt + 1) 60)) (lst - plst)
            have jr := judge_rng (t := wAdd (⟨got, true, true, fst, lst, gt, plst, pgot, cnt, sum, smo, thr, ovr, ovs, bef, sta⟩ : Tr)) (m := trendN (nextPts l (wPt (⟨got, true, true, fst, lst, gt, plst, pgot, cnt, sum, smo, thr, ovr, ovs, bef, sta⟩ : Tr))) (min (cnt + 1) 60)) (ds := lst - plst) gov gos gsa (by omega)
            have ar := adapt_rng (thr := thr) (m := trendN (nextPts l (wPt (⟨got, true, true, fst, lst, gt, plst, pgot, cnt, sum, smo, thr, ovr, ovs, bef, sta⟩ : Tr))) (min (cnt + 1) 60)) (dg := gt - pgot) gth
            have nl := next_last l (wPt (⟨got, true, true, fst, lst, gt, plst, pgot, cnt, sum, smo, thr, ovr, ovs, bef, sta⟩ : Tr))
            have hsmo : -1099511627776 ≤ wSmo (⟨got, true, true, fst, lst, gt, plst, pgot, cnt, sum, smo, thr, ovr, ovs, bef, sta⟩ : Tr) ∧ wSmo (⟨got, true, true, fst, lst, gt, plst, pgot, cnt, sum, smo, thr, ovr, ovs, bef, sta⟩ : Tr) ≤ 1099511627776 := by
              unfold wSmo; dsimp only; omega
            rw [e] at jr
            unfold wEnd
            dsimp only
            rw [e]
            dsimp only at jr k2 ⊢
            obtain ⟨j1, j2, j3⟩ := jr
            simp only [wAdd, beginT, M40]
            have k2' : -1048576 ≤ wSum (⟨got, true, true, fst, lst, gt, plst, pgot, cnt, sum, smo, thr, ovr, ovs, bef, sta⟩ : Tr) ∧ wSum (⟨got, true, true, fst, lst, gt, plst, pgot, cnt, sum, smo, thr, ovr, ovs, bef, sta⟩ : Tr) ≤ 1048576 := k2
            refine ⟨hgt, hs, hs, hgt, gl, gg, ar, j3, j1, j2, (by dsimp only; omega), (by dsimp only; omega), (by dsimp only; omega), hsmo, k3, fun _ => (by dsimp only; omega), fun h => (by dsimp only at h; cases h), fun _ => ⟨by dsimp only; omega, by dsimp only; omega, .inr nl⟩, fun h => (by cases h)⟩
end Go.Proofs.Arr
