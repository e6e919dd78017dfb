/- PictureStream: the law function. -/
import Derived.Test.YtndbgcmgjnjnhaaPicC10
import Derived.Test.YtndbgcmgjnjnhaaPicIRL
namespace Go.Proofs.Pic
open Go.Ab
set_option maxRecDepth 100000
set_option maxHeartbeats 8000000
set_option linter.unusedSimpArgs false
set_option linter.unusedVariables false
theorem b_sh2 {d : Dc} {s : Sh} (hd : d.good = true) (hs : s.good = true) (h0 : s.sp = 0) (h : (showS d s).2 = true) :
    (showS d s).1.x.id = s.id ∧ (showS d s).1.x.ba = s.ba ∧ (showS (showS d s).1 s).2 = s.ky := by
  rw [Sh.good_iff] at hs
  obtain ⟨h1, h2, h3, h4, h5, h6, h7, h8, h9, -⟩ := hs
  have ls : lead s.id s.id = 0 := by simp [lead]
  simp only [showS, h0, Dc.set, Dc.cut, fitsS, Dc.get] at *
  grind [zLy, zDc]
/-- The decoder that is shown the frames up to a temporal layer. -/
def dM (f : Int) (ks : List Bool) (most : Int) : Nat → Dc
  | 0 => zDc
  | i + 1 => if most < (fr f ks i).te then dM f ks most i else (showS (dM f ks most i) (fr f ks i)).1
theorem dM_lv {f : Int} {ks : List Bool} {most : Int} (hm : 0 ≤ most ∧ most ≤ 2) : ∀ i, Lv f ks most i (dM f ks most i)
  | 0 => ⟨fun _ => rfl, fun h => absurd h (by omega)⟩
  | i + 1 => by
    have ih := dM_lv (f := f) (ks := ks) hm i
    simp only [dM]
    split
    · exact ih.skip hm (by assumption)
    · exact (ih.shown hm (by omega)).2
/-- The decoder that misses the frame a, and whether it goes on. -/
def eA (f : Int) (ks : List Bool) (a : Nat) : Nat → Dc × Bool
  | 0 => (zDc, true)
  | i + 1 => if i = a then ((eA f ks a i).1, (eA f ks a i).2 && decide ((fr f ks i).te > 0)) else ((showS (eA f ks a i).1 (fr f ks i)).1, (fr f ks i).ky || (eA f ks a i).2)
def EP (f : Int) (ks : List Bool) (a i : Nat) (d : Dc) (al : Bool) : Prop :=
  (i ≤ a → al = true ∧ Lv f ks 2 i d) ∧ (a < i → ((fr f ks a).te = 0 → (al = true ∧ Lv f ks 2 i d) ∨ (al = false ∧ Ld f ks a i d)) ∧ (0 < (fr f ks a).te → al = true ∧ Lw f ks i d))
theorem EP.good {f : Int} {ks : List Bool} {a i : Nat} {d : Dc} {al : Bool} (h : EP f ks a i d al) : d.good = true := by
  have t := (fr_ok (f := f) (ks := ks) a).te
  by_cases hi : i ≤ a
  · exact (h.1 hi).2.good (by omega)
  · obtain ⟨g1, g2⟩ := h.2 (by omega)
    by_cases t0 : (fr f ks a).te = 0
    · rcases g1 t0 with g | g
      · exact g.2.good (by omega)
      · exact g.2.good
    · exact (g2 (by omega)).2.good
theorem EP.next {f : Int} {ks : List Bool} {a i : Nat} {d : Dc} {al : Bool} (h : EP f ks a i d al) (hi : i ≠ a) :
    EP f ks a (i + 1) (showS d (fr f ks i)).1 ((fr f ks i).ky || al) ∧ ((fr f ks a).te = 0 ∨ (fr f ks i).te = 0 → (showS d (fr f ks i)).2 = ((fr f ks i).ky || al)) := by
  have t := (fr_ok (f := f) (ks := ks) a).te
  have ti := (fr_ok (f := f) (ks := ks) i).te
  by_cases hl : i ≤ a
  · obtain ⟨rfl, lv⟩ := h.1 hl
    obtain ⟨s1, s2⟩ := lv.shown (by omega) (by omega)
    rw [Bool.or_true]
    exact ⟨⟨fun _ => ⟨rfl, s2⟩, fun h => by omega⟩, fun _ => s1⟩
  · obtain ⟨g1, g2⟩ := h.2 (by omega)
    by_cases t0 : (fr f ks a).te = 0
    · rcases g1 t0 with ⟨rfl, lv⟩ | ⟨rfl, ld⟩
      · obtain ⟨s1, s2⟩ := lv.shown (by omega) (by omega)
        rw [Bool.or_true]
        exact ⟨⟨fun h => by omega, fun _ => ⟨fun _ => .inl ⟨rfl, s2⟩, fun h => by omega⟩⟩, fun _ => s1⟩
      · obtain ⟨s1, s2, s3⟩ := ld.shown
        rw [Bool.or_false]
        refine ⟨⟨fun h => by omega, fun _ => ⟨fun _ => ?_, fun h => by omega⟩⟩, fun _ => s1⟩
        cases hk : (fr f ks i).ky
        · exact .inr ⟨rfl, s3 hk⟩
        · exact .inl ⟨rfl, s2 hk⟩
    · obtain ⟨rfl, lw⟩ := g2 (by omega)
      obtain ⟨s1, s2⟩ := lw.shown
      rw [Bool.or_true]
      exact ⟨⟨fun h => by omega, fun _ => ⟨fun h => absurd h t0, fun _ => ⟨rfl, s2⟩⟩⟩, fun h => s1 (h.resolve_left t0)⟩
theorem eA_ok {f : Int} {ks : List Bool} {a : Nat} : ∀ i, EP f ks a i (eA f ks a i).1 (eA f ks a i).2
  | 0 => ⟨fun _ => ⟨rfl, ⟨fun _ => rfl, fun h => absurd h (by omega)⟩⟩, fun h => absurd h (by omega)⟩
  | i + 1 => by
    have ih := eA_ok (f := f) (ks := ks) (a := a) i
    have t := (fr_ok (f := f) (ks := ks) a).te
    simp only [eA]
    split
    · rename_i h
      subst h
      obtain ⟨e, lv⟩ := ih.1 (Nat.le_refl _)
      refine ⟨fun h => by omega, fun _ => ⟨fun t0 => .inr ⟨?_, lv.dead t0⟩, fun tp => ⟨?_, lv.lost tp⟩⟩⟩
      · simp only [e, t0]; rfl
      · simp only [e, tp]; simp
    · rename_i h
      exact (ih.next h).1
def T66 : List (Nat × Ct) := [(18, k18), (30, k30), (26, k26), (28, k28)]
theorem hT66 : Sound Try.prog (cxT T66) := Sound.cons s18 <| Sound.cons s30 <| Sound.cons s26 <| Sound.cons s28 Sound.nil
theorem w6 (f : Int) (s : Ab.Sh) (ks : List Bool) (ls : Int) (hs : s.is b1 1 ks) (hf : 0 ≤ f ∧ f ≤ 65535) (hls : 0 ≤ ls ∧ ls ≤ 255) : FTL Try.prog 6 [.i .u16 f, s.v 0, .i .u8 ls] (s.h 0) 1 (.b true) [] 1 := by
  refine FTL.of_iw hT66 mo Try.func6 i6_eq (by simp [i6]) (iw_of_jw ?_)
  dsimp only [i6, T66]
  have hp := hs.pl
  have hrd : rdL b1V 1 s = some ks := rdL_is (f := b1) (z := 1) (fun _ => rfl) (fun _ => rfl) hs
  obtain ⟨m, hm⟩ : ∃ m, min ks.length 40 = m := ⟨_, rfl⟩
  have hm' : (if ks.length ≤ 40 then ks.length else 40) = m := by rw [← hm]; split <;> omega
  have hm40 : m ≤ 40 := by omega
  have hfd : decide (0 ≤ f ∧ f ≤ 65535) = true := decide_eq_true hf
  have qis := shQ_is (frL f ks m)
  have pQ := qis.pl
  have lQ : (shQ (frL f ks m)).len = m := by rw [qis.ln, frL_len]
  have nQ : 0 < m → shQ (frL f ks m) ≠ .nil := fun h => qis.ne (by intro e; have := frL_len f ks m; rw [e] at this; simp at this; omega)
  have rQ : ∀ i, i < m → List.take 8 (List.drop ((shQ (frL f ks m)).o + i * 8) (shQ (frL f ks m)).blk.cells) = (fr f ks i).l := fun i hi => row_at Sh.len (qis.cells (nQ (by omega))).1 (show (frL f ks m)[i]? = some (fr f ks i) by simp [frL, hi])
  have tQ : ∀ i, i < m → (shQ (frL f ks m)).blk.cells[(shQ (frL f ks m)).o + i * 8 + 6]? = some (.i .i64 (fr f ks i).te) := fun i hi => row_get Sh.len (qis.cells (nQ (by omega))).1 (show (frL f ks m)[i]? = some (fr f ks i) by simp [frL, hi]) rfl
  generalize hQ : shQ (frL f ks m) = Q at *
  simp (config := { maxSteps := 400000 }) only [go_sem, k18, k30, hrd, hfd, hm', hQ, pQ, simprocAttr]
  refine Loop.stepR (F := ⟨Try.prog, cxT T66, [27, 32, 37, 43, 79, 94, 100, 109, 115, 123, 155], 158, 1⟩) hT66 mo (X := Nat) (fun k => k ≤ 3) (fun k => 3 - k)
    (fun k => [(2, .i .u8 ls), (7, Q.v 2), (31, .i .i64 (k : Int))]) (fun k => Q.h 2) 3 0 (fun k => k + 1) [] (fun _ => []) (by decide) (by decide) (fun _ => by decide) (Nat.zero_le _) ?_ ?_ (fun k hk => ?_)
  · simp (config := { maxSteps := 400000 }) only [go_sem, AV.ren, renL, AV.bel, belL, nblt, simprocAttr]
  · simp (config := { maxSteps := 400000 }) only [go_sem, pQ, simprocAttr]
  · dsimp only [T66]
    by_cases hlt : k < 3
    · have c1 : decide ((k : Int) < 3) = true := decide_eq_true (by omega)
      have hw : IntKind.i64.wrap ((k : Int) + 1) = ((k + 1 : Nat) : Int) := by rw [wrapL (by omega) (by omega)]; omega
      have hsk : 3 - (k + 1) < 3 - k := by omega
      simp (config := { maxSteps := 400000 }) only [go_sem, c1, lQ, simprocAttr]
      refine Loop.stepR (F := ⟨Try.prog, cxT T66, [27, 32, 37, 43, 79, 94, 100, 109, 115, 123, 155], 158, 1⟩) hT66 mo (X := Nat) (fun i => i ≤ m) (fun i => m - i)
        (fun i => [(2, .i .u8 ls), (7, Q.v 2), (8, .i .i64 (k : Int)), (9, .p 3 0), (31, .i .i64 (k : Int)), (34, Q.v 2), (35, .i .i64 (m : Int)), (36, .i .i64 (i : Int))])
        (fun i => (3, { cells := (dM f ks k i).l }) :: Q.h 2) 4 0 (fun i => i + 1) [] (fun _ => []) (by decide) (by decide) (fun _ => by decide) (Nat.zero_le _) ?_ ?_ (fun i hi => ?_)
      · simp (config := { maxSteps := 400000 }) only [go_sem, AV.ren, renL, AV.bel, belL, nblt, simprocAttr]
      · have e0 : dM f ks k 0 = zDc := rfl
        simp (config := { maxSteps := 400000 }) only [go_sem, e0, Dc.l, zDc, zLy, pQ, AV.bel, belL, nblt, Blk.ren, renL, AV.ren, simprocAttr]
      · dsimp only [T66]
        by_cases hil : i < m
        · have nq := nQ (by omega)
          have sq' : slParts (Q.v 2) = some (2, Q.o, Q.len) := slParts_v nq
          have gq : hget (Q.h 2) 2 = some Q.blk := hget_at0 nq
          have rx := rQ i hil
          have i1 : decide ((i : Int) < (m : Int)) = true := decide_eq_true (by omega)
          have i2 : decide (0 ≤ (i : Int) ∧ (i : Int) < (m : Int)) = true := decide_eq_true (by omega)
          have hwi : IntKind.i64.wrap ((i : Int) + 1) = ((i + 1 : Nat) : Int) := by rw [wrapL (by omega) (by omega)]; omega
          have hsi : m - (i + 1) < m - i := by omega
          have lv := dM_lv (f := f) (ks := ks) (show (0 : Int) ≤ (k : Int) ∧ (k : Int) ≤ 2 by omega) i
          have gd := lv.good (by omega)
          have gs := fr_good (f := f) (ks := ks) i
          have s0 := (fr_ok (f := f) (ks := ks) i).sp
          have en : dM f ks k (i + 1) = if (k : Int) < (fr f ks i).te then dM f ks k i else (showS (dM f ks k i) (fr f ks i)).1 := rfl
          by_cases ht : (k : Int) < (fr f ks i).te
          · have ct : decide ((k : Int) < (fr f ks i).te) = true := decide_eq_true ht
            rw [if_pos ht] at en
            rw [en]
            generalize dM f ks k i = d at *
            generalize fr f ks i = sh at *
            simp (config := { maxSteps := 400000 }) only [go_sem, i1, i2, sq', gq, lQ, rx, ct, Sh.l, Dc.l, hwi, hsi, hil, pQ, AV.bel, belL, nblt, Blk.ren, renL, AV.ren, simprocAttr]
            omega
          · have ct : decide ((k : Int) < (fr f ks i).te) = false := decide_eq_false ht
            rw [if_neg ht] at en
            rw [en]
            have shn := (lv.shown (by omega) (by omega)).1
            obtain ⟨b1, b2, b3⟩ := b_sh2 gd gs s0 shn
            have gn := show_good gd gs
            have ht1 : toldS (dM f ks k i) (fr f ks i) = ((showS (dM f ks k i) (fr f ks i)).1, true, 0) := by simp [toldS, gd, gs, shn]
            have ht2 : toldS (showS (dM f ks k i) (fr f ks i)).1 (fr f ks i) = ((showS (showS (dM f ks k i) (fr f ks i)).1 (fr f ks i)).1, (fr f ks i).ky, 0) := by simp [toldS, gn, gs, b3]
            generalize (showS (dM f ks k i) (fr f ks i)).1 = d' at *
            generalize dM f ks k i = d at *
            generalize fr f ks i = sh at *
            obtain ⟨st, ky, sy, la, id, ba, tt, sp⟩ := sh
            obtain ⟨⟨xl, xi, xb, xo⟩, y, z⟩ := d'
            dsimp only at *
            subst b1 b2
            cases ky
            all_goals
              simp (config := { maxSteps := 400000 }) only [go_sem, i1, i2, sq', gq, lQ, rx, ct, k26, k28, dcV, shV, Sh.l, Dc.l, Dc.eta, Sh.eta, ht1, ht2, gn, hwi, hsi, hil, pQ, AV.bel, belL, nblt, Blk.ren, renL, AV.ren, simprocAttr]
              omega
        · have i1 : decide ((i : Int) < (m : Int)) = false := decide_eq_false (by omega)
          simp (config := { maxSteps := 400000 }) only [go_sem, i1, hw, hsk, pQ, AV.bel, belL, nblt, Blk.ren, renL, AV.ren, simprocAttr]
          omega
    · have c1 : decide ((k : Int) < 3) = false := decide_eq_false (by omega)
      by_cases m0 : m = 0
      · have l0 : ((m : Int) == 0) = true := beq_iff_eq.2 (by omega)
        simp (config := { maxSteps := 400000 }) only [go_sem, c1, lQ, l0, simprocAttr]
        exact Ends.pure rfl
      · have l0 : ((m : Int) == 0) = false := beq_eq_false_iff_ne.2 (by omega)
        have l0n : ((m : Int) != 0) = true := bne_iff_ne.2 (by omega)
        obtain ⟨a, ha⟩ : ∃ a : Nat, ls % (m : Int) = (a : Int) := ⟨(ls % (m : Int)).toNat, by have := Int.emod_nonneg ls (show (m : Int) ≠ 0 by omega); omega⟩
        have ha2 : a < m := by have := Int.emod_lt_of_pos ls (show (0 : Int) < (m : Int) by omega); omega
        have e1 : IntKind.i64.wrap ls = ls := wrapL (by omega) (by omega)
        have e2 : ls.tmod (m : Int) = (a : Int) := by rw [Int.tmod_eq_emod_of_nonneg hls.1]; exact ha
        simp (config := { maxSteps := 400000 }) only [go_sem, c1, lQ, l0, l0n, e1, e2, simprocAttr]
        refine Loop.stepR (F := ⟨Try.prog, cxT T66, [27, 32, 37, 43, 79, 94, 100, 109, 115, 123, 155], 158, 1⟩) hT66 mo (X := Nat) (fun i => i ≤ m) (fun i => m - i)
          (fun i => [(7, Q.v 2), (18, .i .i64 (a : Int)), (19, .p 3 0), (20, .b (eA f ks a i).2), (106, Q.v 2), (107, .i .i64 (m : Int)), (108, .i .i64 (i : Int))])
          (fun i => (3, { cells := (eA f ks a i).1.l }) :: Q.h 2) 4 0 (fun i => i + 1) [] (fun _ => []) (by decide) (by decide) (fun _ => by decide) (Nat.zero_le _) ?_ ?_ (fun i hi => ?_)
        · have z0 : (eA f ks a 0).2 = true := rfl
          simp (config := { maxSteps := 400000 }) only [go_sem, z0, AV.ren, renL, AV.bel, belL, nblt, simprocAttr]
        · have z0 : (eA f ks a 0).1 = zDc := rfl
          simp (config := { maxSteps := 400000 }) only [go_sem, z0, Dc.l, zDc, zLy, pQ, AV.bel, belL, nblt, Blk.ren, renL, AV.ren, simprocAttr]
        · dsimp only [T66]
          by_cases hil : i < m
          · have nq := nQ (by omega)
            have sq' : slParts (Q.v 2) = some (2, Q.o, Q.len) := slParts_v nq
            have gq : hget (Q.h 2) 2 = some Q.blk := hget_at0 nq
            have rx := rQ i hil
            have ta := tQ a ha2
            have i1 : decide ((i : Int) < (m : Int)) = true := decide_eq_true (by omega)
            have i2 : decide (0 ≤ (i : Int) ∧ (i : Int) < (m : Int)) = true := decide_eq_true (by omega)
            have a2 : decide (0 ≤ (a : Int) ∧ (a : Int) < (m : Int)) = true := decide_eq_true (by omega)
            have hwi : IntKind.i64.wrap ((i : Int) + 1) = ((i + 1 : Nat) : Int) := by rw [wrapL (by omega) (by omega)]; omega
            have hsi : m - (i + 1) < m - i := by omega
            have ep := eA_ok (f := f) (ks := ks) (a := a) i
            have gd := ep.good
            have gs := fr_good (f := f) (ks := ks) i
            have en : eA f ks a (i + 1) = if i = a then ((eA f ks a i).1, (eA f ks a i).2 && decide ((fr f ks i).te > 0)) else ((showS (eA f ks a i).1 (fr f ks i)).1, (fr f ks i).ky || (eA f ks a i).2) := rfl
            by_cases hia : i = a
            · have ia : ((i : Int) == (a : Int)) = true := beq_iff_eq.2 (by omega)
              obtain ⟨al, _⟩ := ep.1 (by omega)
              rw [if_pos hia, al, Bool.true_and] at en
              rw [en, al]
              generalize (eA f ks a i).1 = d at *
              generalize fr f ks i = sh at *
              simp (config := { maxSteps := 400000 }) only [go_sem, i1, i2, sq', gq, lQ, rx, ia, Sh.l, Dc.l, hwi, hsi, hil, pQ, AV.bel, belL, nblt, Blk.ren, renL, AV.ren, simprocAttr]
              omega
            · have ia : ((i : Int) == (a : Int)) = false := beq_eq_false_iff_ne.2 (by omega)
              rw [if_neg hia] at en
              rw [en]
              obtain ⟨_, chk⟩ := ep.next hia
              have ht1 : toldS (eA f ks a i).1 (fr f ks i) = ((showS (eA f ks a i).1 (fr f ks i)).1, (showS (eA f ks a i).1 (fr f ks i)).2, 0) := by simp [toldS, gd, gs]
              generalize (eA f ks a i).2 = al at *
              generalize (eA f ks a i).1 = d at *
              generalize (showS d (fr f ks i)).1 = d' at *
              generalize (showS d (fr f ks i)).2 = is at *
              generalize (fr f ks a).te = te at *
              generalize fr f ks i = sh at *
              by_cases t0 : te = 0
              · have b0 : (te == 0) = true := beq_iff_eq.2 t0
                obtain rfl := chk (.inl t0)
                obtain ⟨st, ky, sy, la, id, ba, tt, sp⟩ := sh
                dsimp only at *
                cases ky
                · cases al
                  all_goals
                    simp (config := { maxSteps := 400000 }) only [go_sem, i1, i2, sq', gq, lQ, rx, ia, ta, a2, b0, k28, dcV, shV, Sh.l, Dc.l, Dc.eta, Sh.eta, ht1, hwi, hsi, hil, pQ, AV.bel, belL, nblt, Blk.ren, renL, AV.ren, simprocAttr]
                    repeat' (first | refine spB_i (fun _ => ?_) (fun _ => ?_) | refine andB_i ?_ ?_)
                    all_goals omega
                · simp (config := { maxSteps := 400000 }) only [go_sem, i1, i2, sq', gq, lQ, rx, ia, ta, a2, b0, k28, dcV, shV, Sh.l, Dc.l, Dc.eta, Sh.eta, ht1, hwi, hsi, hil, pQ, AV.bel, belL, nblt, Blk.ren, renL, AV.ren, simprocAttr]
                  repeat' (first | refine spB_i (fun _ => ?_) (fun _ => ?_) | refine andB_i ?_ ?_)
                  all_goals omega
              · have b0 : (te == 0) = false := beq_eq_false_iff_ne.2 t0
                by_cases s0 : sh.te = 0
                · have bs : (sh.te == 0) = true := beq_iff_eq.2 s0
                  obtain rfl := chk (.inr s0)
                  obtain ⟨st, ky, sy, la, id, ba, tt, sp⟩ := sh
                  dsimp only at *
                  cases ky
                  · cases al
                    all_goals
                      simp (config := { maxSteps := 400000 }) only [go_sem, i1, i2, sq', gq, lQ, rx, ia, ta, a2, b0, bs, k28, dcV, shV, Sh.l, Dc.l, Dc.eta, Sh.eta, ht1, hwi, hsi, hil, pQ, AV.bel, belL, nblt, Blk.ren, renL, AV.ren, simprocAttr]
                      omega
                  · simp (config := { maxSteps := 400000 }) only [go_sem, i1, i2, sq', gq, lQ, rx, ia, ta, a2, b0, bs, k28, dcV, shV, Sh.l, Dc.l, Dc.eta, Sh.eta, ht1, hwi, hsi, hil, pQ, AV.bel, belL, nblt, Blk.ren, renL, AV.ren, simprocAttr]
                    omega
                · have bs : (sh.te == 0) = false := beq_eq_false_iff_ne.2 s0
                  obtain ⟨st, ky, sy, la, id, ba, tt, sp⟩ := sh
                  dsimp only at *
                  cases ky
                  all_goals
                    simp (config := { maxSteps := 400000 }) only [go_sem, i1, i2, sq', gq, lQ, rx, ia, ta, a2, b0, bs, k28, dcV, shV, Sh.l, Dc.l, Dc.eta, Sh.eta, ht1, hwi, hsi, hil, pQ, AV.bel, belL, nblt, Blk.ren, renL, AV.ren, simprocAttr]
                    omega
          · have i1 : decide ((i : Int) < (m : Int)) = false := decide_eq_false (by omega)
            simp (config := { maxSteps := 400000 }) only [go_sem, i1, simprocAttr]
            exact Ends.pure rfl
end Go.Proofs.Pic
