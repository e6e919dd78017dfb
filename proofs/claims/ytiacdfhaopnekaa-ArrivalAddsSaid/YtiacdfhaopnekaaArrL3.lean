/- ArrivalAdds: the walk. -/
import Derived.Test.YtiacdfhaopnekaaArrC15
import Derived.Test.YtiacdfhaopnekaaArrC16
import Derived.Test.YtiacdfhaopnekaaArrP4
import Derived.Test.YtiacdfhaopnekaaArrI3
namespace Go.Proofs.Arr
open Go.Ab
set_option maxRecDepth 100000
set_option maxHeartbeats 16000000
set_option linter.unusedSimpArgs false
set_option linter.unusedVariables false
theorem add_len20 (t : Tr) (l : List Pt) (a g : Int) : (addS t l a g).2.length ≤ 20 := by
  by_cases h : addE t l a g = 0
  · refine add_lenA ?_
    have hg : good t l = true := by
      unfold addE at h
      cases hg : good t l with
      | true => rfl
      | false => rw [hg] at h; simp at h
    exact (good_rng hg).2
  · unfold addS; rw [if_neg h]; simp
def T3 : List (Nat × Ct) := [(11, k11), (12, k12), (13, k13), (14, k14), (15, k15), (16, k16), (17, k17), (18, k18), (19, k18), (20, k20)]
theorem hT3 : Sound Try.prog (cxT T3) := Sound.cons s11 <| Sound.cons s12 <| Sound.cons s13 <| Sound.cons s14 <| Sound.cons s15 <| Sound.cons s16 <| Sound.cons s17 <| Sound.cons s18 <| Sound.cons s19 <| Sound.cons s20 Sound.nil
theorem w3 (d : Dr) (s : Sh) (pk : List Pk) (w0 a0 n0 w1 a1 n1 : Int) (rt : Tr) (r : Sh) (rl : List Pt) (sent got p q : Int) (hs : Sh.pks s pk) (hl : pk.all Pk.ok = true) (hd : d.ok = true) (hw0 : inI 0 255 w0 = true) (ha0 : inI 0 255 a0 = true) (hw1 : inI 0 255 w1 = true) (ha1 : inI 0 255 a1 = true) (hr : Sh.pts r rl) (hrs : r.sane 2 = true) (hp : 0 ≤ p ∧ p ≤ 65535) (hq : 0 ≤ q ∧ q ≤ 65535) :
    FTL Try.prog 3 [.agg (d.l (s.v 0)), .agg [.i .u8 w0, .i .u8 a0, .i .i64 n0, .i .u8 w1, .i .u8 a1, .i .i64 n1], .agg (rt.l (r.v 1)), .i .i64 sent, .i .i64 got, .agg [.i .u16 p, .i .u16 q]] (s.h 0 ++ r.h 1) 2 (.b true) [] 2 := by
  refine FTL.of_iw hT3 mo Try.func3 i3_eq (by simp [i3]) (iw_of_jw ?_)
  dsimp only [i3, T3]
  have ps := hs.pl
  have pr := hr.pl
  have hrd := rd_pks hs
  have lr : r.len = rl.length := hr.ln
  obtain ⟨m, hm⟩ : ∃ m, min pk.length 60 = m := ⟨_, rfl⟩
  have hm' : (if pk.length ≤ 60 then pk.length else 60) = m := by rw [← hm]; split <;> omega
  obtain ⟨m2, hm2⟩ : ∃ m2, min rl.length 22 = m2 := ⟨_, rfl⟩
  have i2 : min (rl.length : Int) 22 = (m2 : Int) := by omega
  have d2 : decide (0 ≤ (m2 : Int) ∧ (m2 : Int) ≤ (rl.length : Int)) = true := decide_eq_true (by omega)
  have q2 := hr.cut Pt.len (show m2 ≤ rl.length by omega)
  have l2 : (rl.take m2).length ≤ 1000000 := by rw [List.length_take]; omega
  generalize rl.take m2 = rl2 at *
  obtain ⟨t0, L0, e0⟩ : ∃ t0 L0, runS (sA d pk) (gA d pk) m = (t0, L0) := ⟨_, _, rfl⟩
  have y0 := runR_pts (sA d pk) (gA d pk) m
  have z0 := runS_len (sA d pk) (gA d pk) m
  have f0 := runR_fresh (sA d pk) (gA d pk) m
  rw [e0] at y0 z0
  generalize eR : runR (sA d pk) (gA d pk) m = R0 at *
  dsimp only at y0 z0
  have u0 : ∀ b, drU d pk b = .agg (t0.l (R0.v b)) := fun b => by rw [drU, hm, e0, eR]
  obtain ⟨t1, h1⟩ : ∃ t1, t1 = bendT w0 n0 t0 := ⟨_, rfl⟩
  obtain ⟨L1, g1⟩ : ∃ L1, bendL w0 a0 n0 L0 = L1 := ⟨_, rfl⟩
  have z1 : L1.length ≤ 20 := by rw [← g1, bendL_len]; exact z0
  have y1 := copyQ_pts L1
  have u1 : ∀ b, bdU w0 a0 n0 t0 L0 b = .agg (t1.l ((copyQ L1).v b)) := fun b => by rw [bdU, g1, h1]
  obtain ⟨t2, h2⟩ : ∃ t2, t2 = bendT w1 n1 t1 := ⟨_, rfl⟩
  obtain ⟨L2, g2⟩ : ∃ L2, bendL w1 a1 n1 L1 = L2 := ⟨_, rfl⟩
  have z2 : L2.length ≤ 20 := by rw [← g2, bendL_len]; exact z1
  have y2 := copyQ_pts L2
  have u2 : ∀ b, bdU w1 a1 n1 t1 L1 b = .agg (t2.l ((copyQ L2).v b)) := fun b => by rw [bdU, g2, h2]
  clear h1 h2
  generalize hC1 : copyQ L1 = C1 at *
  generalize hC2 : copyQ L2 = C2 at *
  have r0 := rd_pts y0
  have r1 := rd_pts y1
  have r2 := rd_pts y2
  have b0 : decide (L0.length ≤ 1000000) = true := decide_eq_true (by omega)
  have b1 : decide (L1.length ≤ 1000000) = true := decide_eq_true (by omega)
  have p0 := y0.pl
  have p1 := y1.pl
  have p2 := y2.pl
  simp (config := { maxSteps := 400000 }) only [go_sem, Dr.l, k11, k12, bdV, drV, trV, Tr.eta, Dr.eta, hrd, hl, hd, hm', u0, u1, u2, eR, g1, g2, hC1, hC2, hw0, ha0, hw1, ha1, r0, r1, r2, b0, b1, p0, p1, p2, lr, i2, d2, hrs, Tr.l, okAll_push, simprocAttr]
  obtain ⟨L, hL⟩ : ∃ L, L = t0.l (R0.v 2) ++ (t1.l (C1.v 3) ++ (t2.l (C2.v 4) ++ rt.l ((r.cut m2).v 1))) := ⟨_, rfl⟩
  have bL : belL 6 L = true := by rw [hL]; simp [belL_append, Tr.l_bel]
  have bL7 : belL 7 L = true := by rw [hL]; simp [belL_append, Tr.l_bel]
  have nL : renL (rn []) L = L := by
    have := renL_fix (ψ := rn []) (m := 6) (fun _ _ => rfl) L bL
    exact this
  have rows4 : ∀ k, k < 4 → ∃ (t : Tr) (x : Sh) (l : List Pt) (b : Nat), List.take 17 (List.drop (k * 17) L) = t.l (x.v b) ∧ hasS (R0.h 2 ++ (C1.h 3 ++ (C2.h 4 ++ r.h 1))) x b ∧ Sh.pts x l ∧ l.length ≤ 1000000 ∧ b < 5 := by
    intro k hk
    have hk' : k = 0 ∨ k = 1 ∨ k = 2 ∨ k = 3 := by omega
    rcases hk' with rfl | rfl | rfl | rfl
    · exact ⟨t0, R0, L0, 2, by rw [hL]; rfl, by simp [hasS_hit], y0, by omega, by omega⟩
    · exact ⟨t1, C1, L1, 3, by rw [hL]; rfl, by simp [hasS_skip, hasS_hit], y1, by omega, by omega⟩
    · exact ⟨t2, C2, L2, 4, by rw [hL]; rfl, by simp [hasS_skip, hasS_hit], y2, by omega, by omega⟩
    · exact ⟨rt, r.cut m2, rl2, 1, by rw [hL]; rfl, by simp [hasS_skip, hasS_cut, hasS_hit0], q2, l2, by omega⟩
  refine Loop.stepR (F := ⟨Try.prog, cxT T3, [47, 63, 100, 128], 137, 2⟩) hT3 mo (X := Nat) (fun k => k ≤ 4) (fun k => 4 - k)
    (fun k => [(3, .i .i64 sent), (4, .i .i64 got), (11, .p 5 0), (45, .agg L), (46, .i .i64 (k : Int))])
    (fun k => (5, { cells := [.i .u16 p, .i .u16 q] }) :: (R0.h 2 ++ (C1.h 3 ++ (C2.h 4 ++ r.h 1)))) 6 0 (fun k => k + 1) [(2, 7), (3, 10), (4, 13)] (fun _ => []) (by decide) (by decide) (fun _ => by decide) (Nat.zero_le _) ?_ ?_ (fun k hk => ?_)
  · rw [hL]
    simp (config := { maxSteps := 400000 }) only [go_sem, Tr.l, AV.ren, renL, AV.bel, belL, nblt, simprocAttr]
  · simp (config := { maxSteps := 400000 }) only [go_sem, Tr.l, AV.bel, belL, nblt, Blk.ren, renL, AV.ren, p0, p1, p2, pr, simprocAttr]
  · clear hL
    dsimp only [T3]
    by_cases hlt : k < 4
    · obtain ⟨t, x, l, b, hrow, hx, hxl, hll, hb⟩ := rows4 k hlt
      have c1 : decide ((k : Int) < 4) = true := decide_eq_true (by omega)
      have c2 : decide (0 ≤ (k : Int) ∧ (k : Int) < 4) = true := decide_eq_true (by omega)
      have hw : IntKind.i64.wrap ((k : Int) + 1) = ((k + 1 : Nat) : Int) := by rw [wrapL (by omega) (by omega)]; omega
      have hsk : 4 - (k + 1) < 4 - k := by omega
      have ne5 : ∀ c, 5 ≤ c → (c = b) = False := fun c hc => eq_false (by omega)
      have hat := shAt_of hx
      have vb : ∀ ψ : Nat → Nat, (x.v b).ren ψ = x.v (ψ b) := fun ψ => v_ren
      have hb7 : (x.v b).bel 7 = true := v_bel (by omega)
      have hrx := rd_pts hxl
      have bl : decide (l.length ≤ 1000000) = true := decide_eq_true hll
      have bl12 : decide (l.length ≤ 1000000000000) = true := decide_eq_true (by omega)
      have hge := goodR_eq t l
      have m8 : q.tmod 8 = q % 8 := Int.tmod_eq_emod_of_nonneg (by omega)
      have hlL : k * 17 + 17 ≤ L.length := by
        have := congrArg List.length hrow
        rw [List.length_take, List.length_drop] at this
        have e17 : (t.l (x.v b)).length = 17 := rfl
        omega
      have d17 : decide (k * 17 + 17 ≤ L.length) = true := decide_eq_true hlL
      cases hg : good t l
      all_goals
        rw [hg] at hge
        simp (config := { maxSteps := 400000 }) only [go_sem, c1, c2, hrow, d17, k13, k14, trV, Tr.eta, ne5, hat, hrx, bl, bl12, hge, hg, Tr.l, simprocAttr]
        refine Loop.stepR (F := ⟨Try.prog, cxT T3, [47, 63, 100, 128], 137, 2⟩) hT3 mo (X := Nat) (fun j => j ≤ 4) (fun j => 4 - j)
          (fun j => [(3, .i .i64 sent), (4, .i .i64 got), (11, .p 5 0), (16, .p 6 0), (45, .agg L), (46, .i .i64 (k : Int)), (98, .agg [.i .i64 sent, .i .i64 got, .i .i64 sent, .i .i64 (IntKind.i64.wrap (t.att + IntKind.i64.wrap q)), .i .i64 (IntKind.i64.wrap (t.fst + IntKind.i64.wrap p)), .i .i64 (IntKind.i64.wrap (t.att + IntKind.i64.wrap q)), .i .i64 (IntKind.i64.wrap (t.lst + IntKind.i64.wrap (p.tmod 8))), .i .i64 t.att]), (99, .i .i64 (j : Int))])
          (fun j => (6, { cells := t.l (x.v b) }) :: (5, { cells := [.i .u16 p, .i .u16 q] }) :: (R0.h 2 ++ (C1.h 3 ++ (C2.h 4 ++ r.h 1)))) 7 0 (fun j => j + 1) [] (fun _ => []) (by decide) (by decide) (fun _ => by decide) (Nat.zero_le _) ?_ ?_ (fun j hj => ?_)
        · simp (config := { maxSteps := 400000 }) only [go_sem, AV.ren, renL, AV.bel, belL, nblt, nL, bL7, simprocAttr]
        · simp (config := { maxSteps := 400000 }) only [go_sem, Tr.l, AV.bel, belL, nblt, Blk.ren, renL, AV.ren, p0, p1, p2, pr, vb, hb7, simprocAttr]
        · dsimp only [T3]
          by_cases hlj : j < 4
          · have c1 : decide ((j : Int) < 4) = true := decide_eq_true (by omega)
            have c2 : decide (0 ≤ (j : Int) ∧ (j : Int) < 4) = true := decide_eq_true (by omega)
            have hwj : IntKind.i64.wrap ((j : Int) + 1) = ((j + 1 : Nat) : Int) := by rw [wrapL (by omega) (by omega)]; omega
            have hsj : 4 - (j + 1) < 4 - j := by omega
            obtain ⟨M, hM⟩ : ∃ M : List AV, M = [.i .i64 sent, .i .i64 got, .i .i64 sent, .i .i64 (IntKind.i64.wrap (t.att + IntKind.i64.wrap q)), .i .i64 (IntKind.i64.wrap (t.fst + IntKind.i64.wrap p)), .i .i64 (IntKind.i64.wrap (t.att + IntKind.i64.wrap q)), .i .i64 (IntKind.i64.wrap (t.lst + IntKind.i64.wrap (p.tmod 8))), .i .i64 t.att] := ⟨_, rfl⟩
            have hMr : ∃ a g : Int, List.take 2 (List.drop (j * 2) M) = [.i .i64 a, .i .i64 g] := by
              rw [hM]
              have hj' : j = 0 ∨ j = 1 ∨ j = 2 ∨ j = 3 := by omega
              rcases hj' with rfl | rfl | rfl | rfl <;> exact ⟨_, _, rfl⟩
            have lM : decide (j * 2 + 2 ≤ M.length) = true := decide_eq_true (by rw [hM]; simp; omega)
            have bM : belL 7 M = true := by rw [hM]; rfl
            have nM : renL (rn []) M = M := by rw [hM]; rfl
            rw [← hM]
            clear hM
            obtain ⟨a, g, hag⟩ := hMr
            have yA := addQ_pts (t := t) (sent := a) (got := g) hxl
            have yR := adrQ_pts t l a g
            have rA := rd_pts yA
            have rR := rd_pts yR
            have zA := add_len20 t l a g
            have bA : decide ((addS t l a g).2.length ≤ 1000000) = true := decide_eq_true (by omega)
            simp (config := { maxSteps := 400000 }) only [go_sem, c1, c2, hag, lM, k15, k16, k17, trV, Tr.eta, ne5, hat, hrx, bl, addU, adrU, rA, rR, bA, eqT_rfl, eqP_rfl, Tr.l, hwj, hsj, shD_v, AV.ren, renL, AV.bel, belL, nblt, Blk.ren, nL, bL7, nM, bM, p0, p1, p2, pr, vb, hb7, simprocAttr]
            omega
          · have c1 : decide ((j : Int) < 4) = false := decide_eq_false (by omega)
            simp (config := { maxSteps := 400000 }) only [go_sem, c1, hw, hsk, AV.ren, renL, AV.bel, belL, nblt, Blk.ren, nL, bL, p0, p1, p2, pr, simprocAttr]
            omega
    · have c1 : decide ((k : Int) < 4) = false := decide_eq_false (by omega)
      have rn0 : rdL ptV 2 Sh.nil = some [] := rfl
      have sd0 : shD .ns .ns = true := rfl
      have ep0 : eqP [] [] = true := eqP_rfl _
      simp (config := { maxSteps := 400000 }) only [go_sem, c1, k18, k17, k20, trV, newT, zTr, Tr.l, eqT, ep0, rn0, sd0, shAt_ns, simprocAttr]
      exact Ends.pure rfl
end Go.Proofs.Arr
