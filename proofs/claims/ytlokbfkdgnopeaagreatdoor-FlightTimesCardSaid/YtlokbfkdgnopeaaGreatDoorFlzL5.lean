/- The law FlightTimes. -/
import Derived.Test.YtlokbfkdgnopeaaGreatDoorFlzK
import Derived.Test.YtlokbfkdgnopeaaGreatDoorFlzT1
import Derived.Test.YtlokbfkdgnopeaaGreatDoorFlzIt5
namespace Go.Proofs.Flz
open Go.Ab Go.Proofs.Flt
set_option maxRecDepth 100000
set_option maxHeartbeats 4000000
set_option linter.unusedSimpArgs false
set_option linter.unusedVariables false
def TL5 : List (Nat × Ct) := [(17, k17), (27, k27), (28, k28), (29, k29), (30, k30), (31, k31), (32, k32), (33, k33), (34, k34), (35, k35)]
theorem hTL5 : Sound Tryz.prog (cxT TL5) := Sound.cons s17 <| Sound.cons s27 <| Sound.cons s28 <| Sound.cons s29 <| Sound.cons s30 <| Sound.cons s31 <| Sound.cons s32 <| Sound.cons s33 <| Sound.cons s34 <| Sound.cons s35 Sound.nil
theorem w5 (t : Tm) (now st tr : Int) (htr : 0 ≤ tr ∧ tr < 256) : FTL Tryz.prog 5 [.agg t.l, .i .i64 now, .i .i64 st, .i .u8 tr] [] 0 (.b true) [] 0 := by
 obtain ⟨ta, tb, tc⟩ := t
 simp only [Tm.l]
 have q27 : ∀ a (h : Hp) n, k27 [.i .i64 a] h n = some (true, { v := .tup [.agg [.i .i64 (startS a).1.ti, .i .i64 (startS a).1.wa, .i .i64 (startS a).1.tr], .i .i64 (startS a).2], n }) := fun a h n => rfl
 have q29 : ∀ a (h : Hp) n, k29 [.i .i64 a] h n = some (true, { v := .tup [.agg [.i .i64 (startS a).1.ti, .i .i64 (startS a).1.wa, .i .i64 (startS a).1.tr], .i .i64 (startS a).2], n }) := fun a h n => rfl
 have q28 : ∀ a b c d (h : Hp) n, k28 [.agg [.i .i64 a, .i .i64 b, .i .i64 c], .i .i64 d] h n = some (true, { v := .tup [.agg [.i .i64 (againS ⟨a, b, c⟩ d).1.ti, .i .i64 (againS ⟨a, b, c⟩ d).1.wa, .i .i64 (againS ⟨a, b, c⟩ d).1.tr], .i .i64 (againS ⟨a, b, c⟩ d).2], n }) := fun a b c d h n => rfl
 have q35 : ∀ a b c d (h : Hp) n, k35 [.agg [.i .i64 a, .i .i64 b, .i .i64 c], .i .i64 d] h n = some (true, { v := .tup [.agg [.i .i64 (againS ⟨a, b, c⟩ d).1.ti, .i .i64 (againS ⟨a, b, c⟩ d).1.wa, .i .i64 (againS ⟨a, b, c⟩ d).1.tr], .i .i64 (againS ⟨a, b, c⟩ d).2], n }) := fun a b c d h n => rfl
 have q33 : ∀ a b c d (h : Hp) n, k33 [.agg [.i .i64 a, .i .i64 b, .i .i64 c], .i .i64 d] h n = some (true, { v := .tup [.b (dueT ⟨a, b, c⟩ d).1, .i .i64 (dueT ⟨a, b, c⟩ d).2], n }) := fun a b c d h n => rfl
 have q34 : ∀ a b c d (h : Hp) n, k34 [.agg [.i .i64 a, .i .i64 b, .i .i64 c], .i .i64 d] h n = some (true, { v := .tup [.b (dueT ⟨a, b, c⟩ d).1, .i .i64 (dueT ⟨a, b, c⟩ d).2], n }) := fun a b c d h n => rfl
 have q31 : ∀ a b c (h : Hp) n, k31 [.agg [.i .i64 a, .i .i64 b, .i .i64 c]] h n = some (true, { v := .i .i64 (bif tmB ⟨a, b, c⟩ then 0 else 192), n }) := fun a b c h n => by
  show some (true, ({ v := .i .i64 (if tmB ⟨a, b, c⟩ then 0 else 192), n } : Eff)) = _
  cases tmB ⟨a, b, c⟩ <;> rfl
 have q32 : ∀ a b c (h : Hp) n, k32 [.agg [.i .i64 a, .i .i64 b, .i .i64 c]] h n = some (true, { v := .i .i64 (bif tmB ⟨a, b, c⟩ then 0 else 192), n }) := fun a b c h n => by
  show some (true, ({ v := .i .i64 (if tmB ⟨a, b, c⟩ then 0 else 192), n } : Eff)) = _
  cases tmB ⟨a, b, c⟩ <;> rfl
 refine FTL.of_iw hTL5 mo Tryz.func5 i5_eq (by simp [i5]) (iw_of_jw ?_)
 dsimp only [i5, TL5]
 simp (maxSteps := 400000) only [go_sem, q27, simprocAttr]
 have htm : 0 ≤ tr.tmod 9 ∧ tr.tmod 9 < 9 := by rw [Int.tmod_eq_emod_of_nonneg htr.1]; omega
 have hwm : IntKind.i64.wrap (tr.tmod 9) = tr.tmod 9 := wrapL (by omega) (by omega)
 generalize startS (IntKind.i64.wrap ((IntKind.u64.wrap st).tmod 1099511627777)) = g0
 refine Loop.stepR (F := ⟨Tryz.prog, cxT TL5, [47, 58, 77, 83, 89, 103, 146], 150, 0⟩) hTL5 mo (X := Nat × Tm) (fun x => x.1 ≤ 9) (fun x => 10 - x.1)
  (fun x => [(1, .i .i64 now), (3, .i .u8 tr), (4, .p 0 0), (9, .p 1 0), (11, .i .i64 (x.1 : Int))])
  (fun x => [(1, { cells := [.i .i64 x.2.ti, .i .i64 x.2.wa, .i .i64 x.2.tr] }), (0, { cells := [.i .i64 ta, .i .i64 tb, .i .i64 tc] })]) 2 (0, g0.1) (fun x => (x.1 + 1, bif (againS x.2 x.2.ti).2 == 0 then (againS x.2 x.2.ti).1 else x.2)) [] (fun _ => []) (by decide) (by decide) (fun _ => by decide) (Nat.zero_le _) ?_ ?_ (fun x hx => ?_)
 · simp (maxSteps := 400000) only [go_sem, AV.ren, renL, AV.bel, belL, nblt, simprocAttr]
 · simp (maxSteps := 400000) only [go_sem, AV.ren, renL, AV.bel, belL, nblt, Blk.ren, simprocAttr]
 dsimp only [TL5]
 obtain ⟨k, tm⟩ := x
 dsimp only at hx ⊢
 have wk : IntKind.i64.wrap ((k : Int) + 1) = ((k + 1 : Nat) : Int) := by rw [wrapL (by omega) (by omega)]; omega
 cases c1 : decide ((k : Int) < tr.tmod 9)
 · obtain ⟨ma, mb, mc⟩ := tm
   dsimp only at hx ⊢
   try dsimp only at c2
   obtain ⟨L, hL⟩ : ∃ L : List AV, L = [.i .i64 ta, .i .i64 tb, .i .i64 tc, .i .i64 ma, .i .i64 mb, .i .i64 mc, .i .i64 (-1), .i .i64 0, .i .i64 0] := ⟨_, rfl⟩
   have q29 := q29 now
   have q27 := q27 now
   generalize startS now = S at *
   simp (maxSteps := 400000) only [go_sem, c1, hwm, q29, q27, k30, beq_self_eq_true, bne_self_eq_false, AV.bel, belL, nblt, simprocAttr]
   refine Loop.countI (F := ⟨Tryz.prog, cxT TL5, [47, 58, 77, 83, 89, 103, 146], 150, 0⟩) hTL5 mo 3 (fun _ => True) (fun k => [(1, .i .i64 now), (3, .i .u8 tr), (9, .p 1 0), (81, .agg L), (82, .i .i64 (k : Int))]) (fun _ => [(1, { cells := [.i .i64 ma, .i .i64 mb, .i .i64 mc] })]) 4 (by decide) trivial ?_ ?_ (fun k hk _ => ?_)
   · rw [hL]
     simp (maxSteps := 400000) only [go_sem, AV.bel, belL, nblt, simprocAttr]
   · simp (maxSteps := 400000) only [go_sem, AV.bel, belL, nblt, simprocAttr]
   dsimp only [TL5]
   by_cases hlt : k < 3
   rotate_left
   · have d1 : decide ((k : Int) < 3) = false := decide_eq_false (by omega)
     simp (maxSteps := 400000) only [go_sem, d1, k17, simprocAttr]
     exact Ends.pureE rfl rfl
   have d1 : decide ((k : Int) < 3) = true := decide_eq_true (by omega)
   have d2 : decide (0 ≤ (k : Int) ∧ (k : Int) < 3) = true := decide_eq_true (by omega)
   have hLl : L.length = 9 := by rw [hL]; rfl
   have d3 : decide (k * 3 ≤ 6) = true := decide_eq_true (by omega)
   have hLb : ∀ j, belL j L = true := fun j => by rw [hL]; rfl
   obtain ⟨a, b, c, hr⟩ : ∃ a b c : Int, List.take 3 (List.drop (k * 3) L) = [.i .i64 a, .i .i64 b, .i .i64 c] := by
    obtain rfl | rfl | rfl : k = 0 ∨ k = 1 ∨ k = 2 := by omega
    all_goals exact ⟨_, _, _, by rw [hL]; rfl⟩
   have wk : IntKind.i64.wrap ((k : Int) + 1) = ((k + 1 : Nat) : Int) := by rw [wrapL (by omega) (by omega)]; omega
   clear hL
   obtain ⟨L2, hL2⟩ : ∃ L2 : List AV, L2 = [.i .i64 now, .i .i64 ma, .i .i64 (IntKind.i64.wrap (ma - 1)), .i .i64 (IntKind.i64.wrap (ma + IntKind.i64.wrap tr))] := ⟨_, rfl⟩
   have q31 := q31 a b c
   have q32 := q32 a b c
   generalize (bif tmB ⟨a, b, c⟩ then (0 : Int) else 192) = ce at *
   simp (maxSteps := 400000) only [go_sem, d1, d2, d3, hLl, hr, q31, q32, bne_self_eq_false, AV.bel, belL, nblt, hLb, simprocAttr]
   refine Loop.countI (F := ⟨Tryz.prog, cxT TL5, [47, 58, 77, 83, 89, 103, 146], 150, 0⟩) hTL5 mo 4 (fun _ => True) (fun i => [(1, .i .i64 now), (3, .i .u8 tr), (9, .p 1 0), (19, .p 4 0), (81, .agg L), (82, .i .i64 (k : Int)), (101, .agg L2), (102, .i .i64 (i : Int))]) (fun _ => [(4, { cells := [.i .i64 a, .i .i64 b, .i .i64 c] }), (1, { cells := [.i .i64 ma, .i .i64 mb, .i .i64 mc] })]) 5 (by decide) trivial ?_ ?_ (fun i hi _ => ?_)
   · rw [hL2]
     simp (maxSteps := 400000) only [go_sem, AV.bel, belL, nblt, hLb, simprocAttr]
   · simp (maxSteps := 400000) only [go_sem, AV.bel, belL, nblt, simprocAttr]
   dsimp only [TL5]
   by_cases hli : i < 4
   rotate_left
   · have f1 : decide ((i : Int) < 4) = false := decide_eq_false (by omega)
     simp (maxSteps := 400000) only [go_sem, f1, wk, AV.bel, belL, nblt, hLb, simprocAttr]
     exact hlt
   have f1 : decide ((i : Int) < 4) = true := decide_eq_true (by omega)
   have f2 : decide (0 ≤ (i : Int) ∧ (i : Int) < 4) = true := decide_eq_true (by omega)
   have hL2b : ∀ j, belL j L2 = true := fun j => by rw [hL2]; rfl
   obtain ⟨z, hz⟩ : ∃ z : Int, L2[i]? = some (.i .i64 z) := by
    obtain rfl | rfl | rfl | rfl : i = 0 ∨ i = 1 ∨ i = 2 ∨ i = 3 := by omega
    all_goals exact ⟨_, by rw [hL2]; rfl⟩
   have wi : IntKind.i64.wrap ((i : Int) + 1) = ((i + 1 : Nat) : Int) := by rw [wrapL (by omega) (by omega)]; omega
   clear hL2
   have q33 := q33 a b c z
   have q34 := q34 a b c z
   have q35 := q35 a b c z
   have q28 := q28 a b c z
   generalize dueT ⟨a, b, c⟩ z = DU at *
   generalize againS ⟨a, b, c⟩ z = AG at *
   simp (maxSteps := 400000) only [go_sem, f1, f2, hz, Nat.mul_one, q33, q34, q35, q28, wi, beq_self_eq_true, bne_self_eq_false, AV.bel, belL, nblt, hLb, hL2b, simprocAttr]
   exact hli
 cases c2 : decide (tm.ti ≤ 1099511627776)
 · obtain ⟨ma, mb, mc⟩ := tm
   dsimp only at hx ⊢
   try dsimp only at c2
   obtain ⟨L, hL⟩ : ∃ L : List AV, L = [.i .i64 ta, .i .i64 tb, .i .i64 tc, .i .i64 ma, .i .i64 mb, .i .i64 mc, .i .i64 (-1), .i .i64 0, .i .i64 0] := ⟨_, rfl⟩
   have q29 := q29 now
   have q27 := q27 now
   generalize startS now = S at *
   simp (maxSteps := 400000) only [go_sem, c1, c2, hwm, q29, q27, k30, beq_self_eq_true, bne_self_eq_false, AV.bel, belL, nblt, simprocAttr]
   refine Loop.countI (F := ⟨Tryz.prog, cxT TL5, [47, 58, 77, 83, 89, 103, 146], 150, 0⟩) hTL5 mo 3 (fun _ => True) (fun k => [(1, .i .i64 now), (3, .i .u8 tr), (9, .p 1 0), (81, .agg L), (82, .i .i64 (k : Int))]) (fun _ => [(1, { cells := [.i .i64 ma, .i .i64 mb, .i .i64 mc] })]) 4 (by decide) trivial ?_ ?_ (fun k hk _ => ?_)
   · rw [hL]
     simp (maxSteps := 400000) only [go_sem, AV.bel, belL, nblt, simprocAttr]
   · simp (maxSteps := 400000) only [go_sem, AV.bel, belL, nblt, simprocAttr]
   dsimp only [TL5]
   by_cases hlt : k < 3
   rotate_left
   · have d1 : decide ((k : Int) < 3) = false := decide_eq_false (by omega)
     simp (maxSteps := 400000) only [go_sem, d1, k17, simprocAttr]
     exact Ends.pureE rfl rfl
   have d1 : decide ((k : Int) < 3) = true := decide_eq_true (by omega)
   have d2 : decide (0 ≤ (k : Int) ∧ (k : Int) < 3) = true := decide_eq_true (by omega)
   have hLl : L.length = 9 := by rw [hL]; rfl
   have d3 : decide (k * 3 ≤ 6) = true := decide_eq_true (by omega)
   have hLb : ∀ j, belL j L = true := fun j => by rw [hL]; rfl
   obtain ⟨a, b, c, hr⟩ : ∃ a b c : Int, List.take 3 (List.drop (k * 3) L) = [.i .i64 a, .i .i64 b, .i .i64 c] := by
    obtain rfl | rfl | rfl : k = 0 ∨ k = 1 ∨ k = 2 := by omega
    all_goals exact ⟨_, _, _, by rw [hL]; rfl⟩
   have wk : IntKind.i64.wrap ((k : Int) + 1) = ((k + 1 : Nat) : Int) := by rw [wrapL (by omega) (by omega)]; omega
   clear hL
   obtain ⟨L2, hL2⟩ : ∃ L2 : List AV, L2 = [.i .i64 now, .i .i64 ma, .i .i64 (IntKind.i64.wrap (ma - 1)), .i .i64 (IntKind.i64.wrap (ma + IntKind.i64.wrap tr))] := ⟨_, rfl⟩
   have q31 := q31 a b c
   have q32 := q32 a b c
   generalize (bif tmB ⟨a, b, c⟩ then (0 : Int) else 192) = ce at *
   simp (maxSteps := 400000) only [go_sem, d1, d2, d3, hLl, hr, q31, q32, bne_self_eq_false, AV.bel, belL, nblt, hLb, simprocAttr]
   refine Loop.countI (F := ⟨Tryz.prog, cxT TL5, [47, 58, 77, 83, 89, 103, 146], 150, 0⟩) hTL5 mo 4 (fun _ => True) (fun i => [(1, .i .i64 now), (3, .i .u8 tr), (9, .p 1 0), (19, .p 4 0), (81, .agg L), (82, .i .i64 (k : Int)), (101, .agg L2), (102, .i .i64 (i : Int))]) (fun _ => [(4, { cells := [.i .i64 a, .i .i64 b, .i .i64 c] }), (1, { cells := [.i .i64 ma, .i .i64 mb, .i .i64 mc] })]) 5 (by decide) trivial ?_ ?_ (fun i hi _ => ?_)
   · rw [hL2]
     simp (maxSteps := 400000) only [go_sem, AV.bel, belL, nblt, hLb, simprocAttr]
   · simp (maxSteps := 400000) only [go_sem, AV.bel, belL, nblt, simprocAttr]
   dsimp only [TL5]
   by_cases hli : i < 4
   rotate_left
   · have f1 : decide ((i : Int) < 4) = false := decide_eq_false (by omega)
     simp (maxSteps := 400000) only [go_sem, f1, wk, AV.bel, belL, nblt, hLb, simprocAttr]
     exact hlt
   have f1 : decide ((i : Int) < 4) = true := decide_eq_true (by omega)
   have f2 : decide (0 ≤ (i : Int) ∧ (i : Int) < 4) = true := decide_eq_true (by omega)
   have hL2b : ∀ j, belL j L2 = true := fun j => by rw [hL2]; rfl
   obtain ⟨z, hz⟩ : ∃ z : Int, L2[i]? = some (.i .i64 z) := by
    obtain rfl | rfl | rfl | rfl : i = 0 ∨ i = 1 ∨ i = 2 ∨ i = 3 := by omega
    all_goals exact ⟨_, by rw [hL2]; rfl⟩
   have wi : IntKind.i64.wrap ((i : Int) + 1) = ((i + 1 : Nat) : Int) := by rw [wrapL (by omega) (by omega)]; omega
   clear hL2
   have q33 := q33 a b c z
   have q34 := q34 a b c z
   have q35 := q35 a b c z
   have q28 := q28 a b c z
   generalize dueT ⟨a, b, c⟩ z = DU at *
   generalize againS ⟨a, b, c⟩ z = AG at *
   simp (maxSteps := 400000) only [go_sem, f1, f2, hz, Nat.mul_one, q33, q34, q35, q28, wi, beq_self_eq_true, bne_self_eq_false, AV.bel, belL, nblt, hLb, hL2b, simprocAttr]
   exact hli
 have hs : k + 1 ≤ 9 ∧ 10 - (k + 1) < 10 - k := by have := of_decide_eq_true c1; omega
 obtain ⟨ma, mb, mc⟩ := tm
 dsimp only at c2 ⊢
 generalize hA : againS ⟨ma, mb, mc⟩ ma = A
 have q := fun h n => q28 ma mb mc ma h n
 simp only [hA] at q
 cases c3 : (A.2 == 0)
 · simp only [cond_false]
   simp (maxSteps := 400000) only [go_sem, c1, c2, c3, q, hwm, wk, hs, AV.ren, renL, AV.bel, belL, nblt, Blk.ren, simprocAttr]
   omega
 · simp only [cond_true]
   simp (maxSteps := 400000) only [go_sem, c1, c2, c3, q, hwm, wk, hs, AV.ren, renL, AV.bel, belL, nblt, Blk.ren, simprocAttr]
   omega
end Go.Proofs.Flz
