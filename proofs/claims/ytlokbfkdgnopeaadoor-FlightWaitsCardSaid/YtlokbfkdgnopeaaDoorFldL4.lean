/- The law FlightWaits. -/
import Derived.Test.YtlokbfkdgnopeaaDoorFldK
import Derived.Test.YtlokbfkdgnopeaaDoorFldI4
namespace Go.Proofs.Fld
open Go.Ab Go.Proofs.Flt
set_option maxRecDepth 100000
set_option maxHeartbeats 4000000
set_option linter.unusedSimpArgs false
set_option linter.unusedVariables false
theorem due_no {t : Tm} {now : Int} (h : tmB t = true) (hn : 0 ≤ now ∧ now ≤ 1099511627776) (hl : now < t.ti) : dueT t now = (false, 0) := by
 have h1 : inW now 1099511627776 = true := inW_of hn
 have h2 : inW t.ti now = false := by
  cases e : inW t.ti now
  · rfl
  · have := inW_t e; omega
 unfold dueT; rw [h, h1, h2]; rfl
theorem due_yes {t : Tm} {now : Int} (h : tmB t = true) (hn : 0 ≤ now ∧ now ≤ 1099511627776) (h0 : 0 ≤ t.ti) (hl : t.ti ≤ now) : dueT t now = (true, 0) := by
 have h1 : inW now 1099511627776 = true := inW_of hn
 have h2 : inW t.ti now = true := inW_of ⟨h0, hl⟩
 unfold dueT; rw [h, h1, h2]; rfl
theorem again_no {t : Tm} {now : Int} (h : dueT t now = (false, 0)) : againS t now = (zTm, 8) := by unfold againS; rw [h]; rfl
theorem again_yes {t : Tm} {now : Int} (h : dueT t now = (true, 0)) (ht : (t.tr == 8) = false) : againS t now = (⟨now + waitS (t.tr + 1), waitS (t.tr + 1), t.tr + 1⟩, 0) := by unfold againS; rw [h, ht]; rfl
theorem again_end {t : Tm} {now : Int} (h : dueT t now = (true, 0)) (ht : (t.tr == 8) = true) : againS t now = (zTm, 4) := by unfold againS; rw [h, ht]; rfl
def tA (k : Nat) : Int := match k with | 0 => 400 | 1 => 1200 | 2 => 2800 | 3 => 6000 | 4 => 12400 | 5 => 18800 | 6 => 25200 | _ => 31600
def tWt (k : Nat) : Int := match k with | 0 => 400 | 1 => 800 | 2 => 1600 | 3 => 3200 | _ => 6400
def tmK (s : Int) (k : Nat) : Tm := ⟨s + tA k, tWt k, (k : Int) + 1⟩
theorem tmK_ok (s : Int) (hs : 0 ≤ s) (k : Nat) (hk : k < 8) : tmB (tmK s k) = true := by
 have : (tmK s k).wa == waitS (tmK s k).tr := by
  obtain rfl | rfl | rfl | rfl | rfl | rfl | rfl | rfl : k = 0 ∨ k = 1 ∨ k = 2 ∨ k = 3 ∨ k = 4 ∨ k = 5 ∨ k = 6 ∨ k = 7 := by omega
  all_goals rfl
 have h0 : 0 ≤ tA k := by unfold tA; split <;> decide
 simp only [tmB, Bool.or_eq_true, Bool.and_eq_true, decide_eq_true_eq]
 refine .inr ⟨by simp only [tmK]; omega, by simp only [tmK]; omega, by simp only [tmK]; omega, this⟩
theorem tA_rng (k : Nat) : 400 ≤ tA k ∧ tA k ≤ 31600 := by unfold tA; split <;> decide
theorem tmK_next (s : Int) (k : Nat) (hk : k < 7) : (⟨s + tA k + waitS ((k : Int) + 1 + 1), waitS ((k : Int) + 1 + 1), (k : Int) + 1 + 1⟩ : Tm) = tmK s (k + 1) := by
 obtain rfl | rfl | rfl | rfl | rfl | rfl | rfl : k = 0 ∨ k = 1 ∨ k = 2 ∨ k = 3 ∨ k = 4 ∨ k = 5 ∨ k = 6 := by omega
 all_goals (simp only [tmK, Tm.mk.injEq]; refine ⟨?_, rfl, rfl⟩; show s + _ + _ = s + _; rw [Int.add_assoc]; rfl)
def TL4 : List (Nat × Ct) := [(5, k5), (9, k9), (10, k10), (11, k11), (12, k12)]
theorem hTL4 : Sound Tryd.prog (cxT TL4) := Sound.cons s5 <| Sound.cons s9 <| Sound.cons s10 <| Sound.cons s11 <| Sound.cons s12 Sound.nil
theorem w4 (s e : Int) (hs : 0 ≤ s ∧ s < 4294967296) (he : 0 ≤ e ∧ e < 65536) : FTL Tryd.prog 4 [.i .u32 s, .i .u16 e] [] 0 (.b true) [] 0 := by
 refine FTL.of_iw hTL4 mo Tryd.func4 i4_eq (by simp [i4]) (iw_of_jw ?_)
 dsimp only [i4, TL4]
 have ws : IntKind.i64.wrap s = s := wrapL (by omega) (by omega)
 have we : IntKind.i64.wrap e = e := wrapL (by omega) (by omega)
 have hst : startS s = (⟨s + 400, 400, 1⟩, 0) := by
  unfold startS; rw [inW_of (by omega)]; rfl
 have k9s : ∀ (h : Hp) n, k9 [.i .i64 s] h n = some (true, { v := .tup [.agg [.i .i64 (s + 400), .i .i64 400, .i .i64 1], .i .i64 0], n }) := fun h n => by
  simp only [k9, hst]; rfl
 obtain ⟨L, hL⟩ : ∃ L : List AV, L = [.i .i64 400, .i .i64 1200, .i .i64 2800, .i .i64 6000, .i .i64 12400, .i .i64 18800, .i .i64 25200, .i .i64 31600] := ⟨_, rfl⟩
 simp (maxSteps := 400000) only [go_sem, k5, ws, k9s, simprocAttr]
 refine Loop.countI (F := ⟨Tryd.prog, cxT TL4, [19, 27, 30, 77, 85, 107], 110, 0⟩) hTL4 mo 8 (fun k => k < 8) (fun k => [(0, .i .u32 s), (1, .i .u16 e), (5, .p 0 0), (28, .agg L), (29, .i .i64 (k : Int))])
  (fun k => [(0, { cells := [.i .i64 (s + tA k), .i .i64 (tWt k), .i .i64 ((k : Int) + 1)] })]) 1 (by decide) (by decide) ?_ ?_ (fun k _ hlt => ?_)
 · rw [hL]
   simp (maxSteps := 400000) only [go_sem, AV.bel, belL, nblt, simprocAttr]
 · simp (maxSteps := 400000) only [go_sem, tA, tWt, Int.natCast_zero, AV.bel, belL, nblt, simprocAttr]
 dsimp only [TL4]
 have hA := tA_rng k
 have hok := tmK_ok s hs.1 k hlt
 have c1 : decide ((k : Int) < 8) = true := decide_eq_true (by omega)
 have c2 : decide (0 ≤ (k : Int) ∧ (k : Int) < 8) = true := decide_eq_true (by omega)
 have hix : L[k]? = some (.i .i64 (tA k)) := by
  rw [hL]
  obtain rfl | rfl | rfl | rfl | rfl | rfl | rfl | rfl : k = 0 ∨ k = 1 ∨ k = 2 ∨ k = 3 ∨ k = 4 ∨ k = 5 ∨ k = 6 ∨ k = 7 := by omega
  all_goals rfl
 have hLb : belL 0 L = true := by rw [hL]; rfl
 have hLb1 : belL 1 L = true := by rw [hL]; rfl
 clear hL
 have w1 : IntKind.i64.wrap (s + tA k) = s + tA k := wrapL (by omega) (by omega)
 have w2 : IntKind.i64.wrap (s + tA k - 1) = s + tA k - 1 := wrapL (by omega) (by omega)
 have htm : e.tmod 400 = e % 400 := Int.tmod_eq_emod_of_nonneg he.1
 have hm : 0 ≤ e % 400 ∧ e % 400 < 400 := by omega
 generalize e % 400 = r at *
 have w3 : IntKind.i64.wrap (s + tA k - 1 - r) = s + tA k - 1 - r := wrapL (by omega) (by omega)
 have d1 : dueT (tmK s k) (s + tA k - 1 - r) = (false, 0) := due_no hok (by omega) (by simp only [tmK]; omega)
 have d2 : dueT (tmK s k) (s + tA k) = (true, 0) := due_yes hok (by omega) (by simp only [tmK]; omega) (by simp only [tmK]; omega)
 have d3 : againS (tmK s k) (s + tA k - 1) = (zTm, 8) := again_no (due_no hok (by omega) (by simp only [tmK]; omega))
 have q1 : ∀ (h : Hp) n, k10 [.agg [.i .i64 (s + tA k), .i .i64 (tWt k), .i .i64 ((k : Int) + 1)], .i .i64 (s + tA k - 1 - r)] h n = some (true, { v := .tup [.b false, .i .i64 0], n }) := fun h n => by
  show some (true, ({ v := duV (dueT (tmK s k) _), n } : Eff)) = _
  rw [d1]; rfl
 have q2 : ∀ (h : Hp) n, k10 [.agg [.i .i64 (s + tA k), .i .i64 (tWt k), .i .i64 ((k : Int) + 1)], .i .i64 (s + tA k)] h n = some (true, { v := .tup [.b true, .i .i64 0], n }) := fun h n => by
  show some (true, ({ v := duV (dueT (tmK s k) _), n } : Eff)) = _
  rw [d2]; rfl
 have q3 : ∀ (h : Hp) n, k11 [.agg [.i .i64 (s + tA k), .i .i64 (tWt k), .i .i64 ((k : Int) + 1)], .i .i64 (s + tA k - 1)] h n = some (true, { v := .tup [.agg [.i .i64 0, .i .i64 0, .i .i64 0], .i .i64 8], n }) := fun h n => by
  show some (true, ({ v := tmV (againS (tmK s k) _), n } : Eff)) = _
  rw [d3]; rfl
 by_cases h7 : k = 7
 · have d4 : againS (tmK s k) (s + tA k) = (zTm, 4) := again_end d2 (by rw [beq_iff_eq]; simp only [tmK]; omega)
   have q4 : ∀ (h : Hp) n, k11 [.agg [.i .i64 (s + tA k), .i .i64 (tWt k), .i .i64 ((k : Int) + 1)], .i .i64 (s + tA k)] h n = some (true, { v := .tup [.agg [.i .i64 0, .i .i64 0, .i .i64 0], .i .i64 4], n }) := fun h n => by
    show some (true, ({ v := tmV (againS (tmK s k) _), n } : Eff)) = _
    rw [d4]; rfl
   have c3 : ((k : Int) == 7) = true := by rw [beq_iff_eq]; omega
   simp (maxSteps := 400000) only [go_sem, c1, c2, hix, ws, we, w1, w2, w3, htm, q1, q2, q3, q4, c3, Nat.mul_one, simprocAttr]
   exact Ends.pureE rfl rfl
 · have hlt7 : k < 7 := by omega
   have d4 : againS (tmK s k) (s + tA k) = (tmK s (k + 1), 0) := by
    rw [again_yes d2 (by rw [beq_eq_false_iff_ne]; simp only [tmK]; omega)]
    have := tmK_next s k hlt7
    rw [← this]; rfl
   have q4 : ∀ (h : Hp) n, k11 [.agg [.i .i64 (s + tA k), .i .i64 (tWt k), .i .i64 ((k : Int) + 1)], .i .i64 (s + tA k)] h n = some (true, { v := .tup [.agg [.i .i64 (s + tA (k + 1)), .i .i64 (tWt (k + 1)), .i .i64 ((k : Int) + 1 + 1)], .i .i64 0], n }) := fun h n => by
    show some (true, ({ v := tmV (againS (tmK s k) _), n } : Eff)) = _
    rw [d4]; rfl
   have hok2 := tmK_ok s hs.1 (k + 1) (by omega)
   have q5 : ∀ (h : Hp) n, k12 [.agg [.i .i64 (s + tA (k + 1)), .i .i64 (tWt (k + 1)), .i .i64 ((k : Int) + 1 + 1)]] h n = some (true, { v := .i .i64 0, n }) := fun h n => by
    show some (true, ({ v := .i .i64 (if tmB (tmK s (k + 1)) then 0 else 192), n } : Eff)) = _
    rw [hok2]; rfl
   have c3 : ((k : Int) == 7) = false := by rw [beq_eq_false_iff_ne]; omega
   have w5 : IntKind.i64.wrap ((k : Int) + 1) = (k : Int) + 1 := wrapL (by omega) (by omega)
   have w6 : IntKind.i64.wrap ((k : Int) + 1 + 1) = (k : Int) + 1 + 1 := wrapL (by omega) (by omega)
   have c4 : ((k : Int) + 1 + 1 != (k : Int) + 1 + 1) = false := by simp
   have c5 : ((k + 1 : Nat) : Int) = (k : Int) + 1 := by omega
   rw [c5]
   simp (maxSteps := 400000) only [go_sem, c1, c2, hix, ws, we, w1, w2, w3, w5, w6, htm, q1, q2, q3, q4, q5, c3, c4, Nat.mul_one, AV.bel, belL, nblt, hLb1, simprocAttr]
   exact ⟨by omega, by omega⟩
end Go.Proofs.Fld
