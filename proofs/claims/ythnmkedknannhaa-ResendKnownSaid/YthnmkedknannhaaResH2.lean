/- The walk of histories. -/
import Derived.Test.YthnmkedknannhaaResH
namespace Go.Proofs.Res
open Go.Ab
set_option maxRecDepth 100000
set_option maxHeartbeats 4000000
set_option linter.unusedSimpArgs false
set_option linter.unusedVariables false
structure Is5 (C : List AV) : Prop where
  sh : ∃ a b c d X, C = [.i .i64 a, .i .i64 b, .i .i64 c, .i .i64 d, X] ∧ (X = .ns ∨ ∃ L m, X = .fz L m)
  bel : belL 0 C = true
noncomputable def TH : List (Nat × Ct) := [(32, k32), (33, k33o), (34, k34)]
theorem hTH : Sound Try.prog (cxT TH) := Sound.cons s32 (Sound.cons s33o (Sound.cons s34 Sound.nil))
noncomputable abbrev FH : Fx := ⟨Try.prog, cxT TH, i26.ct, i26.N, 0⟩
theorem is5_next {k : Nat} {C C' : List AV} (h : stepH k C = some C') : Is5 C' ∧ o33 [.agg C, .i .i64 0, .agg (pkC k)] = some (.tup [.agg C', .i .i64 0]) ∧ belL 0 C = true := by
  unfold stepH at h
  split at h
  · rename_i a b c d L m e ho
    cases hb : (e == 0 && (belL 0 L && belL 0 C))
    · rw [hb] at h; cases h
    · rw [hb] at h
      cases h
      simp only [Bool.and_eq_true, beq_iff_eq] at hb
      obtain ⟨rfl, h1, h2⟩ := hb
      exact ⟨⟨⟨a, b, c, d, _, rfl, .inr ⟨L, m, rfl⟩⟩, by simp only [belL, AV.bel, h1, Bool.and_self]⟩, ho, h2⟩
  · cases h
theorem w26 : FTL Try.prog 26 [] [] 0 (.b true) [] 0 := by
  have hCF := chkF_eq goH_F
  refine FTL.of_seam (cx := cxT TH) Try.func26 i26_eq (by simp [i26]) ?_
  dsimp only [i26]
  refine Seam.part hTH mo ?_
  try dsimp only [TH]
  simp (config := { maxSteps := 400000 }) only [go_sem, simprocAttr]
  refine Seam.part hTH mo ?_
  try dsimp only [TH]
  simp (config := { maxSteps := 400000 }) only [go_sem, k32, simprocAttr]
  refine Seam.part hTH mo ?_
  try dsimp only [TH]
  simp (config := { maxSteps := 400000 }) only [go_sem, simprocAttr]
  refine Loop.by (F := ⟨Try.prog, cxT TH, [42, 52], 242, 0⟩) hTH mo (X := Nat × List AV) (fun x => x.1 ≤ 65 ∧ goH (65 - x.1) x.1 x.2 = some CF ∧ Is5 x.2) (fun x => 65 - x.1)
    (fun x => [(1, .p 0 0), (2, .i .i64 0), (41, .i .i64 (x.1 : Int))]) (fun x => [(0, { cells := x.2 })]) 1 (0, C0) (by decide) ⟨by decide, hCF, ⟨⟨_, _, _, _, _, rfl, .inl rfl⟩, rfl⟩⟩ ?_ ?_ (fun x hx => ?_)
  · simp (config := { maxSteps := 400000 }) only [go_sem, AV.bel, belL, nblt, simprocAttr]
  · simp (config := { maxSteps := 400000 }) only [go_sem, C0, AV.bel, belL, nblt, simprocAttr]
  obtain ⟨k, C⟩ := x
  obtain ⟨hk, hgo, h5⟩ := hx
  dsimp only at hk hgo h5 ⊢
  try dsimp only [TH]
  by_cases hlt : k < 65
  · have c1 : decide ((k : Int) < 65) = true := decide_eq_true (by omega)
    have c2 : decide (0 ≤ (k : Int) ∧ (k : Int) < 65) = true := decide_eq_true (by omega)
    have hw : IntKind.i64.wrap ((k : Int) + 1) = ((k + 1 : Nat) : Int) := by rw [wrapL (by omega) (by omega)]; omega
    rw [show 65 - k = (65 - (k + 1)) + 1 by omega, goH_s] at hgo
    simp only [Option.bind_eq_some_iff] at hgo
    obtain ⟨C', hs, hgo⟩ := hgo
    obtain ⟨h5', ho, hb⟩ := is5_next hs
    have hpb : belL 0 [AV.agg C, .i .i64 0, .agg (pkC k)] = true := by simp only [belL, AV.bel, hb, pkC, Bool.and_self]
    have hvb : (AV.tup [.agg C', .i .i64 0]).bel 0 = true := by simp only [belL, AV.bel, h5'.bel, Bool.and_self]
    have hk33 : ∀ (h : Hp) n, k33o [.agg C, .i .i64 0, .agg (pkC k)] h n = some (true, { v := .tup [.agg C', .i .i64 0], n }) := fun h n => by
      simp only [k33o, ho, Option.bind_some, hpb, hvb, Bool.and_self]
    obtain ⟨⟨a, b, c, d, X, rfl, hX⟩, hbC⟩ := h5
    have h5c := h5'
    obtain ⟨⟨a', b', c', d', X', rfl, hX'⟩, hbC'⟩ := h5'
    have hXb : ∀ j, X'.bel j = true := fun j => by
      simp only [belL, Bool.and_eq_true] at hbC'
      exact AV.bel_mono0 _ hbC'.2.2.2.2.1
    generalize hpk : pkC k = pk at *
    have hlt' : k + 1 ≤ 65 ∧ 65 - (k + 1) < 65 - k := by omega
    rcases hX' with rfl | ⟨L', m', rfl⟩ <;> rcases hX with rfl | ⟨L, m, rfl⟩
    all_goals
      simp (config := { maxSteps := 400000 }) only [go_sem, k34, c1, c2, hpk, hk33, hw, hXb, AV.bel, belL, nblt, simprocAttr]
      exact ⟨(k + 1, _), ⟨⟨hlt'.1, hgo, h5c⟩, hlt'.2⟩, rfl, rfl, belL_mono0 _ h5c.bel⟩
  · have c1 : decide ((k : Int) < 65) = false := decide_eq_false (by omega)
    obtain rfl : k = 65 := by omega
    have hgo : some C = some CF := hgo
    cases hgo
    simp (config := { maxSteps := 400000 }) only [go_sem, c1, simprocAttr]
    refine Seam.stop (run := runM hM10 TK2 10000) (runM_ok mo hM10_ok TK2_valid 10000) (v := .b true) ?_ (fun h' n' => Ends.pureE rfl rfl)
    kernel_rfl
def k26 : Ct
  | [], _, n => some (true, { v := .b true, n })
  | _, _, _ => none
theorem s26 : SoundAt Try.prog 26 k26 := fun args h n c E hc ht => by
  unfold k26 at hc
  split at hc
  · cases hc
    exact CallOK.pure (by kernel_rfl) rfl rfl w26 _ _
  · cases hc
end Go.Proofs.Res
