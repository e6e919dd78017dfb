/- The walk of ResendKnown, the whole. -/
import Derived.Test.YthnmkedknannhaaResL5
namespace Go.Proofs.Res
open Go.Ab
set_option maxRecDepth 100000
set_option maxHeartbeats 4000000
set_option linter.unusedSimpArgs false
set_option linter.unusedVariables false

theorem envIn_put {m t : Nat} {v : AV} {e : Env} : ∀ {E : Env}, (E.all fun p => !(Nat.beq t p.1)) = true → EnvIn m e E → EnvIn m ((t, v) :: e) E
  | [], _, _ => trivial
  | (b, x) :: r, h, hE => by
    simp only [List.all_cons, Bool.and_eq_true] at h
    obtain ⟨h1, h2, h3⟩ := hE
    have hb : Nat.beq t b = false := by have := h.1; simpa using this
    refine ⟨?_, h2, envIn_put h.2 h3⟩
    simp only [eget, hb]
    exact h1
theorem w5 : FTL Try.prog 5 [] [] 0 (.b true) [] 0 := by
  have hcode : dropS 18 i5.code = .seq (.seq (.reg i5r27) (.block 2 (.loop i5l31))) (dropS 19 i5.code) := rfl
  refine FTL.of_seam (cx := cxT T5K) Try.func5 i5_eq (by simp [i5]) ?_
  refine Seam.start (F := ⟨Try.prog, cxT T5K, i5.ct, i5.N, 0⟩) run5_ok 18 134 E5 [(133, { cells := (wf 0).a }), (121, B5)] pre5 (fun e' h' n' he hh => ?_)
  rw [hcode]
  generalize hrest : dropS 19 i5.code = rest
  refine Seam.part hT5K mo ?_
  simp (config := { maxSteps := 400000 }) only [go_sem, simprocAttr]
  refine Loop.countI (F := ⟨Try.prog, cxT T5K, i5.ct, i5.N, 0⟩) hT5K mo 999 (fun _ => True) E5k (fun k => [(133, { cells := (wf k).a }), (121, B5)]) 134 (by decide) trivial ?_ ?_ (fun k hk _ => ?_)
  · exact ⟨rfl, rfl, envIn_put (by decide) he⟩
  · exact hh
  have hb5 : belL 134 B5.cells = true := by decide
  by_cases hlt : k < 999
  · have c1 : decide (3 + (k : Int) ≤ 1001) = true := decide_eq_true (by omega)
    have hw : IntKind.i64.wrap (3 + (k : Int) + 1) = 3 + ((k + 1 : Nat) : Int) := by rw [wrapL (by omega) (by omega)]; omega
    have hwa := wsA_a (wf k)
    have hl : decide ((wf k).l.length ≤ 1000000000000) = true := rfl
    have hk23 : ∀ (h : Hp) n, k23 [.agg (wf k).a, .i .i64 0, .i .i64 (3 + (k : Int))] h n = some (true, { v := .agg (wf (k + 1)).a, n }) := fun h n => by
      simp only [k23, hwa, Option.bind_some, hl, wf_s k hlt]
    have e1 : (wf k).a = [.i .i64 0, .b true, .i .i64 (2 + (k : Int)), .fz (rows Wt.l [⟨1, 0, 0, 0⟩]) 1] := rfl
    have e2 : (wf (k + 1)).a = [.i .i64 0, .b true, .i .i64 (2 + ((k + 1 : Nat) : Int)), .fz (rows Wt.l [⟨1, 0, 0, 0⟩]) 1] := rfl
    rw [e1, e2] at hk23
    simp only [e1, e2]
    dsimp only [T5K, i5]
    clear hh he hcode hrest hwa e1 e2
    generalize B5 = b5 at *
    simp (config := { maxSteps := 400000 }) only [go_sem, E5k, E5, c1, hk23, hw, hlt, hb5, wrB, AV.bel, belL, nblt, simprocAttr]
  · have c1 : decide (3 + (k : Int) ≤ 1001) = false := decide_eq_false (by omega)
    obtain rfl : k = 999 := by omega
    dsimp only [T5K, i5]
    clear hh he
    generalize hb : B5 = b5 at *
    generalize hw9 : (wf 999).a = w9 at *
    simp (config := { maxSteps := 400000 }) only [go_sem, E5k, E5, c1, simprocAttr]
    rw [← hb, ← hw9, ← hrest]
    refine Seam.stop (F := ⟨Try.prog, cxT T5K, i5.ct, i5.N, 0⟩) run5_ok (v := .b true) ?_ (fun h' n' => Ends.pureE rfl rfl)
    kernel_rfl
end Go.Proofs.Res
