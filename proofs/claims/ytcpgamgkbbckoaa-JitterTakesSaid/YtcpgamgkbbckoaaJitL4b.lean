/- JitterTakes: the walk (works' contract is a premise here). -/
import Derived.Test.YtcpgamgkbbckoaaJitL4
import Derived.Test.YtcpgamgkbbckoaaJitKT
namespace Go.Proofs.Jit
open Go.Ab
set_option maxRecDepth 100000
set_option maxHeartbeats 4000000
set_option linter.unusedSimpArgs false
set_option linter.unusedVariables false
theorem few_gd {b : Bf} (h : FinL b.l) (hg : b.rg = true) : GdB (fewS b) := ⟨fun x hx => h x (List.mem_of_mem_take hx), hg, by
 show (b.l.take 66).length ≤ 9223372036854775807
 rw [List.length_take]; omega⟩
theorem bufS_gd (d : Dj) : GdB (bufS d) := ⟨bufS_fin d, rn_rg (bufS_rn d), by have := (bufS_inv d).2; omega⟩
theorem bendS_gd {x : Bx} {b : Bf} (hx : r64 x.n = true) (hb : GdB b) : GdB (bendS x b) := ⟨bendL_fin x hb.1, bendS_rg hx hb.2.1, by
 have := bendL_len x b.l
 have := hb.2.2
 show (bendL x b.l).length ≤ 9223372036854775807
 omega⟩
theorem w4 (h20 : SoundAt Try.prog 20 k20) (d : Dj) (x0 x1 : Bx) (raw : Bf) (now wait : Int) (hd : DjOK d = true) (h0 : x0.okB = true) (h1 : x1.okB = true) (r0 : r64 x0.n = true) (r1 : r64 x1.n = true) (hrf : FinL raw.l) (hrg : raw.rg = true) (hr : raw.l.length ≤ 9223372036854775807) :
 FTL Try.prog 4 [.agg d.l, .agg (x0.a ++ x1.a), .agg raw.a, .i .i64 now, .i .u16 wait] [] 0 (.b true) [] 0 := by
 have hT : Sound Try.prog (cxT ((20, k20) :: T4)) := Sound.cons h20 hT4
 have hk11 : ∀ (h : Hp) n, k11 [.agg d.l, .agg (x0.a ++ x1.a), .agg raw.a] h n = some (true, { v := .agg ((bufS d).a ++ ((bendS x0 (bufS d)).a ++ ((bendS x1 (bendS x0 (bufS d))).a ++ (fewS raw).a))), n }) := fun h n => by
  have d2 : decide (raw.l.length ≤ 9223372036854775807) = true := decide_eq_true hr
  show (dj5 d.l).bind (fun d => (bx3 x0.a).bind fun x0 => (bx3 x1.a).bind fun x1 => (bfA raw.a).bind fun raw => _) = _
  simp only [dj5_l, bx3_a, bfA_a, Option.bind_some, hd, h0, h1, d2, Bool.and_self]
 have g0 := bufS_gd d
 have g1 := bendS_gd r0 g0
 have g2 := bendS_gd r1 g1
 have g3 := few_gd hrf hrg
 generalize bendS x1 (bendS x0 (bufS d)) = B2 at *
 generalize bendS x0 (bufS d) = B1 at *
 generalize bufS d = B0 at *
 generalize fewS raw = B3 at *
 have hAb : ∀ j, belL j (B0.a ++ (B1.a ++ (B2.a ++ B3.a))) = true := fun j => by simp only [belL_append, Bf.bel', Bool.and_self]
 have hAl : (B0.a ++ (B1.a ++ (B2.a ++ B3.a))).length = 44 := rfl
 have hA4 : ∀ k, k < 4 → ∃ b, List.take 11 (List.drop (k * 11) (B0.a ++ (B1.a ++ (B2.a ++ B3.a)))) = b.a ∧ GdB b := fun k hk => by
  rcases (by omega : k = 0 ∨ k = 1 ∨ k = 2 ∨ k = 3) with rfl | rfl | rfl | rfl
  · exact ⟨B0, rfl, g0⟩
  · exact ⟨B1, rfl, g1⟩
  · exact ⟨B2, rfl, g2⟩
  · exact ⟨B3, rfl, g3⟩
 generalize B0.a ++ (B1.a ++ (B2.a ++ B3.a)) = A at *
 have out := fun (K : Kont) (e : Env) (h : Hp) (n : Nat) => @outer4 now wait A hAb hAl hA4 K e h n
 have hdl : d.l.length = 5 := rfl
 obtain ⟨ck, ⟨sq, tm, fr⟩, ev⟩ := d
 obtain ⟨e0, e1, e2, e3, e4, e5, e6, e7, e8, e9, e10⟩ := raw
 obtain ⟨u0, u1, u2⟩ := x0
 obtain ⟨v0, v1, v2⟩ := x1
 simp only [Bf.a, Bx.a, Dj.l, List.cons_append, List.nil_append] at hk11 ⊢
 refine FTL.of_iw hT mo Try.func4 i4_eq (by simp [i4]) (iw_of_jw ?_)
 dsimp only [i4, T4]
 simp (maxSteps := 400000) only [go_sem, hk11, simprocAttr]
 refine out _ _ _ _ ?_ ?_ (fun e' => ?_)
 · simp (maxSteps := 400000) only [go_sem, hAb, AV.bel, belL, nblt, simprocAttr]
 · simp (maxSteps := 400000) only [go_sem, simprocAttr]
 · simp (maxSteps := 400000) only [go_sem, k20, simprocAttr]
   exact Ends.pureE rfl rfl
end Go.Proofs.Jit
