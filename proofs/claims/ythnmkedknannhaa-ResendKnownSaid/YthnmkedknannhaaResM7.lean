/- Contracts of start, old and Keep. -/
import Derived.Test.YthnmkedknannhaaResM6
namespace Go.Proofs.Res
open Go.Ab
set_option maxRecDepth 100000
set_option maxHeartbeats 4000000
set_option linter.unusedSimpArgs false
set_option linter.unusedVariables false

def finH (h : Hs) : Bool := h.l.all (fun x => x.p.fin)
def lateH (h : Hs) (now : Int) : Int := bif goodH h then (bif inI h.ti 1099511627776 now then 0 else 2) else 281
theorem lateH_0 {h : Hs} {now : Int} (e : lateH h now = 0) : goodH h = true ∧ inI h.ti 1099511627776 now = true := by
  unfold lateH at e
  cases hg : goodH h
  · rw [hg] at e; simp at e
  · cases hi : inI h.ti 1099511627776 now
    · rw [hg, hi] at e; simp at e
    · exact ⟨rfl, rfl⟩
theorem goodH_len {h : Hs} (e : goodH h = true) : h.l.length ≤ 64 := by
  simp only [goodH, headH, Bool.and_eq_true, decide_eq_true_eq] at e
  exact e.1.2.2
/-! start -/
def TM67 : List (Nat × Ct) := [(35, k35), (49, k49), (92, k92)]
theorem hTM67 : Sound Try.prog (cxT TM67) := Sound.cons s35 (Sound.cons s49 (Sound.cons s92 Sound.nil))
theorem w67e (h : Hs) (now : Int) (hl : h.l.length ≤ 1000000000000) (hf : finH h = true) (he : lateH h now ≠ 0) : FTL Try.prog 67 [.agg h.a, .i .i64 now] [] 0 (.tup [.np, .i .i64 (lateH h now)]) [] 0 := by
  have hha := hsA_a h
  have hll : decide (h.l.length ≤ 1000000000000) = true := decide_eq_true hl
  unfold finH at hf
  have hk : ∀ (hp : Hp) n, k35 [.agg h.a] hp n = some (true, { v := .i .i64 (if goodH h then 0 else 281), n }) := fun hp n => by simp only [k35, hha, Option.bind_some, hll, hf, Bool.and_self]
  have hR : lateH h now = bif goodH h then (bif inI h.ti 1099511627776 now then 0 else 2) else 281 := rfl
  generalize lateH h now = R at *
  generalize goodH h = g at *
  obtain ⟨ti, ss, ty, nx, l⟩ := h
  dsimp only at hR
  simp only [Hs.a] at hk ⊢
  refine FTL.of_iw hTM67 mo Try.func67 i67_eq (by simp [i67]) (iw_of_jw ?_)
  dsimp only [i67, TM67]
  cases g
  · simp only [Bool.false_eq_true, if_false] at hk
    simp (config := { maxSteps := 400000 }) only [go_sem, hk, simprocAttr]
    exact Ends.pureE rfl (by rw [hR]; rfl)
  · simp only [if_true] at hk
    cases a1 : inI ti 1099511627776 now
    · rw [a1] at hR
      simp (config := { maxSteps := 400000 }) only [go_sem, hk, k49, a1, simprocAttr]
      exact Ends.pureE rfl (by rw [hR]; rfl)
    · exact absurd (by rw [hR, a1]; rfl) he
/-- What start hands out. -/
def stC0 (h : Hs) (now : Int) (v : AV) : List AV := [.i .i64 now, .i .i64 h.ss, .i .i64 h.ty, .i .i64 h.nx, v]
theorem w67n (h : Hs) (now : Int) (h0 : h.l = []) (he : lateH h now = 0) : FTL Try.prog 67 [.agg h.a, .i .i64 now] [] 0 (.tup [.p 0 0, .i .i64 0]) [(0, { cells := stC0 h now .ze })] 1 := by
  have hha := hsA_a h
  obtain ⟨hg, a1⟩ := lateH_0 he
  have hk : ∀ (hp : Hp) n, k35 [.agg h.a] hp n = some (true, { v := .i .i64 0, n }) := fun hp n => by simp only [k35, hha, Option.bind_some, hg, h0, List.length_nil, List.all_nil, if_true]; rfl
  obtain ⟨ti, ss, ty, nx, l⟩ := h
  dsimp only at h0 a1
  subst h0
  simp only [Hs.a, stC0, List.length_nil] at hk ⊢
  refine FTL.of_iw hTM67 mo Try.func67 i67_eq (by simp [i67]) (iw_of_jw ?_)
  dsimp only [i67, TM67]
  have h92 : ∀ (h : Hp) n, k92 [.fz (rows Kp.l []) 0] h n = some (true, { v := .ze, n }) := fun _ _ => rfl
  simp (config := { maxSteps := 400000 }) only [go_sem, hk, k49, a1, h92, simprocAttr]
  refine Ends.R [(0, 1)] ?_ ?_ ?_ ?_ ?_
  · decide
  · decide
  · simp (config := { maxSteps := 400000 }) only [go_sem, AV.ren, renL, AV.bel, belL, nblt, simprocAttr]
  · simp (config := { maxSteps := 400000 }) only [go_sem, AV.ren, renL, AV.bel, belL, nblt, simprocAttr]
  · simp (config := { maxSteps := 400000 }) only [go_sem, AV.ren, renL, AV.bel, belL, nblt, Blk.ren, simprocAttr]
theorem w67s (h : Hs) (now : Int) (hf : finH h = true) (x : Kp) (r : List Kp) (h0 : h.l = x :: r) (he : lateH h now = 0) : FTL Try.prog 67 [.agg h.a, .i .i64 now] [] 0 (.tup [.p 0 0, .i .i64 0]) [(0, { cells := stC0 h now (.sg 1 0 h.l.length) }), (1, { cells := rows Kp.l h.l, gr := some 11 })] 2 := by
  have hha := hsA_a h
  obtain ⟨hg, a1⟩ := lateH_0 he
  have hl64 := goodH_len hg
  have hll : decide (h.l.length ≤ 1000000000000) = true := decide_eq_true (by omega)
  unfold finH at hf
  have hk : ∀ (hp : Hp) n, k35 [.agg h.a] hp n = some (true, { v := .i .i64 0, n }) := fun hp n => by simp only [k35, hha, Option.bind_some, hg, hll, hf, if_true, Bool.and_self]
  have hu := kp_un h.l
  obtain ⟨ti, ss, ty, nx, l⟩ := h
  dsimp only at h0 a1 hl64 hu
  subst h0
  simp only [Hs.a, stC0] at hk ⊢
  have hrl : decide (r.length ≤ 1000000000) = true := decide_eq_true (by simp at hl64; omega)
  have h92 : ∀ (h : Hp) n, k92 [.fz (rows Kp.l (x :: r)) (x :: r).length] h n = some (true, { v := .sg n 0 (x :: r).length, n := n + 1, nw := [(n, { cells := rows Kp.l (x :: r), gr := some 11 })] }) := fun h n => by
    simp only [k92, hu, Option.bind_some, hrl]; rfl
  generalize x :: r = l at *
  refine FTL.of_iw hTM67 mo Try.func67 i67_eq (by simp [i67]) (iw_of_jw ?_)
  dsimp only [i67, TM67]
  simp (config := { maxSteps := 400000 }) only [go_sem, hk, k49, a1, h92, simprocAttr]
  refine Ends.R [(0, 1), (1, 2)] ?_ ?_ ?_ ?_ ?_
  · decide
  · decide
  · simp (config := { maxSteps := 400000 }) only [go_sem, AV.ren, renL, AV.bel, belL, nblt, simprocAttr]
  · simp (config := { maxSteps := 400000 }) only [go_sem, AV.ren, renL, AV.bel, belL, nblt, simprocAttr]
  · simp (config := { maxSteps := 400000 }) only [go_sem, AV.ren, renL, AV.bel, belL, nblt, Blk.ren, krB, krR, simprocAttr]
mutual
theorem inR_of {R : List Nat} : ∀ v : AV, v.bel 0 = true → v.inR R = true
  | .p b _, h => absurd (blt_lt h) (Nat.not_lt_zero _)
  | .sl b _ _ _, h => absurd (blt_lt h) (Nat.not_lt_zero _)
  | .sg b _ _, h => absurd (blt_lt h) (Nat.not_lt_zero _)
  | .fn _ l, h => inRL_of l h
  | .agg l, h => inRL_of l h
  | .tup l, h => inRL_of l h
  | .b _, _ => rfl
  | .i _ _, _ => rfl
  | .s _, _ => rfl
  | .np, _ => rfl
  | .ns, _ => rfl
  | .nf, _ => rfl
  | .ni, _ => rfl
  | .fz l _, h => inRL_of l h
  | .fp l _, h => inRL_of l h
  | .ze, _ => rfl
  | .en, _ => rfl
  | .yl _ _ _ l, h => inRL_of l h
theorem inRL_of {R : List Nat} : ∀ l : List AV, belL 0 l = true → inRL R l = true
  | [], _ => rfl
  | a :: l, h => by
    simp only [belL, Bool.and_eq_true] at h
    simp only [inRL, inR_of a h.1, inRL_of l h.2, Bool.and_self]
end
def k67 : Ct
  | [.agg c, .i .i64 now], _, n => (hsA c).bind fun h => if lateH h now = 0 then (match h.l with
    | [] => some (true, { v := .tup [.p n 0, .i .i64 0], n := n + 1, nw := [(n, { cells := stC0 h now .ze })] })
    | x :: r => some (finH h, { v := .tup [.p n 0, .i .i64 0], n := n + 2, nw := [(n, { cells := stC0 h now (.sg (n + 1) 0 h.l.length) }), (n + 1, { cells := rows Kp.l h.l, gr := some 11 })] }))
    else some (decide (h.l.length ≤ 1000000000000) && finH h, { v := .tup [.np, .i .i64 (lateH h now)], n })
  | _, _, _ => none
theorem s67 : SoundAt Try.prog 67 k67 := fun args h n c E hc ht => by
  unfold k67 at hc
  split at hc
  · rename_i cc now
    simp only [Option.bind_eq_some_iff] at hc
    obtain ⟨hs, hd, hc⟩ := hc
    rw [hsA_eq hd]
    have hb : belL 0 [AV.agg hs.a, AV.i .i64 now] = true := by simp only [belL, AV.bel, Hs.bel, Bool.and_self]
    split at hc
    · rename_i h0
      split at hc
      · rename_i hl
        cases hc
        have := CallOK.new1 (h := h) (n := n) (by kernel_rfl) hb rfl rfl (w67n hs _ hl h0)
        simpa [AV.ren, renL] using this
      · rename_i x r hl
        cases hc
        have hft := w67s hs now ht x r hl h0
        have ha : renL (idx []) [AV.agg hs.a, AV.i .i64 now] = [AV.agg hs.a, AV.i .i64 now] := renL_fix0 _ hb
        rw [← ha] at hft
        refine CallOK.cast (call_sound (args := [AV.agg hs.a, AV.i .i64 now]) (h := h) (n := n) (R := []) (hL := []) (by kernel_rfl) rfl ?_ rfl hft (by decide) ?_) rfl ?_
        · exact inRL_of _ hb
        · simp only [hOK, stC0, belL, AV.bel, krB, roSame, nblt, Bool.and_self, Bool.and_true]
          rfl
        · simp [chi, nwOf, mdOf, stC0, AV.ren, renL, Blk.ren, krR, Nat.blt]
          rfl
    · rename_i h0
      cases hc
      simp only [Bool.and_eq_true, decide_eq_true_eq] at ht
      exact CallOK.pure (by kernel_rfl) hb rfl (w67e hs _ ht.1 ht.2 h0) _ _
  · cases hc
end Go.Proofs.Res
