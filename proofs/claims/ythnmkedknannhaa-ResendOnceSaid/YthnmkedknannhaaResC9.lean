/- The contract of Saw, the whole. -/
import Derived.Test.YthnmkedknannhaaResCc
namespace Go.Proofs.Res
open Go.Ab
set_option maxRecDepth 100000
set_option maxHeartbeats 4000000
set_option linter.unusedSimpArgs false
set_option linter.unusedVariables false
theorem chk_sq {at_ tp : Int} : ∀ {l : List Wt} {last : Int}, chk at_ tp last l = true → ∀ x ∈ l, wantB x at_ = true
 | [], _, _, x, hx => by cases hx
 | y :: r, last, h, x, hx => by
  simp only [chk, Bool.and_eq_true] at h
  rcases List.mem_cons.1 hx with rfl | hx
  · exact h.1
  · exact chk_sq h.2.2 x hx
abbrev i13u : ICode := (.seq (.reg i13r14) (.seq (.reg i13r15) (.seq (.seq (.reg i13r16) (.block 0 (.rfunc (.t 52) [53] i13a19 i13b19))) i13t)))
theorem mid13 (ti tp tp' now seq d : Int) (l : List Wt) (hl : l.length ≤ 64) (hsq : ∀ x ∈ l, inI 0 65535 x.sq = true) (hd : d ≤ 64) (hd0 : -40000 ≤ d) (ht : inI 0 65535 tp = true) (R : Ws × Int)
 (hR : R = bif decide (64 < (keepL seq tp d l ++ missS tp d now).length) then (zW, 3) else (⟨now, true, tp', keepL seq tp d l ++ missS tp d now⟩, 0)) (e : Env) (he3 : eget e 3 = some (.p 0 0)) (he4 : eget e 4 = some (.p 1 0)) (he5 : eget e 5 = some (.p 2 0)) (he6 : eget e 6 = some (.p 3 0)) (he9 : eget e 9 = some (.p 4 0)) (he10 : eget e 10 = some (.p 5 0)) :
 Seam FS i13u (retK [.c 6 true 4, .t 7] fun v h' n' => CovS 0 v h' n' (rsV R) [] 0) e
  [(5, { cells := int1 tp }), (4, { cells := int1 d }), (3, { cells := [.i .i64 0, .b false, .i .i64 0, .ns] }), (2, { cells := int1 seq }), (1, { cells := int1 now }), (0, { cells := [.i .i64 ti, .b true, .i .i64 tp', .fz (rows Wt.l l) l.length] })] 6 := by
 have hdi : inI (-40000) 40000 d = true := inI_of (by omega)
 have hu := wt4_un l
 have hk := fun hv => rf13 ti tp' now tp d (.sg 5 0 (keepL seq tp d l).length) (lG 5 (keepL seq tp d l)) (keepL seq tp d l) (Nat.le_trans (List.length_filter_le _ _) (by omega)) hd hd0 ht hv R hR
 have hz := fun hl0 => rf13 ti tp' now tp d .ze [] (keepL seq tp d l) (Nat.le_trans (List.length_filter_le _ _) (by omega)) hd hd0 ht (.inl ⟨rfl, rfl, hl0⟩) R hR
 refine Seam.part hT10 mo ?_
 dsimp only [FS]
 simp (maxSteps := 400000) only [go_sem, he5, he10, he9, simprocAttr]
 refine Seam.part hT10 mo ?_
 dsimp only [FS, T10]
 have hall : l.all (fun x => inI 0 65535 x.sq) = true := List.all_eq_true.2 hsq
 have hlm : decide (l.length ≤ 1000000000) = true := decide_eq_true (by omega)
 cases l with
 | nil =>
  have hz := hz rfl
  have h57 : ∀ (h : Hp) n, k57 [.fz (rows Wt.l []) 0] h n = some (true, { v := .ze, n }) := fun _ _ => rfl
  simp (maxSteps := 400000) only [go_sem, he3, he5, he10, he9, h57, k56, int1, oneB, ht, hdi, simprocAttr]
  refine Seam.seq ?_
  refine Seam.part hT10 mo ?_
  try dsimp only [FS, T10]
  simp (maxSteps := 400000) only [go_sem, he3, he4, he5, he6, he10, he9, k58, int1, simprocAttr]
  refine Seam.ren [(2, 3), (3, 6), (4, 7)] hz (by decide) (by decide) ?_ ?_
  · simp (maxSteps := 400000) only [go_sem, he3, he4, he6, AV.ren, renL, AV.bel, belL, nblt, simprocAttr]
  · simp (maxSteps := 400000) only [go_sem, hS, int1, Blk.ren, AV.ren, renL, AV.bel, belL, nblt, wrB, wrR, simprocAttr]
 | cons x r =>
  simp only [List.length_cons] at hu hl hlm
  have hrl : decide (r.length ≤ 1000000000) = true := decide_eq_true (by omega)
  have h57 : ∀ (h : Hp) n, k57 [.fz (rows Wt.l (x :: r)) (r.length + 1)] h n = some (decide (r.length ≤ 1000000000), { v := .sg n 0 (r.length + 1), n := n + 1, nw := [(n, { cells := rows Wt.l (x :: r), gr := some 4 })] }) := fun h n => by
   simp only [k57, hu, Option.bind_some]
  simp (maxSteps := 400000) only [go_sem, he3, he5, he10, he9, h57, hu, hrl, k56, int1, oneB, ht, hdi, hall, hlm, simprocAttr]
  refine andB_i (decide_eq_true (by omega)) ?_
  refine Seam.seq ?_
  refine Seam.part hT10 mo ?_
  try dsimp only [FS, T10]
  simp (maxSteps := 400000) only [go_sem, he3, he4, he5, he6, he10, he9, k58, int1, simprocAttr]
  refine Seam.ren [(2, 3), (3, 11), (4, 12), (5, 6)] (hk (.inr ⟨rfl, rfl⟩)) (by decide) (by decide) ?_ ?_
  · simp (maxSteps := 400000) only [go_sem, he3, he4, he6, AV.ren, renL, AV.bel, belL, nblt, simprocAttr]
  · simp (maxSteps := 400000) only [go_sem, hS, lG, int1, Blk.ren, AV.ren, renL, AV.bel, belL, nblt, wrB, wrR, simprocAttr]
theorem w13 (w : Ws) (now seq : Int) (hl : w.l.length ≤ 1000000000000) : FTL Try.prog 13 [.agg w.a, .i .i64 now, .i .i64 seq] [] 0 (rsV (sawS w now seq)) [] 0 := by
 have hwa := wsA_a w
 have hll : decide (w.l.length ≤ 1000000000000) = true := decide_eq_true hl
 have hgd : lateS w now = 0 → goodB w = true := fun h => by
  unfold lateS at h
  cases hg : goodB w
  · rw [hg] at h; simp at h
  · rfl
 generalize hR : sawS w now seq = R
 unfold sawS sawL at hR
 have hlt : lateS w now = lateS w now := rfl
 generalize hL : lateS w now = E at hR hgd
 obtain ⟨ti, st, tp, l⟩ := w
 dsimp only at hR hl hll
 simp only [Ws.a] at hwa ⊢
 refine FTL.of_seamC (cx := cxT T10) Try.func13 i13_eq (by simp [i13]) ?_
 dsimp only [i13]
 refine Seam.part hT10 mo ?_
 simp (maxSteps := 400000) only [go_sem, simprocAttr]
 refine Seam.part hT10 mo ?_
 dsimp only [T10]
 by_cases hE : E = 0
 rotate_left
 · have e1 : (E != 0) = true := by simp [bne, hE]
   rw [if_neg hE] at hR
   simp (maxSteps := 400000) only [go_sem, k54, hwa, hll, hL, e1, simprocAttr]
   rw [← hR]
   exact cov_n
 have hg := hgd hE
 subst hE
 rw [if_pos rfl] at hR
 have e1 : ((0 : Int) != 0) = false := rfl
 simp (maxSteps := 400000) only [go_sem, k54, hwa, hll, hL, e1, simprocAttr]
 refine Seam.part hT10 mo ?_
 try dsimp only [T10]
 cases a1 : inI 0 65535 seq
 · rw [a1] at hR
   simp (maxSteps := 400000) only [go_sem, k49, a1, simprocAttr]
   rw [← hR]
   exact cov_n
 rw [a1] at hR
 simp (maxSteps := 400000) only [go_sem, k49, a1, simprocAttr]
 refine Seam.part hT10 mo ?_
 try dsimp only [T10]
 cases st
 · simp (maxSteps := 400000) only [go_sem, simprocAttr]
   rw [← hR]
   exact cov_n
 simp (maxSteps := 400000) only [go_sem, simprocAttr]
 have hhd : headB ⟨ti, true, tp, l⟩ = true ∧ chk ti tp (-1001) l = true := by
  simp only [goodB, Bool.and_eq_true] at hg; exact hg
 obtain ⟨_, a2, hl64⟩ := headB_t hhd.1
 have hsq : ∀ x ∈ l, inI 0 65535 x.sq = true := fun x hx => wantB_sq (chk_sq hhd.2 x hx)
 dsimp only at a2 hl64
 refine Seam.part hT10 mo ?_
 try dsimp only [T10]
 simp (maxSteps := 400000) only [go_sem, k51, a1, a2, simprocAttr]
 have hrg := lead_rng seq tp
 generalize lead seq tp = d at hR hrg
 refine Seam.part hT10 mo ?_
 try dsimp only [T10]
 cases a3 : decide (d > 64)
 rotate_left
 · rw [a3] at hR
   simp (maxSteps := 400000) only [go_sem, a3, simprocAttr]
   rw [← hR]
   exact cov_n
 rw [a3] at hR
 have hd := of_decide_eq_false a3
 simp (maxSteps := 400000) only [go_sem, a3, simprocAttr]
 refine Seam.part hT10 mo ?_
 try dsimp only [T10]
 simp (maxSteps := 400000) only [go_sem, simprocAttr]
 refine Seam.part hT10 mo ?_
 try dsimp only [T10]
 have mid := fun tp' hh => mid13 ti tp tp' now seq d l hl64 hsq (by omega) (by omega) a2 R hh
 by_cases a4 : d > 0
 · have a4' : decide (d > 0) = true := decide_eq_true a4
   rw [if_pos a4] at hR
   simp (maxSteps := 400000) only [go_sem, a4', simprocAttr]
   exact mid seq hR.symm _ rfl rfl rfl rfl rfl rfl
 · have a4' : decide (d > 0) = false := decide_eq_false a4
   rw [if_neg a4] at hR
   simp (maxSteps := 400000) only [go_sem, a4', simprocAttr]
   exact mid tp hR.symm _ rfl rfl rfl rfl rfl rfl
end Go.Proofs.Res
