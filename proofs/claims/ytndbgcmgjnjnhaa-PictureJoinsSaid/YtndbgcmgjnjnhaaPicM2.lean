/- The contract of media.Check. -/
import Derived.Test.YtndbgcmgjnjnhaaPicM1
namespace Go.Proofs.Pic
open Go.Ab
set_option maxRecDepth 100000
set_option maxHeartbeats 4000000
set_option linter.unusedSimpArgs false
set_option linter.unusedVariables false
theorem loop55 (p : Md) (hf : p.fin = true) (pre : Bool) {K : Kont} {e : Env} {h : Hp} {n : Nat}
 (he : EnvIn 1 e [(1, .p 0 0), (3, .b pre), (48, .fz (rows xtR p.xs) p.xs.length), (49, .i .i64 (p.xs.length : Int)), (50, .i .i64 0)])
 (hh : HpIn 1 h [(0, { cells := p.l })]) (hK : ∀ e' h' n', eget e' 3 = some (.b (pre && allN (xtOK p.xs) p.xs.length)) → K (.exit 0) e' h' n') :
 Ab.Loop Try.prog [51, 88] 89 0 i55l7 K e h n := by
 simp only [Md.fin, Bool.and_eq_true, decide_eq_true_eq, List.all_eq_true] at hf
 obtain ⟨⟨⟨_, hxl⟩, hxd⟩, _⟩ := hf
 refine Loop.countI (F := ⟨Try.prog, cxT TM2, [51, 88], 89, 0⟩) hTM2 mo p.xs.length (fun _ => True)
  (fun k => [(1, .p 0 0), (3, .b (pre && allN (xtOK p.xs) k)), (48, .fz (rows xtR p.xs) p.xs.length), (49, .i .i64 (p.xs.length : Int)), (50, .i .i64 (k : Int))])
  (fun k => [(0, { cells := p.l })]) 1 (by decide) trivial (by simpa [allN] using he) hh (fun k hk _ => ?_)
 dsimp only [TM2]
 have hLb : belL 1 p.l = true := belL_mono0 _ p.bel
 have hXb : belL 1 (rows xtR p.xs) = true := belL_mono0 _ (rows_bel xtR_bel)
 have hCb : belL 1 (rows int1 p.cs) = true := belL_mono0 _ (rows_bel int1_bel)
 by_cases hlt : k < p.xs.length
 · have c1 : decide ((k : Int) < (p.xs.length : Int)) = true := decide_eq_true (by omega)
   have c2 : decide (0 ≤ (k : Int) ∧ (k : Int) < (p.xs.length : Int)) = true := decide_eq_true (by omega)
   obtain ⟨x, hx⟩ : ∃ x, p.xs[k]? = some x := ⟨_, List.getElem?_eq_getElem hlt⟩
   have hw : IntKind.i64.wrap ((k : Int) + 1) = ((k + 1 : Nat) : Int) := by rw [wrapL (by omega) (by omega)]; omega
   have hr : List.take 2 (List.drop (k * 2) (rows xtR p.xs)) = [.i .i64 x.1, .s x.2] := rows_at xtR_len hx
   have hxx := hxd x (List.mem_of_getElem? hx)
   have hsn : allN (xtOK p.xs) (k + 1) = (allN (xtOK p.xs) k && xtOK p.xs k) := rfl
   cases hp : pre && allN (xtOK p.xs) k
   · have hnx : (pre && allN (xtOK p.xs) (k + 1)) = false := by rw [hsn, ← Bool.and_assoc, hp]; rfl
     simp (maxSteps := 400000) only [go_sem, c1, c2, hr, hp, hw, hnx, hlt, Md.l, AV.bel, belL, nblt, hXb, hCb, simprocAttr]
   · have hnx : (pre && allN (xtOK p.xs) (k + 1)) = xtOK p.xs k := by rw [hsn, ← Bool.and_assoc, hp]; rfl
     cases a1 : inZ 0 255 x.1
     · have hx0 : xtOK p.xs k = false := by simp [xtOK, hx, a1]
       rw [hx0] at hnx
       simp (maxSteps := 400000) only [go_sem, c1, c2, hr, hp, hw, hnx, hlt, k73, vwK_s, unrows, intV, fit8, List.all_cons, List.all_nil, a1, Md.l, AV.bel, belL, nblt, hXb, hCb, simprocAttr]
     cases a2 : inZ 0 255 (x.2.length : Int)
     · have hx0 : xtOK p.xs k = false := by simp [xtOK, hx, a1, a2]
       rw [hx0] at hnx
       simp (maxSteps := 400000) only [go_sem, c1, c2, hr, hp, hw, hnx, hlt, k73, vwK_s, unrows, intV, fit8, List.all_cons, List.all_nil, a1, a2, Md.l, AV.bel, belL, nblt, hXb, hCb, simprocAttr]
     cases a3 : decide (0 < x.1)
     · have hx0 : xtOK p.xs k = false := by simp only [xtOK, hx, a1, a2, a3, Bool.and_false, Bool.false_and]
       rw [hx0] at hnx
       simp (maxSteps := 400000) only [go_sem, c1, c2, hr, hp, hw, hnx, hlt, k73, vwK_s, unrows, intV, fit8, List.all_cons, List.all_nil, a1, a2, a3, Md.l, AV.bel, belL, nblt, hXb, hCb, simprocAttr]
     by_cases hk0 : k = 0
     · have d1 : (k == 0) = true := by simp [hk0]
       have hx0 : xtOK p.xs k = true := by simp only [xtOK, hx, a1, a2, a3, d1, Bool.and_self, Bool.true_or]
       rw [hx0] at hnx
       have d0 : ((k : Int) == 0) = true := by simp [hk0]
       simp (maxSteps := 400000) only [go_sem, c1, c2, hr, hp, hw, hnx, hlt, k73, vwK_s, unrows, intV, fit8, List.all_cons, List.all_nil, a1, a2, a3, d0, Md.l, AV.bel, belL, nblt, hXb, hCb, simprocAttr]
     · have d0 : ((k : Int) == 0) = false := by simp [hk0]
       have d1 : (k == 0) = false := by simp [hk0]
       obtain ⟨y, hy⟩ : ∃ y, p.xs[k - 1]? = some y := ⟨_, List.getElem?_eq_getElem (by omega)⟩
       have hx0 : xtOK p.xs k = decide (y.1 < x.1) := by simp only [xtOK, hx, hy, a1, a2, a3, d1, Bool.true_and, Bool.false_or]
       rw [hx0] at hnx
       have q2 : IntKind.i64.wrap ((k : Int) - 1) = ((k - 1 : Nat) : Int) := by rw [wrapL (by omega) (by omega)]; omega
       have c3 : decide (0 ≤ ((k - 1 : Nat) : Int) ∧ ((k - 1 : Nat) : Int) < (p.xs.length : Int)) = true := decide_eq_true (by omega)
       have hy1 : (rows xtR p.xs)[(k - 1) * 2 + 0]? = some (.i .i64 y.1) := rows_get (j := 0) xtR_len hy rfl
       rw [Nat.add_zero] at hy1
       simp (maxSteps := 400000) only [go_sem, c1, c2, c3, hr, hp, hw, hnx, hlt, k73, vwK_s, unrows, intV, fit8, List.all_cons, List.all_nil, a1, a2, a3, d0, q2, hy1, Md.l, AV.bel, belL, nblt, hXb, hCb, simprocAttr]
       repeat' (first | refine spB_i (fun _ => ?_) (fun _ => ?_) | refine andB_i ?_ ?_)
       all_goals skip
 · have c1 : decide ((k : Int) < (p.xs.length : Int)) = false := decide_eq_false (by omega)
   obtain rfl : k = p.xs.length := by omega
   simp (maxSteps := 400000) only [go_sem, c1, simprocAttr]
   exact hK _ _ _ rfl
theorem w55 (p : Md) (hf : p.fin = true) : FTL Try.prog 55 [.agg p.l] [] 0 (.i .i64 (if mdB p then 0 else 230)) [] 0 := by
 have hf' := hf
 simp only [Md.fin, Bool.and_eq_true, decide_eq_true_eq] at hf'
 refine FTL.of_iw hTM2 mo Try.func55 i55_eq (by simp [i55]) (iw_of_jw ?_)
 dsimp only [i55, TM2]
 have hu : unrows 1 intV p.cs.length (rows int1 p.cs) = some p.cs := unrows_rows int1_len (fun _ => rfl) p.cs
 have hcl : decide (p.cs.length ≤ 9223372036854775807) = true := decide_eq_true hf'.1.1.1
 have hvw : ∀ (h : Hp) (k : List Nat → Nat → List AV → Bool → Option (Bool × Eff)), vwK h 1 (.fz (rows int1 p.cs) p.cs.length) k = k [] p.cs.length (rows int1 p.cs) true := fun h k => vwK_rows int1_len
 have h32 : fitB 32 = inZ 0 4294967295 := funext fit32
 have c15 : decide ((p.cs.length : Int) ≤ 15) = decide (p.cs.length ≤ 15) := decide_eq_decide.2 (by omega)
 have c16 : decide ((p.xs.length : Int) ≤ 16) = decide (p.xs.length ≤ 16) := decide_eq_decide.2 (by omega)
 have hLb : belL 1 p.l = true := belL_mono0 _ p.bel
 have hXb : belL 1 (rows xtR p.xs) = true := belL_mono0 _ (rows_bel xtR_bel)
 have hCb : belL 1 (rows int1 p.cs) = true := belL_mono0 _ (rows_bel int1_bel)
 have hpre := rfl (a := mdPre p)
 generalize hR : (if mdB p then (0 : Int) else 230) = R
 have hrun : ∀ (pre : Bool) (e' : Env) (h' : Hp) (n' : Nat), pre = mdPre p → eget e' 3 = some (.b (pre && allN (xtOK p.xs) p.xs.length)) →
  jw ⟨Try.prog, cxT [(73, k73)], [51, 88], 89, 0⟩ (.seq (.seq (.reg i55r8) (.cond (.t 88) (.seq (.reg i55r9) .ret) .skip)) (.seq (.reg i55r10) .ret)) (retK [.t 2] fun v h' n' => Ab.Ends 0 v h' n' (.i .i64 R) [] 0) e' h' n' := by
  intro pre e' h' n' hp he3
  subst hp
  cases hb : mdPre p && allN (xtOK p.xs) p.xs.length
  · rw [hb] at he3
    simp (maxSteps := 400000) only [go_sem, he3, simprocAttr]
    exact Ends.pureE rfl (by rw [← hR]; simp [mdB, hb])
  · rw [hb] at he3
    simp (maxSteps := 400000) only [go_sem, he3, simprocAttr]
    exact Ends.pureE rfl (by rw [← hR]; simp [mdB, hb])
 cases a1 : inZ 0 127 p.ty
 · simp (maxSteps := 400000) only [go_sem, k73, vwK_s, unrows, intV, fit7, fit8, fit16, h32, List.all_cons, List.all_nil, hvw, hu, hcl, c15, c16, a1, Md.l, simprocAttr]
   refine loop55 p hf false ?_ ?_ (fun e' h' n' he => ?_)
   · simp (maxSteps := 400000) only [go_sem, AV.bel, belL, nblt, hXb, hCb, simprocAttr]
   · simp (maxSteps := 400000) only [go_sem, Md.l, AV.bel, belL, nblt, hXb, hCb, simprocAttr]
   · simp only [blockK_e, if_true, thenK_n]
     exact hrun _ _ _ _ (by simp only [mdPre, a1, Bool.false_and, Bool.and_false, Bool.and_self]) he
 cases a2 : inZ 0 65535 p.sq
 · simp (maxSteps := 400000) only [go_sem, k73, vwK_s, unrows, intV, fit7, fit8, fit16, h32, List.all_cons, List.all_nil, hvw, hu, hcl, c15, c16, a1, a2, Md.l, simprocAttr]
   refine loop55 p hf false ?_ ?_ (fun e' h' n' he => ?_)
   · simp (maxSteps := 400000) only [go_sem, AV.bel, belL, nblt, hXb, hCb, simprocAttr]
   · simp (maxSteps := 400000) only [go_sem, Md.l, AV.bel, belL, nblt, hXb, hCb, simprocAttr]
   · simp only [blockK_e, if_true, thenK_n]
     exact hrun _ _ _ _ (by simp only [mdPre, a1, a2, Bool.false_and, Bool.and_false, Bool.and_self]) he
 cases a3 : (inZ 0 4294967295 p.tm && inZ 0 4294967295 p.ss)
 · simp (maxSteps := 400000) only [go_sem, k73, vwK_s, unrows, intV, fit7, fit8, fit16, h32, List.all_cons, List.all_nil, hvw, hu, hcl, c15, c16, a1, a2, a3, Md.l, simprocAttr]
   refine loop55 p hf false ?_ ?_ (fun e' h' n' he => ?_)
   · simp (maxSteps := 400000) only [go_sem, AV.bel, belL, nblt, hXb, hCb, simprocAttr]
   · simp (maxSteps := 400000) only [go_sem, Md.l, AV.bel, belL, nblt, hXb, hCb, simprocAttr]
   · simp only [blockK_e, if_true, thenK_n]
     exact hrun _ _ _ _ (by simp only [mdPre, a1, a2, a3, Bool.false_and, Bool.and_false, Bool.and_self]) he
 cases a4 : p.cs.all (inZ 0 4294967295)
 · simp (maxSteps := 400000) only [go_sem, k73, vwK_s, unrows, intV, fit7, fit8, fit16, h32, List.all_cons, List.all_nil, hvw, hu, hcl, c15, c16, a1, a2, a3, a4, Md.l, simprocAttr]
   refine loop55 p hf false ?_ ?_ (fun e' h' n' he => ?_)
   · simp (maxSteps := 400000) only [go_sem, AV.bel, belL, nblt, hXb, hCb, simprocAttr]
   · simp (maxSteps := 400000) only [go_sem, Md.l, AV.bel, belL, nblt, hXb, hCb, simprocAttr]
   · simp only [blockK_e, if_true, thenK_n]
     exact hrun _ _ _ _ (by simp only [mdPre, a1, a2, a3, a4, Bool.false_and, Bool.and_false, Bool.and_self]) he
 cases a5 : inZ 0 255 p.pd
 · simp (maxSteps := 400000) only [go_sem, k73, vwK_s, unrows, intV, fit7, fit8, fit16, h32, List.all_cons, List.all_nil, hvw, hu, hcl, c15, c16, a1, a2, a3, a4, a5, Md.l, simprocAttr]
   refine loop55 p hf false ?_ ?_ (fun e' h' n' he => ?_)
   · simp (maxSteps := 400000) only [go_sem, AV.bel, belL, nblt, hXb, hCb, simprocAttr]
   · simp (maxSteps := 400000) only [go_sem, Md.l, AV.bel, belL, nblt, hXb, hCb, simprocAttr]
   · simp only [blockK_e, if_true, thenK_n]
     exact hrun _ _ _ _ (by simp only [mdPre, a1, a2, a3, a4, a5, Bool.false_and, Bool.and_false, Bool.and_self]) he
 cases a6 : decide (p.cs.length ≤ 15)
 · simp (maxSteps := 400000) only [go_sem, k73, vwK_s, unrows, intV, fit7, fit8, fit16, h32, List.all_cons, List.all_nil, hvw, hu, hcl, c15, c16, a1, a2, a3, a4, a5, a6, Md.l, simprocAttr]
   refine loop55 p hf false ?_ ?_ (fun e' h' n' he => ?_)
   · simp (maxSteps := 400000) only [go_sem, AV.bel, belL, nblt, hXb, hCb, simprocAttr]
   · simp (maxSteps := 400000) only [go_sem, Md.l, AV.bel, belL, nblt, hXb, hCb, simprocAttr]
   · simp only [blockK_e, if_true, thenK_n]
     exact hrun _ _ _ _ (by simp only [mdPre, a1, a2, a3, a4, a5, a6, Bool.false_and, Bool.and_false, Bool.and_self]) he
 cases a7 : decide (p.xs.length ≤ 16)
 · simp (maxSteps := 400000) only [go_sem, k73, vwK_s, unrows, intV, fit7, fit8, fit16, h32, List.all_cons, List.all_nil, hvw, hu, hcl, c15, c16, a1, a2, a3, a4, a5, a6, a7, Md.l, simprocAttr]
   refine loop55 p hf false ?_ ?_ (fun e' h' n' he => ?_)
   · simp (maxSteps := 400000) only [go_sem, AV.bel, belL, nblt, hXb, hCb, simprocAttr]
   · simp (maxSteps := 400000) only [go_sem, Md.l, AV.bel, belL, nblt, hXb, hCb, simprocAttr]
   · simp only [blockK_e, if_true, thenK_n]
     exact hrun _ _ _ _ (by simp only [mdPre, a1, a2, a3, a4, a5, a6, a7, Bool.false_and, Bool.and_false, Bool.and_self]) he
 simp (maxSteps := 400000) only [go_sem, k73, vwK_s, unrows, intV, fit7, fit8, fit16, h32, List.all_cons, List.all_nil, hvw, hu, hcl, c15, c16, a1, a2, a3, a4, a5, a6, a7, Md.l, simprocAttr]
 refine loop55 p hf true ?_ ?_ (fun e' h' n' he => ?_)
 · simp (maxSteps := 400000) only [go_sem, AV.bel, belL, nblt, hXb, hCb, simprocAttr]
 · simp (maxSteps := 400000) only [go_sem, Md.l, AV.bel, belL, nblt, hXb, hCb, simprocAttr]
 · simp only [blockK_e, if_true, thenK_n]
   exact hrun _ _ _ _ (by simp only [mdPre, a1, a2, a3, a4, a5, a6, a7, Bool.false_and, Bool.and_false, Bool.and_self]) he
def k55 : Ct
 | [.agg l], _, n => (md9 l).bind fun p => some (p.fin, { v := .i .i64 (if mdB p then 0 else 230), n })
 | _, _, _ => none
theorem s55 : SoundAt Try.prog 55 k55 := fun args h n c E hc ht => by
 unfold k55 at hc
 split at hc
 · simp only [Option.bind_eq_some_iff] at hc
   obtain ⟨p, hp, he⟩ := hc
   cases he
   rw [md9_eq hp]
   exact CallOK.pure (by kernel_rfl) (by simp only [belL, AV.bel, p.bel, Bool.and_self]) rfl (w55 p ht) _ _
 · cases hc
end Go.Proofs.Pic
