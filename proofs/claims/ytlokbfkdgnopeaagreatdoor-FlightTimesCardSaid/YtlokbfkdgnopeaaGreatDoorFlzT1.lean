/- The reference's timers. -/
import Derived.Test.YtlokbfkdgnopeaaGreatDoorFlzCb
import Derived.Test.YtlokbfkdgnopeaaGreatDoorFlzIt
namespace Go.Proofs.Flz
open Go.Ab Go.Proofs.Flt
set_option maxRecDepth 100000
set_option maxHeartbeats 4000000
set_option linter.unusedSimpArgs false
set_option linter.unusedVariables false
theorem w67 (t : Int) (h : 1 ≤ t ∧ t ≤ 9) : FTL Tryz.prog 67 [.i .i64 t] [] 0 (.i .i64 (waitS t)) [] 0 := by
 obtain rfl | rfl | rfl | rfl | rfl | rfl | rfl | rfl | rfl : t = 1 ∨ t = 2 ∨ t = 3 ∨ t = 4 ∨ t = 5 ∨ t = 6 ∨ t = 7 ∨ t = 8 ∨ t = 9 := by omega
 all_goals
  refine FTL.of_iw (cx := cxT []) Sound.nil mo Tryz.func67 i67_eq (by simp [i67]) (iw_of_jw ?_)
  dsimp only [i67]
  simp (maxSteps := 400000) only [go_sem, simprocAttr]
  refine Loop.rounds (F := ⟨Tryz.prog, cxT [], [11], 17, 0⟩) 6 Sound.nil mo ?_
  simp (maxSteps := 400000) only [go_sem, simprocAttr]
  exact Ends.pureE rfl rfl
def k67 : Ct
 | [.i .i64 t], _, n => some (decide (1 ≤ t ∧ t ≤ 9), { v := .i .i64 (waitS t), n })
 | _, _, _ => none
theorem s67 : SoundAt Tryz.prog 67 k67 := fun args h n c E hc ht => by
 unfold k67 at hc
 split at hc
 · cases hc; exact CallOK.pure (by kernel_rfl) rfl rfl (w67 _ (of_decide_eq_true ht)) _ _
 · cases hc
def TT1 : List (Nat × Ct) := [(67, k67)]
theorem hTT1 : Sound Tryz.prog (cxT TT1) := Sound.cons s67 Sound.nil
theorem tmB_eq (ti wa tr : Int) : tmB ⟨ti, wa, tr⟩ = bif ti == -1 then (wa == 0) && (tr == 0) else decide (ti ≥ 0) && (decide (tr ≥ 1) && (decide (tr ≤ 8) && (wa == waitS tr))) := by
 cases a : (ti == -1)
 · simp only [tmB, a, Bool.false_and, Bool.false_or, cond_false]
 · have : ti = -1 := by simpa using a
   subst this
   simp [tmB]
theorem w69 (t : Tm) : FTL Tryz.prog 69 [.agg t.l] [] 0 (.b (tmB t)) [] 0 := by
 obtain ⟨ti, wa, tr⟩ := t
 rw [tmB_eq]
 simp only [Tm.l]
 refine FTL.of_iw hTT1 mo Tryz.func69 i69_eq (by simp [i69]) (iw_of_jw ?_)
 dsimp only [i69, TT1]
 cases a : (ti == -1)
 rotate_left
 · cases b : (wa == 0)
   · simp (maxSteps := 400000) only [go_sem, a, b, simprocAttr]
     exact Ends.pureE rfl rfl
   · simp (maxSteps := 400000) only [go_sem, a, b, simprocAttr]
     exact Ends.pureE rfl rfl
 cases b1 : decide (ti ≥ 0)
 · simp (maxSteps := 400000) only [go_sem, a, b1, simprocAttr]
   exact Ends.pureE rfl rfl
 cases b2 : decide (tr ≥ 1)
 · simp (maxSteps := 400000) only [go_sem, a, b1, b2, simprocAttr]
   exact Ends.pureE rfl rfl
 cases b3 : decide (tr ≤ 8)
 · simp (maxSteps := 400000) only [go_sem, a, b1, b2, b3, simprocAttr]
   exact Ends.pureE rfl rfl
 have e4 : decide (1 ≤ tr ∧ tr ≤ 9) = true := decide_eq_true (by have := of_decide_eq_true b2; have := of_decide_eq_true b3; omega)
 have hk : ∀ (h : Hp) n, k67 [.i .i64 tr] h n = some (true, { v := .i .i64 (waitS tr), n }) := fun h n => by simp only [k67, e4]
 generalize waitS tr = W at *
 simp (maxSteps := 400000) only [go_sem, a, b1, b2, b3, hk, simprocAttr]
 exact Ends.pureE rfl rfl
def k69 : Ct
 | [.agg c], _, n => (tm3 c).bind fun x => some (true, { v := .b (tmB x), n })
 | _, _, _ => none
theorem s69 : SoundAt Tryz.prog 69 k69 := fun args h n c E hc ht => by
 unfold k69 at hc
 split at hc
 · simp only [Option.bind_eq_some_iff] at hc
   obtain ⟨x, hx, he⟩ := hc
   cases he
   rw [tm3_eq hx]
   exact CallOK.pure (by kernel_rfl) rfl rfl (w69 x) _ _
 · cases hc
def TT2 : List (Nat × Ct) := [(69, k69)]
theorem hTT2 : Sound Tryz.prog (cxT TT2) := Sound.cons s69 Sound.nil
theorem w32 (t : Tm) : FTL Tryz.prog 32 [.agg t.l] [] 0 (.i .i64 (if tmB t then 0 else 192)) [] 0 := by
 have hk : ∀ (h : Hp) n, k69 [.agg t.l] h n = some (true, { v := .b (tmB t), n }) := fun h n => by simp only [k69, tm3_l, Option.bind_some]
 obtain ⟨ti, wa, tr⟩ := t
 simp only [Tm.l] at hk ⊢
 generalize tmB ⟨ti, wa, tr⟩ = B at *
 refine FTL.of_iw hTT2 mo Tryz.func32 i32_eq (by simp [i32]) (iw_of_jw ?_)
 dsimp only [i32, TT2]
 cases B
 · simp (maxSteps := 400000) only [go_sem, hk, simprocAttr]
   exact Ends.pureE rfl rfl
 · simp (maxSteps := 400000) only [go_sem, hk, simprocAttr]
   exact Ends.pureE rfl rfl
def k32 : Ct
 | [.agg c], _, n => (tm3 c).bind fun x => some (true, { v := .i .i64 (if tmB x then 0 else 192), n })
 | _, _, _ => none
theorem s32 : SoundAt Tryz.prog 32 k32 := fun args h n c E hc ht => by
 unfold k32 at hc
 split at hc
 · simp only [Option.bind_eq_some_iff] at hc
   obtain ⟨x, hx, he⟩ := hc
   cases he
   rw [tm3_eq hx]
   exact CallOK.pure (by kernel_rfl) rfl rfl (w32 x) _ _
 · cases hc
theorem inW_no {now m : Int} : inW now m = !(decide (now < 0) || decide (now > m)) := by
 unfold inW
 rw [Bool.eq_iff_iff]
 simp only [Bool.and_eq_true, decide_eq_true_eq, Bool.not_eq_true', Bool.or_eq_false_iff, decide_eq_false_iff_not]
 omega
theorem w27 (now : Int) : FTL Tryz.prog 27 [.i .i64 now] [] 0 (tmV (startS now)) [] 0 := by
 refine FTL.of_iw (cx := cxT []) Sound.nil mo Tryz.func27 i27_eq (by simp [i27]) (iw_of_jw ?_)
 dsimp only [i27]
 unfold startS
 rw [inW_no]
 cases a : decide (now < 0)
 · cases b : decide (now > 1099511627776)
   · have := of_decide_eq_false a
     have := of_decide_eq_false b
     have hw : IntKind.i64.wrap (now + 400) = now + 400 := wrapL (by omega) (by omega)
     simp (maxSteps := 400000) only [go_sem, a, b, hw, simprocAttr]
     exact Ends.pureE rfl rfl
   · simp (maxSteps := 400000) only [go_sem, a, b, simprocAttr]
     exact Ends.pureE rfl rfl
 · simp (maxSteps := 400000) only [go_sem, a, simprocAttr]
   exact Ends.pureE rfl rfl
def k27 : Ct
 | [.i .i64 now], _, n => some (true, { v := tmV (startS now), n })
 | _, _, _ => none
theorem s27 : SoundAt Tryz.prog 27 k27 := fun args h n c E hc ht => by
 unfold k27 at hc
 split at hc
 · cases hc; exact CallOK.pure (by kernel_rfl) rfl rfl (w27 _) _ _
 · cases hc
theorem w34 (t : Tm) (now : Int) : FTL Tryz.prog 34 [.agg t.l, .i .i64 now] [] 0 (duV (dueT t now)) [] 0 := by
 have hk : ∀ (h : Hp) n, k69 [.agg t.l] h n = some (true, { v := .b (tmB t), n }) := fun h n => by simp only [k69, tm3_l, Option.bind_some]
 have hd : dueT t now = bif tmB t then (bif !(decide (now < 0) || decide (now > 1099511627776)) then (decide (t.ti ≥ 0) && decide (t.ti ≤ now), 0) else (false, 2)) else (false, 192) := by
  unfold dueT; rw [inW_no]; rfl
 rw [hd]
 obtain ⟨ti, wa, tr⟩ := t
 simp only [Tm.l] at hk ⊢
 clear hd
 generalize tmB ⟨ti, wa, tr⟩ = B at *
 refine FTL.of_iw hTT2 mo Tryz.func34 i34_eq (by simp [i34]) (iw_of_jw ?_)
 dsimp only [i34, TT2]
 cases B
 · simp (maxSteps := 400000) only [go_sem, hk, simprocAttr]
   exact Ends.pureE rfl rfl
 cases a : decide (now < 0)
 · cases b : decide (now > 1099511627776)
   · cases c : decide (ti ≥ 0)
     · simp (maxSteps := 400000) only [go_sem, hk, a, b, c, simprocAttr]
       exact Ends.pureE rfl rfl
     · simp (maxSteps := 400000) only [go_sem, hk, a, b, c, simprocAttr]
       exact Ends.pureE rfl rfl
   · simp (maxSteps := 400000) only [go_sem, hk, a, b, simprocAttr]
     exact Ends.pureE rfl rfl
 · simp (maxSteps := 400000) only [go_sem, hk, a, simprocAttr]
   exact Ends.pureE rfl rfl
def k34 : Ct
 | [.agg c, .i .i64 now], _, n => (tm3 c).bind fun x => some (true, { v := duV (dueT x now), n })
 | _, _, _ => none
theorem s34 : SoundAt Tryz.prog 34 k34 := fun args h n c E hc ht => by
 unfold k34 at hc
 split at hc
 · simp only [Option.bind_eq_some_iff] at hc
   obtain ⟨x, hx, he⟩ := hc
   cases he
   rw [tm3_eq hx]
   exact CallOK.pure (by kernel_rfl) rfl rfl (w34 x _) _ _
 · cases hc
theorem w30 : FTL Tryz.prog 30 [] [] 0 (.agg [.i .i64 (-1), .i .i64 0, .i .i64 0]) [] 0 := by
 refine FTL.of_iw (cx := cxT []) Sound.nil mo Tryz.func30 i30_eq (by simp [i30]) (iw_of_jw ?_)
 dsimp only [i30]
 simp (maxSteps := 400000) only [go_sem, simprocAttr]
 exact Ends.pureE rfl rfl
def k30 : Ct
 | [], _, n => some (true, { v := .agg [.i .i64 (-1), .i .i64 0, .i .i64 0], n })
 | _, _, _ => none
theorem s30 : SoundAt Tryz.prog 30 k30 := fun args h n c E hc ht => by
 unfold k30 at hc
 split at hc
 · cases hc; exact CallOK.pure (by kernel_rfl) rfl rfl w30 _ _
 · cases hc
def TT3 : List (Nat × Ct) := [(34, k34), (67, k67)]
theorem hTT3 : Sound Tryz.prog (cxT TT3) := Sound.cons s34 (Sound.cons s67 Sound.nil)
theorem w28 (t : Tm) (now : Int) : FTL Tryz.prog 28 [.agg t.l, .i .i64 now] [] 0 (tmV (againS t now)) [] 0 := by
 have hk : ∀ (h : Hp) n, k34 [.agg t.l, .i .i64 now] h n = some (true, { v := duV (dueT t now), n }) := fun h n => by simp only [k34, tm3_l, Option.bind_some]
 have hd : dueT t now = (bif tmB t then (bif inW now 1099511627776 then (inW t.ti now, 0) else (false, 2)) else (false, 192)) := rfl
 have hT : (dueT t now).2 = 0 → tmB t = true ∧ inW now 1099511627776 = true := fun h => by
  rw [hd] at h
  cases a : tmB t
  · rw [a] at h; simp at h
  · cases b : inW now 1099511627776
    · rw [a, b] at h; simp at h
    · exact ⟨rfl, rfl⟩
 have hA : againS t now = bif (dueT t now).2 == 0 then (bif (dueT t now).1 then (bif t.tr == 8 then (zTm, 4) else (⟨now + waitS (t.tr + 1), waitS (t.tr + 1), t.tr + 1⟩, 0)) else (zTm, 8)) else (zTm, (dueT t now).2) := rfl
 have hI : (dueT t now).2 = 0 → (dueT t now).1 = inW t.ti now := fun h => by
  obtain ⟨a, b⟩ := hT h
  rw [hd, a, b]; rfl
 clear hd
 generalize dueT t now = R at *
 obtain ⟨due, er⟩ := R
 dsimp only at hT hA hI
 obtain ⟨ti, wa, tr⟩ := t
 simp only [Tm.l, duV] at hk ⊢
 dsimp only at hA hI
 refine FTL.of_iw hTT3 mo Tryz.func28 i28_eq (by simp [i28]) (iw_of_jw ?_)
 dsimp only [i28, TT3]
 cases a : (er == 0)
 · have a' : (er != 0) = true := by simp only [bne, a, Bool.not_false]
   rw [hA, a, cond_false]
   simp (maxSteps := 400000) only [go_sem, hk, a, a', simprocAttr]
   exact Ends.pureE rfl rfl
 have e0 : er = 0 := by simpa using a
 subst e0
 cases b : due
 · rw [hA, a, b, cond_true, cond_false]
   simp (maxSteps := 400000) only [go_sem, hk, b, simprocAttr]
   exact Ends.pureE rfl rfl
 cases c : (tr == 8)
 rotate_left
 · rw [hA, a, b, c, cond_true, cond_true, cond_true]
   simp (maxSteps := 400000) only [go_sem, hk, b, c, simprocAttr]
   exact Ends.pureE rfl rfl
 rw [hA, a, b, c, cond_true, cond_true, cond_false]
 obtain ⟨h1, h2⟩ := hT rfl
 have hi := hI rfl
 rw [b] at hi
 have hti := inW_t hi.symm
 have hnow := inW_t h2
 have htr : 1 ≤ tr ∧ tr ≤ 7 := by
  have c' : ¬ tr = 8 := by simpa using c
  simp only [tmB, Bool.or_eq_true, Bool.and_eq_true, beq_iff_eq, decide_eq_true_eq] at h1
  rcases h1 with h | h <;> omega
 have e4 : decide (1 ≤ tr + 1 ∧ tr + 1 ≤ 9) = true := decide_eq_true (by omega)
 have w1 : IntKind.i64.wrap (tr + 1) = tr + 1 := wrapL (by omega) (by omega)
 have hW : 0 ≤ waitS (tr + 1) ∧ waitS (tr + 1) ≤ 6400 := by unfold waitS; repeat' split <;> omega
 have hkw : ∀ (h : Hp) n, k67 [.i .i64 (tr + 1)] h n = some (true, { v := .i .i64 (waitS (tr + 1)), n }) := fun h n => by simp only [k67, e4]
 generalize waitS (tr + 1) = W at *
 have w2 : IntKind.i64.wrap (now + W) = now + W := wrapL (by omega) (by omega)
 simp (maxSteps := 400000) only [go_sem, hk, hkw, b, c, w1, w2, simprocAttr]
 exact Ends.pureE rfl rfl
def k28 : Ct
 | [.agg c, .i .i64 now], _, n => (tm3 c).bind fun x => some (true, { v := tmV (againS x now), n })
 | _, _, _ => none
theorem s28 : SoundAt Tryz.prog 28 k28 := fun args h n c E hc ht => by
 unfold k28 at hc
 split at hc
 · simp only [Option.bind_eq_some_iff] at hc
   obtain ⟨x, hx, he⟩ := hc
   cases he
   rw [tm3_eq hx]
   exact CallOK.pure (by kernel_rfl) rfl rfl (w28 x _) _ _
 · cases hc
end Go.Proofs.Flz
