/- Texts laid as one: FlzM1 FlzM2 FlzM3. -/
import Derived.Test.YtlokbfkdgnopeaaGreatDoorFlzRb
import Derived.Test.YtlokbfkdgnopeaaGreatDoorFlzIm
import Derived.Test.YtlokbfkdgnopeaaGreatDoorFltGa
import Derived.Test.YtlokbfkdgnopeaaGreatDoorAbShs
import Derived.Test.YtlokbfkdgnopeaaGreatDoorAbLoopsS
import Derived.Test.YtlokbfkdgnopeaaGreatDoorFlzCc
section
/- Mixed: the loop that takes pieces. -/
namespace Go.Proofs.Flz
open Go.Ab Go.Proofs.Flt
set_option maxRecDepth 100000
set_option maxHeartbeats 4000000
set_option linter.unusedSimpArgs false
set_option linter.unusedVariables false
def ls1 (l : List (List UInt8)) : List AV := [.fz (rows st1 l) l.length]
theorem ls1_len (l : List (List UInt8)) : (ls1 l).length = 1 := rfl
theorem ls1_bel (l : List (List UInt8)) : belL 0 (ls1 l) = true := by simp only [ls1, belL, AV.bel, stB, Bool.and_self]
theorem lsB (j : Nat) (l : Lls) : belL j (rows ls1 l) = true := belL_mono0 _ (rows_bel ls1_bel)
theorem lsR (ψ : Nat → Nat) (l : Lls) : renL ψ (rows ls1 l) = rows ls1 l := renL_fix0 _ (rows_bel ls1_bel)
theorem ls_get {C : Lls} {p : Nat} {s : List (List UInt8)} (hs : C[p]? = some s) : (rows ls1 C)[p]? = some (.fz (rows st1 s) s.length) := by
 have h1 := rows_at (f := ls1) ls1_len hs
 have h2 : (List.take 1 (List.drop (p * 1) (rows ls1 C)))[0]? = some (.fz (rows st1 s) s.length) := by rw [show List.take 1 (List.drop (p * 1) (rows ls1 C)) = ls1 s from h1]; rfl
 rw [List.getElem?_take, if_pos (by decide), List.getElem?_drop, Nat.mul_one, Nat.add_zero] at h2
 exact h2
def lV (D : Nat) (LL : Lls) : AV := bif LL.length == 0 then .en else .sg 0 D LL.length
theorem lV_nil (D : Nat) : lV D [] = .en := rfl
theorem lV_ne {D : Nat} {LL : Lls} (h : LL ≠ []) : lV D LL = .sg 0 D LL.length := by
 unfold lV
 rw [beq_eq_false_iff_ne.2 (fun h2 => h (List.eq_nil_of_length_eq_zero h2)), cond_false]
noncomputable def TL19 : List (Nat × Ct) := [(47, k47)]
theorem hTL19 : Sound Tryz.prog (cxT TL19) := Sound.cons s47 Sound.nil
noncomputable abbrev F19 : Fx := ⟨Tryz.prog, cxT TL19, [19, 24, 46, 49, 65, 71, 77, 98, 138], 142, 0⟩
abbrev ordV (od : List UInt8) : AV := .fz (rows u81 od) od.length
def oQ (a : List (List UInt8)) : Sh := gQ st1 1 a
theorem oQ_ne {a : List (List UInt8)} (h : a ≠ []) : oQ a = .sg { cells := rows st1 a, gr := some 1 } 0 a.length := by unfold oQ gQ; rw [if_neg (by simpa using h)]
theorem oQv_0 : (oQ []).v 1 = .ns := rfl
theorem oQh_0 : (oQ []).h 1 = [] := rfl
theorem oQv_n {a : List (List UInt8)} (h : a ≠ []) : (oQ a).v 1 = .sg 1 0 a.length := by rw [oQ_ne h]; rfl
theorem oQh_n {a : List (List UInt8)} (h : a ≠ []) : (oQ a).h 1 = [(1, { cells := rows st1 a, gr := some 1 })] := by rw [oQ_ne h]; rfl
theorem one_take {α : Type} {f : α → List AV} (h1 : ∀ a, (f a).length = 1) : ∀ (l : List α) (p : Nat), List.take p (rows f l) = rows f (l.take p)
 | _, 0 => by simp [rows]
 | [], p + 1 => by simp [rows]
 | a :: l, p + 1 => by
  obtain ⟨v, hv⟩ := List.length_eq_one_iff.1 (h1 a)
  rw [rows_cons, hv, List.take_succ_cons, rows_cons, hv, ← one_take h1 l p]; rfl
theorem one_drop {α : Type} {f : α → List AV} (h1 : ∀ a, (f a).length = 1) : ∀ (l : List α) (p : Nat), List.drop p (rows f l) = rows f (l.drop p)
 | _, 0 => by simp
 | [], p + 1 => by simp [rows]
 | a :: l, p + 1 => by
  obtain ⟨v, hv⟩ := List.length_eq_one_iff.1 (h1 a)
  rw [rows_cons, hv, List.drop_succ_cons, ← one_drop h1 l p]; rfl
theorem st_get3 {C : List (List UInt8)} {p : Nat} {s : List UInt8} (hs : C[p]? = some s) : (rows st1 C)[p]? = some (.s s) := by
 have h1 := rows_at (f := st1) st1_len hs
 have h2 : (List.take 1 (List.drop (p * 1) (rows st1 C)))[0]? = some (.s s) := by rw [show List.take 1 (List.drop (p * 1) (rows st1 C)) = st1 s from h1]; rfl
 rw [List.getElem?_take, if_pos (by decide), List.getElem?_drop, Nat.mul_one, Nat.add_zero] at h2
 exact h2
theorem m5 (K : Kont) (od : List UInt8) (Dr LL : Lls) (acc : List (List UInt8)) (st : Nat) (hl : LL ≠ []) (hb : Dr.length + LL.length ≤ 5)
 (hK : ∀ e h n, EnvIn 2 e [(2, ordV od), (7, lV (Dr.length + empN LL) (dropE LL)), (10, (oQ acc).v 1), (11, .i .i64 st)] → HpIn 2 h ((oQ acc).h 1 ++ [(0, { cells := rows ls1 (Dr ++ LL), gr := some 1 })]) → K .normal e h n) :
 Seam F19 (.block 4 (.loop i19l32)) K [(2, ordV od), (7, .sg 0 Dr.length LL.length), (10, (oQ acc).v 1), (11, .i .i64 st)] ((oQ acc).h 1 ++ [(0, { cells := rows ls1 (Dr ++ LL), gr := some 1 })]) 2 := by
 have ob := fun j => u8B j od
 have lb := fun j => lsB j (Dr ++ LL)
 have sb := fun j => stB j acc
 have hJ := empN_le LL
 have hJd := empN_drop LL
 have hJl := empN_lt LL
 have hJa := @empN_at LL
 have hll : 0 < LL.length := by cases LL with
  | nil => exact absurd rfl hl
  | cons _ _ => simp
 have hget : ∀ (i : Nat) s, LL[i]? = some s → (rows ls1 (Dr ++ LL))[Dr.length + i]? = some (.fz (rows st1 s) s.length) := fun i s h => ls_get (by rw [List.getElem?_append_right (by omega)]; simpa using h)
 have hXl : (rows ls1 (Dr ++ LL)).length = Dr.length + LL.length := by rw [rows_len (f := ls1) ls1_len, List.length_append, Nat.mul_one]
 generalize empN LL = J at *
 rw [hJd] at hK
 clear hJd
 have hdl : (LL.drop J).length = LL.length - J := List.length_drop
 have hlast : lV (Dr.length + J) (LL.drop J) = bif LL.length - J == 0 then .en else .sg 0 (Dr.length + J) (LL.length - J) := by unfold lV; rw [hdl]
 rw [hlast] at hK
 generalize rows ls1 (Dr ++ LL) = X at *
 clear hlast hdl
 by_cases ha : acc = []
 · subst ha
   rw [oQv_0, oQh_0, List.nil_append] at hK ⊢
   refine Seam.block ?_
   refine Seam.ofLoop ?_
   refine Loop.countI (F := F19) hTL19 mo J (fun _ => True) (fun k => [(2, ordV od), (7, bif LL.length - k == 0 then .en else .sg 0 (Dr.length + k) (LL.length - k)), (10, AV.ns), (11, .i .i64 st)]) (fun k => [(0, { cells := X, gr := some 1 })]) 2 (by decide) trivial ?_ ?_ (fun k hk _ => ?_)
   · have f0 : (LL.length == 0) = false := beq_eq_false_iff_ne.2 (by omega)
     simp (maxSteps := 400000) only [go_sem, Nat.sub_zero, f0, AV.bel, belL, nblt, ob, simprocAttr]
   · simp (maxSteps := 400000) only [go_sem, AV.bel, belL, nblt, lb, simprocAttr]
   dsimp only [F19, TL19]
   by_cases hkJ : k < J
   · have f1 : (LL.length - k == 0) = false := beq_eq_false_iff_ne.2 (by omega)
     have hg := hget k _ (hJl k hkJ)
     have f2 : decide (((LL.length - k : Nat) : Int) > 0) = true := decide_eq_true (by omega)
     have f3 : decide (0 < LL.length - k) = true := decide_eq_true (by omega)
     have f4 : decide (1 ≤ LL.length - k) = true := decide_eq_true (by omega)
     simp only [f1, cond_false]
     cases f5 : (LL.length - (k + 1) == 0)
     · have f6 : ¬ LL.length - k = 1 := by have := beq_eq_false_iff_ne.1 f5; omega
       have f7 : LL.length - k - 1 = LL.length - (k + 1) := by omega
       have f8 : Dr.length + k + 1 = Dr.length + (k + 1) := by omega
       have g1 : decide (False ∨ 1 < LL.length - k) = true := decide_eq_true (by omega)
       have g2 : decide (1 ≤ ((LL.length - k : Nat) : Int) ∧ 0 ≤ ((LL.length - k : Nat) : Int)) = true := decide_eq_true (by omega)
       simp only [cond_false]
       simp (maxSteps := 400000) only [go_sem, f1, hg, f2, f3, f4, f6, f7, f8, g1, g2, Nat.mul_one, AV.bel, belL, nblt, ob, lb, simprocAttr]
       exact hkJ
     · have f6 : LL.length - k = 1 := by have := beq_iff_eq.1 f5; omega
       have g1 : decide (False ∨ False) = false := rfl
       simp only [cond_true]
       simp (maxSteps := 400000) only [go_sem, f1, hg, f2, f3, f4, f6, g1, Nat.mul_one, AV.bel, belL, nblt, ob, lb, simprocAttr]
       exact hkJ
   · obtain rfl : k = J := by omega
     clear hk hkJ
     cases f5 : (LL.length - k == 0)
     · rw [f5] at hK
       have f6 : k < LL.length := by have := beq_eq_false_iff_ne.1 f5; omega
       obtain ⟨x, hx1, hx2⟩ := hJa f6
       have hg := hget k _ hx1
       have f2 : decide (((LL.length - k : Nat) : Int) > 0) = true := decide_eq_true (by omega)
       have f3 : decide (0 < LL.length - k) = true := decide_eq_true (by omega)
       have f7 : ((x.length : Int) == 0) = false := by
        rw [beq_eq_false_iff_ne]
        intro h0
        exact hx2 (List.eq_nil_of_length_eq_zero (by omega))
       simp only [cond_false] at hK ⊢
       simp (maxSteps := 400000) only [go_sem, f5, hg, f2, f3, f7, Nat.mul_one, AV.bel, belL, nblt, ob, lb, simprocAttr]
       refine hK _ _ _ ?_ ?_
       · simp (maxSteps := 400000) only [go_sem, AV.bel, belL, nblt, ob, simprocAttr]
       · simp (maxSteps := 400000) only [go_sem, AV.bel, belL, nblt, lb, simprocAttr]
     · rw [f5] at hK
       simp only [cond_true] at hK ⊢
       simp (maxSteps := 400000) only [go_sem, f5, AV.bel, belL, nblt, ob, lb, simprocAttr]
       refine hK _ _ _ ?_ ?_
       · simp (maxSteps := 400000) only [go_sem, AV.bel, belL, nblt, ob, simprocAttr]
       · simp (maxSteps := 400000) only [go_sem, AV.bel, belL, nblt, lb, simprocAttr]
 · rw [oQv_n ha, oQh_n ha, List.cons_append, List.nil_append] at hK ⊢
   refine Seam.block ?_
   refine Seam.ofLoop ?_
   refine Loop.countI (F := F19) hTL19 mo J (fun _ => True) (fun k => [(2, ordV od), (7, bif LL.length - k == 0 then .en else .sg 0 (Dr.length + k) (LL.length - k)), (10, .sg 1 0 acc.length), (11, .i .i64 st)]) (fun k => [(1, { cells := rows st1 acc, gr := some 1 }), (0, { cells := X, gr := some 1 })]) 2 (by decide) trivial ?_ ?_ (fun k hk _ => ?_)
   · have f0 : (LL.length == 0) = false := beq_eq_false_iff_ne.2 (by omega)
     simp (maxSteps := 400000) only [go_sem, Nat.sub_zero, f0, AV.bel, belL, nblt, ob, simprocAttr]
   · simp (maxSteps := 400000) only [go_sem, AV.bel, belL, nblt, lb, sb, simprocAttr]
   dsimp only [F19, TL19]
   by_cases hkJ : k < J
   · have f1 : (LL.length - k == 0) = false := beq_eq_false_iff_ne.2 (by omega)
     have hg := hget k _ (hJl k hkJ)
     have f2 : decide (((LL.length - k : Nat) : Int) > 0) = true := decide_eq_true (by omega)
     have f3 : decide (0 < LL.length - k) = true := decide_eq_true (by omega)
     have f4 : decide (1 ≤ LL.length - k) = true := decide_eq_true (by omega)
     simp only [f1, cond_false]
     cases f5 : (LL.length - (k + 1) == 0)
     · have f6 : ¬ LL.length - k = 1 := by have := beq_eq_false_iff_ne.1 f5; omega
       have f7 : LL.length - k - 1 = LL.length - (k + 1) := by omega
       have f8 : Dr.length + k + 1 = Dr.length + (k + 1) := by omega
       have g1 : decide (False ∨ 1 < LL.length - k) = true := decide_eq_true (by omega)
       have g2 : decide (1 ≤ ((LL.length - k : Nat) : Int) ∧ 0 ≤ ((LL.length - k : Nat) : Int)) = true := decide_eq_true (by omega)
       simp only [cond_false]
       simp (maxSteps := 400000) only [go_sem, f1, hg, f2, f3, f4, f6, f7, f8, g1, g2, Nat.mul_one, AV.bel, belL, nblt, ob, lb, sb, simprocAttr]
       exact hkJ
     · have f6 : LL.length - k = 1 := by have := beq_iff_eq.1 f5; omega
       have g1 : decide (False ∨ False) = false := rfl
       simp only [cond_true]
       simp (maxSteps := 400000) only [go_sem, f1, hg, f2, f3, f4, f6, g1, Nat.mul_one, AV.bel, belL, nblt, ob, lb, sb, simprocAttr]
       exact hkJ
   · obtain rfl : k = J := by omega
     clear hk hkJ
     cases f5 : (LL.length - k == 0)
     · rw [f5] at hK
       have f6 : k < LL.length := by have := beq_eq_false_iff_ne.1 f5; omega
       obtain ⟨x, hx1, hx2⟩ := hJa f6
       have hg := hget k _ hx1
       have f2 : decide (((LL.length - k : Nat) : Int) > 0) = true := decide_eq_true (by omega)
       have f3 : decide (0 < LL.length - k) = true := decide_eq_true (by omega)
       have f7 : ((x.length : Int) == 0) = false := by
        rw [beq_eq_false_iff_ne]
        intro h0
        exact hx2 (List.eq_nil_of_length_eq_zero (by omega))
       simp only [cond_false] at hK ⊢
       simp (maxSteps := 400000) only [go_sem, f5, hg, f2, f3, f7, Nat.mul_one, AV.bel, belL, nblt, ob, lb, sb, simprocAttr]
       refine hK _ _ _ ?_ ?_
       · simp (maxSteps := 400000) only [go_sem, AV.bel, belL, nblt, ob, simprocAttr]
       · simp (maxSteps := 400000) only [go_sem, AV.bel, belL, nblt, lb, sb, simprocAttr]
     · rw [f5] at hK
       simp only [cond_true] at hK ⊢
       simp (maxSteps := 400000) only [go_sem, f5, AV.bel, belL, nblt, ob, lb, sb, simprocAttr]
       refine hK _ _ _ ?_ ?_
       · simp (maxSteps := 400000) only [go_sem, AV.bel, belL, nblt, ob, simprocAttr]
       · simp (maxSteps := 400000) only [go_sem, AV.bel, belL, nblt, lb, sb, simprocAttr]
theorem m4 (K : Kont) (od : List UInt8) (Dr LL : Lls) (acc : List (List UInt8)) (st k p : Nat) (lst : List (List UInt8)) (hk : LL[k]? = some lst) (hp : p < lst.length) (hll : lst.length ≤ 9000) (hb : Dr.length + LL.length ≤ 5)
 (hK : ∀ e h n, EnvIn 2 e [(2, ordV od), (7, lV (Dr.length + empN (LL.set k (lst.take p ++ lst.drop (p + 1)))) (dropE (LL.set k (lst.take p ++ lst.drop (p + 1))))), (10, (oQ acc).v 1), (11, .i .i64 st)] → HpIn 2 h ((oQ acc).h 1 ++ [(0, { cells := rows ls1 (Dr ++ LL.set k (lst.take p ++ lst.drop (p + 1))), gr := some 1 })]) → K .normal e h n) :
 Seam F19 (.seq (.reg i19r27) (.seq (.reg i19r28) (.reg i19r29))) (thenK K (Seam F19 (.block 4 (.loop i19l32)) K)) [(2, ordV od), (7, .sg 0 Dr.length LL.length), (10, (oQ acc).v 1), (11, .i .i64 st), (13, .i .i64 k), (14, .i .i64 p)] ((oQ acc).h 1 ++ [(0, { cells := rows ls1 (Dr ++ LL), gr := some 1 })]) 2 := by
 have hk0 := (List.getElem?_eq_some_iff.1 hk).1
 have hl1 : LL.set k (lst.take p ++ lst.drop (p + 1)) ≠ [] := by
  intro h0
  have := congrArg List.length h0
  simp at this
  rw [this] at hk0
  cases hk0
 have rest := m5 K od Dr (LL.set k (lst.take p ++ lst.drop (p + 1))) acc st hl1 (by rw [List.length_set]; exact hb) hK
 rw [List.length_set] at rest
 have ob := fun j => u8B j od
 have lb := fun j => lsB j (Dr ++ LL)
 have sb := fun j => stB j acc
 have hg : (rows ls1 (Dr ++ LL))[Dr.length + k]? = some (.fz (rows st1 lst) lst.length) := ls_get (by rw [List.getElem?_append_right (by omega)]; simpa using hk)
 have hXl : (rows ls1 (Dr ++ LL)).length = Dr.length + LL.length := by rw [rows_len (f := ls1) ls1_len, List.length_append, Nat.mul_one]
 have c1 : decide (0 ≤ (k : Int) ∧ (k : Int) < (LL.length : Int)) = true := decide_eq_true (by omega)
 have c2 : decide (0 ≤ (p : Int) ∧ (p : Int) ≤ (lst.length : Int)) = true := decide_eq_true (by omega)
 have wp : IntKind.i64.wrap ((p : Int) + 1) = ((p + 1 : Nat) : Int) := by rw [wrapL (by omega) (by omega)]; omega
 have c3 : decide (0 ≤ ((p + 1 : Nat) : Int) ∧ ((p + 1 : Nat) : Int) ≤ (lst.length : Int)) = true := decide_eq_true (by omega)
 have tP : List.take p (rows st1 lst) = rows st1 (lst.take p) := one_take st1_len _ _
 have dP : List.drop (p + 1) (rows st1 lst) = rows st1 (lst.drop (p + 1)) := one_drop st1_len _ _
 have lA : (rows st1 (lst.take p)).length = p := by rw [rows_len (f := st1) st1_len, List.length_take]; omega
 have lB : (rows st1 (lst.drop (p + 1))).length = lst.length - (p + 1) := by rw [rows_len (f := st1) st1_len, List.length_drop]; omega
 have gA : decide (16 * p ≤ growMax) = true := decide_eq_true (by simp only [growMax]; omega)
 have gB : decide (16 * (lst.length - (p + 1)) ≤ growMax) = true := decide_eq_true (by simp only [growMax]; omega)
 have gC : decide (16 * (p + (lst.length - (p + 1))) ≤ growMax) = true := decide_eq_true (by simp only [growMax]; omega)
 have c3 : decide (0 ≤ ((p + 1 : Nat) : Int) ∧ ((p + 1 : Nat) : Int) ≤ (lst.length : Int) ∧ 0 ≤ (lst.length : Int)) = true := decide_eq_true (by omega)
 have tB : List.take (lst.length - (p + 1)) (rows st1 (lst.drop (p + 1))) = rows st1 (lst.drop (p + 1)) := List.take_of_length_le (by rw [lB]; exact Nat.le_refl _)
 have oB : oneAll (rows st1 (lst.drop (p + 1))) = true := rows_one1 (fun _ => rfl) _
 have c4 : decide (Dr.length + k + 1 ≤ (rows ls1 (Dr ++ LL)).length) = true := decide_eq_true (by omega)
 have hset : ∀ R, rows ls1 (Dr ++ LL.set k R) = List.take (Dr.length + k) (rows ls1 (Dr ++ LL)) ++ [.fz (rows st1 R) R.length] ++ List.drop (Dr.length + k + 1) (rows ls1 (Dr ++ LL)) := fun R => by
  have h1 : Dr ++ LL.set k R = (Dr ++ LL).set (Dr.length + k) R := by rw [List.set_append_right _ _ (by omega), Nat.add_sub_cancel_left]
  rw [h1, List.set_eq_take_append_cons_drop, if_pos (by rw [List.length_append]; omega), rows_append, one_take ls1_len, one_drop ls1_len, rows_cons, List.append_assoc]
  rfl
 have hR : rows st1 (lst.take p ++ lst.drop (p + 1)) = rows st1 (lst.take p) ++ rows st1 (lst.drop (p + 1)) := rows_append
 have hRl : (lst.take p ++ lst.drop (p + 1)).length = p + (lst.length - (p + 1)) := by rw [List.length_append, List.length_take, List.length_drop]; omega
 have Y2 : ∀ j, belL j (List.take (Dr.length + k) (rows ls1 (Dr ++ LL)) ++ [.fz (rows st1 (lst.take p) ++ rows st1 (lst.drop (p + 1))) (p + (lst.length - (p + 1)))] ++ List.drop (Dr.length + k + 1) (rows ls1 (Dr ++ LL))) = true := fun j => by rw [← hRl, ← hR, ← hset]; exact lsB _ _
 have Y3 : ∀ ψ, renL ψ (List.take (Dr.length + k) (rows ls1 (Dr ++ LL)) ++ [.fz (rows st1 (lst.take p) ++ rows st1 (lst.drop (p + 1))) (p + (lst.length - (p + 1)))] ++ List.drop (Dr.length + k + 1) (rows ls1 (Dr ++ LL))) = List.take (Dr.length + k) (rows ls1 (Dr ++ LL)) ++ [.fz (rows st1 (lst.take p) ++ rows st1 (lst.drop (p + 1))) (p + (lst.length - (p + 1)))] ++ List.drop (Dr.length + k + 1) (rows ls1 (Dr ++ LL)) := fun ψ => by rw [← hRl, ← hR, ← hset]; exact lsR _ _
 have obr : ∀ ψ, renL ψ (rows u81 od) = rows u81 od := fun ψ => renL_fix0 _ (ob 0)
 have sr := fun ψ => stR ψ acc
 rw [hset, hR, hRl] at rest
 have hA0 : p = 0 → rows st1 (lst.take p) = [] := fun h => by subst h; rfl
 have hB0 : lst.length - (p + 1) = 0 → rows st1 (lst.drop (p + 1)) = [] := fun h => List.eq_nil_of_length_eq_zero (by rw [lB]; exact h)
 have A2 := fun j => stB j (lst.take p)
 have B2 := fun j => stB j (lst.drop (p + 1))
 have X2 := fun ψ => lsR ψ (Dr ++ LL)
 refine Seam.run (F := F19) hTL19 mo ?_
 dsimp only [F19, TL19]
 generalize hX : rows ls1 (Dr ++ LL) = X at *
 generalize rows st1 (lst.take p) = A at *
 generalize rows st1 (lst.drop (p + 1)) = B at *
 generalize hq : lst.length - (p + 1) = q at *
 clear hset hK hR hRl
 by_cases ha : acc = []
 · subst ha
   rw [oQv_0, oQh_0, List.nil_append] at rest ⊢
   by_cases p0 : p = 0
   · have e1 : decide (p = 0) = true := decide_eq_true p0
     by_cases q0 : q = 0
     · have e2 : decide (q = 0) = true := decide_eq_true q0
       simp (maxSteps := 400000) only [go_sem, c1, c2, wp, c3, hg, tP, dP, e1, e2, lA, lB, gA, gB, gC, hq, tB, oB, c4, List.drop_zero, Nat.mul_one, AV.bel, belL, nblt, ob, lb, simprocAttr]
       rw [hA0 p0, p0, List.nil_append, Nat.zero_add] at rest Y2 Y3
       rw [hB0 q0, q0] at rest Y2 Y3
       exact Seam.wk (F := F19) rest ⟨⟨_, rfl, Wka.refl _⟩, ⟨_, rfl, Wka.refl _⟩, ⟨_, rfl, Wka.refl _⟩, ⟨_, rfl, Wka.refl _⟩, trivial⟩ ⟨⟨_, rfl, rfl, rfl, rfl, WkaL.app (WkaL.app (WkaL.refl _) ⟨Wka.ns, trivial⟩) (WkaL.refl _)⟩, trivial⟩
     · have e2 : decide (q = 0) = false := decide_eq_false q0
       simp (maxSteps := 400000) only [go_sem, c1, c2, wp, c3, hg, tP, dP, e1, e2, lA, lB, gA, gB, gC, hq, tB, oB, c4, List.drop_zero, Nat.mul_one, AV.bel, belL, nblt, ob, lb, simprocAttr]
       rw [hA0 p0, p0, List.nil_append, Nat.zero_add] at rest Y2 Y3
       have r3 := Seam.ren (F := F19) (e := [(2, ordV od), (7, .sg 0 Dr.length LL.length), (10, AV.ns), (11, .i .i64 st)]) (h := [(0, { cells := List.take (Dr.length + k) X ++ [.fz B q] ++ List.drop (Dr.length + k + 1) X, gr := some 1 })]) (n := 3) [] rest (Nat.zero_le _) rfl ?_ ?_
       · exact Seam.frz (F := F19) (b := 2) (x := .sg 2 0 q) (o := 0) (m := q) (k := { cells := B, gr := some 1 }) (cs := B) r3 rfl rfl (.inr rfl) (.inl rfl) ⟨⟨_, rfl, FzV.refl⟩, ⟨_, rfl, FzV.refl⟩, ⟨_, rfl, FzV.refl⟩, ⟨_, rfl, FzV.refl⟩, trivial⟩ ⟨⟨by decide, _, rfl, rfl, rfl, rfl, FzVs.app (FzVs.app FzVs.refl ⟨FzV.hit, trivial⟩) FzVs.refl⟩, trivial⟩
       · simp (maxSteps := 400000) only [go_sem, AV.ren, renL, AV.bel, belL, nblt, ob, obr, simprocAttr]
       · simp (maxSteps := 400000) only [go_sem, AV.ren, renL, AV.bel, belL, nblt, Blk.ren, Y2, Y3, simprocAttr]
   · have e1 : decide (p = 0) = false := decide_eq_false p0
     by_cases q0 : q = 0
     · have e2 : decide (q = 0) = true := decide_eq_true q0
       simp (maxSteps := 400000) only [go_sem, c1, c2, wp, c3, hg, tP, dP, e1, e2, lA, lB, gA, gB, gC, hq, tB, oB, c4, List.drop_zero, Nat.mul_one, AV.bel, belL, nblt, ob, lb, simprocAttr]
       rw [hB0 q0, q0, List.append_nil, Nat.add_zero] at rest Y2 Y3
       have r3 := Seam.ren (F := F19) (e := [(2, ordV od), (7, .sg 0 Dr.length LL.length), (10, AV.ns), (11, .i .i64 st)]) (h := [(0, { cells := List.take (Dr.length + k) X ++ [.fz A p] ++ List.drop (Dr.length + k + 1) X, gr := some 1 })]) (n := 3) [] rest (Nat.zero_le _) rfl ?_ ?_
       · exact Seam.frz (F := F19) (b := 2) (x := .sg 2 0 p) (o := 0) (m := p) (k := { cells := A, gr := some 1 }) (cs := A) r3 rfl rfl (.inr rfl) (.inl rfl) ⟨⟨_, rfl, FzV.refl⟩, ⟨_, rfl, FzV.refl⟩, ⟨_, rfl, FzV.refl⟩, ⟨_, rfl, FzV.refl⟩, trivial⟩ ⟨⟨by decide, _, rfl, rfl, rfl, rfl, FzVs.app (FzVs.app FzVs.refl ⟨FzV.hit, trivial⟩) FzVs.refl⟩, trivial⟩
       · simp (maxSteps := 400000) only [go_sem, AV.ren, renL, AV.bel, belL, nblt, ob, obr, simprocAttr]
       · simp (maxSteps := 400000) only [go_sem, AV.ren, renL, AV.bel, belL, nblt, Blk.ren, Y2, Y3, simprocAttr]
     · have e2 : decide (q = 0) = false := decide_eq_false q0
       simp (maxSteps := 400000) only [go_sem, c1, c2, wp, c3, hg, tP, dP, e1, e2, lA, lB, gA, gB, gC, hq, tB, oB, c4, List.drop_zero, Nat.mul_one, AV.bel, belL, nblt, ob, lb, simprocAttr]
       have r3 := Seam.ren (F := F19) (e := [(2, ordV od), (7, .sg 0 Dr.length LL.length), (10, AV.ns), (11, .i .i64 st)]) (h := [(0, { cells := List.take (Dr.length + k) X ++ [.fz (A ++ B) (p + q)] ++ List.drop (Dr.length + k + 1) X, gr := some 1 })]) (n := 4) [] rest (Nat.zero_le _) rfl ?_ ?_
       · exact Seam.frz (F := F19) (b := 3) (x := .sg 3 0 (p + q)) (o := 0) (m := (p + q)) (k := { cells := (A ++ B), gr := some 1 }) (cs := (A ++ B)) r3 rfl rfl (.inr rfl) (.inl rfl) ⟨⟨_, rfl, FzV.refl⟩, ⟨_, rfl, FzV.refl⟩, ⟨_, rfl, FzV.refl⟩, ⟨_, rfl, FzV.refl⟩, trivial⟩ ⟨⟨by decide, _, rfl, rfl, rfl, rfl, FzVs.app (FzVs.app FzVs.refl ⟨FzV.hit, trivial⟩) FzVs.refl⟩, trivial⟩
       · simp (maxSteps := 400000) only [go_sem, AV.ren, renL, AV.bel, belL, nblt, ob, obr, simprocAttr]
       · simp (maxSteps := 400000) only [go_sem, AV.ren, renL, AV.bel, belL, nblt, Blk.ren, Y2, Y3, simprocAttr]
 · rw [oQv_n ha, oQh_n ha, List.cons_append, List.nil_append] at rest ⊢
   by_cases p0 : p = 0
   · have e1 : decide (p = 0) = true := decide_eq_true p0
     by_cases q0 : q = 0
     · have e2 : decide (q = 0) = true := decide_eq_true q0
       simp (maxSteps := 400000) only [go_sem, c1, c2, wp, c3, hg, tP, dP, e1, e2, lA, lB, gA, gB, gC, hq, tB, oB, c4, List.drop_zero, Nat.mul_one, AV.bel, belL, nblt, ob, lb, sb, simprocAttr]
       rw [hA0 p0, p0, List.nil_append, Nat.zero_add] at rest Y2 Y3
       rw [hB0 q0, q0] at rest Y2 Y3
       exact Seam.wk (F := F19) rest ⟨⟨_, rfl, Wka.refl _⟩, ⟨_, rfl, Wka.refl _⟩, ⟨_, rfl, Wka.refl _⟩, ⟨_, rfl, Wka.refl _⟩, trivial⟩ ⟨⟨_, rfl, rfl, rfl, rfl, WkaL.refl _⟩, ⟨⟨_, rfl, rfl, rfl, rfl, WkaL.app (WkaL.app (WkaL.refl _) ⟨Wka.ns, trivial⟩) (WkaL.refl _)⟩, trivial⟩⟩
     · have e2 : decide (q = 0) = false := decide_eq_false q0
       simp (maxSteps := 400000) only [go_sem, c1, c2, wp, c3, hg, tP, dP, e1, e2, lA, lB, gA, gB, gC, hq, tB, oB, c4, List.drop_zero, Nat.mul_one, AV.bel, belL, nblt, ob, lb, sb, simprocAttr]
       rw [hA0 p0, p0, List.nil_append, Nat.zero_add] at rest Y2 Y3
       have r3 := Seam.ren (F := F19) (e := [(2, ordV od), (7, .sg 0 Dr.length LL.length), (10, .sg 1 0 acc.length), (11, .i .i64 st)]) (h := (1, { cells := rows st1 acc, gr := some 1 }) :: [(0, { cells := List.take (Dr.length + k) X ++ [.fz B q] ++ List.drop (Dr.length + k + 1) X, gr := some 1 })]) (n := 3) [] rest (Nat.zero_le _) rfl ?_ ?_
       · exact Seam.frz (F := F19) (b := 2) (x := .sg 2 0 q) (o := 0) (m := q) (k := { cells := B, gr := some 1 }) (cs := B) r3 rfl rfl (.inr rfl) (.inl rfl) ⟨⟨_, rfl, FzV.refl⟩, ⟨_, rfl, FzV.refl⟩, ⟨_, rfl, FzV.refl⟩, ⟨_, rfl, FzV.refl⟩, trivial⟩ ⟨⟨by decide, _, rfl, rfl, rfl, rfl, FzVs.refl⟩, ⟨by decide, _, rfl, rfl, rfl, rfl, FzVs.app (FzVs.app FzVs.refl ⟨FzV.hit, trivial⟩) FzVs.refl⟩, trivial⟩
       · simp (maxSteps := 400000) only [go_sem, AV.ren, renL, AV.bel, belL, nblt, ob, obr, simprocAttr]
       · simp (maxSteps := 400000) only [go_sem, AV.ren, renL, AV.bel, belL, nblt, Blk.ren, Y2, Y3, sb, sr, simprocAttr]
   · have e1 : decide (p = 0) = false := decide_eq_false p0
     by_cases q0 : q = 0
     · have e2 : decide (q = 0) = true := decide_eq_true q0
       simp (maxSteps := 400000) only [go_sem, c1, c2, wp, c3, hg, tP, dP, e1, e2, lA, lB, gA, gB, gC, hq, tB, oB, c4, List.drop_zero, Nat.mul_one, AV.bel, belL, nblt, ob, lb, sb, simprocAttr]
       rw [hB0 q0, q0, List.append_nil, Nat.add_zero] at rest Y2 Y3
       have r3 := Seam.ren (F := F19) (e := [(2, ordV od), (7, .sg 0 Dr.length LL.length), (10, .sg 1 0 acc.length), (11, .i .i64 st)]) (h := (1, { cells := rows st1 acc, gr := some 1 }) :: [(0, { cells := List.take (Dr.length + k) X ++ [.fz A p] ++ List.drop (Dr.length + k + 1) X, gr := some 1 })]) (n := 3) [] rest (Nat.zero_le _) rfl ?_ ?_
       · exact Seam.frz (F := F19) (b := 2) (x := .sg 2 0 p) (o := 0) (m := p) (k := { cells := A, gr := some 1 }) (cs := A) r3 rfl rfl (.inr rfl) (.inl rfl) ⟨⟨_, rfl, FzV.refl⟩, ⟨_, rfl, FzV.refl⟩, ⟨_, rfl, FzV.refl⟩, ⟨_, rfl, FzV.refl⟩, trivial⟩ ⟨⟨by decide, _, rfl, rfl, rfl, rfl, FzVs.refl⟩, ⟨by decide, _, rfl, rfl, rfl, rfl, FzVs.app (FzVs.app FzVs.refl ⟨FzV.hit, trivial⟩) FzVs.refl⟩, trivial⟩
       · simp (maxSteps := 400000) only [go_sem, AV.ren, renL, AV.bel, belL, nblt, ob, obr, simprocAttr]
       · simp (maxSteps := 400000) only [go_sem, AV.ren, renL, AV.bel, belL, nblt, Blk.ren, Y2, Y3, sb, sr, simprocAttr]
     · have e2 : decide (q = 0) = false := decide_eq_false q0
       simp (maxSteps := 400000) only [go_sem, c1, c2, wp, c3, hg, tP, dP, e1, e2, lA, lB, gA, gB, gC, hq, tB, oB, c4, List.drop_zero, Nat.mul_one, AV.bel, belL, nblt, ob, lb, sb, simprocAttr]
       have r3 := Seam.ren (F := F19) (e := [(2, ordV od), (7, .sg 0 Dr.length LL.length), (10, .sg 1 0 acc.length), (11, .i .i64 st)]) (h := (1, { cells := rows st1 acc, gr := some 1 }) :: [(0, { cells := List.take (Dr.length + k) X ++ [.fz (A ++ B) (p + q)] ++ List.drop (Dr.length + k + 1) X, gr := some 1 })]) (n := 4) [] rest (Nat.zero_le _) rfl ?_ ?_
       · exact Seam.frz (F := F19) (b := 3) (x := .sg 3 0 (p + q)) (o := 0) (m := (p + q)) (k := { cells := (A ++ B), gr := some 1 }) (cs := (A ++ B)) r3 rfl rfl (.inr rfl) (.inl rfl) ⟨⟨_, rfl, FzV.refl⟩, ⟨_, rfl, FzV.refl⟩, ⟨_, rfl, FzV.refl⟩, ⟨_, rfl, FzV.refl⟩, trivial⟩ ⟨⟨by decide, _, rfl, rfl, rfl, rfl, FzVs.refl⟩, ⟨by decide, _, rfl, rfl, rfl, rfl, FzVs.app (FzVs.app FzVs.refl ⟨FzV.hit, trivial⟩) FzVs.refl⟩, trivial⟩
       · simp (maxSteps := 400000) only [go_sem, AV.ren, renL, AV.bel, belL, nblt, ob, obr, simprocAttr]
       · simp (maxSteps := 400000) only [go_sem, AV.ren, renL, AV.bel, belL, nblt, Blk.ren, Y2, Y3, sb, sr, simprocAttr]
theorem m3 (K : Kont) (od : List UInt8) (Dr LL : Lls) (acc : List (List UInt8)) (st k n : Nat) (lst : List (List UInt8)) (hk : LL[k]? = some lst) (hl : lst ≠ []) (hn : n < 256) (hll : lst.length ≤ 9000) (hac : acc.length ≤ 100000) (hb : Dr.length + LL.length ≤ 5)
 (hK : ∀ e h n', EnvIn 2 e [(2, ordV od), (7, lV (Dr.length + empN (LL.set k (remK n lst))) (dropE (LL.set k (remK n lst)))), (10, (oQ (acc ++ outK n lst)).v 1), (11, .i .i64 st)] → HpIn 2 h ((oQ (acc ++ outK n lst)).h 1 ++ [(0, { cells := rows ls1 (Dr ++ LL.set k (remK n lst)), gr := some 1 })]) → K .normal e h n') :
 Seam F19 (.seq (.reg i19r23) (.seq (.reg i19r24) (.seq (.seq (.reg i19r25) (.cond (.t 98) (.reg i19r26) .skip)) (.seq (.reg i19r27) (.seq (.reg i19r28) (.reg i19r29)))))) (thenK K (Seam F19 (.block 4 (.loop i19l32)) K)) [(2, ordV od), (7, .sg 0 Dr.length LL.length), (10, (oQ acc).v 1), (11, .i .i64 st), (12, .i .i64 n), (13, .i .i64 k)] ((oQ acc).h 1 ++ [(0, { cells := rows ls1 (Dr ++ LL), gr := some 1 })]) 2 := by
 have hk0 := (List.getElem?_eq_some_iff.1 hk).1
 have h0 : 0 < lst.length := by cases lst with
  | nil => exact absurd rfl hl
  | cons _ _ => simp
 have hp : atK n lst < lst.length := Nat.mod_lt _ h0
 have rest := m4 K od Dr LL (acc ++ outK n lst) st k (atK n lst) lst hk hp hll hb hK
 obtain ⟨s, hs⟩ : ∃ s, lst[atK n lst]? = some s := ⟨_, List.getElem?_eq_getElem hp⟩
 have hO : outK n lst = bif n % 3 == 0 then [s, s] else [s] := by simp only [outK, List.getD_eq_getElem?_getD, hs, Option.getD_some]
 rw [hO] at rest
 clear hK hO
 have tm1 : ((n / 8 : Nat) : Int).tmod (lst.length : Int) = ((atK n lst : Nat) : Int) := by rw [Int.tmod_eq_emod_of_nonneg (by omega)]; rfl
 have td : (n : Int).tdiv 8 = ((n / 8 : Nat) : Int) := by rw [Int.tdiv_eq_ediv_of_nonneg (by omega)]; rfl
 have tm3 : (n : Int).tmod 3 = ((n % 3 : Nat) : Int) := by rw [Int.tmod_eq_emod_of_nonneg (by omega)]; rfl
 have w8 : IntKind.i64.wrap ((n / 8 : Nat) : Int) = ((n / 8 : Nat) : Int) := wrapL (by omega) (by omega)
 generalize atK n lst = p at *
 have hg : (rows ls1 (Dr ++ LL))[Dr.length + k]? = some (.fz (rows st1 lst) lst.length) := ls_get (by rw [List.getElem?_append_right (by omega)]; simpa using hk)
 have hsg := st_get3 hs
 have c1 : decide (0 ≤ (k : Int) ∧ (k : Int) < (LL.length : Int)) = true := decide_eq_true (by omega)
 have c2 : ((lst.length : Int) != 0) = true := by rw [bne_iff_ne]; omega
 have c3 : decide (0 ≤ (p : Int) ∧ (p : Int) < (lst.length : Int)) = true := decide_eq_true (by omega)
 have ob := fun j => u8B j od
 have obr : ∀ ψ, renL ψ (rows u81 od) = rows u81 od := fun ψ => renL_fix0 _ (ob 0)
 have lb := fun j => lsB j (Dr ++ LL)
 have lr := fun ψ => lsR ψ (Dr ++ LL)
 have sb := fun j => stB j acc
 have sr := fun ψ => stR ψ acc
 have sl : (rows st1 acc).length = acc.length * 1 := rows_len st1_len
 have g0 : decide (16 ≤ growMax) = true := by decide
 have g1 : decide (16 * (acc.length + 1) ≤ growMax) = true := decide_eq_true (by simp only [growMax]; omega)
 have g2 : decide (16 * (acc.length + 1 + 1) ≤ growMax) = true := decide_eq_true (by simp only [growMax]; omega)
 have g3 : decide (32 ≤ growMax) = true := by decide
 have sl2 : (rows st1 acc ++ [AV.s s]).length = (acc.length + 1) * 1 := by rw [List.length_append, sl]; simp
 have sl3 : decide ((rows st1 acc ++ [AV.s s]).length = acc.length + 1) = true := decide_eq_true (by rw [sl2, Nat.mul_one])
 have b1 : ∀ j, belL j (rows st1 acc ++ [AV.s s]) = true := fun j => by have := stB j (acc ++ [s]); rw [rows_append] at this; exact this
 have r1 : ∀ ψ, renL ψ (rows st1 acc ++ [AV.s s]) = rows st1 acc ++ [AV.s s] := fun ψ => by have := stR ψ (acc ++ [s]); rw [rows_append] at this; exact this
 have b2 : ∀ j, belL j (rows st1 acc ++ [AV.s s] ++ [AV.s s]) = true := fun j => by have := stB j (acc ++ [s] ++ [s]); rw [rows_append, rows_append] at this; exact this
 have r2 : ∀ ψ, renL ψ (rows st1 acc ++ [AV.s s] ++ [AV.s s]) = rows st1 acc ++ [AV.s s] ++ [AV.s s] := fun ψ => by have := stR ψ (acc ++ [s] ++ [s]); rw [rows_append, rows_append] at this; exact this
 have ne1 : acc ++ [s] ≠ [] := by simp
 have ne2 : acc ++ [s, s] ≠ [] := by simp
 have q1 : rows st1 (acc ++ [s]) = rows st1 acc ++ [AV.s s] := by rw [rows_append]; rfl
 have q2 : rows st1 (acc ++ [s, s]) = rows st1 acc ++ [AV.s s] ++ [AV.s s] := by rw [rows_append, List.append_assoc]; rfl
 have z1 : (acc ++ [s]).length = acc.length + 1 := by simp
 have z2 : (acc ++ [s, s]).length = acc.length + 1 + 1 := by simp
 by_cases ha : acc = []
 · subst ha
   rw [oQv_0, oQh_0, List.nil_append]
   refine Seam.part (F := F19) hTL19 mo ?_
   dsimp only [F19, TL19]
   simp (maxSteps := 400000) only [go_sem, c1, c2, c3, td, tm1, w8, hg, hsg, g0, g1, sl, List.drop_zero, Nat.mul_one, AV.bel, belL, nblt, ob, lb, sb, simprocAttr]
   refine Seam.part (F := F19) hTL19 mo ?_
   dsimp only [F19, TL19]
   simp (maxSteps := 400000) only [go_sem, c1, c2, c3, td, tm1, w8, hg, hsg, g0, g1, sl, List.drop_zero, Nat.mul_one, AV.bel, belL, nblt, ob, lb, sb, simprocAttr]
   cases c5 : (n % 3 == 0)
   · rw [c5, cond_false, oQv_n ne1, oQh_n ne1, q1, z1] at rest
     refine Seam.part (F := F19) hTL19 mo ?_
     dsimp only [F19, TL19]
     have c6 : (((n % 3 : Nat) : Int) == 0) = false := by rw [beq_eq_false_iff_ne]; have := beq_eq_false_iff_ne.1 c5; omega
     simp (maxSteps := 400000) only [go_sem, tm3, c6, g2, g3, sl2, sl3, b1, c1, c2, c3, td, tm1, w8, hg, hsg, g0, g1, sl, List.drop_zero, Nat.mul_one, AV.bel, belL, nblt, ob, lb, sb, simprocAttr]
     refine Seam.ren (F := F19) [(1, 3)] rest (Nat.zero_le _) rfl ?_ ?_
     · simp (maxSteps := 400000) only [go_sem, AV.ren, renL, AV.bel, belL, nblt, ob, obr, simprocAttr]
     · simp (maxSteps := 400000) only [go_sem, AV.ren, renL, AV.bel, belL, nblt, Blk.ren, lb, lr, rows_nil, List.nil_append, simprocAttr]
   · rw [c5, cond_true, oQv_n ne2, oQh_n ne2, q2, z2] at rest
     refine Seam.part (F := F19) hTL19 mo ?_
     dsimp only [F19, TL19]
     have c6 : (((n % 3 : Nat) : Int) == 0) = true := by rw [beq_iff_eq]; have := beq_iff_eq.1 c5; omega
     simp (maxSteps := 400000) only [go_sem, tm3, c6, g2, g3, sl2, sl3, b1, c1, c2, c3, td, tm1, w8, hg, hsg, g0, g1, sl, List.drop_zero, Nat.mul_one, AV.bel, belL, nblt, ob, lb, sb, simprocAttr]
     refine Seam.ren (F := F19) [(1, 5)] rest (Nat.zero_le _) rfl ?_ ?_
     · simp (maxSteps := 400000) only [go_sem, AV.ren, renL, AV.bel, belL, nblt, ob, obr, simprocAttr]
     · simp (maxSteps := 400000) only [go_sem, AV.ren, renL, AV.bel, belL, nblt, Blk.ren, lb, lr, rows_nil, List.nil_append, simprocAttr]
 · rw [oQv_n ha, oQh_n ha, List.cons_append, List.nil_append]
   refine Seam.part (F := F19) hTL19 mo ?_
   dsimp only [F19, TL19]
   simp (maxSteps := 400000) only [go_sem, c1, c2, c3, td, tm1, w8, hg, hsg, g0, g1, sl, List.drop_zero, Nat.mul_one, AV.bel, belL, nblt, ob, lb, sb, simprocAttr]
   refine Seam.part (F := F19) hTL19 mo ?_
   dsimp only [F19, TL19]
   simp (maxSteps := 400000) only [go_sem, c1, c2, c3, td, tm1, w8, hg, hsg, g0, g1, sl, List.drop_zero, Nat.mul_one, AV.bel, belL, nblt, ob, lb, sb, simprocAttr]
   cases c5 : (n % 3 == 0)
   · rw [c5, cond_false, oQv_n ne1, oQh_n ne1, q1, z1] at rest
     refine Seam.part (F := F19) hTL19 mo ?_
     dsimp only [F19, TL19]
     have c6 : (((n % 3 : Nat) : Int) == 0) = false := by rw [beq_eq_false_iff_ne]; have := beq_eq_false_iff_ne.1 c5; omega
     simp (maxSteps := 400000) only [go_sem, tm3, c6, g2, g3, sl2, sl3, b1, c1, c2, c3, td, tm1, w8, hg, hsg, g0, g1, sl, List.drop_zero, Nat.mul_one, AV.bel, belL, nblt, ob, lb, sb, simprocAttr]
     refine Seam.ren (F := F19) [(1, 3)] rest (Nat.zero_le _) rfl ?_ ?_
     · simp (maxSteps := 400000) only [go_sem, AV.ren, renL, AV.bel, belL, nblt, ob, obr, simprocAttr]
     · simp (maxSteps := 400000) only [go_sem, AV.ren, renL, AV.bel, belL, nblt, Blk.ren, lb, lr, sb, sr, b1, r1, b2, r2, simprocAttr]
   · rw [c5, cond_true, oQv_n ne2, oQh_n ne2, q2, z2] at rest
     refine Seam.part (F := F19) hTL19 mo ?_
     dsimp only [F19, TL19]
     have c6 : (((n % 3 : Nat) : Int) == 0) = true := by rw [beq_iff_eq]; have := beq_iff_eq.1 c5; omega
     simp (maxSteps := 400000) only [go_sem, tm3, c6, g2, g3, sl2, sl3, b1, c1, c2, c3, td, tm1, w8, hg, hsg, g0, g1, sl, List.drop_zero, Nat.mul_one, AV.bel, belL, nblt, ob, lb, sb, simprocAttr]
     refine Seam.ren (F := F19) [(1, 5)] rest (Nat.zero_le _) rfl ?_ ?_
     · simp (maxSteps := 400000) only [go_sem, AV.ren, renL, AV.bel, belL, nblt, ob, obr, simprocAttr]
     · simp (maxSteps := 400000) only [go_sem, AV.ren, renL, AV.bel, belL, nblt, Blk.ren, lb, lr, sb, sr, b1, r1, b2, r2, simprocAttr]
theorem m2 (K : Kont) (od : List UInt8) (Dr LL : Lls) (acc : List (List UInt8)) (st n : Nat) (hL : LL ≠ []) (hf : Frt LL) (hn : n < 256) (hll : ∀ x ∈ LL, x.length ≤ 9000) (hac : acc.length ≤ 100000) (hb : Dr.length + LL.length ≤ 5)
 (hK : ∀ e h n', EnvIn 2 e [(2, ordV od), (7, lV (Dr.length + empN (setK n LL)) (dropE (setK n LL))), (10, (oQ (acc ++ outK n (LL.getD (pickK n LL) []))).v 1), (11, .i .i64 st)] → HpIn 2 h ((oQ (acc ++ outK n (LL.getD (pickK n LL) []))).h 1 ++ [(0, { cells := rows ls1 (Dr ++ setK n LL), gr := some 1 })]) → K .normal e h n') :
 Seam F19 (.seq (.seq (.reg i19r22) (.cond (.t 77) (.seq (.reg i19r23) (.seq (.reg i19r24) (.seq (.seq (.reg i19r25) (.cond (.t 98) (.reg i19r26) .skip)) (.seq (.reg i19r27) (.seq (.reg i19r28) (.reg i19r29)))))) .skip)) (.block 4 (.loop i19l32))) K [(2, ordV od), (7, .sg 0 Dr.length LL.length), (10, (oQ acc).v 1), (11, .i .i64 st), (12, .i .i64 n), (13, .i .i64 (pickK n LL : Nat))] ((oQ acc).h 1 ++ [(0, { cells := rows ls1 (Dr ++ LL), gr := some 1 })]) 2 := by
 have hkl := pickK_lt (n := n) hL
 have hne := pickK_ne (n := n) hL hf
 obtain ⟨lst, hk⟩ : ∃ lst, LL[pickK n LL]? = some lst := ⟨_, List.getElem?_eq_getElem hkl⟩
 have hgd : LL.getD (pickK n LL) [] = lst := by simp only [List.getD_eq_getElem?_getD, hk, Option.getD_some]
 have hst : setK n LL = LL.set (pickK n LL) (remK n lst) := by simp only [setK, hgd]
 rw [hgd] at hne hK
 rw [hst] at hK
 have rest := m3 K od Dr LL acc st (pickK n LL) n lst hk hne hn (hll lst (List.mem_of_getElem? hk)) hac hb hK
 clear hK hgd hst
 generalize pickK n LL = k at *
 have hg : (rows ls1 (Dr ++ LL))[Dr.length + k]? = some (.fz (rows st1 lst) lst.length) := ls_get (by rw [List.getElem?_append_right (by omega)]; simpa using hk)
 have h0 : 0 < lst.length := by cases lst with
  | nil => exact absurd rfl hne
  | cons _ _ => simp
 have c1 : decide (0 ≤ (k : Int) ∧ (k : Int) < (LL.length : Int)) = true := decide_eq_true (by omega)
 have c2 : decide ((lst.length : Int) > 0) = true := decide_eq_true (by omega)
 have c3 : decide (0 < lst.length) = true := decide_eq_true (by omega)
 have ob := fun j => u8B j od
 have obr : ∀ ψ, renL ψ (rows u81 od) = rows u81 od := fun ψ => renL_fix0 _ (ob 0)
 have lb := fun j => lsB j (Dr ++ LL)
 have lr := fun ψ => lsR ψ (Dr ++ LL)
 have sb := fun j => stB j acc
 have sr := fun ψ => stR ψ acc
 refine Seam.seq ?_
 refine Seam.seq ?_
 by_cases ha : acc = []
 · subst ha
   rw [oQv_0, oQh_0, List.nil_append] at rest ⊢
   refine Seam.run (F := F19) hTL19 mo ?_
   dsimp only [F19, TL19]
   simp (maxSteps := 400000) only [go_sem, c1, c2, c3, hg, Nat.mul_one, AV.bel, belL, nblt, ob, lb, simprocAttr]
   refine Seam.condT rfl ?_
   refine Seam.ren (F := F19) [] rest (Nat.zero_le _) rfl ?_ ?_
   · simp (maxSteps := 400000) only [go_sem, AV.ren, renL, AV.bel, belL, nblt, ob, obr, simprocAttr]
   · simp (maxSteps := 400000) only [go_sem, AV.ren, renL, AV.bel, belL, nblt, Blk.ren, lb, lr, simprocAttr]
 · rw [oQv_n ha, oQh_n ha, List.cons_append, List.nil_append] at rest ⊢
   refine Seam.run (F := F19) hTL19 mo ?_
   dsimp only [F19, TL19]
   simp (maxSteps := 400000) only [go_sem, c1, c2, c3, hg, Nat.mul_one, AV.bel, belL, nblt, ob, lb, sb, sr, simprocAttr]
   refine Seam.condT rfl ?_
   refine Seam.ren (F := F19) [] rest (Nat.zero_le _) rfl ?_ ?_
   · simp (maxSteps := 400000) only [go_sem, AV.ren, renL, AV.bel, belL, nblt, ob, obr, simprocAttr]
   · simp (maxSteps := 400000) only [go_sem, AV.ren, renL, AV.bel, belL, nblt, Blk.ren, lb, lr, sb, sr, simprocAttr]
theorem m1 (K : Kont) (od : List UInt8) (Dr LL : Lls) (acc : List (List UInt8)) (st : Nat) (hod : od.length ≤ 9223372036854775807) (hst : st ≤ 100000) (hL : LL ≠ []) (hf : Frt LL) (hll : ∀ x ∈ LL, x.length ≤ 9000) (hac : acc.length ≤ 100000) (hb : Dr.length + LL.length ≤ 5)
 (hK : ∀ e h n', EnvIn 2 e [(2, ordV od), (7, lV (Dr.length + empN (setK (orK od st) LL)) (dropE (setK (orK od st) LL))), (10, (oQ (acc ++ outK (orK od st) (LL.getD (pickK (orK od st) LL) []))).v 1), (11, .i .i64 (st + 1 : Nat))] → HpIn 2 h ((oQ (acc ++ outK (orK od st) (LL.getD (pickK (orK od st) LL) []))).h 1 ++ [(0, { cells := rows ls1 (Dr ++ setK (orK od st) LL), gr := some 1 })]) → K .normal e h n') :
 Seam F19 (.seq (.reg i19r13) (.seq (.seq (.reg i19r14) (.cond (.t 49) (.reg i19r15) .skip)) (.seq (.reg i19r16) (.seq (.reg i19r17) (.seq (.seq (.reg i19r18) (.cond (.t 65) (.reg i19r19) .skip)) (.seq (.seq (.reg i19r20) (.cond (.t 71) (.reg i19r21) .skip)) (.seq (.seq (.reg i19r22) (.cond (.t 77) (.seq (.reg i19r23) (.seq (.reg i19r24) (.seq (.seq (.reg i19r25) (.cond (.t 98) (.reg i19r26) .skip)) (.seq (.reg i19r27) (.seq (.reg i19r28) (.reg i19r29)))))) .skip)) (.block 4 (.loop i19l32))))))))) K [(2, ordV od), (7, .sg 0 Dr.length LL.length), (10, (oQ acc).v 1), (11, .i .i64 st)] ((oQ acc).h 1 ++ [(0, { cells := rows ls1 (Dr ++ LL), gr := some 1 })]) 2 := by
 have hn : orK od st < 256 := by
  unfold orK
  split
  · rename_i b _; exact UInt8.toNat_lt b
  · decide
 have rest := m2 K od Dr LL acc (st + 1) (orK od st) hL hf hn hll hac hb hK
 clear hK
 have hP : pickK (orK od st) LL = bif (LL.getD (pick1 (orK od st) LL) []).length == 0 then 0 else pick1 (orK od st) LL := rfl
 have hP1 : pick1 (orK od st) LL = bif decide (4 ≤ orK od st % LL.length) then 0 else orK od st % LL.length := rfl
 have hp1 := pick1_lt (n := orK od st) hL
 have hO : (od = [] ∧ orK od st = 0) ∨ (∃ b, od[st % od.length]? = some b ∧ orK od st = b.toNat ∧ od.length ≠ 0) := by
  by_cases h : od = []
  · exact .inl ⟨h, by subst h; rfl⟩
  · have h0 : 0 < od.length := by cases od with
     | nil => exact absurd rfl h
     | cons _ _ => simp
    obtain ⟨b, hb⟩ : ∃ b, od[st % od.length]? = some b := ⟨_, List.getElem?_eq_getElem (Nat.mod_lt _ h0)⟩
    exact .inr ⟨b, hb, by simp only [orK, hb], by omega⟩
 have hl0 : 0 < LL.length := by omega
 have tm1 : ∀ p q : Nat, (p : Int).tmod (q : Int) = ((p % q : Nat) : Int) := fun p q => by rw [Int.tmod_eq_emod_of_nonneg (by omega)]; rfl
 have o1 := tm1 (orK od st) LL.length
 have o2 := tm1 st od.length
 have hm := Nat.mod_lt (orK od st) hl0
 have hsm : od.length ≠ 0 → st % od.length < od.length := fun h => Nat.mod_lt _ (by omega)
 generalize orK od st = n at *
 generalize pickK n LL = P at *
 generalize pick1 n LL = P1 at *
 generalize n % LL.length = N at *
 generalize hSM : st % od.length = sm at *
 obtain ⟨x, hx⟩ : ∃ x, LL[P1]? = some x := ⟨_, List.getElem?_eq_getElem hp1⟩
 have hgd : LL.getD P1 [] = x := by simp only [List.getD_eq_getElem?_getD, hx, Option.getD_some]
 rw [hgd] at hP
 clear hgd
 have hg : (rows ls1 (Dr ++ LL))[Dr.length + P1]? = some (.fz (rows st1 x) x.length) := ls_get (by rw [List.getElem?_append_right (by omega)]; simpa using hx)
 have c1 : decide (0 ≤ (P1 : Int) ∧ (P1 : Int) < (LL.length : Int)) = true := decide_eq_true (by omega)
 have c2 : ((LL.length : Int) != 0) = true := by rw [bne_iff_ne]; omega
 have wst : IntKind.i64.wrap ((st : Int) + 1) = ((st + 1 : Nat) : Int) := by rw [wrapL (by omega) (by omega)]; omega
 have ob := fun j => u8B j od
 have obr : ∀ ψ, renL ψ (rows u81 od) = rows u81 od := fun ψ => renL_fix0 _ (ob 0)
 have hog : ∀ (k : Nat) (b : UInt8), od[k]? = some b → (rows u81 od)[k]? = some (AV.i .u8 (b.toNat : Int)) := fun (k : Nat) (b : UInt8) hk => by
  have h1 := rows_at (f := u81) (fun _ => rfl) hk
  have h2 : (List.take 1 (List.drop (k * 1) (rows u81 od)))[0]? = some (AV.i .u8 (b.toNat : Int)) := by rw [show List.take 1 (List.drop (k * 1) (rows u81 od)) = u81 b from h1]; rfl
  rw [List.getElem?_take, if_pos (by decide), List.getElem?_drop, Nat.mul_one, Nat.add_zero] at h2
  exact h2
 have lb := fun j => lsB j (Dr ++ LL)
 have lr := fun ψ => lsR ψ (Dr ++ LL)
 have sb := fun j => stB j acc
 have sr := fun ψ => stR ψ acc
 by_cases ha : acc = []
 · subst ha
   rw [oQv_0, oQh_0, List.nil_append] at rest ⊢
   have k20 : Seam F19 (.seq (.seq (.reg i19r20) (.cond (.t 71) (.reg i19r21) .skip)) (.seq (.seq (.reg i19r22) (.cond (.t 77) (.seq (.reg i19r23) (.seq (.reg i19r24) (.seq (.seq (.reg i19r25) (.cond (.t 98) (.reg i19r26) .skip)) (.seq (.reg i19r27) (.seq (.reg i19r28) (.reg i19r29)))))) .skip)) (.block 4 (.loop i19l32)))) K [(2, ordV od), (7, .sg 0 Dr.length LL.length), (10, AV.ns), (11, .i .i64 (st + 1 : Nat)), (12, .i .i64 n), (13, .i .i64 P1)] [(0, { cells := rows ls1 (Dr ++ LL), gr := some 1 })] 2 := by
    refine Seam.part (F := F19) hTL19 mo ?_
    dsimp only [F19, TL19]
    cases c5 : (x.length == 0)
    · have c6 : ((x.length : Int) == 0) = false := by rw [beq_eq_false_iff_ne]; have := beq_eq_false_iff_ne.1 c5; omega
      rw [c5, cond_false] at hP
      rw [hP] at rest
      simp (maxSteps := 400000) only [go_sem, c1, c6, hg, Nat.mul_one, AV.bel, belL, nblt, ob, lb, simprocAttr]
      refine Seam.ren (F := F19) [] rest (Nat.zero_le _) rfl ?_ ?_
      · simp (maxSteps := 400000) only [go_sem, AV.ren, renL, AV.bel, belL, nblt, ob, obr, simprocAttr]
      · simp (maxSteps := 400000) only [go_sem, AV.ren, renL, AV.bel, belL, nblt, Blk.ren, lb, lr, simprocAttr]
    · have c6 : ((x.length : Int) == 0) = true := by rw [beq_iff_eq]; have := beq_iff_eq.1 c5; omega
      rw [c5, cond_true] at hP
      rw [hP] at rest
      simp (maxSteps := 400000) only [go_sem, c1, c6, hg, Nat.mul_one, AV.bel, belL, nblt, ob, lb, simprocAttr]
      refine Seam.ren (F := F19) [] rest (Nat.zero_le _) rfl ?_ ?_
      · simp (maxSteps := 400000) only [go_sem, AV.ren, renL, AV.bel, belL, nblt, ob, obr, simprocAttr]
      · simp (maxSteps := 400000) only [go_sem, AV.ren, renL, AV.bel, belL, nblt, Blk.ren, lb, lr, simprocAttr]
   have k17 : Seam F19 (.seq (.reg i19r17) (.seq (.seq (.reg i19r18) (.cond (.t 65) (.reg i19r19) .skip)) (.seq (.seq (.reg i19r20) (.cond (.t 71) (.reg i19r21) .skip)) (.seq (.seq (.reg i19r22) (.cond (.t 77) (.seq (.reg i19r23) (.seq (.reg i19r24) (.seq (.seq (.reg i19r25) (.cond (.t 98) (.reg i19r26) .skip)) (.seq (.reg i19r27) (.seq (.reg i19r28) (.reg i19r29)))))) .skip)) (.block 4 (.loop i19l32)))))) K [(2, ordV od), (7, .sg 0 Dr.length LL.length), (10, AV.ns), (11, .i .i64 (st + 1 : Nat)), (12, .i .i64 n)] [(0, { cells := rows ls1 (Dr ++ LL), gr := some 1 })] 2 := by
    refine Seam.part (F := F19) hTL19 mo ?_
    dsimp only [F19, TL19]
    simp (maxSteps := 400000) only [go_sem, o1, c2, simprocAttr]
    refine Seam.part (F := F19) hTL19 mo ?_
    dsimp only [F19, TL19]
    cases c5 : decide (4 ≤ N)
    · rw [c5, cond_false] at hP1
      rw [hP1] at k20
      have c7 : decide ((N : Int) ≥ 4) = false := decide_eq_false (by have := of_decide_eq_false c5; omega)
      simp (maxSteps := 400000) only [go_sem, c5, c7, simprocAttr]
      refine Seam.ren (F := F19) [] k20 (Nat.zero_le _) rfl ?_ ?_
      · simp (maxSteps := 400000) only [go_sem, AV.ren, renL, AV.bel, belL, nblt, ob, obr, simprocAttr]
      · simp (maxSteps := 400000) only [go_sem, AV.ren, renL, AV.bel, belL, nblt, Blk.ren, lb, lr, simprocAttr]
    · rw [c5, cond_true] at hP1
      rw [hP1] at k20
      have c7 : decide ((N : Int) ≥ 4) = true := decide_eq_true (by have := of_decide_eq_true c5; omega)
      simp (maxSteps := 400000) only [go_sem, c5, c7, simprocAttr]
      refine Seam.ren (F := F19) [] k20 (Nat.zero_le _) rfl ?_ ?_
      · simp (maxSteps := 400000) only [go_sem, AV.ren, renL, AV.bel, belL, nblt, ob, obr, simprocAttr]
      · simp (maxSteps := 400000) only [go_sem, AV.ren, renL, AV.bel, belL, nblt, Blk.ren, lb, lr, simprocAttr]
   refine Seam.part (F := F19) hTL19 mo ?_
   dsimp only [F19, TL19]
   simp (maxSteps := 400000) only [go_sem, simprocAttr]
   refine Seam.part (F := F19) hTL19 mo ?_
   dsimp only [F19, TL19]
   rcases hO with ⟨ho, hn0⟩ | ⟨b, hob, hn0, hne⟩
   · have d1 : decide ((od.length : Int) > 0) = false := by rw [ho]; rfl
     have d2 : decide (0 < od.length) = false := by rw [ho]; rfl
     simp (maxSteps := 400000) only [go_sem, d1, d2, simprocAttr]
     refine Seam.part (F := F19) hTL19 mo ?_
     dsimp only [F19, TL19]
     simp (maxSteps := 400000) only [go_sem, wst, simprocAttr]
     rw [hn0] at k17
     refine Seam.ren (F := F19) [] k17 (Nat.zero_le _) rfl ?_ ?_
     · simp (maxSteps := 400000) only [go_sem, AV.ren, renL, AV.bel, belL, nblt, ob, obr, simprocAttr]
     · simp (maxSteps := 400000) only [go_sem, AV.ren, renL, AV.bel, belL, nblt, Blk.ren, lb, lr, simprocAttr]
   · have d1 : decide ((od.length : Int) > 0) = true := decide_eq_true (by omega)
     have d2 : decide (0 < od.length) = true := decide_eq_true (by omega)
     have d3 : ((od.length : Int) != 0) = true := by rw [bne_iff_ne]; omega
     have d4 : decide (0 ≤ (sm : Int) ∧ (sm : Int) < (od.length : Int)) = true := decide_eq_true (by have := hsm hne; omega)
     have d5 := hog sm b hob
     have d6 : IntKind.i64.wrap (b.toNat : Int) = (n : Int) := by rw [hn0]; have := UInt8.toNat_lt b; exact wrapL (by omega) (by omega)
     simp (maxSteps := 400000) only [go_sem, d1, d2, d3, d4, d5, d6, o2, Nat.mul_one, simprocAttr]
     refine Seam.part (F := F19) hTL19 mo ?_
     dsimp only [F19, TL19]
     simp (maxSteps := 400000) only [go_sem, wst, simprocAttr]
     refine Seam.ren (F := F19) [] k17 (Nat.zero_le _) rfl ?_ ?_
     · simp (maxSteps := 400000) only [go_sem, AV.ren, renL, AV.bel, belL, nblt, ob, obr, simprocAttr]
     · simp (maxSteps := 400000) only [go_sem, AV.ren, renL, AV.bel, belL, nblt, Blk.ren, lb, lr, simprocAttr]
 · rw [oQv_n ha, oQh_n ha, List.cons_append, List.nil_append] at rest ⊢
   have k20 : Seam F19 (.seq (.seq (.reg i19r20) (.cond (.t 71) (.reg i19r21) .skip)) (.seq (.seq (.reg i19r22) (.cond (.t 77) (.seq (.reg i19r23) (.seq (.reg i19r24) (.seq (.seq (.reg i19r25) (.cond (.t 98) (.reg i19r26) .skip)) (.seq (.reg i19r27) (.seq (.reg i19r28) (.reg i19r29)))))) .skip)) (.block 4 (.loop i19l32)))) K [(2, ordV od), (7, .sg 0 Dr.length LL.length), (10, .sg 1 0 acc.length), (11, .i .i64 (st + 1 : Nat)), (12, .i .i64 n), (13, .i .i64 P1)] [(1, { cells := rows st1 acc, gr := some 1 }), (0, { cells := rows ls1 (Dr ++ LL), gr := some 1 })] 2 := by
    refine Seam.part (F := F19) hTL19 mo ?_
    dsimp only [F19, TL19]
    cases c5 : (x.length == 0)
    · have c6 : ((x.length : Int) == 0) = false := by rw [beq_eq_false_iff_ne]; have := beq_eq_false_iff_ne.1 c5; omega
      rw [c5, cond_false] at hP
      rw [hP] at rest
      simp (maxSteps := 400000) only [go_sem, c1, c6, hg, Nat.mul_one, AV.bel, belL, nblt, ob, lb, sb, sr, simprocAttr]
      refine Seam.ren (F := F19) [] rest (Nat.zero_le _) rfl ?_ ?_
      · simp (maxSteps := 400000) only [go_sem, AV.ren, renL, AV.bel, belL, nblt, ob, obr, simprocAttr]
      · simp (maxSteps := 400000) only [go_sem, AV.ren, renL, AV.bel, belL, nblt, Blk.ren, lb, lr, sb, sr, simprocAttr]
    · have c6 : ((x.length : Int) == 0) = true := by rw [beq_iff_eq]; have := beq_iff_eq.1 c5; omega
      rw [c5, cond_true] at hP
      rw [hP] at rest
      simp (maxSteps := 400000) only [go_sem, c1, c6, hg, Nat.mul_one, AV.bel, belL, nblt, ob, lb, sb, sr, simprocAttr]
      refine Seam.ren (F := F19) [] rest (Nat.zero_le _) rfl ?_ ?_
      · simp (maxSteps := 400000) only [go_sem, AV.ren, renL, AV.bel, belL, nblt, ob, obr, simprocAttr]
      · simp (maxSteps := 400000) only [go_sem, AV.ren, renL, AV.bel, belL, nblt, Blk.ren, lb, lr, sb, sr, simprocAttr]
   have k17 : Seam F19 (.seq (.reg i19r17) (.seq (.seq (.reg i19r18) (.cond (.t 65) (.reg i19r19) .skip)) (.seq (.seq (.reg i19r20) (.cond (.t 71) (.reg i19r21) .skip)) (.seq (.seq (.reg i19r22) (.cond (.t 77) (.seq (.reg i19r23) (.seq (.reg i19r24) (.seq (.seq (.reg i19r25) (.cond (.t 98) (.reg i19r26) .skip)) (.seq (.reg i19r27) (.seq (.reg i19r28) (.reg i19r29)))))) .skip)) (.block 4 (.loop i19l32)))))) K [(2, ordV od), (7, .sg 0 Dr.length LL.length), (10, .sg 1 0 acc.length), (11, .i .i64 (st + 1 : Nat)), (12, .i .i64 n)] [(1, { cells := rows st1 acc, gr := some 1 }), (0, { cells := rows ls1 (Dr ++ LL), gr := some 1 })] 2 := by
    refine Seam.part (F := F19) hTL19 mo ?_
    dsimp only [F19, TL19]
    simp (maxSteps := 400000) only [go_sem, o1, c2, simprocAttr]
    refine Seam.part (F := F19) hTL19 mo ?_
    dsimp only [F19, TL19]
    cases c5 : decide (4 ≤ N)
    · rw [c5, cond_false] at hP1
      rw [hP1] at k20
      have c7 : decide ((N : Int) ≥ 4) = false := decide_eq_false (by have := of_decide_eq_false c5; omega)
      simp (maxSteps := 400000) only [go_sem, c5, c7, simprocAttr]
      refine Seam.ren (F := F19) [] k20 (Nat.zero_le _) rfl ?_ ?_
      · simp (maxSteps := 400000) only [go_sem, AV.ren, renL, AV.bel, belL, nblt, ob, obr, simprocAttr]
      · simp (maxSteps := 400000) only [go_sem, AV.ren, renL, AV.bel, belL, nblt, Blk.ren, lb, lr, sb, sr, simprocAttr]
    · rw [c5, cond_true] at hP1
      rw [hP1] at k20
      have c7 : decide ((N : Int) ≥ 4) = true := decide_eq_true (by have := of_decide_eq_true c5; omega)
      simp (maxSteps := 400000) only [go_sem, c5, c7, simprocAttr]
      refine Seam.ren (F := F19) [] k20 (Nat.zero_le _) rfl ?_ ?_
      · simp (maxSteps := 400000) only [go_sem, AV.ren, renL, AV.bel, belL, nblt, ob, obr, simprocAttr]
      · simp (maxSteps := 400000) only [go_sem, AV.ren, renL, AV.bel, belL, nblt, Blk.ren, lb, lr, sb, sr, simprocAttr]
   refine Seam.part (F := F19) hTL19 mo ?_
   dsimp only [F19, TL19]
   simp (maxSteps := 400000) only [go_sem, simprocAttr]
   refine Seam.part (F := F19) hTL19 mo ?_
   dsimp only [F19, TL19]
   rcases hO with ⟨ho, hn0⟩ | ⟨b, hob, hn0, hne⟩
   · have d1 : decide ((od.length : Int) > 0) = false := by rw [ho]; rfl
     have d2 : decide (0 < od.length) = false := by rw [ho]; rfl
     simp (maxSteps := 400000) only [go_sem, d1, d2, simprocAttr]
     refine Seam.part (F := F19) hTL19 mo ?_
     dsimp only [F19, TL19]
     simp (maxSteps := 400000) only [go_sem, wst, simprocAttr]
     rw [hn0] at k17
     refine Seam.ren (F := F19) [] k17 (Nat.zero_le _) rfl ?_ ?_
     · simp (maxSteps := 400000) only [go_sem, AV.ren, renL, AV.bel, belL, nblt, ob, obr, simprocAttr]
     · simp (maxSteps := 400000) only [go_sem, AV.ren, renL, AV.bel, belL, nblt, Blk.ren, lb, lr, sb, sr, simprocAttr]
   · have d1 : decide ((od.length : Int) > 0) = true := decide_eq_true (by omega)
     have d2 : decide (0 < od.length) = true := decide_eq_true (by omega)
     have d3 : ((od.length : Int) != 0) = true := by rw [bne_iff_ne]; omega
     have d4 : decide (0 ≤ (sm : Int) ∧ (sm : Int) < (od.length : Int)) = true := decide_eq_true (by have := hsm hne; omega)
     have d5 := hog sm b hob
     have d6 : IntKind.i64.wrap (b.toNat : Int) = (n : Int) := by rw [hn0]; have := UInt8.toNat_lt b; exact wrapL (by omega) (by omega)
     simp (maxSteps := 400000) only [go_sem, d1, d2, d3, d4, d5, d6, o2, Nat.mul_one, simprocAttr]
     refine Seam.part (F := F19) hTL19 mo ?_
     dsimp only [F19, TL19]
     simp (maxSteps := 400000) only [go_sem, wst, simprocAttr]
     refine Seam.ren (F := F19) [] k17 (Nat.zero_le _) rfl ?_ ?_
     · simp (maxSteps := 400000) only [go_sem, AV.ren, renL, AV.bel, belL, nblt, ob, obr, simprocAttr]
     · simp (maxSteps := 400000) only [go_sem, AV.ren, renL, AV.bel, belL, nblt, Blk.ren, lb, lr, sb, sr, simprocAttr]
end Go.Proofs.Flz
end
section
/- Mixed: all rounds, and the lists that it begins with. -/
namespace Go.Proofs.Flz
open Go.Ab Go.Proofs.Flt
set_option maxRecDepth 100000
set_option maxHeartbeats 4000000
set_option linter.unusedSimpArgs false
set_option linter.unusedVariables false
structure X19 where
 dr : Lls
 ll : Lls
 ac : List (List UInt8)
 st : Nat
def nx19 (od : List UInt8) (x : X19) : X19 := ⟨x.dr ++ (setK (orK od x.st) x.ll).take (empN (setK (orK od x.st) x.ll)), dropE (setK (orK od x.st) x.ll), x.ac ++ outK (orK od x.st) (x.ll.getD (pickK (orK od x.st) x.ll) []), x.st + 1⟩
theorem rest19 (od : List UInt8) (L0 : Lls) (R : List (List UInt8)) (hR : R = mixL od (tot L0) L0 0) (hod : od.length ≤ 9223372036854775807) (hl : L0.length ≤ 5) (hne : L0 ≠ []) (hf : Frt L0) (hll : ∀ x ∈ L0, x.length ≤ 9000) (htot : tot L0 ≤ 45000) :
 Seam F19 (.seq (.block 2 (.loop i19l33)) (.seq (.reg i19r34) .ret)) (retK [.t 6] fun v h' n' => CovS 0 v h' n' (.fz (rows st1 R) R.length) [] 0) [(2, ordV od), (7, .sg 0 0 L0.length), (10, .ns), (11, .i .i64 (0 : Int))] [(0, { cells := rows ls1 L0, gr := some 1 })] 1 := by
 have ob := fun j => u8B j od
 have obr : ∀ ψ, renL ψ (rows u81 od) = rows u81 od := fun ψ => renL_fix0 _ (ob 0)
 refine Seam.seq ?_
 refine Seam.block ?_
 refine Seam.ofLoop ?_
 refine Loop.stepK (F := F19) (X := X19) (fun x => x.dr.length + x.ll.length ≤ 5 ∧ Frt x.ll ∧ (∀ y ∈ x.ll, y.length ≤ 9000) ∧ x.ac.length ≤ 2 * x.st ∧ x.st + tot x.ll ≤ 45000 ∧ R = x.ac ++ mixL od (tot x.ll) x.ll x.st) (fun x => tot x.ll)
  (fun x => [(2, ordV od), (7, lV x.dr.length x.ll), (10, (oQ x.ac).v 1), (11, .i .i64 x.st)]) (fun x => (oQ x.ac).h 1 ++ [(0, { cells := rows ls1 (x.dr ++ x.ll), gr := some 1 })]) 2 ⟨[], L0, [], 0⟩ (nx19 od) (by decide) ⟨by simpa using hl, hf, hll, by simp, by simpa using htot, by simpa using hR⟩ ?_ ?_ (fun x hx => ?_)
 · rw [lV_ne hne, oQv_0]
   have lb := fun j => lsB j L0
   simp (maxSteps := 400000) only [go_sem, Int.natCast_zero, AV.bel, belL, nblt, ob, simprocAttr]
 · rw [oQh_0, List.nil_append, List.nil_append]
   have lb := fun j => lsB j L0
   simp (maxSteps := 400000) only [go_sem, AV.bel, belL, nblt, lb, simprocAttr]
 obtain ⟨Dr, LL, acc, st⟩ := x
 obtain ⟨h1, h2, h3, h4, h5, h6⟩ := hx
 dsimp only at h1 h2 h3 h4 h5 h6 ⊢
 have lb := fun j => lsB j (Dr ++ LL)
 have lr := fun ψ => lsR ψ (Dr ++ LL)
 have sb := fun j => stB j acc
 have sr := fun ψ => stR ψ acc
 by_cases hL : LL = []
 · subst hL
   rw [mixL_nil, List.append_nil] at h6
   rw [lV_nil, h6]
   refine Seam.run (F := F19) hTL19 mo ?_
   dsimp only [F19, TL19]
   by_cases ha : acc = []
   · subst ha
     rw [oQv_0, oQh_0, List.nil_append]
     simp (maxSteps := 400000) only [go_sem, simprocAttr]
     refine Seam.run (F := F19) hTL19 mo ?_
     dsimp only [F19, TL19]
     simp (maxSteps := 400000) only [go_sem, simprocAttr]
     exact CovS.frzN (v' := .fz (rows st1 []) 0) (l := []) FzV.hit (CovS.ends (Ends.pureE rfl rfl))
   · rw [oQv_n ha, oQh_n ha, List.cons_append, List.nil_append]
     simp (maxSteps := 400000) only [go_sem, simprocAttr]
     refine Seam.run (F := F19) hTL19 mo ?_
     dsimp only [F19, TL19]
     simp (maxSteps := 400000) only [go_sem, simprocAttr]
     refine CovS.frz (b := 1) (k := { cells := rows st1 acc, gr := some 1 }) (h' := []) (o := 0) (m := acc.length) (x := .sg 1 0 acc.length) (cs := rows st1 acc) (v' := .fz (rows st1 acc) acc.length) rfl rfl (.inr rfl) (.inl List.drop_zero.symm) FzV.hit (fun c kk hc => by simp [hget] at hc) ?_
     exact CovS.ends (Ends.pureE (by simp only [AV.bel, stB]) rfl)
 have hll0 : 0 < LL.length := by cases LL with
  | nil => exact absurd rfl hL
  | cons _ _ => simp
 have c1 : decide ((LL.length : Int) > 0) = true := decide_eq_true (by omega)
 have c2 : decide (0 < LL.length) = true := decide_eq_true (by omega)
 rw [lV_ne hL]
 have hst := setK_tot (n := orK od st) hL h2
 have hstep := mixL_step (od := od) (st := st) hL h2
 have hset : (setK (orK od st) LL).length = LL.length := by simp [setK]
 have hem := empN_le (setK (orK od st) LL)
 have hdr := empN_drop (setK (orK od st) LL)
 have hout := outK_len (orK od st) (LL.getD (pickK (orK od st) LL) [])
 have hmem := setK_le (n := orK od st) h3
 have hfr := dropE_frt (setK (orK od st) LL)
 refine Seam.cut (fun K hK => ?_)
 refine Seam.part (F := F19) hTL19 mo ?_
 dsimp only [F19, TL19]
 have fin : ∀ e h n', EnvIn 2 e [(2, ordV od), (7, lV (Dr.length + empN (setK (orK od st) LL)) (dropE (setK (orK od st) LL))), (10, (oQ (acc ++ outK (orK od st) (LL.getD (pickK (orK od st) LL) []))).v 1), (11, .i .i64 (st + 1 : Nat))] → HpIn 2 h ((oQ (acc ++ outK (orK od st) (LL.getD (pickK (orK od st) LL) []))).h 1 ++ [(0, { cells := rows ls1 (Dr ++ setK (orK od st) LL), gr := some 1 })]) →
  blockK 3 (thenK (blockK 2 (thenK (retK [.t 6] fun v h' n' => CovS 0 v h' n' (.fz (rows st1 R) R.length) [] 0) (Seam F19 (.seq (.reg i19r34) .ret) (retK [.t 6] fun v h' n' => CovS 0 v h' n' (.fz (rows st1 R) R.length) [] 0)))) fun e' h' n' => (((nx19 od ⟨Dr, LL, acc, st⟩).dr.length + (nx19 od ⟨Dr, LL, acc, st⟩).ll.length ≤ 5 ∧ Frt (nx19 od ⟨Dr, LL, acc, st⟩).ll ∧ (∀ y ∈ (nx19 od ⟨Dr, LL, acc, st⟩).ll, y.length ≤ 9000) ∧ (nx19 od ⟨Dr, LL, acc, st⟩).ac.length ≤ 2 * (nx19 od ⟨Dr, LL, acc, st⟩).st ∧ (nx19 od ⟨Dr, LL, acc, st⟩).st + tot (nx19 od ⟨Dr, LL, acc, st⟩).ll ≤ 45000 ∧ R = (nx19 od ⟨Dr, LL, acc, st⟩).ac ++ mixL od (tot (nx19 od ⟨Dr, LL, acc, st⟩).ll) (nx19 od ⟨Dr, LL, acc, st⟩).ll (nx19 od ⟨Dr, LL, acc, st⟩).st) ∧ tot (nx19 od ⟨Dr, LL, acc, st⟩).ll < tot LL) ∧
   EnvIn 2 e' [(2, ordV od), (7, lV (nx19 od ⟨Dr, LL, acc, st⟩).dr.length (nx19 od ⟨Dr, LL, acc, st⟩).ll), (10, (oQ (nx19 od ⟨Dr, LL, acc, st⟩).ac).v 1), (11, .i .i64 (nx19 od ⟨Dr, LL, acc, st⟩).st)] ∧ HpIn 2 h' ((oQ (nx19 od ⟨Dr, LL, acc, st⟩).ac).h 1 ++ [(0, { cells := rows ls1 ((nx19 od ⟨Dr, LL, acc, st⟩).dr ++ (nx19 od ⟨Dr, LL, acc, st⟩).ll), gr := some 1 })])) .normal e h n' := by
  intro e h n' he hh
  show _ ∧ _
  have hlen : (Dr ++ (setK (orK od st) LL).take (empN (setK (orK od st) LL))).length = Dr.length + empN (setK (orK od st) LL) := by rw [List.length_append, List.length_take]; omega
  have hcat : (Dr ++ (setK (orK od st) LL).take (empN (setK (orK od st) LL))) ++ dropE (setK (orK od st) LL) = Dr ++ setK (orK od st) LL := by rw [hdr, List.append_assoc, List.take_append_drop]
  have hdl : (dropE (setK (orK od st) LL)).length = LL.length - empN (setK (orK od st) LL) := by rw [hdr, List.length_drop, hset]
  simp only [nx19, hcat, hlen]
  refine ⟨⟨⟨by rw [hdl]; omega, hfr, hmem, ?_, by omega, ?_⟩, by omega⟩, he, hh⟩
  · rw [List.length_append]; omega
  · rw [h6, hstep, List.append_assoc]
 have r1 := m1 _ od Dr LL acc st hod (by omega) hL h2 h3 (by omega) h1 fin
 clear fin hstep hmem hdr hem hset hst hout hfr
 by_cases ha : acc = []
 · subst ha
   rw [oQv_0, oQh_0, List.nil_append] at r1 ⊢
   simp (maxSteps := 400000) only [go_sem, c1, c2, simprocAttr]
   subst hK
   refine Seam.block ?_
   refine Seam.ren (F := F19) [] r1 (Nat.zero_le _) rfl ?_ ?_
   · simp (maxSteps := 400000) only [go_sem, AV.ren, renL, AV.bel, belL, nblt, ob, obr, simprocAttr]
   · simp (maxSteps := 400000) only [go_sem, AV.ren, renL, AV.bel, belL, nblt, Blk.ren, lb, lr, simprocAttr]
 · rw [oQv_n ha, oQh_n ha, List.cons_append, List.nil_append] at r1 ⊢
   simp (maxSteps := 400000) only [go_sem, c1, c2, simprocAttr]
   subst hK
   refine Seam.block ?_
   refine Seam.ren (F := F19) [] r1 (Nat.zero_le _) rfl ?_ ?_
   · simp (maxSteps := 400000) only [go_sem, AV.ren, renL, AV.bel, belL, nblt, ob, obr, simprocAttr]
   · simp (maxSteps := 400000) only [go_sem, AV.ren, renL, AV.bel, belL, nblt, Blk.ren, lb, lr, sb, sr, simprocAttr]
end Go.Proofs.Flz
end
section
/- Mixed. -/
namespace Go.Proofs.Flz
open Go.Ab Go.Proofs.Flt
set_option maxRecDepth 100000
set_option maxHeartbeats 4000000
set_option linter.unusedSimpArgs false
set_option linter.unusedVariables false
theorem nt_B (j : Nat) (l : List Nt) : belL j (rows Nt.l l) = true := belL_mono0 _ (rows_bel Nt.bel)
theorem nt_R (ψ : Nat → Nat) (l : List Nt) : renL ψ (rows Nt.l l) = rows Nt.l l := renL_fix0 _ (rows_bel Nt.bel)
theorem w19 (l : List Nt) (sz od : List UInt8) (hl5 : l.length ≤ 5) (hok : ∀ x ∈ l, noteB x = true) (hsz : sz.length ≤ 9223372036854775807) (hod : od.length ≤ 9223372036854775807) :
 FTL Tryz.prog 19 [.fz (rows Nt.l l) l.length, .fz (rows u81 sz) sz.length, .fz (rows u81 od) od.length] [] 0 (.fz (rows st1 (mixS l sz od)) (mixS l sz od).length) [] 0 := by
 have hLl := lsS_len l sz
 have hmem := fun y => lsS_mem (sz := sz) hok (y := y)
 have hfr := lsS_frt (sz := sz) hok
 have htot := tot_le (m := 4000) (LL := lsS l sz) (fun x hx => (hmem x hx).2)
 have hz := szK_rng sz
 have ob := fun j => u8B j od
 have obr : ∀ ψ, renL ψ (rows u81 od) = rows u81 od := fun ψ => renL_fix0 _ (ob 0)
 have zb := fun j => u8B j sz
 have zbr : ∀ ψ, renL ψ (rows u81 sz) = rows u81 sz := fun ψ => renL_fix0 _ (zb 0)
 have nb := fun j => nt_B j l
 have nr := fun ψ => nt_R ψ l
 have hrest := rest19 od (lsS l sz) (mixS l sz od) rfl hod (by omega)
 refine FTL.of_seamC (cx := cxT TL19) Tryz.func19 i19_eq (by simp [i19]) ?_
 dsimp only [i19]
 refine Seam.part (F := F19) hTL19 mo ?_
 dsimp only [F19, TL19]
 simp (maxSteps := 400000) only [go_sem, simprocAttr]
 refine Seam.part (F := F19) hTL19 mo ?_
 dsimp only [F19, TL19]
 simp (maxSteps := 400000) only [go_sem, simprocAttr]
 refine Seam.part (F := F19) hTL19 mo ?_
 dsimp only [F19, TL19]
 generalize hRES : mixS l sz od = RES at *
 have gq0 : gQ ls1 1 ([] : Lls) = .nil := rfl
 have gqn : ∀ L : Lls, L ≠ [] → gQ ls1 1 L = .sg { cells := rows ls1 L, gr := some 1 } 0 L.length := fun L h => by unfold gQ; rw [if_neg (by simpa using h)]
 simp (maxSteps := 400000) only [go_sem, simprocAttr]
 refine Loop.stepR (F := F19) hTL19 mo (X := Nat) (fun k => k ≤ l.length) (fun k => l.length - k)
  (fun k => [(0, .fz (rows Nt.l l) l.length), (1, .fz (rows u81 sz) sz.length), (2, ordV od), (7, (gQ ls1 1 (mapN (lsK l sz) k)).v 0), (8, .i .i64 k)]) (fun k => (gQ ls1 1 (mapN (lsK l sz) k)).h 0) 1 0 (fun k => k + 1) [] (fun _ => [(0, 2)]) (by decide) (by decide) (fun _ => by decide) (Nat.zero_le _) ?_ ?_ (fun k hk => ?_)
 · rw [mapN_z, gq0]
   simp (maxSteps := 400000) only [go_sem, Int.natCast_zero, AV.ren, renL, AV.bel, belL, nblt, ob, obr, zb, zbr, nb, nr, simprocAttr]
 · rw [mapN_z, gq0]
   simp (maxSteps := 400000) only [go_sem, AV.ren, renL, AV.bel, belL, nblt, Blk.ren, simprocAttr]
 have hk : k ≤ l.length := hk
 dsimp only [F19, TL19]
 by_cases hlt : k < l.length
 rotate_left
 · obtain rfl : k = l.length := by omega
   have c1 : decide ((l.length : Int) < (l.length : Int)) = false := decide_eq_false (by omega)
   show jw _ _ _ [_, _, _, (7, (gQ ls1 1 (lsS l sz)).v 0), _] ((gQ ls1 1 (lsS l sz)).h 0) 1
   by_cases hne : lsS l sz = []
   · have hRE : RES = [] := by rw [← hRES]; unfold mixS; rw [hne]; exact mixL_nil _ _ _
     rw [hne, gq0, hRE]
     simp (maxSteps := 400000) only [go_sem, c1, simprocAttr]
     refine Seam.part (F := F19) hTL19 mo ?_
     dsimp only [F19, TL19]
     simp (maxSteps := 400000) only [go_sem, simprocAttr]
     refine Seam.part (F := F19) hTL19 mo ?_
     dsimp only [F19, TL19]
     simp (maxSteps := 400000) only [go_sem, simprocAttr]
     refine Seam.run (F := F19) hTL19 mo ?_
     dsimp only [F19, TL19]
     simp (maxSteps := 400000) only [go_sem, simprocAttr]
     refine Loop.countI (F := F19) hTL19 mo 0 (fun _ => True) (fun k => [(7, .ns), (10, .ns)]) (fun _ => []) 0 (by decide) trivial ?_ ?_ (fun k hk _ => ?_)
     · simp (maxSteps := 400000) only [go_sem, AV.bel, belL, nblt, simprocAttr]
     · simp (maxSteps := 400000) only [go_sem, AV.bel, belL, nblt, simprocAttr]
     dsimp only [F19, TL19]
     simp (maxSteps := 400000) only [go_sem, simprocAttr]
     exact CovS.frzN (v' := .fz (rows st1 []) 0) (l := []) FzV.hit (CovS.ends (Ends.pureE rfl rfl))
   · have r := hrest hne hfr (fun x hx => by have := (hmem x hx).2; omega) (by omega)
     rw [hLl] at r
     have lb := fun j => lsB j (lsS l sz)
     have lr := fun ψ => lsR ψ (lsS l sz)
     rw [gqn _ hne, hLl]
     simp (maxSteps := 400000) only [go_sem, c1, simprocAttr]
     refine Seam.part (F := F19) hTL19 mo ?_
     dsimp only [F19, TL19]
     simp (maxSteps := 400000) only [go_sem, simprocAttr]
     refine Seam.part (F := F19) hTL19 mo ?_
     dsimp only [F19, TL19]
     simp (maxSteps := 400000) only [go_sem, simprocAttr]
     refine Seam.ren (F := F19) [] r (Nat.zero_le _) rfl ?_ ?_
     · simp (maxSteps := 400000) only [go_sem, AV.ren, renL, AV.bel, belL, nblt, ob, obr, simprocAttr]
     · simp (maxSteps := 400000) only [go_sem, AV.ren, renL, AV.bel, belL, nblt, Blk.ren, lb, lr, simprocAttr]
 obtain ⟨x, hx⟩ : ∃ x, l[k]? = some x := ⟨_, List.getElem?_eq_getElem hlt⟩
 have hLx : List.take 3 (List.drop (k * 3) (rows Nt.l l)) = x.l := rows_at Nt.len hx
 have hfk : lsK l sz k = cutL x (szK sz k) := by simp only [lsK, hx]
 have hzk := hz k
 have hxo := hok x (List.mem_of_getElem? hx)
 rw [mapN_s, hfk, gQ_snoc]
 have hml : (mapN (lsK l sz) k).length = k := mapN_len _
 have hO : (sz = [] ∧ szK sz k = 7) ∨ (∃ b, sz[k % sz.length]? = some b ∧ szK sz k = 1 + b.toNat % 20 ∧ sz.length ≠ 0) := by
  by_cases h : sz = []
  · exact .inl ⟨h, by subst h; rfl⟩
  · have h0 : 0 < sz.length := by cases sz with
     | nil => exact absurd rfl h
     | cons _ _ => simp
    obtain ⟨b, hb⟩ : ∃ b, sz[k % sz.length]? = some b := ⟨_, List.getElem?_eq_getElem (Nat.mod_lt _ h0)⟩
    exact .inr ⟨b, hb, by simp only [szK, hb], by omega⟩
 have hsm : sz.length ≠ 0 → k % sz.length < sz.length := fun h => Nat.mod_lt _ (by omega)
 have o2 : (k : Int).tmod (sz.length : Int) = ((k % sz.length : Nat) : Int) := by rw [Int.tmod_eq_emod_of_nonneg (by omega)]; rfl
 have hog : ∀ (k : Nat) (b : UInt8), sz[k]? = some b → (rows u81 sz)[k]? = some (AV.i .u8 (b.toNat : Int)) := fun (k : Nat) (b : UInt8) hk => by
  have h1 := rows_at (f := u81) (fun _ => rfl) hk
  have h2 : (List.take 1 (List.drop (k * 1) (rows u81 sz)))[0]? = some (AV.i .u8 (b.toNat : Int)) := by rw [show List.take 1 (List.drop (k * 1) (rows u81 sz)) = u81 b from h1]; rfl
  rw [List.getElem?_take, if_pos (by decide), List.getElem?_drop, Nat.mul_one, Nat.add_zero] at h2
  exact h2
 generalize hS : szK sz k = S at *
 have q47 : ∀ (h : Hp) n, k47 [.agg x.l, .i .i64 (S : Int)] h n = some (true, { v := .fz (rows st1 (cutL x S)) (cutL x S).length, n }) := fun h n => by
  have hb : decide (1 ≤ (S : Int) ∧ (S : Int) ≤ 1100) = true := decide_eq_true (by omega)
  simp only [k47, nt3_l, Option.bind_some, hxo, hb, Bool.and_self, Int.toNat_natCast]
 have cb := fun j => stB j (cutL x S)
 have cr := fun ψ => stR ψ (cutL x S)
 generalize cutL x S = C at *
 have c1 : decide ((k : Int) < (l.length : Int)) = true := decide_eq_true (by omega)
 have c2 : decide (0 ≤ (k : Int) ∧ (k : Int) < (l.length : Int)) = true := decide_eq_true (by omega)
 have wk : IntKind.i64.wrap ((k : Int) + 1) = ((k + 1 : Nat) : Int) := by rw [wrapL (by omega) (by omega)]; omega
 have xl : x.l.length = 3 := rfl
 have xo : oneAll x.l = true := rfl
 have g0 : decide (24 ≤ growMax) = true := by decide
 have g1 : decide (24 * (k + 1) ≤ growMax) = true := decide_eq_true (by simp only [growMax]; omega)
 have hst : k + 1 ≤ l.length ∧ l.length - (k + 1) < l.length - k := ⟨by omega, by omega⟩
 have lb := fun j => lsB j (mapN (lsK l sz) k)
 have lr := fun ψ => lsR ψ (mapN (lsK l sz) k)
 have lsl : (rows ls1 (mapN (lsK l sz) k)).length = k * 1 := by rw [rows_len (f := ls1) ls1_len, hml]
 have c6 : ∀ j, belL j (rows ls1 (mapN (lsK l sz) k) ++ [AV.fz (rows st1 C) C.length]) = true := fun j => by have := lsB j (mapN (lsK l sz) k ++ [C]); rw [rows_append] at this; exact this
 have c7 : ∀ ψ, renL ψ (rows ls1 (mapN (lsK l sz) k) ++ [AV.fz (rows st1 C) C.length]) = rows ls1 (mapN (lsK l sz) k) ++ [AV.fz (rows st1 C) C.length] := fun ψ => by have := lsR ψ (mapN (lsK l sz) k ++ [C]); rw [rows_append] at this; exact this
 simp only [gS, hml]
 generalize hM : mapN (lsK l sz) k = M at *
 by_cases hne : M = []
 · have hk0 : k = 0 := by rw [← hml, hne]; rfl
   rw [hne, gq0]
   rcases hO with ⟨ho, hn0⟩ | ⟨b, hob, hn0, hnz⟩
   · have d1 : decide ((sz.length : Int) > 0) = false := by rw [ho]; rfl
     have d2 : decide (0 < sz.length) = false := by rw [ho]; rfl
     rw [hn0] at q47
     have q7 : ∀ (h : Hp) n, k47 [.agg x.l, .i .i64 7] h n = some (true, { v := .fz (rows st1 C) C.length, n }) := q47
     simp (maxSteps := 400000) only [go_sem, c1, c2, d1, d2, q7, hLx, xl, xo, wk, g0, hst, rows_nil, List.nil_append, List.length_nil, ls1, List.drop_zero, nt_t3, Nt.len, Nat.mul_one, AV.ren, renL, AV.bel, belL, nblt, Blk.ren, ob, obr, zb, zbr, nb, nr, cb, cr, simprocAttr]
     rw [hk0]
   · have d1 : decide ((sz.length : Int) > 0) = true := decide_eq_true (by omega)
     have d2 : decide (0 < sz.length) = true := decide_eq_true (by omega)
     have d3 : ((sz.length : Int) != 0) = true := by rw [bne_iff_ne]; omega
     have hsmz := hsm hnz
     have d5 := hog _ b hob
     generalize k % sz.length = sm at *
     have d4 : decide (0 ≤ (sm : Int) ∧ (sm : Int) < (sz.length : Int)) = true := decide_eq_true (by omega)
     have d6 : IntKind.i64.wrap (b.toNat : Int) = (b.toNat : Int) := by have := UInt8.toNat_lt b; exact wrapL (by omega) (by omega)
     have d7 : (b.toNat : Int).tmod 20 = ((b.toNat % 20 : Nat) : Int) := by rw [Int.tmod_eq_emod_of_nonneg (by omega)]; rfl
     have d8 : IntKind.i64.wrap (1 + ((b.toNat % 20 : Nat) : Int)) = (S : Int) := by rw [hn0, wrapL (by omega) (by omega)]; omega
     simp (maxSteps := 400000) only [go_sem, c1, c2, d1, d2, d3, d4, d5, d6, d7, d8, o2, q47, hLx, xl, xo, wk, g0, hst, rows_nil, List.nil_append, List.length_nil, ls1, List.drop_zero, nt_t3, Nt.len, Nat.mul_one, AV.ren, renL, AV.bel, belL, nblt, Blk.ren, ob, obr, zb, zbr, nb, nr, cb, cr, simprocAttr]
     rw [hk0]
 · rw [gqn _ hne, hml]
   rcases hO with ⟨ho, hn0⟩ | ⟨b, hob, hn0, hnz⟩
   · have d1 : decide ((sz.length : Int) > 0) = false := by rw [ho]; rfl
     have d2 : decide (0 < sz.length) = false := by rw [ho]; rfl
     rw [hn0] at q47
     have q7 : ∀ (h : Hp) n, k47 [.agg x.l, .i .i64 7] h n = some (true, { v := .fz (rows st1 C) C.length, n }) := q47
     simp (maxSteps := 400000) only [go_sem, c1, c2, d1, d2, q7, hLx, xl, xo, wk, g0, hst, g1, lsl, c6, c7, lb, lr, ls1, List.drop_zero, nt_t3, Nt.len, Nat.mul_one, AV.ren, renL, AV.bel, belL, nblt, Blk.ren, ob, obr, zb, zbr, nb, nr, cb, cr, simprocAttr]
   · have d1 : decide ((sz.length : Int) > 0) = true := decide_eq_true (by omega)
     have d2 : decide (0 < sz.length) = true := decide_eq_true (by omega)
     have d3 : ((sz.length : Int) != 0) = true := by rw [bne_iff_ne]; omega
     have hsmz := hsm hnz
     have d5 := hog _ b hob
     generalize k % sz.length = sm at *
     have d4 : decide (0 ≤ (sm : Int) ∧ (sm : Int) < (sz.length : Int)) = true := decide_eq_true (by omega)
     have d6 : IntKind.i64.wrap (b.toNat : Int) = (b.toNat : Int) := by have := UInt8.toNat_lt b; exact wrapL (by omega) (by omega)
     have d7 : (b.toNat : Int).tmod 20 = ((b.toNat % 20 : Nat) : Int) := by rw [Int.tmod_eq_emod_of_nonneg (by omega)]; rfl
     have d8 : IntKind.i64.wrap (1 + ((b.toNat % 20 : Nat) : Int)) = (S : Int) := by rw [hn0, wrapL (by omega) (by omega)]; omega
     simp (maxSteps := 400000) only [go_sem, c1, c2, d1, d2, d3, d4, d5, d6, d7, d8, o2, q47, hLx, xl, xo, wk, g0, hst, g1, lsl, c6, c7, lb, lr, ls1, List.drop_zero, nt_t3, Nt.len, Nat.mul_one, AV.ren, renL, AV.bel, belL, nblt, Blk.ren, ob, obr, zb, zbr, nb, nr, cb, cr, simprocAttr]
end Go.Proofs.Flz
end
