/- The abstract layer, part 59: slices.IndexFunc and slices.ContainsFunc over frozen slices. -/
import Derived.Test.YtndbgcmgjnjnhaaAbVw
namespace Go.Ab
set_option maxRecDepth 100000
set_option maxHeartbeats 4000000
set_option linter.unusedSimpArgs false
set_option linter.unusedVariables false

section
variable {P : Program} {α : Type} {row : α → List AV} {el : α → AV} {p : α → Bool} {g : FuncId} {caps : List AV}
theorem ixf_fz {z : Nat} {f : FuncId} {fn : Func} (hm : P.follows .mixedOrders = true) (hf : P.funcs[f]? = some fn) (hI : compF P fn = some (ixfI z true)) (hg : callable P g = true) (hlen : ∀ a, (row a).length = z) (hbel : ∀ a, belL 0 (row a) = true) (hcaps : belL 0 caps = true)
    (hel : ∀ a, el a = .agg (row a)) (hp : ∀ a b, el a = el b → p a = p b) (l : List α) (hl : l.length ≤ 1000000000000) (hF : ∀ a ∈ l, FTL P g (el a :: caps) [] 0 (.b (p a)) [] 0) : FTL P f [.fz (rows row l) l.length, .fn g caps] [] 0 (.i .i64 (ixf p l 0)) [] 0 := by
  have hcx : Sound P (cxP g caps el p l) := cxP_sound hg (fun a => by rw [hel]; exact hbel a) hcaps hF
  have hat : ∀ (a : α) (h : Hp) (n : Nat), a ∈ l → cxP g caps el p l g (.agg (row a) :: caps) h n = some (true, { v := .b (p a), n }) := fun a h n ha => by rw [← hel]; exact cxP_at hp ha
  generalize cxP g caps el p l = cx at hcx hat
  refine FTL.of_iw hcx hm hf hI (by simp [ixfI]) (iw_of_jw ?_)
  dsimp only [ixfI]
  generalize hR : ixf p l 0 = R
  have hLb : belL 0 (rows row l) = true := rows_bel hbel
  have hL : ∀ (k : Nat) x, l[k]? = some x → List.take z (List.drop (k * z) (rows row l)) = row x := fun k x hk => rows_at hlen hk
  generalize rows row l = L at hL hLb ⊢
  simp (config := { maxSteps := 400000 }) only [go_sem, simprocAttr]
  refine Loop.countI (F := ⟨P, cx, [9, 16], 19, 0⟩) hcx hm l.length (fun k => ∀ x ∈ l.take k, p x = false)
    (fun k => [(0, .fz L l.length), (1, .fn g caps), (7, .i .i64 (l.length : Int)), (8, .i .i64 (k : Int))])
    (fun k => []) 0 (Nat.le_refl 0) (by simp) ?_ ?_ (fun k hk ho => ?_)
  · simp (config := { maxSteps := 400000 }) only [go_sem, AV.bel, belL, nblt, hLb, hcaps, simprocAttr]
  · simp (config := { maxSteps := 400000 }) only [go_sem, simprocAttr]
  · by_cases hlt : k < l.length
    · have c1 : decide ((k : Int) < (l.length : Int)) = true := decide_eq_true (by omega)
      have c2 : decide (0 ≤ (k : Int) ∧ (k : Int) < (l.length : Int)) = true := decide_eq_true (by omega)
      have hx := hL k l[k] (List.getElem?_eq_getElem hlt)
      have hw : IntKind.i64.wrap ((k : Int) + 1) = ((k + 1 : Nat) : Int) := by rw [wrapL (by omega) (by omega)]; omega
      have hdr : l.drop k = l[k] :: l.drop (k + 1) := List.drop_eq_getElem_cons hlt
      have ha := fun h n => hat l[k] h n (List.getElem_mem hlt)
      have hlz := hlen l[k]
      cases hin : p l[k]
      · have hnext : ∀ x ∈ l.take (k + 1), p x = false := by
          intro x hx
          rw [List.take_add_one, List.getElem?_eq_getElem hlt] at hx
          rcases List.mem_append.1 hx with hx | hx
          · exact ho x hx
          · simp at hx; subst hx; exact hin
        simp (config := { maxSteps := 400000 }) only [go_sem, c1, c2, hx, ha, hlz, hin, hw, hlt, AV.bel, belL, nblt, hLb, hcaps, simprocAttr]
        exact hnext
      · have hfo : R = (k : Int) := by
          rw [← hR, ixf_drop 0 ho, hdr]
          simp [ixf, hin]
        simp (config := { maxSteps := 400000 }) only [go_sem, c1, c2, hx, ha, hlz, hin, simprocAttr]
        exact Ends.pureE rfl (by rw [hfo])
    · have c1 : decide ((k : Int) < (l.length : Int)) = false := decide_eq_false (by omega)
      have hkl : k = l.length := by omega
      have hfo : R = -1 := by
        rw [← hR, ixf_drop 0 ho, hkl, List.drop_length]
        rfl
      simp (config := { maxSteps := 400000 }) only [go_sem, c1, simprocAttr]
      exact Ends.pureE rfl (by rw [hfo])
/-- The same over elements of one cell. -/
theorem ixf_fz1 {f : FuncId} {fn : Func} (hm : P.follows .mixedOrders = true) (hf : P.funcs[f]? = some fn) (hI : compF P fn = some (ixfI 1 false)) (hg : callable P g = true) (hbel : ∀ a, (el a).bel 0 = true) (hcaps : belL 0 caps = true)
    (hrow : ∀ a, row a = [el a]) (hp : ∀ a b, el a = el b → p a = p b) (l : List α) (hl : l.length ≤ 1000000000000) (hF : ∀ a ∈ l, FTL P g (el a :: caps) [] 0 (.b (p a)) [] 0) : FTL P f [.fz (rows row l) l.length, .fn g caps] [] 0 (.i .i64 (ixf p l 0)) [] 0 := by
  have hcx : Sound P (cxP g caps el p l) := cxP_sound hg hbel hcaps hF
  have hat : ∀ (a : α) (h : Hp) (n : Nat), a ∈ l → cxP g caps el p l g (el a :: caps) h n = some (true, { v := .b (p a), n }) := fun a h n ha => cxP_at hp ha
  generalize cxP g caps el p l = cx at hcx hat
  refine FTL.of_iw hcx hm hf hI (by simp [ixfI]) (iw_of_jw ?_)
  dsimp only [ixfI]
  generalize hR : ixf p l 0 = R
  have hLb : belL 0 (rows row l) = true := rows_bel (fun a => by simp [hrow, belL, hbel])
  have hL : ∀ (k : Nat) x, l[k]? = some x → (rows row l)[k * 1]? = some (el x) := fun k x hk => rows_get (f := row) (z := 1) (j := 0) (v := el x) (fun a => by simp [hrow]) hk (by simp [hrow])
  generalize rows row l = L at hL hLb ⊢
  simp (config := { maxSteps := 400000 }) only [go_sem, simprocAttr]
  refine Loop.countI (F := ⟨P, cx, [9, 16], 19, 0⟩) hcx hm l.length (fun k => ∀ x ∈ l.take k, p x = false)
    (fun k => [(0, .fz L l.length), (1, .fn g caps), (7, .i .i64 (l.length : Int)), (8, .i .i64 (k : Int))])
    (fun k => []) 0 (Nat.le_refl 0) (by simp) ?_ ?_ (fun k hk ho => ?_)
  · simp (config := { maxSteps := 400000 }) only [go_sem, AV.bel, belL, nblt, hLb, hcaps, simprocAttr]
  · simp (config := { maxSteps := 400000 }) only [go_sem, simprocAttr]
  · by_cases hlt : k < l.length
    · have c1 : decide ((k : Int) < (l.length : Int)) = true := decide_eq_true (by omega)
      have c2 : decide (0 ≤ (k : Int) ∧ (k : Int) < (l.length : Int)) = true := decide_eq_true (by omega)
      have hx := hL k l[k] (List.getElem?_eq_getElem hlt)
      rw [Nat.mul_one] at hx
      have hw : IntKind.i64.wrap ((k : Int) + 1) = ((k + 1 : Nat) : Int) := by rw [wrapL (by omega) (by omega)]; omega
      have hdr : l.drop k = l[k] :: l.drop (k + 1) := List.drop_eq_getElem_cons hlt
      have ha := fun h n => hat l[k] h n (List.getElem_mem hlt)
      cases hin : p l[k]
      · have hnext : ∀ x ∈ l.take (k + 1), p x = false := by
          intro x hx
          rw [List.take_add_one, List.getElem?_eq_getElem hlt] at hx
          rcases List.mem_append.1 hx with hx | hx
          · exact ho x hx
          · simp at hx; subst hx; exact hin
        simp (config := { maxSteps := 400000 }) only [go_sem, c1, c2, hx, ha, hin, hw, hlt, AV.bel, belL, nblt, hLb, hcaps, Nat.mul_one, simprocAttr]
        exact hnext
      · have hfo : R = (k : Int) := by
          rw [← hR, ixf_drop 0 ho, hdr]
          simp [ixf, hin]
        simp (config := { maxSteps := 400000 }) only [go_sem, c1, c2, hx, ha, hin, Nat.mul_one, simprocAttr]
        exact Ends.pureE rfl (by rw [hfo])
    · have c1 : decide ((k : Int) < (l.length : Int)) = false := decide_eq_false (by omega)
      have hkl : k = l.length := by omega
      have hfo : R = -1 := by
        rw [← hR, ixf_drop 0 ho, hkl, List.drop_length]
        rfl
      simp (config := { maxSteps := 400000 }) only [go_sem, c1, simprocAttr]
      exact Ends.pureE rfl (by rw [hfo])
/-- slices.ContainsFunc, by its IndexFunc. -/
theorem cof_fz {f g2 : FuncId} {fn : Func} {L : List AV} {m : Nat} {R : Int} {b : Bool} (hm : P.follows .mixedOrders = true) (hf : P.funcs[f]? = some fn) (hI : compF P fn = some (cofI g2)) (hg : callable P g2 = true) (hL : belL 0 L = true) (hcaps : belL 0 caps = true)
    (hix : FTL P g2 [.fz L m, .fn g caps] [] 0 (.i .i64 R) [] 0) (hR : decide (0 ≤ R) = b) : FTL P f [.fz L m, .fn g caps] [] 0 (.b b) [] 0 := by
  let cx : Cx := fun f args h n => open Classical in if f = g2 ∧ args = [.fz L m, .fn g caps] then some (true, { v := .i .i64 R, n }) else none
  have hcx : Sound P cx := fun f args h n c E hx hc => by
    simp only [cx] at hx
    split at hx
    · rename_i hy
      obtain ⟨rfl, rfl⟩ := hy
      cases hx
      exact CallOK.pure hg (by simp [belL, AV.bel, hL, hcaps]) rfl hix h n
    · cases hx
  have hat : ∀ (h : Hp) (n : Nat), cx g2 [.fz L m, .fn g caps] h n = some (true, { v := .i .i64 R, n }) := fun h n => if_pos ⟨rfl, rfl⟩
  generalize cx = cx at hcx hat
  refine FTL.of_iw hcx hm hf hI (by simp [cofI]) (iw_of_jw ?_)
  dsimp only [cofI]
  simp (config := { maxSteps := 400000 }) only [go_sem, hat, simprocAttr]
  exact Ends.pureE rfl (by rw [← hR])
end
end Go.Ab
