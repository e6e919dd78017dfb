/- Texts laid as one: ResM4 ResM5. -/
import Derived.Test.YthnmkedknannhaaResMa
import Derived.Test.YthnmkedknannhaaResI6
section
/- The contract of the reference's Right (packets). -/
namespace Go.Proofs.Res
open Go.Ab
set_option maxRecDepth 100000
set_option maxHeartbeats 4000000
set_option linter.unusedSimpArgs false
set_option linter.unusedVariables false
def idN (l : List Xt) : Nat → Int
 | 0 => 0
 | k + 1 => match l[k]? with
  | some x => x.1
  | none => 0
theorem w87 (p : Md) : FTL Try.prog 87 [.agg p.l] [] 0 (.b (mdB p)) [] 0 := by
 have hno : (mdB p = true → False) → mdB p = false := fun h => by cases hb : mdB p; rfl; exact (h hb).elim
 have hyes : mdB p = true ↔ ((0 ≤ p.ty ∧ p.ty ≤ 127) ∧ (0 ≤ p.sq ∧ p.sq ≤ 65535) ∧ (0 ≤ p.tm ∧ p.tm ≤ 4294967295) ∧ (0 ≤ p.ss ∧ p.ss ≤ 4294967295) ∧ (0 ≤ p.pd ∧ p.pd ≤ 255) ∧ p.cs.length ≤ 15 ∧ p.xs.length ≤ 16) ∧ (∀ x ∈ p.cs, 0 ≤ x ∧ x ≤ 4294967295) ∧ ∀ i, i < p.xs.length → xtOK p.xs i = true := by
  simp only [mdB, mdPre, Bool.and_eq_true, inZ_iff, decide_eq_true_eq, List.all_eq_true, allN_iff]
  constructor
  · rintro ⟨⟨⟨⟨⟨⟨⟨h1, h2⟩, h3, h4⟩, h5⟩, h6⟩, h7⟩, h8⟩, h9⟩
    exact ⟨⟨h1, h2, h3, h4, h6, h7, h8⟩, h5, h9⟩
  · rintro ⟨⟨h1, h2, h3, h4, h6, h7, h8⟩, h5, h9⟩
    exact ⟨⟨⟨⟨⟨⟨⟨h1, h2⟩, h3, h4⟩, h5⟩, h6⟩, h7⟩, h8⟩, h9⟩
 generalize mdB p = gd at *
 have hcB : ∀ j, belL j (rows int1 p.cs) = true := fun j => csB j p.cs
 have hxB : ∀ j, belL j (rows xtR p.xs) = true := fun j => xsB j p.xs
 refine FTL.of_iw Sound.nil mo Try.func87 i87_eq (by simp [i87]) (iw_of_jw ?_)
 dsimp only [i87]
 cases b1 : decide (p.ty < 0)
 rotate_left
 · have := of_decide_eq_true b1
   simp (maxSteps := 400000) only [go_sem, Md.l, b1, simprocAttr]
   exact Ends.pureE rfl (by rw [hno (fun h => by have := (hyes.1 h).1; omega)])
 cases b2 : decide (p.ty > 127)
 rotate_left
 · have := of_decide_eq_true b2
   simp (maxSteps := 400000) only [go_sem, Md.l, b1, b2, simprocAttr]
   exact Ends.pureE rfl (by rw [hno (fun h => by have := (hyes.1 h).1; omega)])
 cases b3 : decide (p.sq < 0)
 rotate_left
 · have := of_decide_eq_true b3
   simp (maxSteps := 400000) only [go_sem, Md.l, b1, b2, b3, simprocAttr]
   exact Ends.pureE rfl (by rw [hno (fun h => by have := (hyes.1 h).1; omega)])
 cases b4 : decide (p.sq > 65535)
 rotate_left
 · have := of_decide_eq_true b4
   simp (maxSteps := 400000) only [go_sem, Md.l, b1, b2, b3, b4, simprocAttr]
   exact Ends.pureE rfl (by rw [hno (fun h => by have := (hyes.1 h).1; omega)])
 cases b5 : decide (p.tm < 0)
 rotate_left
 · have := of_decide_eq_true b5
   simp (maxSteps := 400000) only [go_sem, Md.l, b1, b2, b3, b4, b5, simprocAttr]
   exact Ends.pureE rfl (by rw [hno (fun h => by have := (hyes.1 h).1; omega)])
 cases b6 : decide (p.tm ≥ 4294967296)
 rotate_left
 · have := of_decide_eq_true b6
   simp (maxSteps := 400000) only [go_sem, Md.l, b1, b2, b3, b4, b5, b6, simprocAttr]
   exact Ends.pureE rfl (by rw [hno (fun h => by have := (hyes.1 h).1; omega)])
 cases b7 : decide (p.ss < 0)
 rotate_left
 · have := of_decide_eq_true b7
   simp (maxSteps := 400000) only [go_sem, Md.l, b1, b2, b3, b4, b5, b6, b7, simprocAttr]
   exact Ends.pureE rfl (by rw [hno (fun h => by have := (hyes.1 h).1; omega)])
 cases b8 : decide (p.ss ≥ 4294967296)
 rotate_left
 · have := of_decide_eq_true b8
   simp (maxSteps := 400000) only [go_sem, Md.l, b1, b2, b3, b4, b5, b6, b7, b8, simprocAttr]
   exact Ends.pureE rfl (by rw [hno (fun h => by have := (hyes.1 h).1; omega)])
 cases b9 : decide (p.pd < 0)
 rotate_left
 · have := of_decide_eq_true b9
   simp (maxSteps := 400000) only [go_sem, Md.l, b1, b2, b3, b4, b5, b6, b7, b8, b9, simprocAttr]
   exact Ends.pureE rfl (by rw [hno (fun h => by have := (hyes.1 h).1; omega)])
 cases b10 : decide (p.pd > 255)
 rotate_left
 · have := of_decide_eq_true b10
   simp (maxSteps := 400000) only [go_sem, Md.l, b1, b2, b3, b4, b5, b6, b7, b8, b9, b10, simprocAttr]
   exact Ends.pureE rfl (by rw [hno (fun h => by have := (hyes.1 h).1; omega)])
 cases b11 : decide ((p.cs.length : Int) > 15)
 rotate_left
 · have := of_decide_eq_true b11
   simp (maxSteps := 400000) only [go_sem, Md.l, b1, b2, b3, b4, b5, b6, b7, b8, b9, b10, b11, simprocAttr]
   exact Ends.pureE rfl (by rw [hno (fun h => by have := (hyes.1 h).1; omega)])
 cases b12 : decide ((p.xs.length : Int) > 16)
 rotate_left
 · have := of_decide_eq_true b12
   simp (maxSteps := 400000) only [go_sem, Md.l, b1, b2, b3, b4, b5, b6, b7, b8, b9, b10, b11, b12, simprocAttr]
   exact Ends.pureE rfl (by rw [hno (fun h => by have := (hyes.1 h).1; omega)])
 have hrng : (0 ≤ p.ty ∧ p.ty ≤ 127) ∧ (0 ≤ p.sq ∧ p.sq ≤ 65535) ∧ (0 ≤ p.tm ∧ p.tm ≤ 4294967295) ∧ (0 ≤ p.ss ∧ p.ss ≤ 4294967295) ∧ (0 ≤ p.pd ∧ p.pd ≤ 255) ∧ p.cs.length ≤ 15 ∧ p.xs.length ≤ 16 := by
  have g0 := of_decide_eq_false b1
  have g1 := of_decide_eq_false b2
  have g2 := of_decide_eq_false b3
  have g3 := of_decide_eq_false b4
  have g4 := of_decide_eq_false b5
  have g5 := of_decide_eq_false b6
  have g6 := of_decide_eq_false b7
  have g7 := of_decide_eq_false b8
  have g8 := of_decide_eq_false b9
  have g9 := of_decide_eq_false b10
  have g10 := of_decide_eq_false b11
  have g11 := of_decide_eq_false b12
  omega
 simp (maxSteps := 400000) only [go_sem, Md.l, b1, b2, b3, b4, b5, b6, b7, b8, b9, b10, b11, b12, simprocAttr]
 refine Loop.countI (F := ⟨Try.prog, cxT [], [65, 70, 86, 91, 120], 127, 0⟩) Sound.nil mo p.cs.length (fun k => ∀ j, j < k → ∀ x, p.cs[j]? = some x → 0 ≤ x ∧ x ≤ 4294967295)
  (fun k => [(1, .p 0 0), (3, .i .i64 (k : Int))])
  (fun k => [(0, { cells := p.l })]) 1 (by decide) (fun j hj => by omega) ?_ ?_ (fun k hk hinv => ?_)
 · simp (maxSteps := 400000) only [go_sem, AV.bel, belL, nblt, simprocAttr]
 · simp (maxSteps := 400000) only [go_sem, Md.l, hcB, hxB, AV.bel, belL, nblt, simprocAttr]
 by_cases hlt : k < p.cs.length
 · have c1 : decide ((k : Int) < (p.cs.length : Int)) = true := decide_eq_true (by omega)
   have c2 : decide (0 ≤ (k : Int) ∧ (k : Int) < (p.cs.length : Int)) = true := decide_eq_true (by omega)
   have hw : IntKind.i64.wrap ((k : Int) + 1) = ((k + 1 : Nat) : Int) := by rw [wrapL (by omega) (by omega)]; omega
   obtain ⟨x, hx⟩ : ∃ x, p.cs[k]? = some x := ⟨_, List.getElem?_eq_getElem hlt⟩
   have hr : (rows int1 p.cs)[k * 1]? = some (.i .i64 x) := rows_get (f := int1) (z := 1) (j := 0) (v := .i .i64 x) int1_len hx rfl
   have hbad : ¬ (0 ≤ x ∧ x ≤ 4294967295) → gd = false := fun hb => hno (fun h => hb ((hyes.1 h).2.1 x (List.mem_of_getElem? hx)))
   cases d1 : decide (x < 0)
   rotate_left
   · have := of_decide_eq_true d1
     simp (maxSteps := 400000) only [go_sem, Md.l, c1, c2, hr, d1, simprocAttr]
     exact Ends.pureE rfl (by rw [hbad (by omega)])
   cases d2 : decide (x ≥ 4294967296)
   rotate_left
   · have := of_decide_eq_true d2
     simp (maxSteps := 400000) only [go_sem, Md.l, c1, c2, hr, d1, d2, simprocAttr]
     exact Ends.pureE rfl (by rw [hbad (by omega)])
   have e1 := of_decide_eq_false d1
   have e2 := of_decide_eq_false d2
   have hnext : ∀ j, j < k + 1 → ∀ x, p.cs[j]? = some x → 0 ≤ x ∧ x ≤ 4294967295 := fun j hj y hy => by
    by_cases hjk : j = k
    · subst hjk; rw [hx] at hy; cases hy; omega
    · exact hinv j (by omega) y hy
   simp (maxSteps := 400000) only [go_sem, Md.l, c1, c2, hr, d1, d2, hw, hlt, hcB, hxB, AV.bel, belL, nblt, simprocAttr]
   exact hnext
 have c1 : decide ((k : Int) < (p.cs.length : Int)) = false := decide_eq_false (by omega)
 obtain rfl : k = p.cs.length := by omega
 have hcs : ∀ x ∈ p.cs, 0 ≤ x ∧ x ≤ 4294967295 := fun x hx => by
  obtain ⟨j, hj, hj2⟩ := List.getElem_of_mem hx
  exact hinv j hj x (by rw [List.getElem?_eq_getElem hj, hj2])
 simp (maxSteps := 400000) only [go_sem, Md.l, c1, simprocAttr]
 refine Loop.countI (F := ⟨Try.prog, cxT [], [65, 70, 86, 91, 120], 127, 0⟩) Sound.nil mo p.xs.length (fun k => ∀ j, j < k → xtOK p.xs j = true)
  (fun k => [(1, .p 0 0), (4, .i .i64 (idN p.xs k)), (5, .i .i64 (k : Int))])
  (fun k => [(0, { cells := p.l })]) 1 (by decide) (fun j hj => by omega) ?_ ?_ (fun k hk hinv2 => ?_)
 · simp (maxSteps := 400000) only [go_sem, idN, AV.bel, belL, nblt, simprocAttr]
 · simp (maxSteps := 400000) only [go_sem, Md.l, hcB, hxB, AV.bel, belL, nblt, simprocAttr]
 by_cases hlt : k < p.xs.length
 · have c1 : decide ((k : Int) < (p.xs.length : Int)) = true := decide_eq_true (by omega)
   have c2 : decide (0 ≤ (k : Int) ∧ (k : Int) < (p.xs.length : Int)) = true := decide_eq_true (by omega)
   have hw : IntKind.i64.wrap ((k : Int) + 1) = ((k + 1 : Nat) : Int) := by rw [wrapL (by omega) (by omega)]; omega
   obtain ⟨x, hx⟩ : ∃ x, p.xs[k]? = some x := ⟨_, List.getElem?_eq_getElem hlt⟩
   have hr : (rows xtR p.xs)[k * 2]? = some (.i .i64 x.1) := rows_get (f := xtR) (z := 2) (j := 0) (v := .i .i64 x.1) xtR_len hx rfl
   have hr1 : (rows xtR p.xs)[k * 2 + 1]? = some (.s x.2) := rows_get (f := xtR) (z := 2) (j := 1) (v := .s x.2) xtR_len hx rfl
   have hbad : xtOK p.xs k = false → gd = false := fun hb => hno (fun h => by have := (hyes.1 h).2.2 k hlt; rw [hb] at this; cases this)
   obtain ⟨pv, hok, hpv⟩ : ∃ pv, xtOK p.xs k = (inZ 0 255 x.1 && inZ 0 255 (x.2.length : Int) && decide (0 < x.1) && (k == 0 || pv)) ∧ ∀ y, p.xs[k - 1]? = some y → pv = decide (y.1 < x.1) := by
    refine ⟨_, by simp only [xtOK, hx]; rfl, fun y hy => by simp only [hy]⟩
   have hid : idN p.xs (k + 1) = x.1 := by simp only [idN, hx]
   have hlast : 0 ≤ idN p.xs k ∧ ((k == 0 || pv) = (k == 0 || decide (idN p.xs k < x.1))) ∧ (k = 0 → idN p.xs k = 0) := by
    cases k with
    | zero => exact ⟨Int.le_refl _, rfl, fun _ => rfl⟩
    | succ k =>
     obtain ⟨y, hy⟩ : ∃ y, p.xs[k]? = some y := ⟨_, List.getElem?_eq_getElem (by omega)⟩
     have hoy := hinv2 k (by omega)
     simp only [xtOK, hy, Bool.and_eq_true, decide_eq_true_eq] at hoy
     refine ⟨?_, ?_, fun h => by omega⟩
     · simp only [idN, hy]; omega
     · have := hpv y (by rw [Nat.add_sub_cancel]; exact hy)
       simp only [idN, hy, this]
   obtain ⟨hl0, hl1, hl2⟩ := hlast
   rw [hl1] at hok
   rw [hid]
   generalize idN p.xs k = la at *
   cases d1 : decide (x.1 ≤ la)
   rotate_left
   · have := of_decide_eq_true d1
     simp (maxSteps := 400000) only [go_sem, Md.l, c1, c2, hr, hr1, d1, simprocAttr]
     have hb : xtOK p.xs k = false := by
      rw [hok]
      by_cases hk0 : k = 0
      · have := hl2 hk0
        rw [decide_eq_false (p := 0 < x.1) (by omega)]; simp
      · rw [decide_eq_false (p := la < x.1) (by omega), show (k == 0) = false by simp [hk0]]; simp
     exact Ends.pureE rfl (by rw [hbad hb])
   have e1 := of_decide_eq_false d1
   cases d2 : decide (x.1 > 255)
   rotate_left
   · have := of_decide_eq_true d2
     simp (maxSteps := 400000) only [go_sem, Md.l, c1, c2, hr, hr1, d1, d2, simprocAttr]
     have hb : xtOK p.xs k = false := by
      have : inZ 0 255 x.1 = false := by rw [inZ, decide_eq_false (p := x.1 ≤ 255) (by omega), Bool.and_false]
      rw [hok, this]; simp
     exact Ends.pureE rfl (by rw [hbad hb])
   have e2 := of_decide_eq_false d2
   cases d3 : decide ((x.2.length : Int) > 255)
   rotate_left
   · have := of_decide_eq_true d3
     simp (maxSteps := 400000) only [go_sem, Md.l, c1, c2, hr, hr1, d1, d2, d3, simprocAttr]
     have hb : xtOK p.xs k = false := by
      have : inZ 0 255 (x.2.length : Int) = false := by rw [inZ, decide_eq_false (p := (x.2.length : Int) ≤ 255) (by omega), Bool.and_false]
      rw [hok, this]; simp
     exact Ends.pureE rfl (by rw [hbad hb])
   have e3 := of_decide_eq_false d3
   have hyok : xtOK p.xs k = true := by
    rw [hok, inZ_iff.2 (by omega), inZ_iff.2 (by omega), decide_eq_true (p := 0 < x.1) (by omega), decide_eq_true (p := la < x.1) (by omega)]; simp
   have hnext : ∀ j, j < k + 1 → xtOK p.xs j = true := fun j hj => by
    by_cases hjk : j = k
    · subst hjk; exact hyok
    · exact hinv2 j (by omega)
   simp (maxSteps := 400000) only [go_sem, Md.l, c1, c2, hr, hr1, d1, d2, d3, hw, hlt, hcB, hxB, AV.bel, belL, nblt, simprocAttr]
   exact hnext
 · have c1 : decide ((k : Int) < (p.xs.length : Int)) = false := decide_eq_false (by omega)
   obtain rfl : k = p.xs.length := by omega
   simp (maxSteps := 400000) only [go_sem, Md.l, c1, simprocAttr]
   exact Ends.pureE rfl (by rw [hyes.2 ⟨hrng, hcs, hinv2⟩])
def k87 : Ct
 | [.agg c], _, n => (md9 c).bind fun p => some (true, { v := .b (mdB p), n })
 | _, _, _ => none
theorem s87 : SoundAt Try.prog 87 k87 := fun args h n c E hc ht => by
 unfold k87 at hc
 split at hc
 · simp only [Option.bind_eq_some_iff] at hc
   obtain ⟨p, hp, he⟩ := hc
   cases he
   rw [md9_eq hp]
   exact CallOK.pure (by kernel_rfl) (by simp only [belL, AV.bel, Md.bel, Bool.and_self]) rfl (w87 p) _ _
 · cases hc
end Go.Proofs.Res
end
section
/- Contracts of the reference's Names, Sound and old. -/
namespace Go.Proofs.Res
open Go.Ab
set_option maxRecDepth 100000
set_option maxHeartbeats 4000000
set_option linter.unusedSimpArgs false
set_option linter.unusedVariables false
theorem inI_no1 {lo hi x : Int} (h : decide (x < lo) = true) : inI lo hi x = false := by simp only [inI]; rw [decide_eq_false (p := lo ≤ x) (by have := of_decide_eq_true h; omega)]; rfl
theorem inI_no2 {lo hi x : Int} (h : decide (x > hi) = true) : inI lo hi x = false := by simp only [inI]; rw [decide_eq_false (p := x ≤ hi) (by have := of_decide_eq_true h; omega), Bool.and_false]
theorem inI_yes {lo hi x : Int} (h : decide (x < lo) = false) (h2 : decide (x > hi) = false) : inI lo hi x = true := inI_of (by have := of_decide_eq_false h; have := of_decide_eq_false h2; omega)
theorem w88 (a b c : Int) : FTL Try.prog 88 [.i .i64 a, .i .i64 b, .i .i64 c] [] 0 (.b (namesB a b c)) [] 0 := by
 refine FTL.of_iw Sound.nil mo Try.func88 i88_eq (by simp [i88]) (iw_of_jw ?_)
 dsimp only [i88]
 have n1 : decide (a ≥ 0) = !decide (a < 0) := by rw [Bool.eq_iff_iff]; simp
 have n2 : decide (a < 4294967296) = !decide (a > 4294967295) := by rw [Bool.eq_iff_iff]; simp; omega
 have n3 : decide (b ≥ 0) = !decide (b < 0) := by rw [Bool.eq_iff_iff]; simp
 have n4 : decide (b ≤ 127) = !decide (b > 127) := by rw [Bool.eq_iff_iff]; simp
 have n5 : decide (c ≥ 0) = !decide (c < 0) := by rw [Bool.eq_iff_iff]; simp
 have n6 : decide (c ≤ 65535) = !decide (c > 65535) := by rw [Bool.eq_iff_iff]; simp
 cases b1 : decide (a < 0)
 rotate_left
 · simp (maxSteps := 400000) only [go_sem, n1, b1, simprocAttr]
   exact Ends.pureE rfl (by simp only [namesB, inI_no1 b1]; rfl)
 cases b2 : decide (a > 4294967295)
 rotate_left
 · simp (maxSteps := 400000) only [go_sem, n1, n2, b1, b2, simprocAttr]
   exact Ends.pureE rfl (by simp only [namesB, inI_no2 b2]; rfl)
 cases b3 : decide (b < 0)
 rotate_left
 · simp (maxSteps := 400000) only [go_sem, n1, n2, n3, b1, b2, b3, simprocAttr]
   exact Ends.pureE rfl (by simp only [namesB, inI_yes b1 b2, inI_no1 b3]; rfl)
 cases b4 : decide (b > 127)
 rotate_left
 · simp (maxSteps := 400000) only [go_sem, n1, n2, n3, n4, b1, b2, b3, b4, simprocAttr]
   exact Ends.pureE rfl (by simp only [namesB, inI_yes b1 b2, inI_no2 b4]; rfl)
 cases b5 : decide (c < 0)
 rotate_left
 · simp (maxSteps := 400000) only [go_sem, n1, n2, n3, n4, n5, b1, b2, b3, b4, b5, simprocAttr]
   exact Ends.pureE rfl (by simp only [namesB, inI_yes b1 b2, inI_yes b3 b4, inI_no1 b5]; rfl)
 cases b6 : decide (c > 65535)
 rotate_left
 · simp (maxSteps := 400000) only [go_sem, n1, n2, n3, n4, n5, n6, b1, b2, b3, b4, b5, b6, simprocAttr]
   exact Ends.pureE rfl (by simp only [namesB, inI_yes b1 b2, inI_yes b3 b4, inI_no2 b6]; rfl)
 · simp (maxSteps := 400000) only [go_sem, n1, n2, n3, n4, n5, n6, b1, b2, b3, b4, b5, b6, simprocAttr]
   exact Ends.pureE rfl (by simp only [namesB, inI_yes b1 b2, inI_yes b3 b4, inI_yes b5 b6]; rfl)
theorem s88 : SoundAt Try.prog 88 k66 := fun args h n c E hc ht => by
 unfold k66 at hc
 split at hc
 · cases hc
   exact CallOK.pure (by kernel_rfl) rfl rfl (w88 _ _ _) _ _
 · cases hc
def TM96 : List (Nat × Ct) := [(52, k52), (53, k53), (87, k87), (88, k66)]
theorem hTM96 : Sound Try.prog (cxT TM96) := Sound.cons s52 (Sound.cons s53 (Sound.cons s87 (Sound.cons s88 Sound.nil)))
theorem w96 (hs : Hs) (hl : hs.l.length ≤ 1000000000000) : FTL Try.prog 96 [.agg hs.a] [] 0 (.b (goodH hs)) [] 0 := by
 have hgd : goodH hs = ((inI 0 TT hs.ti && (namesB hs.ss hs.ty hs.nx && decide (hs.l.length ≤ 64))) && (hs.l.all (fun x => mdB x.p) && chH hs.ti (lastQ hs.l) 0 (-16385) hs.l)) := rfl
 generalize goodH hs = gd at *
 obtain ⟨ti, ss, ty, nx, l⟩ := hs
 simp only [TT] at hgd
 dsimp only at hl hgd
 simp only [Hs.a]
 have hLb : ∀ j, belL j (rows Kp.l l) = true := fun j => krB j l
 have n1 : decide ((l.length : Int) > 64) = !decide (l.length ≤ 64) := by rw [Bool.eq_iff_iff]; simp; omega
 refine FTL.of_iw hTM96 mo Try.func96 i96_eq (by simp [i96]) (iw_of_jw ?_)
 dsimp only [i96, TM96]
 cases a1 : inI 0 1099511627776 ti
 · simp (maxSteps := 400000) only [go_sem, k52, a1, simprocAttr]
   exact Ends.pureE rfl (by rw [hgd, a1]; rfl)
 cases a2 : namesB ss ty nx
 · simp (maxSteps := 400000) only [go_sem, k52, k66, a1, a2, simprocAttr]
   exact Ends.pureE rfl (by rw [hgd, a1, a2]; rfl)
 cases a3 : decide (l.length ≤ 64)
 · simp (maxSteps := 400000) only [go_sem, k52, k66, a1, a2, n1, a3, simprocAttr]
   exact Ends.pureE rfl (by rw [hgd, a1, a2, a3]; rfl)
 have hl64 := of_decide_eq_true a3
 rw [a1, a2, a3] at hgd
 simp only [Bool.true_and, Bool.and_self] at hgd
 simp (maxSteps := 400000) only [go_sem, k52, k66, a1, a2, n1, a3, simprocAttr]
 refine Loop.countI (F := ⟨Try.prog, cxT TM96, [27, 32, 42, 47, 106, 120], 122, 0⟩) hTM96 mo l.length (fun k => ∀ j, j < k → ∀ x, l[j]? = some x → mdB x.p = true)
  (fun k => [(1, .p 0 0), (3, .i .i64 (k : Int))])
  (fun k => [(0, { cells := [.i .i64 ti, .i .i64 ss, .i .i64 ty, .i .i64 nx, .fz (rows Kp.l l) l.length] })]) 1 (by decide) (fun j hj => by omega) ?_ ?_ (fun k hk hinv => ?_)
 · simp (maxSteps := 400000) only [go_sem, AV.bel, belL, nblt, simprocAttr]
 · simp (maxSteps := 400000) only [go_sem, hLb, AV.bel, belL, nblt, simprocAttr]
 dsimp only [TM96]
 by_cases hlt : k < l.length
 · have c1 : decide ((k : Int) < (l.length : Int)) = true := decide_eq_true (by omega)
   have c2 : decide (0 ≤ (k : Int) ∧ (k : Int) < (l.length : Int)) = true := decide_eq_true (by omega)
   have hw : IntKind.i64.wrap ((k : Int) + 1) = ((k + 1 : Nat) : Int) := by rw [wrapL (by omega) (by omega)]; omega
   obtain ⟨x, hx⟩ : ∃ x, l[k]? = some x := ⟨_, List.getElem?_eq_getElem hlt⟩
   have hxm := List.mem_of_getElem? hx
   have hr : List.take 9 (List.drop (k * 11) (rows Kp.l l)) = x.p.l := by
    have h1 := kp_at hx
    have h2 : List.take 9 (List.take 11 (List.drop (k * 11) (rows Kp.l l))) = List.take 9 x.l := by rw [h1]
    rw [List.take_take] at h2
    exact h2
   have c3 : decide (k * 11 + 9 ≤ (rows Kp.l l).length) = true := decide_eq_true (by rw [rows_len Kp.len]; omega)
   have h9 := md9_l x.p
   have hk87 : ∀ (h : Hp) n, k87 [.agg x.p.l] h n = some (true, { v := .b (mdB x.p), n }) := fun h n => by simp only [k87, h9, Option.bind_some]
   have hbad : mdB x.p = false → gd = false := fun hb => by
    rw [hgd]
    have : l.all (fun x => mdB x.p) = false := by
     rw [Bool.eq_false_iff]; intro h; rw [List.all_eq_true] at h; have := h x hxm; rw [hb] at this; cases this
    rw [this]; rfl
   have hnext : mdB x.p = true → ∀ j, j < k + 1 → ∀ x, l[j]? = some x → mdB x.p = true := fun hm j hj y hy => by
    by_cases hjk : j = k
    · subst hjk; rw [hx] at hy; cases hy; exact hm
    · exact hinv j (by omega) y hy
   have h9l : decide (x.p.l.length = 9) = true := rfl
   generalize mdB x.p = mb at *
   generalize x.p.l = xl at *
   cases mb
   · simp (maxSteps := 400000) only [go_sem, c1, c2, c3, hr, hk87, h9l, simprocAttr]
     exact Ends.pureE rfl (by rw [hbad rfl])
   · have hn := hnext rfl
     simp (maxSteps := 400000) only [go_sem, c1, c2, c3, hr, hk87, h9l, hw, hlt, hLb, AV.bel, belL, nblt, simprocAttr]
     exact hn
 have c1 : decide ((k : Int) < (l.length : Int)) = false := decide_eq_false (by omega)
 obtain rfl : k = l.length := by omega
 have a4 : ∀ x ∈ l, mdB x.p = true := fun x hx => by
  obtain ⟨j, hj, hj2⟩ := List.getElem_of_mem hx
  exact hinv j hj x (by rw [List.getElem?_eq_getElem hj, hj2])
 have a4' : l.all (fun x => mdB x.p) = true := List.all_eq_true.2 a4
 rw [a4'] at hgd
 simp only [Bool.true_and] at hgd
 clear hinv
 simp (maxSteps := 400000) only [go_sem, c1, simprocAttr]
 refine Loop.countI (F := ⟨Try.prog, cxT TM96, [27, 32, 42, 47, 106, 120], 122, 0⟩) hTM96 mo l.length (fun k => gd = chH ti (lastQ l) (frH l k) (ldH (lastQ l) l k) (l.drop k) ∧ 0 ≤ frH l k)
  (fun k => [(1, .p 0 0), (4, .i .i64 (ldH (lastQ l) l k)), (5, .i .i64 (k : Int))])
  (fun k => [(0, { cells := [.i .i64 ti, .i .i64 ss, .i .i64 ty, .i .i64 nx, .fz (rows Kp.l l) l.length] })]) 1 (by decide) ⟨hgd, Int.le_refl _⟩ ?_ ?_ (fun k hk hinv => ?_)
 · simp (maxSteps := 400000) only [go_sem, ldH, AV.bel, belL, nblt, simprocAttr]
 · simp (maxSteps := 400000) only [go_sem, hLb, AV.bel, belL, nblt, simprocAttr]
 dsimp only [TM96]
 obtain ⟨hinv, hfr0⟩ := hinv
 by_cases hlt : k < l.length
 · have c1 : decide ((k : Int) < (l.length : Int)) = true := decide_eq_true (by omega)
   have c2 : decide (0 ≤ (k : Int) ∧ (k : Int) < (l.length : Int)) = true := decide_eq_true (by omega)
   have hw : IntKind.i64.wrap ((k : Int) + 1) = ((k + 1 : Nat) : Int) := by rw [wrapL (by omega) (by omega)]; omega
   have hw2 : IntKind.i64.wrap ((l.length : Int) - 1) = ((l.length - 1 : Nat) : Int) := by rw [wrapL (by omega) (by omega)]; omega
   have c3 : decide (0 ≤ ((l.length - 1 : Nat) : Int) ∧ ((l.length - 1 : Nat) : Int) < (l.length : Int)) = true := decide_eq_true (by omega)
   obtain ⟨x, hx⟩ : ∃ x, l[k]? = some x := ⟨_, List.getElem?_eq_getElem hlt⟩
   obtain ⟨y, hy⟩ : ∃ y, l[l.length - 1]? = some y := ⟨_, List.getElem?_eq_getElem (by omega)⟩
   have hr := kp_at hx
   have hry : (rows Kp.l l)[(l.length - 1) * 11 + 2]? = some (.i .i64 y.p.sq) := rows_get (f := Kp.l) (z := 11) (j := 2) (v := .i .i64 y.p.sq) Kp.len hy rfl
   have hlq : lastQ l = y.p.sq := by simp only [lastQ, hy]
   have hdr : l.drop k = x :: l.drop (k + 1) := by
    rw [List.drop_eq_getElem_cons hlt]
    rw [List.getElem?_eq_getElem hlt] at hx
    cases hx; rfl
   have hxs := mdB_sq (a4 x (List.mem_of_getElem? hx))
   have hys := mdB_sq (a4 y (List.mem_of_getElem? hy))
   have hfs : frH l (k + 1) = x.ti := by simp only [frH, hx]
   have hls : ldH (lastQ l) l (k + 1) = lead x.p.sq (lastQ l) := by simp only [ldH, hx]
   rw [hfs, hls]
   rw [hdr] at hinv
   simp only [chH] at hinv
   generalize lastQ l = lq at *
   subst hlq
   generalize ldH y.p.sq l k = ld at *
   have hk53 : ∀ (h : Hp) n, k53 [.i .i64 x.p.sq, .i .i64 y.p.sq, .i .i64 16] h n = some (true, { v := .i .i64 (lead x.p.sq y.p.sq), n }) := fun h n => by simp only [k53, hxs, hys, Bool.and_self]
   generalize lead x.p.sq y.p.sq = d at *
   have hak : akB ti x = ((x.ak == -1) || inI x.ti ti x.ak) := rfl
   have f1 : inI (frH l k) ti x.ti = false → gd = false := fun h => by rw [hinv, h]; rfl
   have f2 : akB ti x = false → gd = false := fun h => by rw [hinv, h]; simp
   have f3 : inI (ld + 1) 0 d = false → gd = false := fun h => by rw [hinv, h]; simp
   have f4 : inI (frH l k) ti x.ti = true → akB ti x = true → inI (ld + 1) 0 d = true → gd = chH ti y.p.sq x.ti d (l.drop (k + 1)) := fun h1 h2 h3 => by rw [hinv, h1, h2, h3]; rfl
   have hprev : ∀ j, k = j + 1 → ∃ z, l[j]? = some z ∧ frH l k = z.ti ∧ (rows Kp.l l)[j * 11 + 9]? = some (.i .i64 z.ti) := fun j hj => by
    obtain ⟨z, hz⟩ : ∃ z, l[j]? = some z := ⟨_, List.getElem?_eq_getElem (by omega)⟩
    exact ⟨z, hz, by rw [hj]; simp only [frH, hz], rows_get (f := Kp.l) (z := 11) (j := 9) (v := .i .i64 z.ti) Kp.len hz rfl⟩
   have hk0 : k = 0 → frH l k = 0 := fun h => by rw [h]; rfl
   generalize frH l k = fr at *
   have hB1 := csB 1 x.p.cs
   have hB2 := xsB 1 x.p.xs
   obtain ⟨⟨ma, pty, sq, tm, pss, cs, xs, pd, pl⟩, xt, xa⟩ := x
   simp only [Kp.l] at hr
   dsimp only at f1 f2 f4 hak hk53
   cases b1 : decide (d ≤ ld)
   rotate_left
   · simp (maxSteps := 400000) only [go_sem, c1, c2, c3, hr, hry, hw2, hk53, b1, simprocAttr]
     exact Ends.pureE rfl (by rw [f3 (by simp only [inI]; rw [decide_eq_false (p := ld + 1 ≤ d) (by have := of_decide_eq_true b1; omega)]; rfl)])
   cases b2 : decide (d > 0)
   rotate_left
   · simp (maxSteps := 400000) only [go_sem, c1, c2, c3, hr, hry, hw2, hk53, b1, b2, simprocAttr]
     exact Ends.pureE rfl (by rw [f3 (inI_no2 b2)])
   have g3 : inI (ld + 1) 0 d = true := inI_of (by have := of_decide_eq_false b1; have := of_decide_eq_false b2; omega)
   cases b3 : decide (xt < 0)
   rotate_left
   · simp (maxSteps := 400000) only [go_sem, c1, c2, c3, hr, hry, hw2, hk53, b1, b2, b3, simprocAttr]
     exact Ends.pureE rfl (by rw [f1 (by simp only [inI]; rw [decide_eq_false (p := fr ≤ xt) (by have := of_decide_eq_true b3; omega)]; rfl)])
   cases b4 : decide (xt > ti)
   rotate_left
   · simp (maxSteps := 400000) only [go_sem, c1, c2, c3, hr, hry, hw2, hk53, b1, b2, b3, b4, simprocAttr]
     exact Ends.pureE rfl (by rw [f1 (inI_no2 b4)])
   have e3 := of_decide_eq_false b3
   have e4 := of_decide_eq_false b4
   -- the time of the last answer
   have tail : ∀ (q : List (Nat × AV)), True := fun _ => trivial
   by_cases hk1 : k = 0
   · have g1 : inI fr ti xt = true := inI_of (by have := hk0 hk1; omega)
     have c5 : decide ((k : Int) > 0) = false := decide_eq_false (by omega)
     cases b5 : (xa == -1)
     · have b5' : (xa != -1) = true := by simp [bne, b5]
       cases b6 : decide (xa < xt)
       rotate_left
       · simp (maxSteps := 400000) only [go_sem, c1, c2, c3, hr, hry, hw2, hk53, b1, b2, b3, b4, b5', b6, simprocAttr]
         exact Ends.pureE rfl (by rw [f2 (by rw [hak, b5, inI_no1 b6]; rfl)])
       cases b7 : decide (xa > ti)
       rotate_left
       · simp (maxSteps := 400000) only [go_sem, c1, c2, c3, hr, hry, hw2, hk53, b1, b2, b3, b4, b5', b6, b7, simprocAttr]
         exact Ends.pureE rfl (by rw [f2 (by rw [hak, b5, inI_no2 b7]; rfl)])
       have g2 : akB ti ⟨⟨ma, pty, sq, tm, pss, cs, xs, pd, pl⟩, xt, xa⟩ = true := by rw [hak, b5, inI_yes b6 b7]; rfl
       have hn := f4 g1 g2 g3
       simp (maxSteps := 400000) only [go_sem, c1, c2, c3, hr, hry, hw, hw2, hk53, b1, b2, b3, b4, b5', b6, b7, c5, hlt, hLb, AV.bel, belL, nblt, simprocAttr]
       exact ⟨hn, by omega⟩
     · have b5' : (xa != -1) = false := by simp [bne, b5]
       have g2 : akB ti ⟨⟨ma, pty, sq, tm, pss, cs, xs, pd, pl⟩, xt, xa⟩ = true := by rw [hak, b5]; rfl
       have hn := f4 g1 g2 g3
       simp (maxSteps := 400000) only [go_sem, c1, c2, c3, hr, hry, hw, hw2, hk53, b1, b2, b3, b4, b5', c5, hlt, hLb, AV.bel, belL, nblt, simprocAttr]
       exact ⟨hn, by omega⟩
   · have c5 : decide ((k : Int) > 0) = true := decide_eq_true (by omega)
     obtain ⟨z, hz, hzf, hzr⟩ := hprev (k - 1) (by omega)
     have hw5 : IntKind.i64.wrap ((k : Int) - 1) = ((k - 1 : Nat) : Int) := by rw [wrapL (by omega) (by omega)]; omega
     have c6 : decide (0 ≤ ((k - 1 : Nat) : Int) ∧ ((k - 1 : Nat) : Int) < (l.length : Int)) = true := decide_eq_true (by omega)
     generalize z.ti = zt at *
     cases b5 : (xa == -1)
     · have b5' : (xa != -1) = true := by simp [bne, b5]
       cases b6 : decide (xa < xt)
       rotate_left
       · simp (maxSteps := 400000) only [go_sem, c1, c2, c3, hr, hry, hw2, hk53, b1, b2, b3, b4, b5', b6, simprocAttr]
         exact Ends.pureE rfl (by rw [f2 (by rw [hak, b5, inI_no1 b6]; rfl)])
       cases b7 : decide (xa > ti)
       rotate_left
       · simp (maxSteps := 400000) only [go_sem, c1, c2, c3, hr, hry, hw2, hk53, b1, b2, b3, b4, b5', b6, b7, simprocAttr]
         exact Ends.pureE rfl (by rw [f2 (by rw [hak, b5, inI_no2 b7]; rfl)])
       have g2 : akB ti ⟨⟨ma, pty, sq, tm, pss, cs, xs, pd, pl⟩, xt, xa⟩ = true := by rw [hak, b5, inI_yes b6 b7]; rfl
       cases b8 : decide (xt < zt)
       rotate_left
       · simp (maxSteps := 400000) only [go_sem, c1, c2, c3, c6, hr, hry, hzr, hw2, hw5, hk53, b1, b2, b3, b4, b5', b6, b7, b8, c5, simprocAttr]
         exact Ends.pureE rfl (by rw [f1 (by rw [hzf]; exact inI_no1 b8)])
       have g1 : inI fr ti xt = true := inI_of (by have := of_decide_eq_false b8; omega)
       have hn := f4 g1 g2 g3
       simp (maxSteps := 400000) only [go_sem, c1, c2, c3, c6, hr, hry, hzr, hw, hw2, hw5, hk53, b1, b2, b3, b4, b5', b6, b7, b8, c5, hlt, hLb, AV.bel, belL, nblt, simprocAttr]
       exact ⟨hn, by omega⟩
     · have b5' : (xa != -1) = false := by simp [bne, b5]
       have g2 : akB ti ⟨⟨ma, pty, sq, tm, pss, cs, xs, pd, pl⟩, xt, xa⟩ = true := by rw [hak, b5]; rfl
       cases b8 : decide (xt < zt)
       rotate_left
       · simp (maxSteps := 400000) only [go_sem, c1, c2, c3, c6, hr, hry, hzr, hw2, hw5, hk53, b1, b2, b3, b4, b5', b8, c5, simprocAttr]
         exact Ends.pureE rfl (by rw [f1 (by rw [hzf]; exact inI_no1 b8)])
       have g1 : inI fr ti xt = true := inI_of (by have := of_decide_eq_false b8; omega)
       have hn := f4 g1 g2 g3
       simp (maxSteps := 400000) only [go_sem, c1, c2, c3, c6, hr, hry, hzr, hw, hw2, hw5, hk53, b1, b2, b3, b4, b5', b8, c5, hlt, hLb, AV.bel, belL, nblt, simprocAttr]
       exact ⟨hn, by omega⟩
 · have c1 : decide ((k : Int) < (l.length : Int)) = false := decide_eq_false (by omega)
   obtain rfl : k = l.length := by omega
   rw [List.drop_length] at hinv
   simp (maxSteps := 400000) only [go_sem, c1, simprocAttr]
   exact Ends.pureE rfl (by rw [hinv]; rfl)
def k96 : Ct
 | [.agg c], _, n => (hsA c).bind fun h => some (decide (h.l.length ≤ 1000000000000), { v := .b (goodH h), n })
 | _, _, _ => none
theorem s96 : SoundAt Try.prog 96 k96 := fun args h n c E hc ht => by
 unfold k96 at hc
 split at hc
 · simp only [Option.bind_eq_some_iff] at hc
   obtain ⟨hs, hd, he⟩ := hc
   cases he
   rw [hsA_eq hd]
   exact CallOK.pure (by kernel_rfl) (by simp only [belL, AV.bel, Hs.bel, Bool.and_self]) rfl (w96 hs (of_decide_eq_true ht)) _ _
 · cases hc
end Go.Proofs.Res
end
