/- The contract of the reference's Right (packets). -/
import Derived.Test.YtndbgcmgjnjnhaaPicN1
import Derived.Test.YtndbgcmgjnjnhaaAbFzs
namespace Go.Proofs.Pic
open Go.Ab
set_option maxRecDepth 100000
set_option maxHeartbeats 4000000
set_option linter.unusedSimpArgs false
set_option linter.unusedVariables false
def inI (lo hi x : Int) : Bool := decide (lo ≤ x) && decide (x ≤ hi)
theorem inI_of {lo hi x : Int} (h : lo ≤ x ∧ x ≤ hi) : inI lo hi x = true := by simp only [inI, Bool.and_eq_true, decide_eq_true_eq]; exact h
theorem inI_t {lo hi x : Int} (h : inI lo hi x = true) : lo ≤ x ∧ x ≤ hi := by simpa only [inI, Bool.and_eq_true, decide_eq_true_eq] using h
theorem csB (j : Nat) (l : List Int) : belL j (rows int1 l) = true := belL_mono0 _ (rows_bel int1_bel)
theorem xsB (j : Nat) (l : List Xt) : belL j (rows xtR l) = true := belL_mono0 _ (rows_bel xtR_bel)
theorem mdB_sq {p : Md} (h : mdB p = true) : inI 0 65535 p.sq = true := by
 simp only [mdB, mdPre, Bool.and_eq_true] at h
 have := inZ_iff.1 h.1.1.1.1.1.1.2
 exact inI_of this
def idN (l : List Xt) : Nat → Int
 | 0 => 0
 | k + 1 => match l[k]? with
  | some x => x.1
  | none => 0
theorem w65 (p : Md) : FTL Try.prog 65 [.agg p.l] [] 0 (.b (mdB p)) [] 0 := by
 have hno : (mdB p = true → False) → mdB p = false := fun h => by cases hb : mdB p; rfl; exact (h hb).elim
 have hyes : mdB p = true ↔ ((0 ≤ p.ty ∧ p.ty ≤ 127) ∧ (0 ≤ p.sq ∧ p.sq ≤ 65535) ∧ (0 ≤ p.tm ∧ p.tm ≤ 4294967295) ∧ (0 ≤ p.ss ∧ p.ss ≤ 4294967295) ∧ (0 ≤ p.pd ∧ p.pd ≤ 255) ∧ p.cs.length ≤ 15 ∧ p.xs.length ≤ 16) ∧ (∀ x ∈ p.cs, 0 ≤ x ∧ x ≤ 4294967295) ∧ ∀ i, i < p.xs.length → xtOK p.xs i = true := by
  simp only [mdB, mdPre, Bool.and_eq_true, inZ_iff, decide_eq_true_eq, List.all_eq_true, allN_iff]
  constructor
  · rintro ⟨⟨⟨⟨⟨⟨⟨h1, h2⟩, h3, h4⟩, h5⟩, h6⟩, h7⟩, h8⟩, h9⟩
    exact ⟨⟨h1, h2, h3, h4, h6, h7, h8⟩, h5, h9⟩
  · rintro ⟨⟨h1, h2, h3, h4, h6, h7, h8⟩, h5, h9⟩
    exact ⟨⟨⟨⟨⟨⟨⟨h1, h2⟩, h3, h4⟩, h5⟩, h6⟩, h7⟩, h8⟩, h9⟩
 generalize mdB p = gd at *
 have hcB : ∀ j, belL j (rows int1 p.cs) = true := fun j => csB j p.cs
 have hxB : ∀ j, belL j (rows xtR p.xs) = true := fun j => xsB j p.xs
 refine FTL.of_iw Sound.nil mo Try.func65 i65_eq (by simp [i65]) (iw_of_jw ?_)
 dsimp only [i65]
 cases b1 : decide (p.ty < 0)
 rotate_left
 · have := of_decide_eq_true b1
   simp (maxSteps := 400000) only [go_sem, Md.l, b1, simprocAttr]
   exact Ends.pureE rfl (by rw [hno (fun h => by have := (hyes.1 h).1; omega)])
 cases b2 : decide (p.ty > 127)
 rotate_left
 · have := of_decide_eq_true b2
   simp (maxSteps := 400000) only [go_sem, Md.l, b1, b2, simprocAttr]
   exact Ends.pureE rfl (by rw [hno (fun h => by have := (hyes.1 h).1; omega)])
 cases b3 : decide (p.sq < 0)
 rotate_left
 · have := of_decide_eq_true b3
   simp (maxSteps := 400000) only [go_sem, Md.l, b1, b2, b3, simprocAttr]
   exact Ends.pureE rfl (by rw [hno (fun h => by have := (hyes.1 h).1; omega)])
 cases b4 : decide (p.sq > 65535)
 rotate_left
 · have := of_decide_eq_true b4
   simp (maxSteps := 400000) only [go_sem, Md.l, b1, b2, b3, b4, simprocAttr]
   exact Ends.pureE rfl (by rw [hno (fun h => by have := (hyes.1 h).1; omega)])
 cases b5 : decide (p.tm < 0)
 rotate_left
 · have := of_decide_eq_true b5
   simp (maxSteps := 400000) only [go_sem, Md.l, b1, b2, b3, b4, b5, simprocAttr]
   exact Ends.pureE rfl (by rw [hno (fun h => by have := (hyes.1 h).1; omega)])
 cases b6 : decide (p.tm ≥ 4294967296)
 rotate_left
 · have := of_decide_eq_true b6
   simp (maxSteps := 400000) only [go_sem, Md.l, b1, b2, b3, b4, b5, b6, simprocAttr]
   exact Ends.pureE rfl (by rw [hno (fun h => by have := (hyes.1 h).1; omega)])
 cases b7 : decide (p.ss < 0)
 rotate_left
 · have := of_decide_eq_true b7
   simp (maxSteps := 400000) only [go_sem, Md.l, b1, b2, b3, b4, b5, b6, b7, simprocAttr]
   exact Ends.pureE rfl (by rw [hno (fun h => by have := (hyes.1 h).1; omega)])
 cases b8 : decide (p.ss ≥ 4294967296)
 rotate_left
 · have := of_decide_eq_true b8
   simp (maxSteps := 400000) only [go_sem, Md.l, b1, b2, b3, b4, b5, b6, b7, b8, simprocAttr]
   exact Ends.pureE rfl (by rw [hno (fun h => by have := (hyes.1 h).1; omega)])
 cases b9 : decide (p.pd < 0)
 rotate_left
 · have := of_decide_eq_true b9
   simp (maxSteps := 400000) only [go_sem, Md.l, b1, b2, b3, b4, b5, b6, b7, b8, b9, simprocAttr]
   exact Ends.pureE rfl (by rw [hno (fun h => by have := (hyes.1 h).1; omega)])
 cases b10 : decide (p.pd > 255)
 rotate_left
 · have := of_decide_eq_true b10
   simp (maxSteps := 400000) only [go_sem, Md.l, b1, b2, b3, b4, b5, b6, b7, b8, b9, b10, simprocAttr]
   exact Ends.pureE rfl (by rw [hno (fun h => by have := (hyes.1 h).1; omega)])
 cases b11 : decide ((p.cs.length : Int) > 15)
 rotate_left
 · have := of_decide_eq_true b11
   simp (maxSteps := 400000) only [go_sem, Md.l, b1, b2, b3, b4, b5, b6, b7, b8, b9, b10, b11, simprocAttr]
   exact Ends.pureE rfl (by rw [hno (fun h => by have := (hyes.1 h).1; omega)])
 cases b12 : decide ((p.xs.length : Int) > 16)
 rotate_left
 · have := of_decide_eq_true b12
   simp (maxSteps := 400000) only [go_sem, Md.l, b1, b2, b3, b4, b5, b6, b7, b8, b9, b10, b11, b12, simprocAttr]
   exact Ends.pureE rfl (by rw [hno (fun h => by have := (hyes.1 h).1; omega)])
 have hrng : (0 ≤ p.ty ∧ p.ty ≤ 127) ∧ (0 ≤ p.sq ∧ p.sq ≤ 65535) ∧ (0 ≤ p.tm ∧ p.tm ≤ 4294967295) ∧ (0 ≤ p.ss ∧ p.ss ≤ 4294967295) ∧ (0 ≤ p.pd ∧ p.pd ≤ 255) ∧ p.cs.length ≤ 15 ∧ p.xs.length ≤ 16 := by
  have g0 := of_decide_eq_false b1
  have g1 := of_decide_eq_false b2
  have g2 := of_decide_eq_false b3
  have g3 := of_decide_eq_false b4
  have g4 := of_decide_eq_false b5
  have g5 := of_decide_eq_false b6
  have g6 := of_decide_eq_false b7
  have g7 := of_decide_eq_false b8
  have g8 := of_decide_eq_false b9
  have g9 := of_decide_eq_false b10
  have g10 := of_decide_eq_false b11
  have g11 := of_decide_eq_false b12
  omega
 simp (maxSteps := 400000) only [go_sem, Md.l, b1, b2, b3, b4, b5, b6, b7, b8, b9, b10, b11, b12, simprocAttr]
 refine Loop.countI (F := ⟨Try.prog, cxT [], [65, 70, 86, 91, 120], 127, 0⟩) Sound.nil mo p.cs.length (fun k => ∀ j, j < k → ∀ x, p.cs[j]? = some x → 0 ≤ x ∧ x ≤ 4294967295)
  (fun k => [(1, .p 0 0), (3, .i .i64 (k : Int))])
  (fun k => [(0, { cells := p.l })]) 1 (by decide) (fun j hj => by omega) ?_ ?_ (fun k hk hinv => ?_)
 · simp (maxSteps := 400000) only [go_sem, AV.bel, belL, nblt, simprocAttr]
 · simp (maxSteps := 400000) only [go_sem, Md.l, hcB, hxB, AV.bel, belL, nblt, simprocAttr]
 by_cases hlt : k < p.cs.length
 · have c1 : decide ((k : Int) < (p.cs.length : Int)) = true := decide_eq_true (by omega)
   have c2 : decide (0 ≤ (k : Int) ∧ (k : Int) < (p.cs.length : Int)) = true := decide_eq_true (by omega)
   have hw : IntKind.i64.wrap ((k : Int) + 1) = ((k + 1 : Nat) : Int) := by rw [wrapL (by omega) (by omega)]; omega
   obtain ⟨x, hx⟩ : ∃ x, p.cs[k]? = some x := ⟨_, List.getElem?_eq_getElem hlt⟩
   have hr : (rows int1 p.cs)[k * 1]? = some (.i .i64 x) := rows_get (f := int1) (z := 1) (j := 0) (v := .i .i64 x) int1_len hx rfl
   have hbad : ¬ (0 ≤ x ∧ x ≤ 4294967295) → gd = false := fun hb => hno (fun h => hb ((hyes.1 h).2.1 x (List.mem_of_getElem? hx)))
   cases d1 : decide (x < 0)
   rotate_left
   · have := of_decide_eq_true d1
     simp (maxSteps := 400000) only [go_sem, Md.l, c1, c2, hr, d1, simprocAttr]
     exact Ends.pureE rfl (by rw [hbad (by omega)])
   cases d2 : decide (x ≥ 4294967296)
   rotate_left
   · have := of_decide_eq_true d2
     simp (maxSteps := 400000) only [go_sem, Md.l, c1, c2, hr, d1, d2, simprocAttr]
     exact Ends.pureE rfl (by rw [hbad (by omega)])
   have e1 := of_decide_eq_false d1
   have e2 := of_decide_eq_false d2
   have hnext : ∀ j, j < k + 1 → ∀ x, p.cs[j]? = some x → 0 ≤ x ∧ x ≤ 4294967295 := fun j hj y hy => by
    by_cases hjk : j = k
    · subst hjk; rw [hx] at hy; cases hy; omega
    · exact hinv j (by omega) y hy
   simp (maxSteps := 400000) only [go_sem, Md.l, c1, c2, hr, d1, d2, hw, hlt, hcB, hxB, AV.bel, belL, nblt, simprocAttr]
   exact hnext
 have c1 : decide ((k : Int) < (p.cs.length : Int)) = false := decide_eq_false (by omega)
 obtain rfl : k = p.cs.length := by omega
 have hcs : ∀ x ∈ p.cs, 0 ≤ x ∧ x ≤ 4294967295 := fun x hx => by
  obtain ⟨j, hj, hj2⟩ := List.getElem_of_mem hx
  exact hinv j hj x (by rw [List.getElem?_eq_getElem hj, hj2])
 simp (maxSteps := 400000) only [go_sem, Md.l, c1, simprocAttr]
 refine Loop.countI (F := ⟨Try.prog, cxT [], [65, 70, 86, 91, 120], 127, 0⟩) Sound.nil mo p.xs.length (fun k => ∀ j, j < k → xtOK p.xs j = true)
  (fun k => [(1, .p 0 0), (4, .i .i64 (idN p.xs k)), (5, .i .i64 (k : Int))])
  (fun k => [(0, { cells := p.l })]) 1 (by decide) (fun j hj => by omega) ?_ ?_ (fun k hk hinv2 => ?_)
 · simp (maxSteps := 400000) only [go_sem, idN, AV.bel, belL, nblt, simprocAttr]
 · simp (maxSteps := 400000) only [go_sem, Md.l, hcB, hxB, AV.bel, belL, nblt, simprocAttr]
 by_cases hlt : k < p.xs.length
 · have c1 : decide ((k : Int) < (p.xs.length : Int)) = true := decide_eq_true (by omega)
   have c2 : decide (0 ≤ (k : Int) ∧ (k : Int) < (p.xs.length : Int)) = true := decide_eq_true (by omega)
   have hw : IntKind.i64.wrap ((k : Int) + 1) = ((k + 1 : Nat) : Int) := by rw [wrapL (by omega) (by omega)]; omega
   obtain ⟨x, hx⟩ : ∃ x, p.xs[k]? = some x := ⟨_, List.getElem?_eq_getElem hlt⟩
   have hr : (rows xtR p.xs)[k * 2]? = some (.i .i64 x.1) := rows_get (f := xtR) (z := 2) (j := 0) (v := .i .i64 x.1) xtR_len hx rfl
   have hr1 : (rows xtR p.xs)[k * 2 + 1]? = some (.s x.2) := rows_get (f := xtR) (z := 2) (j := 1) (v := .s x.2) xtR_len hx rfl
   have hbad : xtOK p.xs k = false → gd = false := fun hb => hno (fun h => by have := (hyes.1 h).2.2 k hlt; rw [hb] at this; cases this)
   obtain ⟨pv, hok, hpv⟩ : ∃ pv, xtOK p.xs k = (inZ 0 255 x.1 && inZ 0 255 (x.2.length : Int) && decide (0 < x.1) && (k == 0 || pv)) ∧ ∀ y, p.xs[k - 1]? = some y → pv = decide (y.1 < x.1) := by
    refine ⟨_, by simp only [xtOK, hx]; rfl, fun y hy => by simp only [hy]⟩
   have hid : idN p.xs (k + 1) = x.1 := by simp only [idN, hx]
   have hlast : 0 ≤ idN p.xs k ∧ ((k == 0 || pv) = (k == 0 || decide (idN p.xs k < x.1))) ∧ (k = 0 → idN p.xs k = 0) := by
    cases k with
    | zero => exact ⟨Int.le_refl _, rfl, fun _ => rfl⟩
    | succ k =>
     obtain ⟨y, hy⟩ : ∃ y, p.xs[k]? = some y := ⟨_, List.getElem?_eq_getElem (by omega)⟩
     have hoy := hinv2 k (by omega)
     simp only [xtOK, hy, Bool.and_eq_true, decide_eq_true_eq] at hoy
     refine ⟨?_, ?_, fun h => by omega⟩
     · simp only [idN, hy]; omega
     · have := hpv y (by rw [Nat.add_sub_cancel]; exact hy)
       simp only [idN, hy, this]
   obtain ⟨hl0, hl1, hl2⟩ := hlast
   rw [hl1] at hok
   rw [hid]
   generalize idN p.xs k = la at *
   cases d1 : decide (x.1 ≤ la)
   rotate_left
   · have := of_decide_eq_true d1
     simp (maxSteps := 400000) only [go_sem, Md.l, c1, c2, hr, hr1, d1, simprocAttr]
     have hb : xtOK p.xs k = false := by
      rw [hok]
      by_cases hk0 : k = 0
      · have := hl2 hk0
        rw [decide_eq_false (p := 0 < x.1) (by omega)]; simp
      · rw [decide_eq_false (p := la < x.1) (by omega), show (k == 0) = false by simp [hk0]]; simp
     exact Ends.pureE rfl (by rw [hbad hb])
   have e1 := of_decide_eq_false d1
   cases d2 : decide (x.1 > 255)
   rotate_left
   · have := of_decide_eq_true d2
     simp (maxSteps := 400000) only [go_sem, Md.l, c1, c2, hr, hr1, d1, d2, simprocAttr]
     have hb : xtOK p.xs k = false := by
      have : inZ 0 255 x.1 = false := by rw [inZ, decide_eq_false (p := x.1 ≤ 255) (by omega), Bool.and_false]
      rw [hok, this]; simp
     exact Ends.pureE rfl (by rw [hbad hb])
   have e2 := of_decide_eq_false d2
   cases d3 : decide ((x.2.length : Int) > 255)
   rotate_left
   · have := of_decide_eq_true d3
     simp (maxSteps := 400000) only [go_sem, Md.l, c1, c2, hr, hr1, d1, d2, d3, simprocAttr]
     have hb : xtOK p.xs k = false := by
      have : inZ 0 255 (x.2.length : Int) = false := by rw [inZ, decide_eq_false (p := (x.2.length : Int) ≤ 255) (by omega), Bool.and_false]
      rw [hok, this]; simp
     exact Ends.pureE rfl (by rw [hbad hb])
   have e3 := of_decide_eq_false d3
   have hyok : xtOK p.xs k = true := by
    rw [hok, inZ_iff.2 (by omega), inZ_iff.2 (by omega), decide_eq_true (p := 0 < x.1) (by omega), decide_eq_true (p := la < x.1) (by omega)]; simp
   have hnext : ∀ j, j < k + 1 → xtOK p.xs j = true := fun j hj => by
    by_cases hjk : j = k
    · subst hjk; exact hyok
    · exact hinv2 j (by omega)
   simp (maxSteps := 400000) only [go_sem, Md.l, c1, c2, hr, hr1, d1, d2, d3, hw, hlt, hcB, hxB, AV.bel, belL, nblt, simprocAttr]
   exact hnext
 · have c1 : decide ((k : Int) < (p.xs.length : Int)) = false := decide_eq_false (by omega)
   obtain rfl : k = p.xs.length := by omega
   simp (maxSteps := 400000) only [go_sem, Md.l, c1, simprocAttr]
   exact Ends.pureE rfl (by rw [hyes.2 ⟨hrng, hcs, hinv2⟩])
def k65 : Ct
 | [.agg c], _, n => (md9 c).bind fun p => some (true, { v := .b (mdB p), n })
 | _, _, _ => none
theorem s65 : SoundAt Try.prog 65 k65 := fun args h n c E hc ht => by
 unfold k65 at hc
 split at hc
 · simp only [Option.bind_eq_some_iff] at hc
   obtain ⟨p, hp, he⟩ := hc
   cases he
   rw [md9_eq hp]
   exact CallOK.pure (by kernel_rfl) (by simp only [belL, AV.bel, Md.bel, Bool.and_self]) rfl (w65 p) _ _
 · cases hc
end Go.Proofs.Pic
