/- Texts laid as one: LysD7 LysD8. -/
import Derived.Test.YtkpiibllomjeaaaLysDb
section
/- Chapter 41: switches with a field changed. -/
namespace Go.Proofs.Lys
open Go.Ab
set_option maxRecDepth 100000
set_option maxHeartbeats 16000000
set_option linter.unusedSimpArgs false
set_option linter.unusedVariables false
structure Bx where
 wh : Int
 at_ : Int
 n : Int
def Bx.a (b : Bx) : List AV := [.i .u8 b.wh, .i .u8 b.at_, .i .i64 b.n]
def bx3 : List AV → Option Bx
 | [.i .u8 w, .i .u8 a, .i .i64 n] => some ⟨w, a, n⟩
 | _ => none
theorem bx3_a (b : Bx) : bx3 b.a = some b := rfl
theorem bx3_eq {c : List AV} {b : Bx} (h : bx3 c = some b) : c = b.a := by
 unfold bx3 at h
 split at h
 · cases h; rfl
 · cases h
def Bx.okB (b : Bx) : Bool := inI 0 255 b.wh && inI 0 255 b.at_
def bLo (b : Bx) (l : List Int) : Nat := min (b.at_ % 4).toNat l.length
def bendL (b : Bx) (l : List Int) : List Int :=
 if b.wh % 18 = 0 then (if l.length = 0 then l else l.set (b.at_.toNat % l.length) b.n)
 else if b.wh % 18 = 1 then l ++ [b.n]
 else if b.wh % 18 = 2 then l.drop (bLo b l) else l
def bendS (b : Bx) (w : Sw) : Sw := ⟨bendL b w.l, if b.wh % 18 = 3 then b.n else w.ou, if b.wh % 18 = 4 then b.n else w.st, if b.wh % 18 = 5 then b.n else w.nw, if b.wh % 18 = 6 then b.n else w.wa, if b.wh % 18 = 7 then b.n else w.ca, if b.wh % 18 = 8 then b.n else w.ai, if b.wh % 18 = 9 then b.n else w.tp, if b.wh % 18 = 10 then b.n else w.fr, if b.wh % 18 = 11 then !w.kp else w.kp, if b.wh % 18 = 12 then b.n else w.sq, if b.wh % 18 = 13 then b.n else w.tm, if b.wh % 18 = 14 then b.n else w.id, if b.wh % 18 = 15 then b.n else w.ba, if b.wh % 18 = 16 then b.n else w.ss, if b.wh % 18 = 17 then b.n else w.sT, if b.wh % 18 = 16 then b.n else w.si, if b.wh % 18 = 17 then b.n else w.sb⟩
theorem CovS.frzE {n0 n n2 : Nat} {v v' v2 : AV} {h h2 : Hp} {l : List AV} (hf : FzV .en (.fz l 0) v v') (hc : CovS n0 v' h n v2 h2 n2) : CovS n0 v h n v2 h2 n2 := by
 intro D φ w D0 φ0 H0 w0 u hD0 hD hv hH hS
 exact hc D φ w D0 φ0 H0 w0 u hD0 hD (hf D φ u (fun u1 h1 => by cases h1; exact .fz0 _ _ _ (fun h => by cases h)) hv) hH hS
theorem covB {ou st nw wa ca ai tp fr sq tm id ba ss sT si sb : Int} {kp : Bool} {l : List Int} {h : Hp} {n j o m : Nat} {x : AV} {k : Blk} (hk : hget h j = some k) (hro : k.ro = false) (hx : (∃ cap, x = .sl j o m cap ∧ m ≤ cap) ∨ x = .sg j o m) (hC : k.cells.drop o = rows int1 l) (hm : m = l.length) :
 CovS 0 (.agg [x, .i .i64 ou, .i .i64 st, .i .i64 nw, .i .i64 wa, .i .i64 ca, .i .i64 ai, .i .i64 tp, .i .i64 fr, .b kp, .i .i64 sq, .i .i64 tm, .i .i64 id, .i .i64 ba, .i .i64 ss, .i .i64 sT, .i .i64 si, .i .i64 sb]) h n (.agg (Sw.a ⟨l, ou, st, nw, wa, ca, ai, tp, fr, kp, sq, tm, id, ba, ss, sT, si, sb⟩)) [] 0 := by
 subst hm
 refine CovS.frz (b := j) (k := k) (h' := []) (o := o) (m := l.length) (cs := rows int1 l) (v' := .agg (Sw.a ⟨l, ou, st, nw, wa, ca, ai, tp, fr, kp, sq, tm, id, ba, ss, sT, si, sb⟩)) hk hro hx (.inl hC.symm) (FzV.agg ⟨FzV.hit, FzV.refl, FzV.refl, FzV.refl, FzV.refl, FzV.refl, FzV.refl, FzV.refl, FzV.refl, FzV.refl, FzV.refl, FzV.refl, FzV.refl, FzV.refl, FzV.refl, FzV.refl, FzV.refl, FzV.refl, trivial⟩) (fun c kk hc => by simp [hget] at hc) ?_
 exact CovS.ends (Ends.pureE (by simp only [AV.bel, Sw.bel]) rfl)
theorem w9 (b : Bx) (w : Sw) (hb : b.okB = true) (hl : w.l.length ≤ 1000000) : FTL Try.prog 9 [.agg b.a, .agg w.a] [] 0 (.agg (bendS b w).a) [] 0 := by
 simp only [Bx.okB, Bool.and_eq_true] at hb
 have hw := inI_t hb.1
 have ha := inI_t hb.2
 obtain ⟨l, ou, st, nw, wa, ca, ai, tp, fr, kp, sq, tm, id, ba, ss, sT, si, sb⟩ := w
 obtain ⟨wh, at_, V⟩ := b
 dsimp only at hw ha hl
 have hS : bendS ⟨wh, at_, V⟩ ⟨l, ou, st, nw, wa, ca, ai, tp, fr, kp, sq, tm, id, ba, ss, sT, si, sb⟩ = ⟨bendL ⟨wh, at_, V⟩ l, if wh % 18 = 3 then V else ou, if wh % 18 = 4 then V else st, if wh % 18 = 5 then V else nw, if wh % 18 = 6 then V else wa, if wh % 18 = 7 then V else ca, if wh % 18 = 8 then V else ai, if wh % 18 = 9 then V else tp, if wh % 18 = 10 then V else fr, if wh % 18 = 11 then !kp else kp, if wh % 18 = 12 then V else sq, if wh % 18 = 13 then V else tm, if wh % 18 = 14 then V else id, if wh % 18 = 15 then V else ba, if wh % 18 = 16 then V else ss, if wh % 18 = 17 then V else sT, if wh % 18 = 16 then V else si, if wh % 18 = 17 then V else sb⟩ := rfl
 rw [hS]
 clear hS
 have hBa : Sw.a ⟨l, ou, st, nw, wa, ca, ai, tp, fr, kp, sq, tm, id, ba, ss, sT, si, sb⟩ = [.fz (rows int1 l) l.length, .i .i64 ou, .i .i64 st, .i .i64 nw, .i .i64 wa, .i .i64 ca, .i .i64 ai, .i .i64 tp, .i .i64 fr, .b kp, .i .i64 sq, .i .i64 tm, .i .i64 id, .i .i64 ba, .i .i64 ss, .i .i64 sT, .i .i64 si, .i .i64 sb] := rfl
 simp only [Bx.a]
 rw [hBa]
 have m1 : wh.tmod 18 = wh % 18 := Int.tmod_eq_emod_of_nonneg (by omega)
 have m2 : at_.tmod 4 = at_ % 4 := Int.tmod_eq_emod_of_nonneg (by omega)
 have w1 : IntKind.i64.wrap at_ = at_ := wrapL (by omega) (by omega)
 have w2 : IntKind.i64.wrap (at_ % 4) = at_ % 4 := wrapL (by omega) (by omega)
 refine FTL.of_cov (cx := cxT []) Sound.nil mo Try.func9 i9_eq (by simp [i9]) (iw_of_jw ?_)
 dsimp only [i9]
 obtain ⟨L, hL⟩ : ∃ L, bendL ⟨wh, at_, V⟩ l = L := ⟨_, rfl⟩
 rw [hL]
 unfold bendL at hL
 dsimp only at hL
 obtain ⟨r, hr⟩ : ∃ r, wh % 18 = r := ⟨_, rfl⟩
 rw [hr] at hL m1 ⊢
 obtain ⟨A, hA⟩ : ∃ A, (if r = 3 then V else ou) = A := ⟨_, rfl⟩
 obtain ⟨B, hB⟩ : ∃ B, (if r = 4 then V else st) = B := ⟨_, rfl⟩
 obtain ⟨C, hC⟩ : ∃ C, (if r = 5 then V else nw) = C := ⟨_, rfl⟩
 obtain ⟨D, hD⟩ : ∃ D, (if r = 6 then V else wa) = D := ⟨_, rfl⟩
 obtain ⟨E, hE⟩ : ∃ E, (if r = 7 then V else ca) = E := ⟨_, rfl⟩
 obtain ⟨G, hG⟩ : ∃ G, (if r = 8 then V else ai) = G := ⟨_, rfl⟩
 obtain ⟨I, hI⟩ : ∃ I, (if r = 9 then V else tp) = I := ⟨_, rfl⟩
 obtain ⟨J, hJ⟩ : ∃ J, (if r = 10 then V else fr) = J := ⟨_, rfl⟩
 obtain ⟨M, hM⟩ : ∃ M, (if r = 11 then !kp else kp) = M := ⟨_, rfl⟩
 obtain ⟨P, hP⟩ : ∃ P, (if r = 12 then V else sq) = P := ⟨_, rfl⟩
 obtain ⟨Q, hQ⟩ : ∃ Q, (if r = 13 then V else tm) = Q := ⟨_, rfl⟩
 obtain ⟨S, hS⟩ : ∃ S, (if r = 14 then V else id) = S := ⟨_, rfl⟩
 obtain ⟨U, hU⟩ : ∃ U, (if r = 15 then V else ba) = U := ⟨_, rfl⟩
 obtain ⟨W, hW⟩ : ∃ W, (if r = 16 then V else ss) = W := ⟨_, rfl⟩
 obtain ⟨X, hX⟩ : ∃ X, (if r = 17 then V else sT) = X := ⟨_, rfl⟩
 obtain ⟨Y, hY⟩ : ∃ Y, (if r = 16 then V else si) = Y := ⟨_, rfl⟩
 obtain ⟨Z, hZ⟩ : ∃ Z, (if r = 17 then V else sb) = Z := ⟨_, rfl⟩
 rw [hA, hB, hC, hD, hE, hG, hI, hJ, hM, hP, hQ, hS, hU, hW, hX, hY, hZ]
 have hr' : r = 0 ∨ r = 1 ∨ r = 2 ∨ r = 3 ∨ r = 4 ∨ r = 5 ∨ r = 6 ∨ r = 7 ∨ r = 8 ∨ r = 9 ∨ r = 10 ∨ r = 11 ∨ r = 12 ∨ r = 13 ∨ r = 14 ∨ r = 15 ∨ r = 16 ∨ r = 17 := by omega
 cases l with
 | nil =>
  have rn0 : rows int1 ([] : List Int) = [] := rfl
  have mn0 : min (at_ % 4) 0 = 0 := by omega
  have g8 : decide (8 ≤ growMax) = true := rfl
  rcases hr' with rfl | rfl | rfl | rfl | rfl | rfl | rfl | rfl | rfl | rfl | rfl | rfl | rfl | rfl | rfl | rfl | rfl | rfl
  · rw [if_pos rfl, if_pos (show ([] : List Int).length = 0 from rfl)] at hL
    simp only [reduceIte, Int.reduceEq] at hA hB hC hD hE hG hI hJ hM hP hQ hS hU hW hX hY hZ; subst hA hB hC hD hE hG hI hJ hM hP hQ hS hU hW hX hY hZ; subst hL
    simp (maxSteps := 400000) only [go_sem, m1, m2, w1, w2, rn0, List.length_nil, simprocAttr]
    exact covB (j := 3) (o := 0) (m := 0) rfl rfl (.inl ⟨0, rfl, Nat.le_refl _⟩) rfl rfl
  · rw [if_neg (by decide), if_pos rfl] at hL
    simp only [reduceIte, Int.reduceEq] at hA hB hC hD hE hG hI hJ hM hP hQ hS hU hW hX hY hZ; subst hA hB hC hD hE hG hI hJ hM hP hQ hS hU hW hX hY hZ; subst hL
    simp (maxSteps := 400000) only [go_sem, m1, m2, w1, w2, g8, rn0, List.length_nil, simprocAttr]
    exact covB (l := [V]) (k := { cells := [.i .i64 V], gr := some 1 }) (j := 5) (o := 0) (m := 1) rfl rfl (.inr rfl) rfl rfl
  · rw [if_neg (by decide), if_neg (by decide), if_pos rfl] at hL
    simp only [reduceIte, Int.reduceEq] at hA hB hC hD hE hG hI hJ hM hP hQ hS hU hW hX hY hZ; subst hA hB hC hD hE hG hI hJ hM hP hQ hS hU hW hX hY hZ
    have hL : ([] : List Int) = L := by rw [← hL, List.drop_nil]
    subst hL
    simp (maxSteps := 400000) only [go_sem, m1, m2, w1, w2, mn0, minI, rn0, List.length_nil, simprocAttr]
    exact covB (l := []) (k := { cells := [] }) (j := 3) (o := 0) (m := 0) rfl rfl (.inl ⟨0, rfl, Nat.le_refl _⟩) rfl rfl
  · rw [if_neg (by decide), if_neg (by decide), if_neg (by decide)] at hL
    simp only [reduceIte, Int.reduceEq] at hA hB hC hD hE hG hI hJ hM hP hQ hS hU hW hX hY hZ; subst hA hB hC hD hE hG hI hJ hM hP hQ hS hU hW hX hY hZ; subst hL
    simp (maxSteps := 400000) only [go_sem, m1, m2, w1, w2, rn0, List.length_nil, simprocAttr]
    exact covB (j := 3) (o := 0) (m := 0) rfl rfl (.inl ⟨0, rfl, Nat.le_refl _⟩) rfl rfl
  · rw [if_neg (by decide), if_neg (by decide), if_neg (by decide)] at hL
    simp only [reduceIte, Int.reduceEq] at hA hB hC hD hE hG hI hJ hM hP hQ hS hU hW hX hY hZ; subst hA hB hC hD hE hG hI hJ hM hP hQ hS hU hW hX hY hZ; subst hL
    simp (maxSteps := 400000) only [go_sem, m1, m2, w1, w2, rn0, List.length_nil, simprocAttr]
    exact covB (j := 3) (o := 0) (m := 0) rfl rfl (.inl ⟨0, rfl, Nat.le_refl _⟩) rfl rfl
  · rw [if_neg (by decide), if_neg (by decide), if_neg (by decide)] at hL
    simp only [reduceIte, Int.reduceEq] at hA hB hC hD hE hG hI hJ hM hP hQ hS hU hW hX hY hZ; subst hA hB hC hD hE hG hI hJ hM hP hQ hS hU hW hX hY hZ; subst hL
    simp (maxSteps := 400000) only [go_sem, m1, m2, w1, w2, rn0, List.length_nil, simprocAttr]
    exact covB (j := 3) (o := 0) (m := 0) rfl rfl (.inl ⟨0, rfl, Nat.le_refl _⟩) rfl rfl
  · rw [if_neg (by decide), if_neg (by decide), if_neg (by decide)] at hL
    simp only [reduceIte, Int.reduceEq] at hA hB hC hD hE hG hI hJ hM hP hQ hS hU hW hX hY hZ; subst hA hB hC hD hE hG hI hJ hM hP hQ hS hU hW hX hY hZ; subst hL
    simp (maxSteps := 400000) only [go_sem, m1, m2, w1, w2, rn0, List.length_nil, simprocAttr]
    exact covB (j := 3) (o := 0) (m := 0) rfl rfl (.inl ⟨0, rfl, Nat.le_refl _⟩) rfl rfl
  · rw [if_neg (by decide), if_neg (by decide), if_neg (by decide)] at hL
    simp only [reduceIte, Int.reduceEq] at hA hB hC hD hE hG hI hJ hM hP hQ hS hU hW hX hY hZ; subst hA hB hC hD hE hG hI hJ hM hP hQ hS hU hW hX hY hZ; subst hL
    simp (maxSteps := 400000) only [go_sem, m1, m2, w1, w2, rn0, List.length_nil, simprocAttr]
    exact covB (j := 3) (o := 0) (m := 0) rfl rfl (.inl ⟨0, rfl, Nat.le_refl _⟩) rfl rfl
  · rw [if_neg (by decide), if_neg (by decide), if_neg (by decide)] at hL
    simp only [reduceIte, Int.reduceEq] at hA hB hC hD hE hG hI hJ hM hP hQ hS hU hW hX hY hZ; subst hA hB hC hD hE hG hI hJ hM hP hQ hS hU hW hX hY hZ; subst hL
    simp (maxSteps := 400000) only [go_sem, m1, m2, w1, w2, rn0, List.length_nil, simprocAttr]
    exact covB (j := 3) (o := 0) (m := 0) rfl rfl (.inl ⟨0, rfl, Nat.le_refl _⟩) rfl rfl
  · rw [if_neg (by decide), if_neg (by decide), if_neg (by decide)] at hL
    simp only [reduceIte, Int.reduceEq] at hA hB hC hD hE hG hI hJ hM hP hQ hS hU hW hX hY hZ; subst hA hB hC hD hE hG hI hJ hM hP hQ hS hU hW hX hY hZ; subst hL
    simp (maxSteps := 400000) only [go_sem, m1, m2, w1, w2, rn0, List.length_nil, simprocAttr]
    exact covB (j := 3) (o := 0) (m := 0) rfl rfl (.inl ⟨0, rfl, Nat.le_refl _⟩) rfl rfl
  · rw [if_neg (by decide), if_neg (by decide), if_neg (by decide)] at hL
    simp only [reduceIte, Int.reduceEq] at hA hB hC hD hE hG hI hJ hM hP hQ hS hU hW hX hY hZ; subst hA hB hC hD hE hG hI hJ hM hP hQ hS hU hW hX hY hZ; subst hL
    simp (maxSteps := 400000) only [go_sem, m1, m2, w1, w2, rn0, List.length_nil, simprocAttr]
    exact covB (j := 3) (o := 0) (m := 0) rfl rfl (.inl ⟨0, rfl, Nat.le_refl _⟩) rfl rfl
  · rw [if_neg (by decide), if_neg (by decide), if_neg (by decide)] at hL
    simp only [reduceIte, Int.reduceEq] at hA hB hC hD hE hG hI hJ hM hP hQ hS hU hW hX hY hZ; subst hA hB hC hD hE hG hI hJ hM hP hQ hS hU hW hX hY hZ; subst hL
    simp (maxSteps := 400000) only [go_sem, m1, m2, w1, w2, rn0, List.length_nil, simprocAttr]
    exact covB (j := 3) (o := 0) (m := 0) rfl rfl (.inl ⟨0, rfl, Nat.le_refl _⟩) rfl rfl
  · rw [if_neg (by decide), if_neg (by decide), if_neg (by decide)] at hL
    simp only [reduceIte, Int.reduceEq] at hA hB hC hD hE hG hI hJ hM hP hQ hS hU hW hX hY hZ; subst hA hB hC hD hE hG hI hJ hM hP hQ hS hU hW hX hY hZ; subst hL
    simp (maxSteps := 400000) only [go_sem, m1, m2, w1, w2, rn0, List.length_nil, simprocAttr]
    exact covB (j := 3) (o := 0) (m := 0) rfl rfl (.inl ⟨0, rfl, Nat.le_refl _⟩) rfl rfl
  · rw [if_neg (by decide), if_neg (by decide), if_neg (by decide)] at hL
    simp only [reduceIte, Int.reduceEq] at hA hB hC hD hE hG hI hJ hM hP hQ hS hU hW hX hY hZ; subst hA hB hC hD hE hG hI hJ hM hP hQ hS hU hW hX hY hZ; subst hL
    simp (maxSteps := 400000) only [go_sem, m1, m2, w1, w2, rn0, List.length_nil, simprocAttr]
    exact covB (j := 3) (o := 0) (m := 0) rfl rfl (.inl ⟨0, rfl, Nat.le_refl _⟩) rfl rfl
  · rw [if_neg (by decide), if_neg (by decide), if_neg (by decide)] at hL
    simp only [reduceIte, Int.reduceEq] at hA hB hC hD hE hG hI hJ hM hP hQ hS hU hW hX hY hZ; subst hA hB hC hD hE hG hI hJ hM hP hQ hS hU hW hX hY hZ; subst hL
    simp (maxSteps := 400000) only [go_sem, m1, m2, w1, w2, rn0, List.length_nil, simprocAttr]
    exact covB (j := 3) (o := 0) (m := 0) rfl rfl (.inl ⟨0, rfl, Nat.le_refl _⟩) rfl rfl
  · rw [if_neg (by decide), if_neg (by decide), if_neg (by decide)] at hL
    simp only [reduceIte, Int.reduceEq] at hA hB hC hD hE hG hI hJ hM hP hQ hS hU hW hX hY hZ; subst hA hB hC hD hE hG hI hJ hM hP hQ hS hU hW hX hY hZ; subst hL
    simp (maxSteps := 400000) only [go_sem, m1, m2, w1, w2, rn0, List.length_nil, simprocAttr]
    exact covB (j := 3) (o := 0) (m := 0) rfl rfl (.inl ⟨0, rfl, Nat.le_refl _⟩) rfl rfl
  · rw [if_neg (by decide), if_neg (by decide), if_neg (by decide)] at hL
    simp only [reduceIte, Int.reduceEq] at hA hB hC hD hE hG hI hJ hM hP hQ hS hU hW hX hY hZ; subst hA hB hC hD hE hG hI hJ hM hP hQ hS hU hW hX hY hZ; subst hL
    simp (maxSteps := 400000) only [go_sem, m1, m2, w1, w2, rn0, List.length_nil, simprocAttr]
    exact covB (j := 3) (o := 0) (m := 0) rfl rfl (.inl ⟨0, rfl, Nat.le_refl _⟩) rfl rfl
  · rw [if_neg (by decide), if_neg (by decide), if_neg (by decide)] at hL
    simp only [reduceIte, Int.reduceEq] at hA hB hC hD hE hG hI hJ hM hP hQ hS hU hW hX hY hZ; subst hA hB hC hD hE hG hI hJ hM hP hQ hS hU hW hX hY hZ; subst hL
    simp (maxSteps := 400000) only [go_sem, m1, m2, w1, w2, rn0, List.length_nil, simprocAttr]
    exact covB (j := 3) (o := 0) (m := 0) rfl rfl (.inl ⟨0, rfl, Nat.le_refl _⟩) rfl rfl
 | cons x t =>
  have h0 : ¬ (x :: t).length = 0 := by simp
  generalize x :: t = l at *
  have c0 : decide ((l.length : Int) > 0) = true := decide_eq_true (by omega)
  have c0' : ((l.length : Int) == 0) = false := beq_eq_false_iff_ne.2 (by omega)
  have c0n : ((l.length : Int) != 0) = true := bne_iff_ne.2 (by omega)
  have d0 : decide (l.length = 0) = false := decide_eq_false h0
  have d1 : decide (l.length ≤ 0) = false := decide_eq_false (by omega)
  have gm : decide (8 * l.length ≤ growMax) = true := decide_eq_true (by simp only [growMax]; omega)
  have gm2 : decide (8 * (l.length + 1) ≤ growMax) = true := decide_eq_true (by simp only [growMax]; omega)
  have zR : (rows int1 l).length = l.length * 1 := rows_len int1_len
  have zR' : (rows int1 l).length = l.length := by rw [zR, Nat.mul_one]
  have htk : List.take l.length (rows int1 l) = rows int1 l := by rw [← zR', List.take_length]
  have po : oneAll (rows int1 l) = true := rows_one1 (f := int1) (fun _ => rfl) l
  have hsr : ∀ (h : Hp) (k : List Nat → Nat → List AV → Bool → Option (Bool × Eff)), srcK h 1 (.fz (rows int1 l) l.length) k = k [] l.length (rows int1 l) true := fun h k => by
   rw [srcK_f]
   have e : cellsAt (rows int1 l) 0 (l.length * 1) = rows int1 l := by rw [cellsAt, List.drop_zero, ← zR, List.take_length]
   rw [e, zR]; simp
  rcases hr' with rfl | rfl | rfl | rfl | rfl | rfl | rfl | rfl | rfl | rfl | rfl | rfl | rfl | rfl | rfl | rfl | rfl | rfl
  · rw [if_pos rfl, if_neg h0] at hL
    simp only [reduceIte, Int.reduceEq] at hA hB hC hD hE hG hI hJ hM hP hQ hS hU hW hX hY hZ; subst hA hB hC hD hE hG hI hJ hM hP hQ hS hU hW hX hY hZ
    have q1 : at_.tmod (l.length : Int) = ((at_.toNat % l.length : Nat) : Int) := by rw [Int.tmod_eq_emod_of_nonneg (by omega), Int.natCast_emod, Int.toNat_of_nonneg ha.1]
    have hmod : at_.toNat % l.length < l.length := Nat.mod_lt _ (by omega)
    have q2 : IntKind.i64.wrap ((at_.toNat % l.length : Nat) : Int) = ((at_.toNat % l.length : Nat) : Int) := wrapL (by omega) (by omega)
    have c5 : decide (0 ≤ ((at_.toNat % l.length : Nat) : Int) ∧ ((at_.toNat % l.length : Nat) : Int) < (l.length : Int)) = true := decide_eq_true (by omega)
    obtain ⟨y, hgi⟩ : ∃ y, l[at_.toNat % l.length]? = some y := ⟨_, List.getElem?_eq_getElem hmod⟩
    have rm : decide (at_.toNat % l.length * 1 + 0 + 1 ≤ l.length * 1) = true := decide_eq_true (by omega)
    have rm' : decide (at_.toNat % l.length + 1 ≤ l.length) = true := decide_eq_true (by omega)
    have e := splice_row (f := int1) (z := 1) (v := .i .i64 V) int1_len hgi (j := 0) (by decide) (a' := V) rfl
    rw [hL] at e
    simp only [Nat.mul_one, Nat.add_zero, splice, List.length_cons, List.length_nil, Nat.zero_add] at e
    simp (maxSteps := 400000) only [go_sem, m1, m2, w1, w2, c0, c0', c0n, d0, d1, gm, zR, zR', htk, List.drop_zero, po, q1, q2, hsr, c5, rm, rm', Nat.mul_one, Nat.add_zero, Nat.zero_add, simprocAttr]
    exact covB (k := { cells := List.take (at_.toNat % l.length) (rows int1 l) ++ [.i .i64 V] ++ List.drop (at_.toNat % l.length + 1) (rows int1 l), gr := some 1 }) (j := 4) (o := 0) (m := l.length) (l := L) rfl rfl (.inr rfl) e (by rw [← hL, List.length_set])
  · rw [if_neg (by decide), if_pos rfl] at hL
    simp only [reduceIte, Int.reduceEq] at hA hB hC hD hE hG hI hJ hM hP hQ hS hU hW hX hY hZ; subst hA hB hC hD hE hG hI hJ hM hP hQ hS hU hW hX hY hZ
    have e : rows int1 l ++ [.i .i64 V] = rows int1 L := by rw [← hL, rows_append]; rfl
    have el : l.length + 1 = L.length := by rw [← hL]; simp
    simp (maxSteps := 400000) only [go_sem, m1, m2, w1, w2, c0, c0', c0n, d0, d1, gm, gm2, zR, zR', htk, List.drop_zero, po, hsr, Nat.mul_one, Nat.add_zero, Nat.zero_add, simprocAttr]
    exact covB (l := L) (k := { cells := rows int1 l ++ [.i .i64 V], gr := some 1 }) (j := 6) (o := 0) (m := l.length + 1) rfl rfl (.inr rfl) e el
  · rw [if_neg (by decide), if_neg (by decide), if_pos rfl] at hL
    simp only [reduceIte, Int.reduceEq] at hA hB hC hD hE hG hI hJ hM hP hQ hS hU hW hX hY hZ; subst hA hB hC hD hE hG hI hJ hM hP hQ hS hU hW hX hY hZ
    have hb2 : bLo ⟨2, at_, V⟩ l = min (at_ % 4).toNat l.length := rfl
    have hbL : bLo ⟨wh, at_, V⟩ l = min (at_ % 4).toNat l.length := rfl
    rw [hbL] at hL
    have hmn : min (at_ % 4) (l.length : Int) = ((min (at_ % 4).toNat l.length : Nat) : Int) := by omega
    have hle : min (at_ % 4).toNat l.length ≤ l.length := Nat.min_le_right _ _
    have hdr : List.drop (min (at_ % 4).toNat l.length * 1) (rows int1 l) = rows int1 (l.drop (min (at_ % 4).toNat l.length)) := rows_drop int1_len
    generalize min (at_ % 4).toNat l.length = lo at *
    have hsb : sbound l.length l.length (some (lo : Int)) none none = (true, lo, l.length, l.length) := by
     rw [sb_lo_, decide_eq_true (by omega)]; simp
    rw [Nat.mul_one] at hdr
    have cS : decide (0 ≤ (lo : Int) ∧ (lo : Int) ≤ (l.length : Int) ∧ 0 ≤ (l.length : Int)) = true := decide_eq_true (by omega)
    rcases Nat.lt_or_ge lo l.length with hlo | hlo
    · have cD : decide (lo = 0 ∨ lo < l.length) = true := decide_eq_true (.inr hlo)
      simp (maxSteps := 400000) only [go_sem, m1, m2, w1, w2, c0, c0', c0n, d0, d1, gm, zR, zR', htk, List.drop_zero, po, hsr, hmn, minI, cS, cD, Nat.mul_one, Nat.add_zero, Nat.zero_add, simprocAttr]
      exact covB (l := L) (k := { cells := rows int1 l, gr := some 1 }) (j := 4) (o := lo) (m := l.length - lo) rfl rfl (.inr rfl) (by rw [← hL]; exact hdr) (by rw [← hL, List.length_drop])
    · have cD : decide (lo = 0 ∨ lo < l.length) = false := decide_eq_false (by omega)
      have hL : ([] : List Int) = L := by rw [← hL, List.drop_of_length_le hlo]
      subst hL
      simp (maxSteps := 400000) only [go_sem, m1, m2, w1, w2, c0, c0', c0n, d0, d1, gm, zR, zR', htk, List.drop_zero, po, hsr, hmn, minI, cS, cD, Nat.mul_one, Nat.add_zero, Nat.zero_add, simprocAttr]
      refine CovS.frzE (l := []) (v' := .agg [.fz [] 0, .i .i64 ou, .i .i64 st, .i .i64 nw, .i .i64 wa, .i .i64 ca, .i .i64 ai, .i .i64 tp, .i .i64 fr, .b kp, .i .i64 sq, .i .i64 tm, .i .i64 id, .i .i64 ba, .i .i64 ss, .i .i64 sT, .i .i64 si, .i .i64 sb]) (FzV.agg ⟨FzV.hit, FzV.refl, FzV.refl, FzV.refl, FzV.refl, FzV.refl, FzV.refl, FzV.refl, FzV.refl, FzV.refl, FzV.refl, FzV.refl, FzV.refl, FzV.refl, FzV.refl, FzV.refl, FzV.refl, FzV.refl, trivial⟩) ?_
      exact CovS.ends (Ends.pureE rfl rfl)
  · rw [if_neg (by decide), if_neg (by decide), if_neg (by decide)] at hL
    simp only [reduceIte, Int.reduceEq] at hA hB hC hD hE hG hI hJ hM hP hQ hS hU hW hX hY hZ; subst hA hB hC hD hE hG hI hJ hM hP hQ hS hU hW hX hY hZ; subst hL
    simp (maxSteps := 400000) only [go_sem, m1, m2, w1, w2, c0, c0', c0n, d0, d1, gm, zR, zR', htk, List.drop_zero, po, hsr, Nat.mul_one, Nat.add_zero, Nat.zero_add, simprocAttr]
    exact covB (j := 4) (o := 0) (m := l.length) rfl rfl (.inr rfl) rfl rfl
  · rw [if_neg (by decide), if_neg (by decide), if_neg (by decide)] at hL
    simp only [reduceIte, Int.reduceEq] at hA hB hC hD hE hG hI hJ hM hP hQ hS hU hW hX hY hZ; subst hA hB hC hD hE hG hI hJ hM hP hQ hS hU hW hX hY hZ; subst hL
    simp (maxSteps := 400000) only [go_sem, m1, m2, w1, w2, c0, c0', c0n, d0, d1, gm, zR, zR', htk, List.drop_zero, po, hsr, Nat.mul_one, Nat.add_zero, Nat.zero_add, simprocAttr]
    exact covB (j := 4) (o := 0) (m := l.length) rfl rfl (.inr rfl) rfl rfl
  · rw [if_neg (by decide), if_neg (by decide), if_neg (by decide)] at hL
    simp only [reduceIte, Int.reduceEq] at hA hB hC hD hE hG hI hJ hM hP hQ hS hU hW hX hY hZ; subst hA hB hC hD hE hG hI hJ hM hP hQ hS hU hW hX hY hZ; subst hL
    simp (maxSteps := 400000) only [go_sem, m1, m2, w1, w2, c0, c0', c0n, d0, d1, gm, zR, zR', htk, List.drop_zero, po, hsr, Nat.mul_one, Nat.add_zero, Nat.zero_add, simprocAttr]
    exact covB (j := 4) (o := 0) (m := l.length) rfl rfl (.inr rfl) rfl rfl
  · rw [if_neg (by decide), if_neg (by decide), if_neg (by decide)] at hL
    simp only [reduceIte, Int.reduceEq] at hA hB hC hD hE hG hI hJ hM hP hQ hS hU hW hX hY hZ; subst hA hB hC hD hE hG hI hJ hM hP hQ hS hU hW hX hY hZ; subst hL
    simp (maxSteps := 400000) only [go_sem, m1, m2, w1, w2, c0, c0', c0n, d0, d1, gm, zR, zR', htk, List.drop_zero, po, hsr, Nat.mul_one, Nat.add_zero, Nat.zero_add, simprocAttr]
    exact covB (j := 4) (o := 0) (m := l.length) rfl rfl (.inr rfl) rfl rfl
  · rw [if_neg (by decide), if_neg (by decide), if_neg (by decide)] at hL
    simp only [reduceIte, Int.reduceEq] at hA hB hC hD hE hG hI hJ hM hP hQ hS hU hW hX hY hZ; subst hA hB hC hD hE hG hI hJ hM hP hQ hS hU hW hX hY hZ; subst hL
    simp (maxSteps := 400000) only [go_sem, m1, m2, w1, w2, c0, c0', c0n, d0, d1, gm, zR, zR', htk, List.drop_zero, po, hsr, Nat.mul_one, Nat.add_zero, Nat.zero_add, simprocAttr]
    exact covB (j := 4) (o := 0) (m := l.length) rfl rfl (.inr rfl) rfl rfl
  · rw [if_neg (by decide), if_neg (by decide), if_neg (by decide)] at hL
    simp only [reduceIte, Int.reduceEq] at hA hB hC hD hE hG hI hJ hM hP hQ hS hU hW hX hY hZ; subst hA hB hC hD hE hG hI hJ hM hP hQ hS hU hW hX hY hZ; subst hL
    simp (maxSteps := 400000) only [go_sem, m1, m2, w1, w2, c0, c0', c0n, d0, d1, gm, zR, zR', htk, List.drop_zero, po, hsr, Nat.mul_one, Nat.add_zero, Nat.zero_add, simprocAttr]
    exact covB (j := 4) (o := 0) (m := l.length) rfl rfl (.inr rfl) rfl rfl
  · rw [if_neg (by decide), if_neg (by decide), if_neg (by decide)] at hL
    simp only [reduceIte, Int.reduceEq] at hA hB hC hD hE hG hI hJ hM hP hQ hS hU hW hX hY hZ; subst hA hB hC hD hE hG hI hJ hM hP hQ hS hU hW hX hY hZ; subst hL
    simp (maxSteps := 400000) only [go_sem, m1, m2, w1, w2, c0, c0', c0n, d0, d1, gm, zR, zR', htk, List.drop_zero, po, hsr, Nat.mul_one, Nat.add_zero, Nat.zero_add, simprocAttr]
    exact covB (j := 4) (o := 0) (m := l.length) rfl rfl (.inr rfl) rfl rfl
  · rw [if_neg (by decide), if_neg (by decide), if_neg (by decide)] at hL
    simp only [reduceIte, Int.reduceEq] at hA hB hC hD hE hG hI hJ hM hP hQ hS hU hW hX hY hZ; subst hA hB hC hD hE hG hI hJ hM hP hQ hS hU hW hX hY hZ; subst hL
    simp (maxSteps := 400000) only [go_sem, m1, m2, w1, w2, c0, c0', c0n, d0, d1, gm, zR, zR', htk, List.drop_zero, po, hsr, Nat.mul_one, Nat.add_zero, Nat.zero_add, simprocAttr]
    exact covB (j := 4) (o := 0) (m := l.length) rfl rfl (.inr rfl) rfl rfl
  · rw [if_neg (by decide), if_neg (by decide), if_neg (by decide)] at hL
    simp only [reduceIte, Int.reduceEq] at hA hB hC hD hE hG hI hJ hM hP hQ hS hU hW hX hY hZ; subst hA hB hC hD hE hG hI hJ hM hP hQ hS hU hW hX hY hZ; subst hL
    simp (maxSteps := 400000) only [go_sem, m1, m2, w1, w2, c0, c0', c0n, d0, d1, gm, zR, zR', htk, List.drop_zero, po, hsr, Nat.mul_one, Nat.add_zero, Nat.zero_add, simprocAttr]
    exact covB (j := 4) (o := 0) (m := l.length) rfl rfl (.inr rfl) rfl rfl
  · rw [if_neg (by decide), if_neg (by decide), if_neg (by decide)] at hL
    simp only [reduceIte, Int.reduceEq] at hA hB hC hD hE hG hI hJ hM hP hQ hS hU hW hX hY hZ; subst hA hB hC hD hE hG hI hJ hM hP hQ hS hU hW hX hY hZ; subst hL
    simp (maxSteps := 400000) only [go_sem, m1, m2, w1, w2, c0, c0', c0n, d0, d1, gm, zR, zR', htk, List.drop_zero, po, hsr, Nat.mul_one, Nat.add_zero, Nat.zero_add, simprocAttr]
    exact covB (j := 4) (o := 0) (m := l.length) rfl rfl (.inr rfl) rfl rfl
  · rw [if_neg (by decide), if_neg (by decide), if_neg (by decide)] at hL
    simp only [reduceIte, Int.reduceEq] at hA hB hC hD hE hG hI hJ hM hP hQ hS hU hW hX hY hZ; subst hA hB hC hD hE hG hI hJ hM hP hQ hS hU hW hX hY hZ; subst hL
    simp (maxSteps := 400000) only [go_sem, m1, m2, w1, w2, c0, c0', c0n, d0, d1, gm, zR, zR', htk, List.drop_zero, po, hsr, Nat.mul_one, Nat.add_zero, Nat.zero_add, simprocAttr]
    exact covB (j := 4) (o := 0) (m := l.length) rfl rfl (.inr rfl) rfl rfl
  · rw [if_neg (by decide), if_neg (by decide), if_neg (by decide)] at hL
    simp only [reduceIte, Int.reduceEq] at hA hB hC hD hE hG hI hJ hM hP hQ hS hU hW hX hY hZ; subst hA hB hC hD hE hG hI hJ hM hP hQ hS hU hW hX hY hZ; subst hL
    simp (maxSteps := 400000) only [go_sem, m1, m2, w1, w2, c0, c0', c0n, d0, d1, gm, zR, zR', htk, List.drop_zero, po, hsr, Nat.mul_one, Nat.add_zero, Nat.zero_add, simprocAttr]
    exact covB (j := 4) (o := 0) (m := l.length) rfl rfl (.inr rfl) rfl rfl
  · rw [if_neg (by decide), if_neg (by decide), if_neg (by decide)] at hL
    simp only [reduceIte, Int.reduceEq] at hA hB hC hD hE hG hI hJ hM hP hQ hS hU hW hX hY hZ; subst hA hB hC hD hE hG hI hJ hM hP hQ hS hU hW hX hY hZ; subst hL
    simp (maxSteps := 400000) only [go_sem, m1, m2, w1, w2, c0, c0', c0n, d0, d1, gm, zR, zR', htk, List.drop_zero, po, hsr, Nat.mul_one, Nat.add_zero, Nat.zero_add, simprocAttr]
    exact covB (j := 4) (o := 0) (m := l.length) rfl rfl (.inr rfl) rfl rfl
  · rw [if_neg (by decide), if_neg (by decide), if_neg (by decide)] at hL
    simp only [reduceIte, Int.reduceEq] at hA hB hC hD hE hG hI hJ hM hP hQ hS hU hW hX hY hZ; subst hA hB hC hD hE hG hI hJ hM hP hQ hS hU hW hX hY hZ; subst hL
    simp (maxSteps := 400000) only [go_sem, m1, m2, w1, w2, c0, c0', c0n, d0, d1, gm, zR, zR', htk, List.drop_zero, po, hsr, Nat.mul_one, Nat.add_zero, Nat.zero_add, simprocAttr]
    exact covB (j := 4) (o := 0) (m := l.length) rfl rfl (.inr rfl) rfl rfl
  · rw [if_neg (by decide), if_neg (by decide), if_neg (by decide)] at hL
    simp only [reduceIte, Int.reduceEq] at hA hB hC hD hE hG hI hJ hM hP hQ hS hU hW hX hY hZ; subst hA hB hC hD hE hG hI hJ hM hP hQ hS hU hW hX hY hZ; subst hL
    simp (maxSteps := 400000) only [go_sem, m1, m2, w1, w2, c0, c0', c0n, d0, d1, gm, zR, zR', htk, List.drop_zero, po, hsr, Nat.mul_one, Nat.add_zero, Nat.zero_add, simprocAttr]
    exact covB (j := 4) (o := 0) (m := l.length) rfl rfl (.inr rfl) rfl rfl
def k9 : Ct
 | [.agg b, .agg c], _, n => (bx3 b).bind fun b => (swA c).bind fun w => some (b.okB && decide (w.l.length ≤ 1000000), { v := .agg (bendS b w).a, n })
 | _, _, _ => none
theorem s9 : SoundAt Try.prog 9 k9 := fun args h n c E hc ht => by
 unfold k9 at hc
 split at hc
 · simp only [Option.bind_eq_some_iff, Option.some.injEq, Prod.mk.injEq] at hc
   obtain ⟨b, hb, w, hw, rfl, rfl⟩ := hc
   rw [bx3_eq hb, swA_eq hw]
   simp only [Bool.and_eq_true, decide_eq_true_eq] at ht
   exact CallOK.pure (by kernel_rfl) (by simp only [belL, AV.bel, Sw.bel, Bx.a, Bool.and_self]) (by simp only [AV.bel, Sw.bel]) (w9 _ _ ht.1 ht.2) _ _
 · cases hc
theorem bendS_l (b : Bx) (w : Sw) : (bendS b w).l.length ≤ w.l.length + 1 := by
 show (bendL b w.l).length ≤ _
 unfold bendL
 repeat' split
 all_goals first | (rw [List.length_set]; omega) | (rw [List.length_append]; simp; done) | (rw [List.length_drop]; omega) | omega
end Go.Proofs.Lys
end
section
/- Chapter 41: packets with a field changed. -/
namespace Go.Proofs.Lys
open Go.Ab
set_option maxRecDepth 100000
set_option maxHeartbeats 4000000
set_option linter.unusedSimpArgs false
set_option linter.unusedVariables false
structure Tx where
 wh : Int
 at_ : Int
 oc : Int
 n : Int
def Tx.a (b : Tx) : List AV := [.i .u8 b.wh, .i .u8 b.at_, .i .u8 b.oc, .i .i64 b.n]
def tx4 : List AV → Option Tx
 | [.i .u8 w, .i .u8 a, .i .u8 o, .i .i64 n] => some ⟨w, a, o, n⟩
 | _ => none
theorem tx4_a (b : Tx) : tx4 b.a = some b := rfl
theorem tx4_eq {c : List AV} {b : Tx} (h : tx4 c = some b) : c = b.a := by
 unfold tx4 at h
 split at h
 · cases h; rfl
 · cases h
def Tx.okB (b : Tx) : Bool := inI 0 255 b.wh && (inI 0 255 b.at_ && inI 0 255 b.oc)
def turnL (t : Tx) (l : List UInt8) : List UInt8 :=
 if t.wh % 6 = 3 then l.take (t.at_.toNat % (l.length + 1)) else if t.wh % 6 = 4 then (if l.length = 0 then l else l.set (t.at_.toNat % min l.length 5) (UInt8.ofNat t.oc.toNat)) else l
def turnS (t : Tx) (p : Md) : Md := ⟨p.ma, if t.wh % 6 = 5 then t.n else p.ty, if t.wh % 6 = 0 then t.n else p.sq, if t.wh % 6 = 1 then t.n else p.tm, if t.wh % 6 = 2 then t.n else p.ss, p.cs, p.xs, p.pd, turnL t p.pl⟩
def bm (l : List UInt8) : List AV := l.map fun b => .i .u8 b.toNat
theorem bm_bytes : ∀ l : List UInt8, bytesOf (bm l) = some l
 | [] => rfl
 | a :: l => by
  show (bytesOf (bm l)).bind _ = _
  rw [bm_bytes l]
  simp
theorem bm_set {l : List UInt8} {i : Nat} {o : Int} (hi : i < l.length) (ho : 0 ≤ o ∧ o ≤ 255) : List.take i (bm l) ++ [.i .u8 o] ++ List.drop (i + 1) (bm l) = bm (l.set i (UInt8.ofNat o.toNat)) := by
 have h1 : bm (l.set i (UInt8.ofNat o.toNat)) = (bm l).set i (.i .u8 o) := by
  unfold bm
  rw [List.map_set]
  congr 1
  have : ((UInt8.ofNat o.toNat).toNat : Int) = o := by simp; omega
  rw [this]
 have h2 : i < (bm l).length := by simp [bm]; exact hi
 rw [h1, List.set_eq_take_append_cons_drop, if_pos h2]
 simp
theorem w21 (t : Tx) (p : Md) (ht : t.okB = true) (hl : p.pl.length ≤ 1000000000) : FTL Try.prog 21 [.agg t.a, .agg p.l] [] 0 (.agg (turnS t p).l) [] 0 := by
 simp only [Tx.okB, Bool.and_eq_true] at ht
 have h1 := inI_t ht.1
 have h2 := inI_t ht.2.1
 have h3 := inI_t ht.2.2
 obtain ⟨wh, at_, oc, V⟩ := t
 obtain ⟨ma, pty, psq, ptm, pss, cs, xs, pd, pl⟩ := p
 dsimp only at h1 h2 h3 hl
 have hS : turnS ⟨wh, at_, oc, V⟩ ⟨ma, pty, psq, ptm, pss, cs, xs, pd, pl⟩ = ⟨ma, if wh % 6 = 5 then V else pty, if wh % 6 = 0 then V else psq, if wh % 6 = 1 then V else ptm, if wh % 6 = 2 then V else pss, cs, xs, pd, turnL ⟨wh, at_, oc, V⟩ pl⟩ := rfl
 rw [hS]
 clear hS
 simp only [Tx.a, Md.l]
 have m1 : wh.tmod 6 = wh % 6 := Int.tmod_eq_emod_of_nonneg (by omega)
 have w1 : IntKind.i64.wrap at_ = at_ := wrapL (by omega) (by omega)
 have w2 : IntKind.i64.wrap ((pl.length : Int) + 1) = (pl.length : Int) + 1 := wrapL (by omega) (by omega)
 refine FTL.of_iw Sound.nil mo Try.func21 i21_eq (by simp [i21]) (iw_of_jw ?_)
 dsimp only [i21]
 have hB2 := csB 0 cs
 have hB3 := xsB 0 xs
 have bB : ∀ j l, belL j (bm l) = true := fun j l => by
  induction l with
  | nil => rfl
  | cons a l ih => exact ih
 obtain ⟨L, hL⟩ : ∃ L, turnL ⟨wh, at_, oc, V⟩ pl = L := ⟨_, rfl⟩
 rw [hL]
 unfold turnL at hL
 dsimp only at hL
 obtain ⟨r, hr⟩ : ∃ r, wh % 6 = r := ⟨_, rfl⟩
 rw [hr] at hL m1 ⊢
 have hr' : r = 0 ∨ r = 1 ∨ r = 2 ∨ r = 3 ∨ r = 4 ∨ r = 5 := by omega
 rcases hr' with rfl | rfl | rfl | rfl | rfl | rfl
 · rw [if_neg (by decide), if_neg (by decide)] at hL
   subst hL
   simp only [reduceIte, Int.reduceEq]
   simp (maxSteps := 400000) only [go_sem, m1, w1, simprocAttr]
   exact Ends.pureE (by simp only [AV.bel, belL, hB2, hB3, Bool.and_self]) rfl
 · rw [if_neg (by decide), if_neg (by decide)] at hL
   subst hL
   simp only [reduceIte, Int.reduceEq]
   simp (maxSteps := 400000) only [go_sem, m1, w1, simprocAttr]
   exact Ends.pureE (by simp only [AV.bel, belL, hB2, hB3, Bool.and_self]) rfl
 · rw [if_neg (by decide), if_neg (by decide)] at hL
   subst hL
   simp only [reduceIte, Int.reduceEq]
   simp (maxSteps := 400000) only [go_sem, m1, w1, simprocAttr]
   exact Ends.pureE (by simp only [AV.bel, belL, hB2, hB3, Bool.and_self]) rfl
 · rw [if_pos rfl] at hL
   have q1 : at_.tmod ((pl.length : Int) + 1) = ((at_.toNat % (pl.length + 1) : Nat) : Int) := by rw [Int.tmod_eq_emod_of_nonneg (by omega), Int.natCast_emod, Int.toNat_of_nonneg h2.1]; rfl
   have hmod : at_.toNat % (pl.length + 1) < pl.length + 1 := Nat.mod_lt _ (by omega)
   have q2 : IntKind.i64.wrap ((at_.toNat % (pl.length + 1) : Nat) : Int) = ((at_.toNat % (pl.length + 1) : Nat) : Int) := wrapL (by omega) (by omega)
   have c0n : ((pl.length : Int) + 1 != 0) = true := bne_iff_ne.2 (by omega)
   generalize at_.toNat % (pl.length + 1) = i at *
   have c1 : decide (0 ≤ (i : Int) ∧ (i : Int) ≤ (pl.length : Int)) = true := decide_eq_true (by omega)
   have hsb : sbound pl.length pl.length none (some (i : Int)) none = (true, 0, i, pl.length) := by
    rw [sb_hi_, decide_eq_true (by omega)]; simp
   simp only [reduceIte, Int.reduceEq]
   simp (maxSteps := 400000) only [go_sem, m1, w1, w2, q1, q2, c0n, hsb, c1, List.drop_zero, Nat.sub_zero, simprocAttr]
   rw [← hL]
   exact Ends.pureE (by simp only [AV.bel, belL, hB2, hB3, Bool.and_self]) rfl
 · rw [if_neg (by decide), if_pos rfl] at hL
   simp only [reduceIte, Int.reduceEq]
   by_cases h0 : pl.length = 0
   · rw [if_pos h0] at hL
     have c0 : decide ((pl.length : Int) > 0) = false := decide_eq_false (by omega)
     simp (maxSteps := 400000) only [go_sem, m1, w1, c0, simprocAttr]
     rw [← hL]
     exact Ends.pureE (by simp only [AV.bel, belL, hB2, hB3, Bool.and_self]) rfl
   · rw [if_neg h0] at hL
     have c0 : decide ((pl.length : Int) > 0) = true := decide_eq_true (by omega)
     have hmn : min (pl.length : Int) 5 = ((min pl.length 5 : Nat) : Int) := by omega
     have hm5 : min pl.length 5 ≠ 0 ∧ min pl.length 5 ≤ pl.length := by omega
     have q1 : at_.tmod ((min pl.length 5 : Nat) : Int) = ((at_.toNat % min pl.length 5 : Nat) : Int) := by rw [Int.tmod_eq_emod_of_nonneg (by omega), Int.natCast_emod, Int.toNat_of_nonneg h2.1]
     have hmod : at_.toNat % min pl.length 5 < min pl.length 5 := Nat.mod_lt _ (by omega)
     have q2 : IntKind.i64.wrap ((at_.toNat % min pl.length 5 : Nat) : Int) = ((at_.toNat % min pl.length 5 : Nat) : Int) := wrapL (by omega) (by omega)
     generalize min pl.length 5 = M at *
     have c0n : ((M : Int) != 0) = true := bne_iff_ne.2 (by omega)
     generalize at_.toNat % M = i at *
     have c1 : decide (0 ≤ (i : Int) ∧ (i : Int) < (pl.length : Int)) = true := decide_eq_true (by omega)
     have hbm : List.map (fun b => AV.i .u8 ((UInt8.toNat b : Nat) : Int)) pl = bm pl := rfl
     have hbl : (bm pl).length = pl.length := by simp [bm]
     have rm : decide (i + 1 ≤ pl.length) = true := decide_eq_true (by omega)
     have hst := bm_set (l := pl) (i := i) (o := oc) (by omega) h3
     rw [hL] at hst
     have hLl : L.length = pl.length := by rw [← hL, List.length_set]
     have hbL : (bm L).length = pl.length := by simp [bm, hLl]
     have hby := bm_bytes L
     have htk : List.take pl.length (bm L) = bm L := by rw [← hbL, List.take_length]
     have eLl : decide (L.length = pl.length) = true := decide_eq_true hLl
     have eL1 : decide (L.length ≤ 1000000000) = true := decide_eq_true (by omega)
     simp (maxSteps := 400000) only [go_sem, m1, w1, c0, hbm, hbl, hmn, minI, q1, q2, c0n, c1, rm, Nat.mul_one, Nat.add_zero, Nat.zero_add, hst, List.drop_zero, htk, hby, hLl, eLl, hbL, simprocAttr]
     try exact Ends.pureE (by simp only [AV.bel, belL, hB2, hB3, Bool.and_self]) rfl
 · rw [if_neg (by decide), if_neg (by decide)] at hL
   subst hL
   simp only [reduceIte, Int.reduceEq]
   simp (maxSteps := 400000) only [go_sem, m1, w1, simprocAttr]
   exact Ends.pureE (by simp only [AV.bel, belL, hB2, hB3, Bool.and_self]) rfl
def k21 : Ct
 | [.agg b, .agg c], _, n => (tx4 b).bind fun b => (md9 c).bind fun w => some (b.okB && decide (w.pl.length ≤ 1000000000), { v := .agg (turnS b w).l, n })
 | _, _, _ => none
theorem s21 : SoundAt Try.prog 21 k21 := fun args h n c E hc ht => by
 unfold k21 at hc
 split at hc
 · simp only [Option.bind_eq_some_iff, Option.some.injEq, Prod.mk.injEq] at hc
   obtain ⟨b, hb, w, hw, rfl, rfl⟩ := hc
   rw [tx4_eq hb, md9_eq hw]
   simp only [Bool.and_eq_true, decide_eq_true_eq] at ht
   exact CallOK.pure (by kernel_rfl) (by simp only [belL, AV.bel, md_bel, Tx.a, Bool.and_self]) (by simp only [AV.bel, md_bel]) (w21 _ _ ht.1 ht.2) _ _
 · cases hc
theorem turnL_len (t : Tx) (l : List UInt8) : (turnL t l).length ≤ l.length := by
 unfold turnL
 repeat' split
 all_goals first | exact Nat.le_refl _ | (rw [List.length_take]; omega) | (rw [List.length_set]; omega)
end Go.Proofs.Lys
end
