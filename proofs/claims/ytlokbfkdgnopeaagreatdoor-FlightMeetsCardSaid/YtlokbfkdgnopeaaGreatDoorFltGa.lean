/- Texts laid as one: FltM FltG FltH FltI. -/
import Derived.Test.YtlokbfkdgnopeaaGreatDoorFltPa
import Derived.Test.YtlokbfkdgnopeaaGreatDoorFltDa
import Derived.Test.YtlokbfkdgnopeaaGreatDoorAbFzs
import Derived.Test.YtlokbfkdgnopeaaGreatDoorFltA
section
/- Chapter 19: Mixed, told plainly. -/
namespace Go.Proofs.Flt
open Go.Ab
set_option linter.unusedVariables false
abbrev Lls := List (List (List UInt8))
def szK (sz : List UInt8) (i : Nat) : Nat := match sz[i % sz.length]? with
 | some b => 1 + b.toNat % 20
 | none => 7
def lsK (l : List Nt) (sz : List UInt8) (i : Nat) : List (List UInt8) := match l[i]? with
 | some x => cutL x (szK sz i)
 | none => []
def orK (od : List UInt8) (st : Nat) : Nat := match od[st % od.length]? with
 | some b => b.toNat
 | none => 0
def pick1 (n : Nat) (LL : Lls) : Nat := bif decide (4 ≤ n % LL.length) then 0 else n % LL.length
def pickK (n : Nat) (LL : Lls) : Nat := bif (LL.getD (pick1 n LL) []).length == 0 then 0 else pick1 n LL
def atK (n : Nat) (lst : List (List UInt8)) : Nat := n / 8 % lst.length
def outK (n : Nat) (lst : List (List UInt8)) : List (List UInt8) := bif n % 3 == 0 then [lst.getD (atK n lst) [], lst.getD (atK n lst) []] else [lst.getD (atK n lst) []]
def remK (n : Nat) (lst : List (List UInt8)) : List (List UInt8) := lst.take (atK n lst) ++ lst.drop (atK n lst + 1)
def dropE : Lls → Lls
 | [] => []
 | x :: r => bif x.length == 0 then dropE r else x :: r
def setK (n : Nat) (LL : Lls) : Lls := LL.set (pickK n LL) (remK n (LL.getD (pickK n LL) []))
def mixL (od : List UInt8) : Nat → Lls → Nat → List (List UInt8)
 | 0, _, _ => []
 | f + 1, LL, st => bif LL.length == 0 then [] else outK (orK od st) (LL.getD (pickK (orK od st) LL) []) ++ mixL od f (dropE (setK (orK od st) LL)) (st + 1)
def tot (LL : Lls) : Nat := (LL.map List.length).sum
def lsS (l : List Nt) (sz : List UInt8) : Lls := mapN (lsK l sz) l.length
def mixS (l : List Nt) (sz od : List UInt8) : List (List UInt8) := mixL od (tot (lsS l sz)) (lsS l sz) 0
def Frt (LL : Lls) : Prop := ∀ x r, LL = x :: r → x ≠ []
theorem dropE_frt : ∀ LL : Lls, Frt (dropE LL)
 | [] => fun x r h => by cases h
 | y :: l => fun x r h => by
  simp only [dropE] at h
  cases hy : (y.length == 0)
  · rw [hy, cond_false] at h
    cases h
    rintro rfl
    cases hy
  · rw [hy, cond_true] at h
    exact dropE_frt l x r h
theorem dropE_tot : ∀ LL : Lls, tot (dropE LL) = tot LL
 | [] => rfl
 | y :: l => by
  simp only [dropE]
  cases hy : (y.length == 0)
  · rfl
  · have := beq_iff_eq.1 hy
    rw [cond_true, dropE_tot l]
    simp only [tot, List.map_cons, List.sum_cons]; omega
theorem pick1_lt {n : Nat} {LL : Lls} (h : LL ≠ []) : pick1 n LL < LL.length := by
 have h0 : 0 < LL.length := by cases LL with
  | nil => exact absurd rfl h
  | cons _ _ => simp
 have h1 := Nat.mod_lt n h0
 unfold pick1
 cases decide (4 ≤ n % LL.length) <;> simp only [cond_true, cond_false] <;> omega
theorem pickK_lt {n : Nat} {LL : Lls} (h : LL ≠ []) : pickK n LL < LL.length := by
 have := pick1_lt (n := n) h
 unfold pickK
 cases (LL.getD (pick1 n LL) []).length == 0 <;> simp only [cond_true, cond_false] <;> omega
theorem pickK_ne {n : Nat} {LL : Lls} (h : LL ≠ []) (hf : Frt LL) : LL.getD (pickK n LL) [] ≠ [] := by
 unfold pickK
 cases hc : (LL.getD (pick1 n LL) []).length == 0
 · rw [cond_false]
   intro h2
   rw [h2] at hc; cases hc
 · rw [cond_true]
   cases LL with
   | nil => exact absurd rfl h
   | cons x r => exact hf x r rfl
theorem remK_len {n : Nat} {lst : List (List UInt8)} (h : lst ≠ []) : (remK n lst).length + 1 = lst.length := by
 have h0 : 0 < lst.length := by cases lst with
  | nil => exact absurd rfl h
  | cons _ _ => simp
 have h1 : atK n lst < lst.length := Nat.mod_lt _ h0
 simp only [remK, List.length_append, List.length_take, List.length_drop]; omega
theorem set_tot : ∀ (LL : Lls) (k : Nat) (x : List (List UInt8)), k < LL.length → x.length + 1 = (LL.getD k []).length → tot (LL.set k x) + 1 = tot LL
 | [], k, x, h, _ => by simp at h
 | y :: l, 0, x, h, h2 => by
  simp only [List.set, tot, List.map_cons, List.sum_cons]
  have : (List.getD (y :: l) 0 []) = y := rfl
  rw [this] at h2; omega
 | y :: l, k + 1, x, h, h2 => by
  simp only [List.length_cons] at h
  have h3 : (List.getD (y :: l) (k + 1) []) = l.getD k [] := rfl
  rw [h3] at h2
  have := set_tot l k x (by omega) h2
  simp only [List.set, tot, List.map_cons, List.sum_cons] at this ⊢
  omega
theorem setK_tot {n : Nat} {LL : Lls} (h : LL ≠ []) (hf : Frt LL) : tot (dropE (setK n LL)) + 1 = tot LL := by
 rw [dropE_tot]
 exact set_tot LL _ _ (pickK_lt h) (remK_len (pickK_ne h hf))
def empN : Lls → Nat
 | [] => 0
 | x :: r => bif x.length == 0 then empN r + 1 else 0
theorem empN_le : ∀ LL : Lls, empN LL ≤ LL.length
 | [] => Nat.le_refl _
 | x :: r => by
  have := empN_le r
  simp only [empN]
  cases x.length == 0 <;> simp only [cond_true, cond_false, List.length_cons] <;> omega
theorem empN_drop : ∀ LL : Lls, dropE LL = LL.drop (empN LL)
 | [] => rfl
 | x :: r => by
  simp only [dropE, empN]
  cases x.length == 0
  · rfl
  · rw [cond_true, cond_true, empN_drop r]; rfl
theorem empN_lt : ∀ (LL : Lls) (i : Nat), i < empN LL → LL[i]? = some []
 | [], i, h => by cases h
 | x :: r, i, h => by
  simp only [empN] at h
  cases hx : x.length == 0
  · rw [hx, cond_false] at h; cases h
  · rw [hx, cond_true] at h
    have : x = [] := List.eq_nil_of_length_eq_zero (beq_iff_eq.1 hx)
    cases i with
    | zero => rw [this]; rfl
    | succ i => exact empN_lt r i (by omega)
theorem empN_at {LL : Lls} (h : empN LL < LL.length) : ∃ x, LL[empN LL]? = some x ∧ x ≠ [] := by
 obtain ⟨x, hx⟩ : ∃ x, LL[empN LL]? = some x := ⟨_, List.getElem?_eq_getElem h⟩
 refine ⟨x, hx, ?_⟩
 have hd := empN_drop LL
 have := dropE_frt LL x (LL.drop (empN LL + 1)) (by
  rw [hd, List.drop_eq_getElem_cons h]
  rw [List.getElem?_eq_getElem h] at hx
  cases hx; rfl)
 exact this
theorem szK_rng (sz : List UInt8) (i : Nat) : 1 ≤ szK sz i ∧ szK sz i ≤ 20 := by
 unfold szK
 split
 · omega
 · omega
theorem lsS_len (l : List Nt) (sz : List UInt8) : (lsS l sz).length = l.length := mapN_len _
theorem lsS_mem {l : List Nt} {sz : List UInt8} (hl : ∀ x ∈ l, noteB x = true) {y : List (List UInt8)} (hy : y ∈ lsS l sz) : y ≠ [] ∧ y.length ≤ 4000 := by
 obtain ⟨i, hi, rfl⟩ := mapN_mem hy
 obtain ⟨x, hx⟩ : ∃ x, l[i]? = some x := ⟨_, List.getElem?_eq_getElem hi⟩
 have h1 := hl x (List.mem_of_getElem? hx)
 have h2 := szK_rng sz i
 simp only [noteB, Bool.and_eq_true, decide_eq_true_eq] at h1
 have h3 : (lsK l sz i).length = cutN x.bd.length (szK sz i) := by simp only [lsK, hx, cutL, mapN_len]
 have h4 := cutN_ge' (n := x.bd.length) h2.1
 have h5 := cutN_le (n := x.bd.length) h2.1 h1.2.2
 refine ⟨fun h => ?_, by omega⟩
 rw [h] at h3
 simp at h3; omega
theorem lsS_frt {l : List Nt} {sz : List UInt8} (hl : ∀ x ∈ l, noteB x = true) : Frt (lsS l sz) := fun x r h => (lsS_mem hl (by rw [h]; exact List.mem_cons_self)).1
theorem tot_le {m : Nat} : ∀ {LL : Lls}, (∀ x ∈ LL, x.length ≤ m) → tot LL ≤ LL.length * m
 | [], _ => by simp [tot]
 | y :: l, h => by
  have h1 := tot_le (LL := l) (fun x hx => h x (List.mem_cons_of_mem _ hx))
  have h2 := h y List.mem_cons_self
  simp only [tot, List.map_cons, List.sum_cons, List.length_cons, Nat.succ_mul] at h1 ⊢
  omega
theorem mixL_nil (od : List UInt8) (f st : Nat) : mixL od f [] st = [] := by cases f <;> rfl
theorem outK_len (n : Nat) (lst : List (List UInt8)) : (outK n lst).length ≤ 2 := by
 unfold outK
 cases n % 3 == 0 <;> simp
theorem mixL_step {od : List UInt8} {LL : Lls} {st : Nat} (h : LL ≠ []) (hf : Frt LL) :
 mixL od (tot LL) LL st = outK (orK od st) (LL.getD (pickK (orK od st) LL) []) ++ mixL od (tot (dropE (setK (orK od st) LL))) (dropE (setK (orK od st) LL)) (st + 1) := by
 have ht := setK_tot (n := orK od st) h hf
 have hl : (LL.length == 0) = false := beq_eq_false_iff_ne.2 (fun h2 => h (List.eq_nil_of_length_eq_zero h2))
 generalize hT : tot (dropE (setK (orK od st) LL)) = T at *
 rw [← ht]
 simp only [mixL, hl, cond_false]
theorem dropE_mem : ∀ {LL : Lls} {x : List (List UInt8)}, x ∈ dropE LL → x ∈ LL
 | [], x, h => by cases h
 | y :: l, x, h => by
  simp only [dropE] at h
  cases hy : (y.length == 0)
  · rw [hy, cond_false] at h; exact h
  · rw [hy, cond_true] at h; exact List.mem_cons_of_mem _ (dropE_mem h)
theorem remK_le (n : Nat) (lst : List (List UInt8)) : (remK n lst).length ≤ lst.length := by
 simp only [remK, List.length_append, List.length_take, List.length_drop]
 rcases Nat.eq_zero_or_pos lst.length with h | h
 · omega
 · have : atK n lst < lst.length := Nat.mod_lt _ h
   omega
theorem setK_le {n m : Nat} {LL : Lls} (h : ∀ x ∈ LL, x.length ≤ m) : ∀ x ∈ dropE (setK n LL), x.length ≤ m := fun x hx => by
 have hx := dropE_mem hx
 unfold setK at hx
 rcases List.mem_or_eq_of_mem_set hx with h2 | h2
 · exact h x h2
 · subst h2
   refine Nat.le_trans (remK_le _ _) ?_
   rw [List.getD_eq_getElem?_getD]
   cases hg : LL[pickK n LL]? with
   | none => simp
   | some y => exact h y (List.mem_of_getElem? hg)
end Go.Proofs.Flt
end
section
/- Chapter 19: lists of ranges. -/
namespace Go.Proofs.Flt
open Go.Ab
set_option linter.unusedVariables false
def srt (ln lo : Int) : List (Int × Int) → Prop
 | [] => True
 | x :: r => lo < x.1 ∧ x.1 < x.2 ∧ x.2 ≤ ln ∧ srt ln x.2 r
theorem srt_mono {ln lo lo2 : Int} (h : lo2 ≤ lo) : ∀ {l : List (Int × Int)}, srt ln lo l → srt ln lo2 l
 | [], _ => trivial
 | x :: r, hs => ⟨by have := hs.1; omega, hs.2⟩
theorem gotB_some {ln : Int} : ∀ {e : Int} {l : List (Int × Int)}, 0 ≤ e → (gotB ln (some e) l = true ↔ srt ln e l)
 | e, [], _ => by simp [gotB, srt]
 | e, x :: r, he => by
  simp only [gotB, srt, Bool.and_eq_true, decide_eq_true_eq]
  constructor
  · rintro ⟨h1, h2, h3, h4, h5⟩
    exact ⟨h4, h2, h3, (gotB_some (by omega)).1 h5⟩
  · rintro ⟨h4, h2, h3, h5⟩
    exact ⟨by omega, h2, h3, h4, (gotB_some (by omega)).2 h5⟩
theorem gotB_srt {ln : Int} {l : List (Int × Int)} : gotB ln none l = true ↔ srt ln (-1) l := by
 cases l with
 | nil => simp [gotB, srt]
 | cons x r =>
  simp only [gotB, srt, Bool.and_eq_true, decide_eq_true_eq]
  constructor
  · rintro ⟨h1, h2, h3, h4, h5⟩
    exact ⟨by omega, h2, h3, (gotB_some (by omega)).1 h5⟩
  · rintro ⟨h4, h2, h3, h5⟩
    exact ⟨by omega, h2, h3, trivial, (gotB_some (by omega)).2 h5⟩
def cov (l : List (Int × Int)) (o : Int) : Prop := ∃ x ∈ l, x.1 ≤ o ∧ o < x.2
theorem cov_nil {o : Int} : ¬ cov [] o := fun ⟨x, h, _⟩ => by cases h
theorem cov_cons {x : Int × Int} {l : List (Int × Int)} {o : Int} : cov (x :: l) o ↔ (x.1 ≤ o ∧ o < x.2) ∨ cov l o := by
 constructor
 · rintro ⟨y, hy, h⟩
   rcases List.mem_cons.1 hy with rfl | h2
   · exact .inl h
   · exact .inr ⟨y, h2, h⟩
 · rintro (h | ⟨y, hy, h⟩)
   · exact ⟨x, List.mem_cons_self, h⟩
   · exact ⟨y, List.mem_cons_of_mem _ hy, h⟩
theorem cov_gt {ln : Int} : ∀ {lo : Int} {l : List (Int × Int)} {o : Int}, srt ln lo l → cov l o → lo < o ∧ o < ln
 | lo, [], o, _, h => absurd h cov_nil
 | lo, x :: r, o, hs, h => by
  rcases cov_cons.1 h with h1 | h1
  · have := hs.1; have := hs.2.2.1; omega
  · have := cov_gt hs.2.2.2 h1
    have := hs.1; have := hs.2.1; omega
def mrg (r : Int × Int) : List (Int × Int) → List (Int × Int) × (Int × Int)
 | [] => ([], r)
 | x :: l => bif meetB r x then mrg (min r.1 x.1, max r.2 x.2) l else (x :: (mrg r l).1, (mrg r l).2)
theorem foldl_mrg : ∀ (l : List (Int × Int)) (A : List (Int × Int)) (r : Int × Int), l.foldl grow1 (A, r) = (A ++ (mrg r l).1, (mrg r l).2)
 | [], A, r => by simp [mrg]
 | x :: l, A, r => by
  simp only [List.foldl_cons, grow1, mrg]
  cases meetB r x
  · simp only [cond_false]
    rw [foldl_mrg l]
    simp
  · simp only [cond_true]
    rw [foldl_mrg l]
theorem gotS_mrg (l : List (Int × Int)) (r : Int × Int) : gotS l r = putG (mrg r l).2 (mrg r l).1 := by
 simp only [gotS, foldl_mrg, List.nil_append]
theorem meetB_no {r x : Int × Int} : meetB r x = false ↔ x.2 < r.1 ∨ x.1 > r.2 := by
 simp only [meetB, Bool.not_eq_false', Bool.or_eq_true, decide_eq_true_eq]
theorem meetB_yes {r x : Int × Int} : meetB r x = true ↔ r.1 ≤ x.2 ∧ x.1 ≤ r.2 := by
 simp only [meetB, Bool.not_eq_true', Bool.or_eq_false_iff, decide_eq_false_iff_not]; omega
theorem mrg_far {ln : Int} {r : Int × Int} : ∀ {e : Int} {l : List (Int × Int)}, srt ln e l → r.2 ≤ e → mrg r l = (l, r)
 | e, [], _, _ => rfl
 | e, x :: l, hs, he => by
  have h1 : meetB r x = false := meetB_no.2 (.inr (by have := hs.1; omega))
  simp only [mrg, h1, cond_false]
  rw [mrg_far hs.2.2.2 (by have := hs.1; have := hs.2.1; omega)]
theorem mrg_low {ln : Int} {c : Int} : ∀ {e : Int} {l : List (Int × Int)} {r : Int × Int}, srt ln e l → c ≤ e → c < r.1 → c < (mrg r l).2.1
 | e, [], r, _, _, h => h
 | e, x :: l, r, hs, hc, h => by
  simp only [mrg]
  have h1 := hs.1
  have h2 := hs.2.1
  cases meetB r x
  · exact mrg_low hs.2.2.2 (by omega) h
  · exact mrg_low hs.2.2.2 (by omega) (by show c < min r.1 x.1; omega)
theorem put_srt {ln : Int} : ∀ {lo : Int} {l : List (Int × Int)} {r : Int × Int}, srt ln lo l → lo < r.1 → r.1 < r.2 → r.2 ≤ ln → srt ln lo (putG (mrg r l).2 (mrg r l).1)
 | lo, [], r, _, h1, h2, h3 => ⟨h1, h2, h3, trivial⟩
 | lo, x :: l, r, hs, h1, h2, h3 => by
  obtain ⟨s1, s2, s3, s4⟩ := hs
  cases hm : meetB r x
  · rcases meetB_no.1 hm with h | h
    · simp only [mrg, hm, cond_false]
      have hlow := mrg_low (r := r) s4 (Int.le_refl _) h
      have hnot : decide ((mrg r l).2.1 < x.1) = false := decide_eq_false (by omega)
      simp only [putG, hnot, cond_false]
      exact ⟨s1, s2, s3, put_srt s4 h h2 h3⟩
    · have hf : mrg r (x :: l) = (x :: l, r) := by
       simp only [mrg, hm, cond_false]
       rw [mrg_far s4 (by omega)]
      rw [hf]
      have hy : decide (r.1 < x.1) = true := decide_eq_true (by omega)
      simp only [putG, hy, cond_true]
      exact ⟨h1, h2, h3, h, s2, s3, s4⟩
  · have h := meetB_yes.1 hm
    simp only [mrg, hm, cond_true]
    exact put_srt (srt_mono (by omega) s4) (by show lo < min r.1 x.1; omega) (by show min r.1 x.1 < max r.2 x.2; omega) (by show max r.2 x.2 ≤ ln; omega)
theorem putG_cov {r : Int × Int} {o : Int} : ∀ {l : List (Int × Int)}, cov (putG r l) o ↔ (r.1 ≤ o ∧ o < r.2) ∨ cov l o
 | [] => cov_cons
 | x :: l => by
  simp only [putG]
  cases decide (r.1 < x.1)
  · rw [cond_false, cov_cons, cov_cons, putG_cov]
    constructor
    · rintro (h | h | h)
      · exact .inr (.inl h)
      · exact .inl h
      · exact .inr (.inr h)
    · rintro (h | h | h)
      · exact .inr (.inl h)
      · exact .inl h
      · exact .inr (.inr h)
  · rw [cond_true, cov_cons]
theorem mrg_cov {o : Int} : ∀ {l : List (Int × Int)} {r : Int × Int}, r.1 < r.2 → (∀ x ∈ l, x.1 < x.2) → ((((mrg r l).2.1 ≤ o ∧ o < (mrg r l).2.2) ∨ cov (mrg r l).1 o) ↔ (r.1 ≤ o ∧ o < r.2) ∨ cov l o)
 | [], r, _, _ => Iff.rfl
 | x :: l, r, hr, hx => by
  have hx1 := hx x List.mem_cons_self
  have hx2 : ∀ y ∈ l, y.1 < y.2 := fun y hy => hx y (List.mem_cons_of_mem _ hy)
  cases hm : meetB r x
  · simp only [mrg, hm, cond_false]
    rw [cov_cons, cov_cons]
    have ih := mrg_cov (o := o) (l := l) hr hx2
    constructor
    · rintro (h | h | h)
      · rcases ih.1 (.inl h) with h2 | h2
        · exact .inl h2
        · exact .inr (.inr h2)
      · exact .inr (.inl h)
      · rcases ih.1 (.inr h) with h2 | h2
        · exact .inl h2
        · exact .inr (.inr h2)
    · rintro (h | h | h)
      · rcases ih.2 (.inl h) with h2 | h2
        · exact .inl h2
        · exact .inr (.inr h2)
      · exact .inr (.inl h)
      · rcases ih.2 (.inr h) with h2 | h2
        · exact .inl h2
        · exact .inr (.inr h2)
  · have h := meetB_yes.1 hm
    simp only [mrg, hm, cond_true]
    rw [mrg_cov (by show min r.1 x.1 < max r.2 x.2; omega) hx2, cov_cons]
    show (min r.1 x.1 ≤ o ∧ o < max r.2 x.2) ∨ _ ↔ _
    constructor
    · rintro (h2 | h2)
      · by_cases h3 : r.1 ≤ o ∧ o < r.2
        · exact .inl h3
        · exact .inr (.inl (by omega))
      · exact .inr (.inr h2)
    · rintro (h2 | h2 | h2)
      · exact .inl (by omega)
      · exact .inl (by omega)
      · exact .inr h2
theorem srt_mem {ln : Int} : ∀ {lo : Int} {l : List (Int × Int)}, srt ln lo l → ∀ x ∈ l, x.1 < x.2
 | lo, [], _, x, h => by cases h
 | lo, y :: l, hs, x, h => by
  rcases List.mem_cons.1 h with rfl | h2
  · exact hs.2.1
  · exact srt_mem hs.2.2.2 x h2
theorem gotS_srt {ln lo : Int} {l : List (Int × Int)} {r : Int × Int} (h : srt ln lo l) (h1 : lo < r.1) (h2 : r.1 < r.2) (h3 : r.2 ≤ ln) : srt ln lo (gotS l r) := by
 rw [gotS_mrg]; exact put_srt h h1 h2 h3
theorem gotS_cov {ln lo : Int} {l : List (Int × Int)} {r : Int × Int} (h : srt ln lo l) (h2 : r.1 < r.2) {o : Int} : cov (gotS l r) o ↔ (r.1 ≤ o ∧ o < r.2) ∨ cov l o := by
 rw [gotS_mrg, putG_cov, mrg_cov h2 (srt_mem h)]
theorem srt_uniq {ln : Int} : ∀ {lo lo2 : Int} {l l2 : List (Int × Int)}, srt ln lo l → srt ln lo2 l2 → (∀ o, cov l o ↔ cov l2 o) → l = l2
 | lo, lo2, [], [], _, _, _ => rfl
 | lo, lo2, [], y :: l2, _, h2, hc => absurd ((hc y.1).2 (cov_cons.2 (.inl ⟨Int.le_refl _, h2.2.1⟩))) cov_nil
 | lo, lo2, x :: l, [], h1, _, hc => absurd ((hc x.1).1 (cov_cons.2 (.inl ⟨Int.le_refl _, h1.2.1⟩))) cov_nil
 | lo, lo2, x :: l, y :: l2, h1, h2, hc => by
  obtain ⟨a1, a2, a3, a4⟩ := h1
  obtain ⟨b1, b2, b3, b4⟩ := h2
  have gl : ∀ o, cov l o → x.2 < o := fun o h => (cov_gt a4 h).1
  have gl2 : ∀ o, cov l2 o → y.2 < o := fun o h => (cov_gt b4 h).1
  have e1 : x.1 = y.1 := by
   have p := (hc x.1).1 (cov_cons.2 (.inl ⟨Int.le_refl _, a2⟩))
   have q := (hc y.1).2 (cov_cons.2 (.inl ⟨Int.le_refl _, b2⟩))
   rcases cov_cons.1 p with p | p
   · rcases cov_cons.1 q with q | q
     · omega
     · have := gl _ q; omega
   · have := gl2 _ p
     rcases cov_cons.1 q with q | q
     · omega
     · have := gl _ q; omega
  have e2 : x.2 = y.2 := by
   rcases Int.lt_trichotomy x.2 y.2 with h | h | h
   · have p := (hc x.2).2 (cov_cons.2 (.inl ⟨by omega, h⟩))
     rcases cov_cons.1 p with p | p
     · omega
     · have := gl _ p; omega
   · exact h
   · have p := (hc y.2).1 (cov_cons.2 (.inl ⟨by omega, h⟩))
     rcases cov_cons.1 p with p | p
     · omega
     · have := gl2 _ p; omega
  have e : x = y := Prod.ext e1 e2
  subst e
  rw [srt_uniq a4 b4 (fun o => ?_)]
  constructor
  · intro h
    rcases cov_cons.1 ((hc o).1 (cov_cons.2 (.inr h))) with h3 | h3
    · have := gl _ h; omega
    · exact h3
  · intro h
    rcases cov_cons.1 ((hc o).2 (cov_cons.2 (.inr h))) with h3 | h3
    · have := gl2 _ h; omega
    · exact h3
end Go.Proofs.Flt
end
section
/- Chapter 19: a message of which a set of octets has come. -/
namespace Go.Proofs.Flt
open Go.Ab
set_option linter.unusedVariables false
structure OkH (x : Nt) (G : Int → Prop) (h : Hf) : Prop where
 kd : h.kd = x.kd
 ln : h.ln = x.bd.length
 sq : h.sq = x.sq
 len : h.bd.length = x.bd.length
 srt : srt h.ln (-1) h.got
 cov : ∀ o, cov h.got o ↔ G o
 at_ : ∀ (k : Nat) b, x.bd[k]? = some b → (G k → h.bd[k]? = some b) ∧ (¬ G k → h.bd[k]? = some 0)
theorem OkH.uniq {x : Nt} {G : Int → Prop} {h1 h2 : Hf} (a : OkH x G h1) (b : OkH x G h2) : h1 = h2 := by
 have e1 : h1.got = h2.got := by
  have h := b.srt
  rw [b.ln, ← a.ln] at h
  exact srt_uniq a.srt h (fun o => (a.cov o).trans (b.cov o).symm)
 have e2 : h1.bd = h2.bd := by
  apply List.ext_getElem?
  intro k
  cases hx : x.bd[k]? with
  | none =>
   have hk := List.getElem?_eq_none_iff.1 hx
   rw [List.getElem?_eq_none (by rw [a.len]; exact hk), List.getElem?_eq_none (by rw [b.len]; exact hk)]
  | some c =>
   by_cases hg : G k
   · rw [(a.at_ k c hx).1 hg, (b.at_ k c hx).1 hg]
   · rw [(a.at_ k c hx).2 hg, (b.at_ k c hx).2 hg]
 obtain ⟨k1, l1, s1, b1, g1⟩ := h1
 obtain ⟨k2, l2, s2, b2, g2⟩ := h2
 have c1 := a.kd.trans b.kd.symm
 have c2 := a.ln.trans b.ln.symm
 have c3 := a.sq.trans b.sq.symm
 dsimp only at c1 c2 c3 e1 e2
 subst c1; subst c2; subst c3; subst e1; subst e2; rfl
theorem OkH.iff {x : Nt} {G G2 : Int → Prop} {h : Hf} (a : OkH x G h) (hg : ∀ o, G o ↔ G2 o) : OkH x G2 h :=
 ⟨a.kd, a.ln, a.sq, a.len, a.srt, fun o => (a.cov o).trans (hg o), fun k b hk => ⟨fun h => (a.at_ k b hk).1 ((hg _).2 h), fun h => (a.at_ k b hk).2 (fun h2 => h ((hg _).1 h2))⟩⟩
theorem OkH.rng {x : Nt} {G : Int → Prop} {h : Hf} (a : OkH x G h) {o : Int} (ho : G o) : 0 ≤ o ∧ o < x.bd.length := by
 have := cov_gt a.srt ((a.cov o).2 ho)
 rw [a.ln] at this
 omega
theorem OkH.new {x : Nt} {p : Pc} (h1 : p.kd = x.kd) (h2 : p.ln = x.bd.length) (h3 : p.sq = x.sq) : OkH x (fun _ => False) (newH p) := by
 refine ⟨h1, h2, h3, ?_, trivial, fun o => ⟨fun h => cov_nil h, fun h => h.elim⟩, fun k b hk => ⟨fun h => h.elim, fun _ => ?_⟩⟩
 · simp only [newH, List.length_replicate, h2]; omega
 · have := (List.getElem?_eq_some_iff.1 hk).1
   simp only [newH, h2, Int.toNat_natCast]
   rw [List.getElem?_replicate, if_pos this]
structure PcOf (x : Nt) (a m : Nat) (p : Pc) : Prop where
 kd : p.kd = x.kd
 ln : p.ln = x.bd.length
 sq : p.sq = x.sq
 ofs : p.ofs = (a : Int)
 pt : p.pt = (x.bd.drop a).take m
 le : a + m ≤ x.bd.length
 ne : 0 < m ∨ x.bd.length = 0
theorem PcOf.ptl {x : Nt} {a m : Nat} {p : Pc} (h : PcOf x a m p) : p.pt.length = m := by
 rw [h.pt, List.length_take, List.length_drop]; have := h.le; omega
theorem sub_eq {α : Type} {l l2 : List α} {a n b : Nat} (h : ∀ k, a ≤ k → k < a + n → l[k]? = l2[b + (k - a)]?) : (l.drop a).take n = (l2.drop b).take n := by
 apply List.ext_getElem?
 intro i
 rw [List.getElem?_take, List.getElem?_take]
 by_cases hi : i < n
 · rw [if_pos hi, if_pos hi, List.getElem?_drop, List.getElem?_drop, h (a + i) (by omega) (by omega), Nat.add_sub_cancel_left]
 · rw [if_neg hi, if_neg hi]
theorem agree_ok {x : Nt} {G : Int → Prop} {h : Hf} {p : Pc} {a m : Nat} (ho : OkH x G h) (hp : PcOf x a m p) {r : Int × Int} (hr : r ∈ h.got) : agreeB h p r = true := by
 have hpl := hp.ptl
 simp only [agreeB, Bool.or_eq_true, decide_eq_true_eq, beq_iff_eq, hpl, hp.ofs]
 by_cases hc : max r.1 (a : Int) ≥ min r.2 ((a : Int) + m)
 · exact .inl hc
 · refine .inr ?_
   refine sub_eq (fun k h1 h2 => ?_)
   have hle := hp.le
   have hk : G k := (ho.cov k).1 ⟨r, hr, by omega, by omega⟩
   obtain ⟨b, hb⟩ : ∃ b, x.bd[k]? = some b := ⟨_, List.getElem?_eq_getElem (by omega)⟩
   rw [(ho.at_ k b hb).1 hk, hp.pt, List.getElem?_take, if_pos (by omega), List.getElem?_drop, ← hb]
   congr 1
   omega
theorem OkH.fill {x : Nt} {G : Int → Prop} {h : Hf} {p : Pc} {a m : Nat} (ho : OkH x G h) (hp : PcOf x a m p) : ∃ h2, fillS h p = some h2 ∧ OkH x (fun o => ((a : Int) ≤ o ∧ o < a + m) ∨ G o) h2 := by
 have hpl := hp.ptl
 have hle := hp.le
 have hall : h.got.all (agreeB h p) = true := List.all_eq_true.2 (fun r hr => agree_ok ho hp hr)
 have e1 : (h.kd == p.kd) = true := beq_iff_eq.2 (ho.kd.trans hp.kd.symm)
 have e2 : (h.ln == p.ln) = true := beq_iff_eq.2 (ho.ln.trans hp.ln.symm)
 have e3 : p.ofs.toNat = a := by rw [hp.ofs]; omega
 refine ⟨_, by unfold fillS; rw [e1, e2, hall]; rfl, ?_⟩
 rw [e3, hpl, hp.ofs]
 refine ⟨ho.kd, ho.ln, ho.sq, ?_, ?_, fun o => ?_, fun k b hk => ?_⟩
 · simp only [List.length_append, List.length_take, List.length_drop, hpl, ho.len]; omega
 · show Flt.srt h.ln (-1) (if p.pt = [] then h.got else gotS h.got ((a : Int), (a : Int) + (m : Nat)))
   split
   · exact ho.srt
   · rename_i hne
     have hm : 0 < m := by
      rcases Nat.eq_zero_or_pos m with h0 | h0
      · exact absurd (List.eq_nil_of_length_eq_zero (by omega)) hne
      · exact h0
     exact gotS_srt ho.srt (by show -1 < (a : Int); omega) (by show (a : Int) < a + (m : Nat); omega) (by rw [ho.ln]; show (a : Int) + (m : Nat) ≤ _; omega)
 · show Flt.cov (if p.pt = [] then h.got else gotS h.got ((a : Int), (a : Int) + (m : Nat))) o ↔ _
   split
   · rename_i he
     have hm : m = 0 := by rw [← hpl, he]; rfl
     rw [ho.cov]
     constructor
     · exact fun h => .inr h
     · rintro (h | h)
       · omega
       · exact h
   · rename_i hne
     have hm : 0 < m := by
      rcases Nat.eq_zero_or_pos m with h0 | h0
      · exact absurd (List.eq_nil_of_length_eq_zero (by omega)) hne
      · exact h0
     rw [gotS_cov ho.srt (by show (a : Int) < a + (m : Nat); omega), ho.cov]
 · have hkl := (List.getElem?_eq_some_iff.1 hk).1
   show ((_ ∨ G k) → (h.bd.take a ++ p.pt ++ h.bd.drop (a + m))[k]? = some b) ∧ (¬ (_ ∨ G k) → (h.bd.take a ++ p.pt ++ h.bd.drop (a + m))[k]? = some 0)
   have hla : (h.bd.take a).length = a := by rw [List.length_take, ho.len]; omega
   have key : (h.bd.take a ++ p.pt ++ h.bd.drop (a + m))[k]? = if a ≤ k ∧ k < a + m then some b else h.bd[k]? := by
    by_cases c1 : k < a
    · rw [List.append_assoc, List.getElem?_append_left (by omega), List.getElem?_take, if_pos c1, if_neg (by omega)]
    · by_cases c2 : k < a + m
      · rw [if_pos (by omega), List.append_assoc, List.getElem?_append_right (by omega), hla, List.getElem?_append_left (by omega), hp.pt, List.getElem?_take, if_pos (by omega), List.getElem?_drop, ← hk]
        congr 1; omega
      · rw [if_neg (by omega), List.getElem?_append_right (by rw [List.length_append, hla, hpl]; omega), List.length_append, hla, hpl, List.getElem?_drop]
        congr 1; omega
   rw [key]
   constructor
   · rintro (h1 | h1)
     · rw [if_pos (by omega)]
     · split
       · rfl
       · exact (ho.at_ k b hk).1 h1
   · intro h1
     rw [if_neg (by intro h2; exact h1 (.inl (by omega)))]
     exact (ho.at_ k b hk).2 (fun h2 => h1 (.inr h2))
theorem OkH.again {x : Nt} {G : Int → Prop} {h : Hf} {p : Pc} {a m : Nat} (ho : OkH x G h) (hp : PcOf x a m p) (hg : ∀ o : Int, (a : Int) ≤ o → o < a + m → G o) : fillS h p = some h := by
 obtain ⟨h2, e, o2⟩ := ho.fill hp
 rw [e]
 have : OkH x G h2 := o2.iff (fun o => ⟨fun h => h.elim (fun h1 => hg o h1.1 h1.2) _root_.id, fun h => .inr h⟩)
 rw [this.uniq ho]
theorem OkH.done {x : Nt} {G : Int → Prop} {h : Hf} (ho : OkH x G h) : doneB h = true ↔ ∀ k : Nat, k < x.bd.length → G k := by
 have hln := ho.ln
 by_cases h0 : x.bd.length = 0
 · constructor
   · intro _ k hk; omega
   · intro _
     unfold doneB
     rw [show (h.ln == 0) = true from beq_iff_eq.2 (by omega)]; rfl
 · have e0 : (h.ln == 0) = false := beq_eq_false_iff_ne.2 (by omega)
   unfold doneB
   rw [e0, Bool.false_or]
   constructor
   · intro hd k hk
     split at hd
     · rename_i y hy
       simp only [Bool.and_eq_true, beq_iff_eq] at hd
       refine (ho.cov k).1 ?_
       rw [hy]
       exact cov_cons.2 (.inl (by omega))
     · cases hd
   · intro hg
     have : h.got = [(0, h.ln)] := by
      refine srt_uniq ho.srt (lo2 := -1) ⟨by show (-1 : Int) < 0; omega, by show (0 : Int) < h.ln; omega, Int.le_refl _, trivial⟩ (fun o => ?_)
      rw [ho.cov]
      constructor
      · intro h1
        have := ho.rng h1
        exact cov_cons.2 (.inl (by show (0 : Int) ≤ o ∧ o < h.ln; omega))
      · intro h1
        rcases cov_cons.1 h1 with h1 | h1
        · have h2 : (0 : Int) ≤ o ∧ o < h.ln := h1
          have := hg o.toNat (by omega)
          rwa [Int.toNat_of_nonneg h2.1] at this
        · exact absurd h1 cov_nil
     rw [this]
     simp
end Go.Proofs.Flt
end
section
/- Chapter 19: pieces of which some are left; halfs that are valid. -/
namespace Go.Proofs.Flt
open Go.Ab
set_option linter.unusedVariables false
theorem zer_ok {bd : List UInt8} {a n : Nat} (h : ∀ k, a ≤ k → k < a + n → k < bd.length → bd[k]? = some 0) : zer ((bd.drop a).take n) = true := by
 unfold zer
 refine List.all_eq_true.2 (fun b hb => ?_)
 obtain ⟨i, hi⟩ := List.mem_iff_getElem?.1 hb
 rw [List.getElem?_take] at hi
 split at hi
 · rename_i hin
   rw [List.getElem?_drop] at hi
   have hl := (List.getElem?_eq_some_iff.1 hi).1
   rw [h (a + i) (by omega) (by omega) hl] at hi
   cases hi; rfl
 · cases hi
theorem gap_ok {bd : List UInt8} {ln : Int} (hl : (bd.length : Int) = ln) : ∀ {e a : Int} {l : List (Int × Int)}, srt ln e l → 0 ≤ a → a ≤ e + 1 → (∀ k : Nat, a ≤ k → (k : Int) < ln → ¬ cov l k → bd[k]? = some 0) → gapB bd ln a l = true
 | e, a, [], _, h0, _, h => by
  simp only [gapB]
  exact zer_ok (fun k h1 h2 h3 => h k (by omega) (by omega) cov_nil)
 | e, a, x :: r, hs, h0, h1, h => by
  obtain ⟨s1, s2, s3, s4⟩ := hs
  simp only [gapB, Bool.and_eq_true]
  refine ⟨zer_ok (fun k g1 g2 g3 => h k (by omega) (by omega) (fun hc => ?_)), gap_ok hl s4 (by omega) (by omega) (fun k g1 g2 g3 => h k (by omega) g2 (fun hc => ?_))⟩
  · rcases cov_cons.1 hc with hc | hc
    · omega
    · have := cov_gt s4 hc; omega
  · rcases cov_cons.1 hc with hc | hc
    · omega
    · exact g3 hc
theorem OkH.half {x : Nt} {G : Int → Prop} {h : Hf} (ho : OkH x G h) (hx : noteB x = true) (hne : x.bd.length = 0 ∨ ∃ o, G o) : halfB h = true := by
 simp only [noteB, Bool.and_eq_true, decide_eq_true_eq] at hx
 have hln := ho.ln
 have hll := ho.len
 have hk := ho.kd
 have hgot : h.got.length = 0 ↔ h.ln = 0 := by
  constructor
  · intro h0
    rcases hne with h1 | ⟨o, h1⟩
    · omega
    · have := (ho.cov o).2 h1
      rw [List.eq_nil_of_length_eq_zero h0] at this
      exact absurd this cov_nil
  · intro h0
    have hs := ho.srt
    cases hg : h.got with
    | nil => rfl
    | cons y r =>
     rw [hg] at hs
     obtain ⟨s1, s2, s3, s4⟩ := hs
     omega
 simp only [halfB, Bool.and_eq_true, beq_iff_eq]
 refine ⟨by rw [hk]; exact hx.1, inW_of (by omega), by omega, ?_, gotB_srt.2 ho.srt, gap_ok (by omega) ho.srt (Int.le_refl _) (by omega) (fun k h1 h2 h3 => ?_)⟩
 · rw [Bool.eq_iff_iff, beq_iff_eq, beq_iff_eq]; exact hgot
 · obtain ⟨b, hb⟩ : ∃ b, x.bd[k]? = some b := ⟨_, List.getElem?_eq_getElem (by omega)⟩
   exact (ho.at_ k b hb).2 (fun hg => h3 ((ho.cov k).2 hg))
def pcM (x : Nt) (sz k : Nat) : Nat := min sz (x.bd.length - k * sz)
theorem pcOf {x : Nt} {sz k : Nat} (hs : 1 ≤ sz) (hk : k < cutN x.bd.length sz) : PcOf x (k * sz) (pcM x sz k) (cutP x sz k) := by
 have h := cutN_lt' hs hk
 refine ⟨rfl, rfl, rfl, rfl, ?_, ?_, ?_⟩
 · simp only [cutP, pcM]
   apply List.ext_getElem?
   intro i
   rw [List.getElem?_take, List.getElem?_take, List.getElem?_drop]
   by_cases h1 : i < min sz (x.bd.length - k * sz)
   · rw [if_pos h1, if_pos (by omega)]
   · rw [if_neg h1]
     split
     · exact List.getElem?_eq_none (by omega)
     · rfl
 · unfold pcM
   rcases h with rfl | h <;> omega
 · unfold pcM
   rcases h with rfl | h <;> omega
def GK (x : Nt) (sz : Nat) (K : List Nat) (o : Int) : Prop := ∃ k, k < cutN x.bd.length sz ∧ k ∉ K ∧ ((k * sz : Nat) : Int) ≤ o ∧ o < ((k * sz : Nat) : Int) + (pcM x sz k : Nat)
def staK (x : Nt) (sz : Nat) (K : List Nat) : Prop := ∃ k, k < cutN x.bd.length sz ∧ k ∉ K
structure OkK (x : Nt) (sz : Nat) (K : List Nat) : Prop where
 nd : K.Nodup
 lt : ∀ k ∈ K, k < cutN x.bd.length sz
theorem cutN_at {n sz o : Nat} (hs : 1 ≤ sz) (ho : o < n) : o / sz < cutN n sz ∧ o / sz * sz ≤ o ∧ o < o / sz * sz + min sz (n - o / sz * sz) := by
 have h1 := (cutN_ge' (n := n) hs).2
 have h2 := Nat.div_mul_le_self o sz
 have h3 := Nat.lt_div_mul_add (a := o) (b := sz) (by omega)
 refine ⟨?_, h2, by omega⟩
 refine (Nat.div_lt_iff_lt_mul (by omega)).2 (by omega)
theorem sz_uniq {sz k l o : Nat} (h1 : k * sz ≤ o) (h2 : o < k * sz + sz) (h3 : l * sz ≤ o) (h4 : o < l * sz + sz) : k = l := by
 rcases Nat.lt_trichotomy k l with h | h | h
 · have : (k + 1) * sz ≤ l * sz := Nat.mul_le_mul_right _ h
   rw [Nat.succ_mul] at this; omega
 · exact h
 · have : (l + 1) * sz ≤ k * sz := Nat.mul_le_mul_right _ h
   rw [Nat.succ_mul] at this; omega
theorem GK_all {x : Nt} {sz : Nat} {K : List Nat} (hs : 1 ≤ sz) (hK : OkK x sz K) (h0 : 0 < x.bd.length) : (∀ k : Nat, k < x.bd.length → GK x sz K k) ↔ K = [] := by
 constructor
 · intro h
   cases K with
   | nil => rfl
   | cons k r =>
    have hk := hK.lt k List.mem_cons_self
    have hm := cutN_lt' hs hk
    have hlt : k * sz < x.bd.length := by
     rcases hm with rfl | h
     · omega
     · exact h
    obtain ⟨l, l1, l2, l3, l4⟩ := h (k * sz) hlt
    unfold pcM at l4
    have : l = k := sz_uniq (o := k * sz) (by omega) (by omega) (Nat.le_refl _) (by omega)
    exact absurd (this ▸ List.mem_cons_self) l2
 · rintro rfl k hk
   obtain ⟨h1, h2, h3⟩ := cutN_at (n := x.bd.length) hs hk
   exact ⟨k / sz, h1, by simp, by omega, by unfold pcM; omega⟩
theorem staK_ne {x : Nt} {sz : Nat} {K : List Nat} (hs : 1 ≤ sz) (h : staK x sz K) : x.bd.length = 0 ∨ ∃ o, GK x sz K o := by
 obtain ⟨k, h1, h2⟩ := h
 have h3 := cutN_lt' hs h1
 by_cases h0 : x.bd.length = 0
 · exact .inl h0
 · refine .inr ⟨((k * sz : Nat) : Int), k, h1, h2, Int.le_refl _, ?_⟩
   unfold pcM
   rcases h3 with rfl | h3 <;> omega
theorem staK_nil {x : Nt} {sz : Nat} (hs : 1 ≤ sz) : staK x sz [] := ⟨0, (cutN_ge' hs).1, by simp⟩
theorem done_iff {x : Nt} {sz : Nat} {K : List Nat} {h : Hf} (hs : 1 ≤ sz) (hK : OkK x sz K) (hst : staK x sz K) (ho : OkH x (GK x sz K) h) : doneB h = true ↔ K = [] := by
 rw [ho.done]
 rcases Nat.eq_zero_or_pos x.bd.length with h0 | h0
 · constructor
   · intro _
     obtain ⟨k, h1, h2⟩ := hst
     have hc : cutN x.bd.length sz = 1 := by unfold cutN; rw [if_pos h0]
     cases K with
     | nil => rfl
     | cons l r =>
      have := hK.lt l List.mem_cons_self
      have hk : k = l := by omega
      exact absurd (hk ▸ List.mem_cons_self) h2
   · intro _ k hk; omega
 · exact GK_all hs hK h0
end Go.Proofs.Flt
end
