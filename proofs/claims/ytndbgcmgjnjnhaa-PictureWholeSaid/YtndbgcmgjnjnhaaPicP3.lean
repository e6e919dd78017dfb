/- The plain law of PictureWhole: packets that are cut are joined again; without one, or with two exchanged, they are none. -/
import Derived.Test.YtndbgcmgjnjnhaaPicM6
import Derived.Test.YtndbgcmgjnjnhaaPicP1
namespace Go.Proofs.Pic
open Go.Ab
set_option maxRecDepth 10000
set_option linter.unusedSimpArgs false
set_option linter.unusedVariables false

def catN (g : Nat → List UInt8) : Nat → List UInt8
  | 0 => []
  | k + 1 => catN g k ++ g k
theorem joinK_prev {l : List Md} {k : Nat} {f : Fr} (h : joinK l (k + 1) = some f) : ∃ g p, joinK l k = some g ∧ g.go = true ∧ l[k]? = some p ∧ badP (dec p.pl) k l.length = false ∧ f = roundJ l k p g := by
  simp only [joinK, Option.bind_eq_some_iff] at h
  obtain ⟨g, h1, p, h2, h3⟩ := h
  split at h3
  · cases h3
  · rename_i hn
    simp only [Option.some.injEq] at h3
    simp only [Bool.or_eq_true, Bool.not_eq_true', not_or, Bool.not_eq_false, Bool.not_eq_true] at hn
    exact ⟨g, p, h1, hn.1, h2, hn.2, h3.symm⟩
theorem joinK_all {l : List Md} {n : Nat} {f : Fr} (h : joinK l n = some f) (hg : f.go = true) : ∀ k, k < n → ∃ g p f', joinK l k = some g ∧ l[k]? = some p ∧ badP (dec p.pl) k l.length = false ∧ f' = roundJ l k p g ∧ f'.go = true := by
  induction n generalizing f with
  | zero => intro k hk; omega
  | succ n ih =>
    intro k hk
    obtain ⟨g, p, h1, h2, h3, h4, h5⟩ := joinK_prev h
    rcases Nat.lt_succ_iff_lt_or_eq.1 hk with h' | h'
    · exact ih h1 h2 k h'
    · subst h'; exact ⟨g, p, f, h1, h3, h4, h5, hg⟩
theorem joinS_bad {l : List Md} (hv : l.any (fun p => !mdB p) = false) (k : Nat) (p : Md) (hk : k < l.length) (hp : l[k]? = some p)
    (hb : badP (dec p.pl) k l.length = true ∨ (k ≠ 0 ∧ ∃ q, l[k - 1]? = some q ∧ nextB q p = false)) : joinS l = (zFr, 401) := by
  simp only [joinS, hv, Bool.false_eq_true, if_false]
  cases hj : joinK l l.length with
  | none => rfl
  | some f =>
    simp only
    cases hg : f.go
    · rfl
    · exfalso
      obtain ⟨g, p', f', h1, h2, h3, h4, h5⟩ := joinK_all hj hg k hk
      rw [hp] at h2; cases h2
      rcases hb with hb | ⟨hk0, q, hq, hn⟩
      · rw [hb] at h3; cases h3
      · rw [h4] at h5
        simp only [roundJ, if_neg hk0, hq, hn, Bool.and_false] at h5
        cases h5
theorem joinS_nil : joinS [] = (zFr, 401) := rfl

section
variable {S : Sh} {fm : Md} {ps : List (List UInt8)} {m : Nat}
theorem pk_mdB (hv : mdB fm = true) (k : Nat) : mdB (pkM S fm ps m k) = true := by
  simp only [mdB, mdPre, Bool.and_eq_true, pkM] at hv ⊢
  obtain ⟨⟨⟨⟨⟨⟨⟨h1, h2⟩, h3⟩, h4⟩, h5⟩, h6⟩, h7⟩, h8⟩ := hv
  refine ⟨⟨⟨⟨⟨⟨⟨h1, ?_⟩, h3⟩, h4⟩, h5⟩, h6⟩, h7⟩, h8⟩
  rw [inZ_iff]; omega
theorem pk_fin (hf : fm.fin = true) (k : Nat) : (pkM S fm ps m k).fin = true := by
  unfold Md.fin at hf ⊢
  simp only [Bool.and_eq_true, decide_eq_true_eq] at hf ⊢
  refine ⟨hf.1, ?_⟩
  show (_ ++ _ : List UInt8).length ≤ _
  rw [List.length_append, List.length_take]
  have : (Sh.mk ((k : Int) == 0) S.ky S.sy ((k : Int) == (m : Int) - 1) S.id S.ba S.te S.sp).enc.length = 5 := rfl
  omega
theorem pk_dec (hg : S.good = true) (k : Nat) : dec (pkM S fm ps m k).pl = (⟨((k : Int) == 0), S.ky, S.sy, ((k : Int) == (m : Int) - 1), S.id, S.ba, S.te, S.sp⟩, (ps.getD k []).take 20, 0) :=
  dec_enc (s := ⟨((k : Int) == 0), S.ky, S.sy, ((k : Int) == (m : Int) - 1), S.id, S.ba, S.te, S.sp⟩) (good_any hg _ _) _
theorem pk_next (hsq : 0 ≤ fm.sq ∧ fm.sq ≤ 65535) {j k : Nat} (hj : j < 100) (hk : k < 100) : nextB (pkM S fm ps m j) (pkM S fm ps m k) = (k == j + 1) := by
  simp only [nextB, pkM, beq_self_eq_true, Bool.true_and]
  rw [wrapL (by omega) (by omega), and16, Bool.eq_iff_iff, beq_iff_eq, beq_iff_eq]
  omega
theorem any_pk (hv : mdB fm = true) (G : Nat → Nat) : ∀ n, (mapN (fun j => pkM S fm ps m (G j)) n).any (fun p => !mdB p) = false
  | 0 => rfl
  | n + 1 => by rw [mapN_s, List.any_append, any_pk hv G n]; simp [pk_mdB hv]
theorem shB_refl (a : Sh) : shB a a = true := by simp [shB]
/-- All packets, joined. -/
theorem joinK_pk (hv : mdB fm = true) (hg : S.good = true) (hsq : 0 ≤ fm.sq ∧ fm.sq ≤ 65535) (hm : 1 ≤ m ∧ m ≤ 8) : ∀ k, k ≤ m → joinK (mapN (pkM S fm ps m) m) k = some ⟨true, if k = 0 then 0 else fm.tm, if k = 0 then zSh else set1 S, catN (fun j => (ps.getD j []).take 20) k⟩
  | 0, _ => by
    simp only [joinK, mapN_len, if_true, catN]
    rw [decide_eq_true (by omega), decide_eq_true (by omega)]; rfl
  | k + 1, hk => by
    have ih := joinK_pk hv hg hsq hm k (by omega)
    have hp : (mapN (pkM S fm ps m) m)[k]? = some (pkM S fm ps m k) := mapN_get (by omega)
    simp only [joinK, ih, hp, Option.bind_some, mapN_len, pk_dec hg]
    have hb : badP ((⟨((k : Int) == 0), S.ky, S.sy, ((k : Int) == (m : Int) - 1), S.id, S.ba, S.te, S.sp⟩ : Sh), (ps.getD k []).take 20, 0) k m = false := by simp [badP]
    rw [hb]
    simp only [Bool.not_true, Bool.or_self, Bool.false_eq_true, if_false, Option.some.injEq]
    by_cases h0 : k = 0
    · subst h0
      simp only [roundJ, pk_dec hg, if_true]
      rfl
    · have hq : (mapN (pkM S fm ps m) m)[k - 1]? = some (pkM S fm ps m (k - 1)) := mapN_get (by omega)
      simp only [roundJ, pk_dec hg, if_neg h0, hq, if_neg (show ¬ k + 1 = 0 by omega), catN]
      rw [pk_next hsq (by omega) (by omega)]
      have : (k == k - 1 + 1) = true := by rw [beq_iff_eq]; omega
      rw [this]
      have e1 : shB (set1 ⟨((k : Int) == 0), S.ky, S.sy, ((k : Int) == (m : Int) - 1), S.id, S.ba, S.te, S.sp⟩) (set1 S) = true := shB_refl (set1 S)
      have e2 : ((pkM S fm ps m k).tm == fm.tm) = true := by simp [pkM]
      rw [e1, e2]; rfl
theorem joinS_pk (hv : mdB fm = true) (hg : S.good = true) (hsq : 0 ≤ fm.sq ∧ fm.sq ≤ 65535) (hm : 1 ≤ m ∧ m ≤ 8) : joinS (mapN (pkM S fm ps m) m) = (⟨true, fm.tm, set1 S, catN (fun j => (ps.getD j []).take 20) m⟩, 0) := by
  have h1 := any_pk (S := S) (ps := ps) (m := m) hv id m
  simp only [joinS]
  rw [show (mapN (pkM S fm ps m) m).any (fun p => !mdB p) = false from h1]
  simp only [Bool.false_eq_true, if_false, mapN_len, joinK_pk hv hg hsq hm m (Nat.le_refl _), if_true]
  rw [if_neg (by omega), if_neg (by omega)]
/-- Without one. -/
def skip (i j : Nat) : Nat := if j < i then j else j + 1
theorem joinS_less (hv : mdB fm = true) (hg : S.good = true) (hsq : 0 ≤ fm.sq ∧ fm.sq ≤ 65535) (hm : 1 ≤ m ∧ m ≤ 8) {i : Nat} (hi : i < m) : joinS (mapN (fun j => pkM S fm ps m (skip i j)) (m - 1)) = (zFr, 401) := by
  by_cases h1 : m = 1
  · subst h1; exact joinS_nil
  have hv' := any_pk (S := S) (ps := ps) (m := m) hv (skip i) (m - 1)
  have get : ∀ j, j < m - 1 → (mapN (fun j => pkM S fm ps m (skip i j)) (m - 1))[j]? = some (pkM S fm ps m (skip i j)) := fun j hj => mapN_get hj
  by_cases h0 : i = 0
  · refine joinS_bad hv' 0 _ (by rw [mapN_len]; omega) (get 0 (by omega)) (.inl ?_)
    rw [pk_dec hg]
    subst h0
    simp [badP, skip]
  · by_cases hl : i = m - 1
    · refine joinS_bad hv' (m - 2) _ (by rw [mapN_len]; omega) (get (m - 2) (by omega)) (.inl ?_)
      rw [pk_dec hg, mapN_len]
      have e : skip i (m - 2) = m - 2 := by unfold skip; rw [if_pos (by omega)]
      rw [e]
      have a1 : ((((m - 2 : Nat) : Int)) == (m : Int) - 1) = false := by rw [beq_eq_false_iff_ne]; omega
      have a2 : ((((m - 2 : Nat) : Int)) == ((m - 1 : Nat) : Int) - 1) = true := by rw [beq_iff_eq]; omega
      simp only [badP, a1, a2]; simp
    · refine joinS_bad hv' i _ (by rw [mapN_len]; omega) (get i (by omega)) (.inr ⟨h0, _, get (i - 1) (by omega), ?_⟩)
      have e1 : skip i (i - 1) = i - 1 := by unfold skip; rw [if_pos (by omega)]
      have e2 : skip i i = i + 1 := by unfold skip; rw [if_neg (by omega)]
      rw [e1, e2, pk_next hsq (by omega) (by omega), beq_eq_false_iff_ne]; omega
/-- With two exchanged. -/
theorem joinS_swap (hv : mdB fm = true) (hg : S.good = true) (hsq : 0 ≤ fm.sq ∧ fm.sq ≤ 65535) (hm : 1 ≤ m ∧ m ≤ 8) {i k : Nat} (hi : i < m) (hk : k < m) (hik : i ≠ k) :
    joinS (((mapN (pkM S fm ps m) m).set i (pkM S fm ps m k)).set k (pkM S fm ps m i)) = (zFr, 401) := by
  generalize hL : ((mapN (pkM S fm ps m) m).set i (pkM S fm ps m k)).set k (pkM S fm ps m i) = L
  have hlen : L.length = m := by rw [← hL, List.length_set, List.length_set, mapN_len]
  have get : ∀ j, j < m → L[j]? = some (pkM S fm ps m (if j = k then i else if j = i then k else j)) := fun j hj => by
    rw [← hL, List.getElem?_set, List.getElem?_set, List.length_set, mapN_len]
    by_cases h1 : k = j
    · subst h1; simp [hk]
    · have h1' : ¬ j = k := fun e => h1 e.symm
      rw [if_neg h1]
      by_cases h2 : i = j
      · subst h2; simp [hi, hik, mapN_len]
      · have h2' : ¬ j = i := fun e => h2 e.symm
        rw [if_neg h2]
        simp only [h1', h2', if_false]
        exact mapN_get hj
  have hv' : L.any (fun p => !mdB p) = false := by
    rw [List.any_eq_false]
    intro p hp
    obtain ⟨j, hj⟩ := List.getElem?_of_mem hp
    have hjm : j < m := by rw [← hlen]; exact (List.getElem?_eq_some_iff.1 hj).1
    rw [get j hjm] at hj
    simp only [Option.some.injEq] at hj
    rw [← hj]; simp [pk_mdB hv]
  -- the first place that is changed
  have key : ∀ a b : Nat, a < b → b < m → L[a]? = some (pkM S fm ps m b) → (∀ j, j < a → L[j]? = some (pkM S fm ps m j)) → joinS L = (zFr, 401) := fun a b hab hb ha hj => by
    by_cases h0 : a = 0
    · refine joinS_bad hv' a _ (by omega) ha (.inl ?_)
      rw [pk_dec hg, h0]
      have a1 : ((b : Int) == 0) = false := by rw [beq_eq_false_iff_ne]; omega
      simp only [badP, a1]; simp
    · refine joinS_bad hv' a _ (by omega) ha (.inr ⟨h0, _, hj (a - 1) (by omega), ?_⟩)
      rw [pk_next hsq (by omega) (by omega), beq_eq_false_iff_ne]; omega
  rcases Nat.lt_or_ge i k with h | h
  · exact key i k h hk (by rw [get i hi]; simp [hik]) (fun j hj => by rw [get j (by omega), if_neg (by omega), if_neg (by omega)])
  · exact key k i (by omega) hi (by rw [get k hk]; simp) (fun j hj => by rw [get j (by omega), if_neg (by omega), if_neg (by omega)])
end
end Go.Proofs.Pic
