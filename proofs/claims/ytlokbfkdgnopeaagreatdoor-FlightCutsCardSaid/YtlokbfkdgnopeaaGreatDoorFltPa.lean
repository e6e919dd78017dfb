/- Texts laid as one: FltP1 FltP2. -/
import Derived.Test.YtlokbfkdgnopeaaGreatDoorFltA
import Derived.Test.YtlokbfkdgnopeaaGreatDoorFltDa
section
/- Chapter 19, plain: what is cut is read back. -/
namespace Go.Proofs.Flt
open Go.Ab
set_option maxRecDepth 100000
set_option linter.unusedSimpArgs false
set_option linter.unusedVariables false
theorem pcO_len (p : Pc) : (pcO p).length = 12 + p.pt.length := by
 simp only [pcO, List.length_append]
 have : ∀ n k, (fld n k).length = k := fun n k => by
  induction k generalizing n with
  | zero => rfl
  | succ k ih => simp [fld, ih]
 simp only [this]
def cutB (p : Pc) : Bool := wholeB p && decide (0 ≤ p.kd ∧ p.kd ≤ 255 ∧ 0 ≤ p.ln ∧ 0 ≤ p.sq ∧ p.sq ≤ 65535 ∧ 0 ≤ p.ofs)
theorem cutN_lt' {n sz k : Nat} (hs : 1 ≤ sz) (h : k < cutN n sz) : k = 0 ∨ k * sz < n := by
 unfold cutN at h
 split at h
 · left; omega
 · right
   have h1 : k + 1 ≤ (n + sz - 1) / sz := h
   have h2 := (Nat.le_div_iff_mul_le (by omega)).1 h1
   rw [Nat.succ_mul] at h2
   omega
theorem cutN_ge' {n sz : Nat} (hs : 1 ≤ sz) : 0 < cutN n sz ∧ n ≤ cutN n sz * sz := by
 unfold cutN
 split
 · omega
 · have h1 : n + sz - 1 < ((n + sz - 1) / sz + 1) * sz := by
    have := Nat.lt_div_mul_add (a := n + sz - 1) (b := sz) (by omega)
    rw [Nat.succ_mul]; omega
   rw [Nat.succ_mul] at h1
   refine ⟨Nat.div_pos (by omega) (by omega), by omega⟩
theorem cutP_ok {x : Nt} {sz k : Nat} (hx : noteB x = true) (hs : 1 ≤ sz ∧ sz ≤ 1100) (hk : k < cutN x.bd.length sz) : cutB (cutP x sz k) = true := by
 simp only [noteB, Bool.and_eq_true, decide_eq_true_eq] at hx
 obtain ⟨h1, h2, h3⟩ := hx
 have h1 := inW_t h1
 have h2 := inW_t h2
 have hk' := cutN_lt' hs.1 hk
 have hpl : ((x.bd.drop (k * sz)).take sz).length = min sz (x.bd.length - k * sz) := by rw [List.length_take, List.length_drop]
 have hkz : k * sz ≤ x.bd.length := by rcases hk' with rfl | h <;> omega
 simp only [cutB, wholeB, cutP, Bool.and_eq_true, decide_eq_true_eq, hpl]
 refine ⟨⟨decide_eq_true (by omega), by omega, by omega, ?_⟩, decide_eq_true (by omega)⟩
 rw [beq_iff_eq, Bool.eq_iff_iff, beq_iff_eq, beq_iff_eq]
 constructor
 · intro h
   rcases hk' with rfl | h' <;> omega
 · intro h
   omega
end Go.Proofs.Flt
end
section
/- Chapter 19: what a cut gives, and the texts that FlightCuts makes of it. -/
namespace Go.Proofs.Flt
open Go.Ab
set_option linter.unusedVariables false
theorem mapN_mem {α : Type} {g : Nat → α} {a : α} : ∀ {k : Nat}, a ∈ mapN g k → ∃ i, i < k ∧ g i = a
 | 0, h => by cases h
 | k + 1, h => by
  rw [mapN_s] at h
  rcases List.mem_append.1 h with h | h
  · obtain ⟨i, h1, h2⟩ := mapN_mem h
    exact ⟨i, by omega, h2⟩
  · rw [List.mem_singleton] at h
    exact ⟨k, by omega, h.symm⟩
theorem cutN_le {n sz : Nat} (hs : 1 ≤ sz) (hn : n ≤ 4000) : cutN n sz ≤ 4000 := by
 unfold cutN
 split
 · omega
 · have h1 : (n + sz - 1) / sz ≤ n := by
    refine Nat.div_le_of_le_mul ?_
    have : n * 1 ≤ n * sz := Nat.mul_le_mul_left _ hs
    have h2 : n + sz - 1 ≤ sz * n := by
     obtain ⟨s, rfl⟩ : ∃ s, sz = s + 1 := ⟨sz - 1, by omega⟩
     have : s * 1 ≤ s * n := Nat.mul_le_mul_left _ (by omega)
     rw [Nat.succ_mul]; omega
    exact h2
   omega
theorem cutS_ok (x : Nt) (sz : Int) : ((cutS x sz).2 = 0 ∧ (cutS x sz).1 ≠ [] ∧ (cutS x sz).1.length ≤ 4000 ∧ ∀ s ∈ (cutS x sz).1, 12 ≤ s.length ∧ s.length ≤ 1112) ∨ ((cutS x sz).2 ≠ 0 ∧ (cutS x sz).1 = []) := by
 unfold cutS
 cases h1 : noteB x
 · exact .inr ⟨(fun h => by cases h), rfl⟩
 cases h2 : inW (sz - 1) 1099
 · exact .inr ⟨(fun h => by cases h), rfl⟩
 have h2 := inW_t h2
 simp only [noteB, Bool.and_eq_true, decide_eq_true_eq] at h1
 refine .inl ⟨rfl, ?_, ?_, ?_⟩
 · intro h
   have : (cutL x sz.toNat).length = 0 := by simp only [cond_true] at h; rw [h]; rfl
   simp only [cutL, mapN_len] at this
   have := (cutN_ge' (n := x.bd.length) (sz := sz.toNat) (by omega)).1
   omega
 · simp only [cond_true, cutL, mapN_len]
   exact cutN_le (by omega) h1.2.2
 · intro s hs
   simp only [cond_true, cutL] at hs
   obtain ⟨k, hk, rfl⟩ := mapN_mem hs
   rw [pcO_len]
   simp only [cutP, List.length_take]
   omega
def newS (C : List (List UInt8)) (a o : Nat) : List (List UInt8) := match C with
 | [] => []
 | c :: l => [(c :: l).getD (o % (c :: l).length) [], ((c :: l).getD (o % (c :: l).length) []).take (a % (((c :: l).getD (o % (c :: l).length) []).length + 1)), (c :: l).getD (o % (c :: l).length) [] ++ [120], ((c :: l).getD (o % (c :: l).length) []).set (a % ((c :: l).getD (o % (c :: l).length) []).length) (UInt8.ofNat o)]
theorem newS_some {C : List (List UInt8)} {a o : Nat} {s : List UInt8} (hs : C[o % C.length]? = some s) : newS C a o = [s, s.take (a % (s.length + 1)), s ++ [120], s.set (a % s.length) (UInt8.ofNat o)] := by
 cases C with
 | nil => simp at hs
 | cons c l =>
  simp only [newS, List.getD_eq_getElem?_getD, hs, Option.getD_some]
theorem newS_len (C : List (List UInt8)) (a o : Nat) : (newS C a o).length ≤ 4 := by
 cases C <;> simp [newS]
theorem newS_ok {C : List (List UInt8)} {a o : Nat} (h : ∀ s ∈ C, s.length ≤ 1112) : ∀ s ∈ newS C a o, s.length ≤ 1200 := by
 cases C with
 | nil => intro s hs; cases hs
 | cons c l =>
  obtain ⟨x, hx⟩ : ∃ x, (c :: l)[o % (c :: l).length]? = some x := ⟨_, List.getElem?_eq_getElem (Nat.mod_lt _ (by simp))⟩
  have hl := h x (List.mem_of_getElem? hx)
  rw [newS_some hx]
  intro s hs
  simp only [List.mem_cons, List.not_mem_nil, or_false] at hs
  rcases hs with rfl | rfl | rfl | rfl
  · omega
  · rw [List.length_take]; omega
  · simp; omega
  · rw [List.length_set]; omega
theorem u8m_bytes (l : List UInt8) : bytesOf (l.map fun b => AV.i .u8 (b.toNat : Int)) = some l := by
 have := u8_bytes l
 have h : rows u81 l = l.map fun b => AV.i .u8 (b.toNat : Int) := by
  induction l with
  | nil => rfl
  | cons b l ih => rw [rows_cons, ih (u8_bytes l)]; rfl
 rwa [h] at this
theorem u8m_set (l : List UInt8) (i o : Nat) (ho : o < 256) : List.set (l.map fun b => AV.i .u8 (b.toNat : Int)) i (AV.i .u8 (o : Int)) = (l.set i (UInt8.ofNat o)).map fun b => AV.i .u8 (b.toNat : Int) := by
 rw [List.map_set]
 have : (UInt8.ofNat o).toNat = o := by simp; omega
 rw [this]
end Go.Proofs.Flt
end
