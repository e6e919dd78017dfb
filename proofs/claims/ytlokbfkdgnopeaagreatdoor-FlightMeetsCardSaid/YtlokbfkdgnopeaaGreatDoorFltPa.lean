/- Texts laid as one: FltP1 FltP2. -/
import Derived.Test.YtlokbfkdgnopeaaGreatDoorFltA
import Derived.Test.YtlokbfkdgnopeaaGreatDoorFltDa
section
/- Chapter 19, plain: what is cut is read back. -/
namespace Go.Proofs.Flt
open Go.Ab
set_option maxRecDepth 100000
set_option linter.unusedSimpArgs false
set_option linter.unusedVariables false
theorem num_snoc' (l : List UInt8) (b : UInt8) : num (l ++ [b]) = num l * 256 + (b.toNat : Int) := by simp [num, List.foldl_append]
theorem num_fld : ∀ (k n : Nat), num (fld n k) = ((n % 256 ^ k : Nat) : Int)
 | 0, n => by simp [fld, num, Nat.mod_one]
 | k + 1, n => by
  have e : fld n (k + 1) = fld (n / 256) k ++ [UInt8.ofNat n] := rfl
  rw [e, num_snoc', num_fld k (n / 256), Nat.pow_succ, Nat.mul_comm (256 ^ k) 256, Nat.mod_mul]
  have : (UInt8.ofNat n).toNat = n % 256 := by simp
  rw [this]
  omega
theorem num_fldI {k : Nat} {a : Int} (h0 : 0 ≤ a) (h1 : a < (256 ^ k : Nat)) : num (fld a.toNat k) = a := by
 rw [num_fld, Nat.mod_eq_of_lt (by omega)]
 omega
theorem pcO_len (p : Pc) : (pcO p).length = 12 + p.pt.length := by
 simp only [pcO, List.length_append]
 have : ∀ n k, (fld n k).length = k := fun n k => by
  induction k generalizing n with
  | zero => rfl
  | succ k ih => simp [fld, ih]
 simp only [this]
def cutB (p : Pc) : Bool := wholeB p && decide (0 ≤ p.kd ∧ p.kd ≤ 255 ∧ 0 ≤ p.ln ∧ 0 ≤ p.sq ∧ p.sq ≤ 65535 ∧ 0 ≤ p.ofs)
theorem read_cut {p : Pc} (h : cutB p = true) : readS (pcO p) = (p, 0) := by
 simp only [cutB, Bool.and_eq_true, decide_eq_true_eq] at h
 obtain ⟨hw, h1, h2, h3, h4, h5, h6⟩ := h
 have hw2 := hw
 simp only [wholeB, Bool.and_eq_true, decide_eq_true_eq] at hw2
 obtain ⟨w1, w2, w3, w4⟩ := hw2
 have e1 : partS (pcO p) 0 1 = p.kd := (show partS (pcO p) 0 1 = num (fld p.kd.toNat 1) from rfl).trans (num_fldI h1 (by omega))
 have e2 : partS (pcO p) 1 4 = p.ln := (show partS (pcO p) 1 4 = num (fld p.ln.toNat 3) from rfl).trans (num_fldI h3 (by omega))
 have e3 : partS (pcO p) 4 6 = p.sq := (show partS (pcO p) 4 6 = num (fld p.sq.toNat 2) from rfl).trans (num_fldI h4 (by omega))
 have e4 : partS (pcO p) 6 9 = p.ofs := (show partS (pcO p) 6 9 = num (fld p.ofs.toNat 3) from rfl).trans (num_fldI h6 (by omega))
 have e5 : partS (pcO p) 9 12 = (p.pt.length : Int) := (show partS (pcO p) 9 12 = num (fld p.pt.length 3) from rfl).trans (by rw [num_fld, Nat.mod_eq_of_lt (by omega)])
 have e6 : (pcO p).drop 12 = p.pt := rfl
 have hP : readP (pcO p) = p := by rw [readP, e1, e2, e3, e4, e6]
 have hl := pcO_len p
 unfold readS
 rw [hP, hl, e5, if_neg (by omega), if_neg (by omega), if_neg (by omega), if_neg (by omega), if_pos hw]
theorem cutN_lt' {n sz k : Nat} (hs : 1 ≤ sz) (h : k < cutN n sz) : k = 0 ∨ k * sz < n := by
 unfold cutN at h
 split at h
 · left; omega
 · right
   have h1 : k + 1 ≤ (n + sz - 1) / sz := h
   have h2 := (Nat.le_div_iff_mul_le (by omega)).1 h1
   rw [Nat.succ_mul] at h2
   omega
theorem cutN_ge' {n sz : Nat} (hs : 1 ≤ sz) : 0 < cutN n sz ∧ n ≤ cutN n sz * sz := by
 unfold cutN
 split
 · omega
 · have h1 : n + sz - 1 < ((n + sz - 1) / sz + 1) * sz := by
    have := Nat.lt_div_mul_add (a := n + sz - 1) (b := sz) (by omega)
    rw [Nat.succ_mul]; omega
   rw [Nat.succ_mul] at h1
   refine ⟨Nat.div_pos (by omega) (by omega), by omega⟩
theorem cutP_ok {x : Nt} {sz k : Nat} (hx : noteB x = true) (hs : 1 ≤ sz ∧ sz ≤ 1100) (hk : k < cutN x.bd.length sz) : cutB (cutP x sz k) = true := by
 simp only [noteB, Bool.and_eq_true, decide_eq_true_eq] at hx
 obtain ⟨h1, h2, h3⟩ := hx
 have h1 := inW_t h1
 have h2 := inW_t h2
 have hk' := cutN_lt' hs.1 hk
 have hpl : ((x.bd.drop (k * sz)).take sz).length = min sz (x.bd.length - k * sz) := by rw [List.length_take, List.length_drop]
 have hkz : k * sz ≤ x.bd.length := by rcases hk' with rfl | h <;> omega
 simp only [cutB, wholeB, cutP, Bool.and_eq_true, decide_eq_true_eq, hpl]
 refine ⟨⟨decide_eq_true (by omega), by omega, by omega, ?_⟩, decide_eq_true (by omega)⟩
 rw [beq_iff_eq, Bool.eq_iff_iff, beq_iff_eq, beq_iff_eq]
 constructor
 · intro h
   rcases hk' with rfl | h' <;> omega
 · intro h
   omega
end Go.Proofs.Flt
end
section
/- Chapter 19: what a cut gives, and the texts that FlightCuts makes of it. -/
namespace Go.Proofs.Flt
open Go.Ab
set_option linter.unusedVariables false
theorem mapN_mem {α : Type} {g : Nat → α} {a : α} : ∀ {k : Nat}, a ∈ mapN g k → ∃ i, i < k ∧ g i = a
 | 0, h => by cases h
 | k + 1, h => by
  rw [mapN_s] at h
  rcases List.mem_append.1 h with h | h
  · obtain ⟨i, h1, h2⟩ := mapN_mem h
    exact ⟨i, by omega, h2⟩
  · rw [List.mem_singleton] at h
    exact ⟨k, by omega, h.symm⟩
theorem cutN_le {n sz : Nat} (hs : 1 ≤ sz) (hn : n ≤ 4000) : cutN n sz ≤ 4000 := by
 unfold cutN
 split
 · omega
 · have h1 : (n + sz - 1) / sz ≤ n := by
    refine Nat.div_le_of_le_mul ?_
    have : n * 1 ≤ n * sz := Nat.mul_le_mul_left _ hs
    have h2 : n + sz - 1 ≤ sz * n := by
     obtain ⟨s, rfl⟩ : ∃ s, sz = s + 1 := ⟨sz - 1, by omega⟩
     have : s * 1 ≤ s * n := Nat.mul_le_mul_left _ (by omega)
     rw [Nat.succ_mul]; omega
    exact h2
   omega
end Go.Proofs.Flt
end
