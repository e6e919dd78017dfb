/- Plain facts on the descriptor of chapter 40: reading and writing are inverse. -/
import Derived.Test.YtndbgcmgjnjnhaaPicC4
namespace Go.Proofs.Pic
open Go.Ab
set_option maxRecDepth 100000
set_option linter.unusedSimpArgs false
set_option linter.unusedVariables false

theorem draft_good {f i b t s : Int} (hi : 0 ≤ i ∧ i ≤ 65535) (hb : 0 ≤ b ∧ b ≤ 255) (ht : 0 ≤ t ∧ t ≤ 255) (hs : 0 ≤ s ∧ s ≤ 255) : (draftS f i b t s).good = true := by
  have e1 : t.tmod 4 = t % 4 := Int.tmod_eq_emod_of_nonneg ht.1
  have e2 : s.tmod 3 = s % 3 := Int.tmod_eq_emod_of_nonneg hs.1
  have e3 : i.tmod 32768 = i % 32768 := Int.tmod_eq_emod_of_nonneg hi.1
  rw [Sh.good_iff]
  simp only [draftS, e1, e2, e3]
  rw [wrap64 (i % 32768) (by omega) (by omega), wrap64 b (by omega) (by omega), wrap64 (t % 4) (by omega) (by omega), wrap64 (s % 3) (by omega) (by omega)]
  refine ⟨by omega, by omega, by omega, by omega, by omega, by omega, by omega, by omega, fun h => ?_, fun h => ?_⟩
  · by_cases h4 : t % 4 = 0
    · exact h4
    · simp [h4] at h
  · by_cases h4 : t % 4 = 0
    · simp [h4] at h
    · exact h4

theorem Sh.ext' {s t : Sh} (h1 : s.st = t.st) (h2 : s.ky = t.ky) (h3 : s.sy = t.sy) (h4 : s.la = t.la) (h5 : s.id = t.id) (h6 : s.ba = t.ba) (h7 : s.te = t.te) (h8 : s.sp = t.sp) : s = t := by
  cases s; cases t; simp_all

theorem bits_back : ∀ a b c d : Bool, ((UInt8.ofNat (bits4 a b c d).toNat).toNat / 64 % 2 == 1) = a ∧ ((UInt8.ofNat (bits4 a b c d).toNat).toNat / 32 % 2 == 1) = b ∧ ((UInt8.ofNat (bits4 a b c d).toNat).toNat / 16 % 2 == 1) = c ∧ ((UInt8.ofNat (bits4 a b c d).toNat).toNat / 8 % 2 == 1) = d ∧ (UInt8.ofNat (bits4 a b c d).toNat).toNat / 128 = 1 ∧ (UInt8.ofNat (bits4 a b c d).toNat).toNat % 8 = 0 := by decide +kernel

theorem dec_enc {s : Sh} (hg : s.good = true) (r : List UInt8) : dec (s.enc ++ r) = (s, r, 0) := by
  have hg' := hg
  rw [Sh.good_iff] at hg
  obtain ⟨h1, h2, h3, h4, h5, h6, h7, h8, -⟩ := hg
  obtain ⟨q1, q2, q3, q4, q5, q6⟩ := bits_back s.st s.ky s.sy s.la
  have u1 : ∀ n : Nat, (UInt8.ofNat n).toNat = n % 256 := fun n => by simp
  have e : shOf (UInt8.ofNat (bits4 s.st s.ky s.sy s.la).toNat) (UInt8.ofNat (128 + s.id / 256).toNat) (UInt8.ofNat (s.id % 256).toNat) (UInt8.ofNat s.ba.toNat) (UInt8.ofNat (64 * s.te + 16 * s.sp).toNat) = s := by
    refine Sh.ext' ?_ ?_ ?_ ?_ ?_ ?_ ?_ ?_
    · refine Eq.trans ?_ q1; simp only [shOf]; rw [Bool.eq_iff_iff]; simp only [beq_iff_eq]; omega
    · refine Eq.trans ?_ q2; simp only [shOf]; rw [Bool.eq_iff_iff]; simp only [beq_iff_eq]; omega
    · refine Eq.trans ?_ q3; simp only [shOf]; rw [Bool.eq_iff_iff]; simp only [beq_iff_eq]; omega
    · refine Eq.trans ?_ q4; simp only [shOf]; rw [Bool.eq_iff_iff]; simp only [beq_iff_eq]; omega
    · simp only [shOf, u1]; omega
    · simp only [shOf, u1]; omega
    · simp only [shOf, u1]; omega
    · simp only [shOf, u1]; omega
  have hf : fine (UInt8.ofNat (bits4 s.st s.ky s.sy s.la).toNat) (UInt8.ofNat (128 + s.id / 256).toNat) (UInt8.ofNat (s.id % 256).toNat) (UInt8.ofNat s.ba.toNat) (UInt8.ofNat (64 * s.te + 16 * s.sp).toNat) = true := by
    simp only [fine, e, hg', Bool.and_true, Bool.and_eq_true, decide_eq_true_eq]
    refine ⟨⟨q5, q6⟩, ?_, ?_⟩
    · rw [u1]; omega
    · rw [u1]; omega
  simp only [Sh.enc, List.cons_append, List.nil_append, dec]
  rw [if_pos hf, e]

theorem enc_dec {l : List UInt8} (h : (dec l).2.2 = 0) : (dec l).1.enc ++ (dec l).2.1 = l := by
  unfold dec at h ⊢
  split at h
  · split at h
    · rename_i a b c d e r hf
      rw [if_pos hf]
      simp only [fine, Bool.and_eq_true] at hf
      have := enc_shOf a b c d e
      rw [hf.1, hf.2.1, hf.2.2.1] at this
      simp only [Bool.and_self, beq_iff_eq] at this
      simp only [this, List.cons_append, List.nil_append]
    · cases h
  · cases h

theorem dec_err (l : List UInt8) : (dec l).2.2 = 0 ∨ ((dec l).2.2 = 5 ∧ (dec l).1 = zSh ∧ (dec l).2.1 = []) ∨ ((dec l).2.2 = 7 ∧ (dec l).1 = zSh ∧ (dec l).2.1 = []) := by
  unfold dec
  split
  · split
    · exact .inl rfl
    · exact .inr (.inl ⟨rfl, rfl, rfl⟩)
  · exact .inr (.inr ⟨rfl, rfl, rfl⟩)

theorem put_enc {s : Sh} (hg : s.good = true) (r : List UInt8) {i b : Int} (h : inR i b = true) : putS (s.enc ++ r) i b = ({ s with id := i, ba := b : Sh }.enc ++ r, 0) := by
  simp only [putS, dec_enc hg, h, if_true]
  rfl
end Go.Proofs.Pic
