/- The abstract layer, part 30: facts on numbers. -/
import Derived.Test.YtndbgcmgjnjnhaaAbTab
namespace Go.Ab
set_option linter.unusedVariables false
set_option linter.unusedSimpArgs false

theorem wrapL {n : Int} (h : -9223372036854775808 ≤ n) (h' : n ≤ 9223372036854775807) : IntKind.i64.wrap n = n := by
  simp only [IntKind.wrap, IntKind.bits, IntKind.signed]
  simp
  split <;> omega
theorem wrapU8 (n : Int) : IntKind.u8.wrap n = n % 256 := by
  simp [IntKind.wrap, IntKind.bits, IntKind.signed]
theorem wrapU16 (n : Int) : IntKind.u16.wrap n = n % 65536 := by
  simp [IntKind.wrap, IntKind.bits, IntKind.signed]
theorem wrapU32 (n : Int) : IntKind.u32.wrap n = n % 4294967296 := by
  simp [IntKind.wrap, IntKind.bits, IntKind.signed]
theorem wrapU64 (n : Int) : IntKind.u64.wrap n = n % 18446744073709551616 := by
  simp [IntKind.wrap, IntKind.bits, IntKind.signed]
/-- A mask of k ones. -/
theorem andMask (k : Nat) (m n : Int) (hk : k ≤ 62) (hm : m = 2 ^ k - 1) : andI .i64 n m = n % 2 ^ k := by
  have hp : (2 : Int) ^ k = ((2 ^ k : Nat) : Int) := by simp
  have hle : (2 : Nat) ^ k ≤ 2 ^ 62 := Nat.pow_le_pow_right (by decide) hk
  have h62 : (2 : Nat) ^ 62 = 4611686018427387904 := by decide
  have hpos : 0 < (2 : Nat) ^ k := Nat.two_pow_pos k
  unfold andI
  have h : (BitVec.ofInt 64 n &&& BitVec.ofInt 64 m).toNat = (n % 2 ^ k).toNat := by
    rw [BitVec.toNat_and]
    have e : (BitVec.ofInt 64 m).toNat = 2 ^ k - 1 := by
      rw [BitVec.toNat_ofInt, hm, hp]; omega
    rw [e, Nat.and_two_pow_sub_one_eq_mod, BitVec.toNat_ofInt]
    have hd : ((2 ^ k : Nat) : Int) ∣ ((2 ^ 64 : Nat) : Int) := Int.natCast_dvd_natCast.2 (Nat.pow_dvd_pow 2 (by omega))
    have h2 : (n % ((2 ^ 64 : Nat) : Int)) % ((2 ^ k : Nat) : Int) = n % ((2 ^ k : Nat) : Int) := Int.emod_emod_of_dvd n hd
    have h3 : 0 ≤ n % ((2 ^ 64 : Nat) : Int) := Int.emod_nonneg _ (by decide)
    rw [hp, ← h2]
    generalize n % ((2 ^ 64 : Nat) : Int) = q at h3
    obtain ⟨q', rfl⟩ := Int.eq_ofNat_of_zero_le h3
    have h4 : ((q' : Nat) : Int) % ((2 ^ k : Nat) : Int) = ((q' % 2 ^ k : Nat) : Int) := by omega
    show (((q' : Nat) : Int)).toNat % 2 ^ k = _
    rw [h4, Int.toNat_natCast, Int.toNat_natCast]
  show IntKind.i64.wrap ((BitVec.ofInt 64 n &&& BitVec.ofInt 64 m).toNat : Int) = n % 2 ^ k
  rw [h, hp]
  have h1 : 0 ≤ n % ((2 ^ k : Nat) : Int) := Int.emod_nonneg _ (by omega)
  have h2 : n % ((2 ^ k : Nat) : Int) < ((2 ^ k : Nat) : Int) := Int.emod_lt_of_pos _ (by omega)
  rw [wrapL (by omega) (by omega)]
  omega
theorem and15 (n : Int) : andI .i64 n 32767 = n % 32768 := andMask 15 _ n (by decide) (by decide)
theorem and16 (n : Int) : andI .i64 n 65535 = n % 65536 := andMask 16 _ n (by decide) (by decide)
theorem and8 (n : Int) : andI .i64 n 255 = n % 256 := andMask 8 _ n (by decide) (by decide)
theorem and32 (n : Int) : andI .i64 n 4294967295 = n % 4294967296 := andMask 32 _ n (by decide) (by decide)

theorem spB_TT {c : Bool} : spB c True True = True := by cases c <;> simp [spB]
def P256 (p : Nat → Bool) : Bool := (List.range 256).all p
theorem p256 {p : Nat → Bool} (h : P256 p = true) (a : UInt8) : p a.toNat = true := by
  simp only [P256, List.all_eq_true, List.mem_range] at h
  exact h _ a.toNat_lt
end Go.Ab
