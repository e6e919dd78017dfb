/- Chapter 19: octets that came in. -/
import Derived.Test.YtlokbfkdgnopeaaDoorFltA
import Derived.Test.YtlokbfkdgnopeaaDoorAbFzs
namespace Go.Proofs.Flt
open Go.Ab
set_option linter.unusedVariables false
def u81 (b : UInt8) : List AV := [.i .u8 (b.toNat : Int)]
theorem u8_bytes : ∀ l : List UInt8, bytesOf (rows u81 l) = some l
 | [] => rfl
 | b :: l => by
  show (bytesOf (rows u81 l)).bind _ = _
  rw [u8_bytes l]
  simp
theorem u8_take : ∀ (l : List UInt8) (m : Nat), List.take m (rows u81 l) = rows u81 (l.take m)
 | l, 0 => rfl
 | [], m + 1 => rfl
 | b :: l, m + 1 => by
  show .i .u8 _ :: List.take m (rows u81 l) = _
  rw [u8_take l m]; rfl
theorem u8_flat {x : List AV} (h : Flat (.i .u8) x) : ∃ b : UInt8, x = u81 b := by
 obtain ⟨n, rfl, hn⟩ := h
 have h1 : 0 ≤ n ∧ n < 256 := by
  have := hn
  simp [IntKind.min, IntKind.max, IntKind.signed, IntKind.bits] at this
  omega
 refine ⟨UInt8.ofNat n.toNat, ?_⟩
 have : (UInt8.ofNat n.toNat).toNat = n.toNat := by simp; omega
 simp only [u81, this]
 rw [Int.toNat_of_nonneg h1.1]
theorem u8s_shp {l : List AV} (h : FShp (.sl (.f (.i .u8))) l) : ∃ r : List UInt8, r.length ≤ 9223372036854775807 ∧ l = [.fz (rows u81 r) r.length] := by
 obtain ⟨ls, h3, h4, rfl⟩ := h
 obtain ⟨r, e1, e2, e3⟩ := flat_rows (T := .i .u8) (f := u81) (ok := fun _ => true) (fun x h => by
  obtain ⟨a, rfl⟩ := u8_flat h
  exact ⟨a, rfl, rfl⟩) ls h3
 exact ⟨r, by rw [e2]; exact h4, by rw [e1, e2]⟩
theorem u8_rng {n : Int} (h : IntKind.u8.min ≤ n ∧ n ≤ IntKind.u8.max) : 0 ≤ n ∧ n ≤ 255 := by
 simp [IntKind.min, IntKind.max, IntKind.signed, IntKind.bits] at h
 omega
theorem u16_rng {n : Int} (h : IntKind.u16.min ≤ n ∧ n ≤ IntKind.u16.max) : 0 ≤ n ∧ n ≤ 65535 := by
 simp [IntKind.min, IntKind.max, IntKind.signed, IntKind.bits] at h
 omega
end Go.Proofs.Flt
