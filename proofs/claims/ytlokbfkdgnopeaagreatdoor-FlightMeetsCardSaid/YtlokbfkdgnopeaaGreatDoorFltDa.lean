/- Texts laid as one: FltJ FltD FltJ2. -/
import Derived.Test.YtlokbfkdgnopeaaGreatDoorFltA
import Derived.Test.YtlokbfkdgnopeaaGreatDoorAbFzs
section
/- Chapter 19: octets that came in. -/
namespace Go.Proofs.Flt
open Go.Ab
set_option linter.unusedVariables false
def u81 (b : UInt8) : List AV := [.i .u8 (b.toNat : Int)]
theorem u8_bytes : ∀ l : List UInt8, bytesOf (rows u81 l) = some l
 | [] => rfl
 | b :: l => by
  show (bytesOf (rows u81 l)).bind _ = _
  rw [u8_bytes l]
  simp
theorem u8_take : ∀ (l : List UInt8) (m : Nat), List.take m (rows u81 l) = rows u81 (l.take m)
 | l, 0 => rfl
 | [], m + 1 => rfl
 | b :: l, m + 1 => by
  show .i .u8 _ :: List.take m (rows u81 l) = _
  rw [u8_take l m]; rfl
theorem u8_flat {x : List AV} (h : Flat (.i .u8) x) : ∃ b : UInt8, x = u81 b := by
 obtain ⟨n, rfl, hn⟩ := h
 have h1 : 0 ≤ n ∧ n < 256 := by
  have := hn
  simp [IntKind.min, IntKind.max, IntKind.signed, IntKind.bits] at this
  omega
 refine ⟨UInt8.ofNat n.toNat, ?_⟩
 have : (UInt8.ofNat n.toNat).toNat = n.toNat := by simp; omega
 simp only [u81, this]
 rw [Int.toNat_of_nonneg h1.1]
theorem u8s_shp {l : List AV} (h : FShp (.sl (.f (.i .u8))) l) : ∃ r : List UInt8, r.length ≤ 9223372036854775807 ∧ l = [.fz (rows u81 r) r.length] := by
 obtain ⟨ls, h3, h4, rfl⟩ := h
 obtain ⟨r, e1, e2, e3⟩ := flat_rows (T := .i .u8) (f := u81) (ok := fun _ => true) (fun x h => by
  obtain ⟨a, rfl⟩ := u8_flat h
  exact ⟨a, rfl, rfl⟩) ls h3
 exact ⟨r, by rw [e2]; exact h4, by rw [e1, e2]⟩
theorem u16_rng {n : Int} (h : IntKind.u16.min ≤ n ∧ n ≤ IntKind.u16.max) : 0 ≤ n ∧ n ≤ 65535 := by
 simp [IntKind.min, IntKind.max, IntKind.signed, IntKind.bits] at h
 omega
end Go.Proofs.Flt
end
section
/- Chapter 19: drafts, told plainly. -/
namespace Go.Proofs.Flt
open Go.Ab
set_option linter.unusedVariables false
def bd1 (b : List UInt8) : List AV := [.fz (rows u81 b) b.length]
theorem bd1_len (b : List UInt8) : (bd1 b).length = 1 := rfl
theorem u8B (j : Nat) (l : List UInt8) : belL j (rows u81 l) = true := belL_mono0 _ (rows_bel (fun _ => rfl))
theorem bd1_bel (b : List UInt8) : belL 0 (bd1 b) = true := by simp only [bd1, belL, AV.bel, u8B, Bool.and_self]
theorem bdB (j : Nat) (l : List (List UInt8)) : belL j (rows bd1 l) = true := belL_mono0 _ (rows_bel bd1_bel)
structure Dr where
 fi : Int
 ki : List UInt8
 bo : List (List UInt8)
def Dr.a (d : Dr) : List AV := [.i .u16 d.fi, .fz (rows u81 d.ki) d.ki.length, .fz (rows bd1 d.bo) d.bo.length]
theorem Dr.bel (d : Dr) : belL 0 d.a = true := by simp only [Dr.a, belL, AV.bel, u8B, bdB, Bool.and_self]
def Dr.ok (d : Dr) : Bool := decide (0 ≤ d.fi ∧ d.fi ≤ 65535 ∧ d.ki.length ≤ 9223372036854775807 ∧ d.bo.length ≤ 9223372036854775807) && d.bo.all fun b => decide (b.length ≤ 9223372036854775807)
def kindK (d : Dr) (k : Nat) : Int := match d.ki[k]? with
 | some b => b.toNat
 | none => 1
def bodyK (d : Dr) (k : Nat) : List UInt8 := match d.bo[k]? with
 | some b => b.take 60
 | none => []
def noteK (d : Dr) (k : Nat) : Nt := ⟨kindK d k, d.fi + k, bodyK d k⟩
def nts (d : Dr) : Nat → List Nt
 | 0 => []
 | k + 1 => bif decide (d.fi + k < 65536) then nts d k ++ [noteK d k] else nts d k
def notesS (d : Dr) : List Nt := nts d (min 5 d.bo.length)
theorem nts_len (d : Dr) : ∀ k, (nts d k).length ≤ k
 | 0 => Nat.le_refl _
 | k + 1 => by
  have := nts_len d k
  unfold nts
  cases decide (d.fi + k < 65536)
  · simp only [cond_false]; omega
  · simp only [cond_true, List.length_append, List.length_singleton]; omega
theorem noteK_ok {d : Dr} (hd : d.ok = true) {k : Nat} (hk : d.fi + k < 65536) : noteB (noteK d k) = true := by
 simp only [Dr.ok, Bool.and_eq_true, decide_eq_true_eq] at hd
 obtain ⟨⟨h1, h2, h3, h4⟩, h5⟩ := hd
 simp only [noteB, noteK, Bool.and_eq_true, decide_eq_true_eq]
 refine ⟨inW_of ?_, inW_of (by omega), ?_⟩
 · unfold kindK
   split
   · rename_i b hb
     have := UInt8.toNat_lt b
     omega
   · omega
 · refine decide_eq_true ?_
   unfold bodyK
   cases d.bo[k]? with
   | some b => simp only; rw [List.length_take]; omega
   | none => simp
theorem nts_ok {d : Dr} (hd : d.ok = true) : ∀ k, ∀ x ∈ nts d k, noteB x = true ∧ x.bd.length ≤ 60
 | 0, x, hx => by cases hx
 | k + 1, x, hx => by
  unfold nts at hx
  cases hc : decide (d.fi + k < 65536) with
  | false => rw [hc, cond_false] at hx; exact nts_ok hd k x hx
  | true =>
   rw [hc, cond_true] at hx
   rcases List.mem_append.1 hx with h | h
   · exact nts_ok hd k x h
   · rw [List.mem_singleton] at h
     subst h
     refine ⟨noteK_ok hd (of_decide_eq_true hc), ?_⟩
     simp only [noteK, bodyK]
     split
     · rw [List.length_take]; omega
     · simp
theorem notes_ok {d : Dr} (hd : d.ok = true) : ∀ x ∈ notesS d, noteB x = true ∧ x.bd.length ≤ 60 := nts_ok hd _
theorem notes_len (d : Dr) : (notesS d).length ≤ 5 := Nat.le_trans (nts_len d _) (by omega)
end Go.Proofs.Flt
end
section
/- Chapter 19: drafts that came in. -/
namespace Go.Proofs.Flt
open Go.Ab
set_option linter.unusedVariables false
theorem shp_rows {α : Type} {E : TyF} {f : α → List AV} {ok : α → Bool} (h : ∀ x, FShp E x → ∃ a, ok a = true ∧ x = f a) : ∀ ls : List (List AV), (∀ x ∈ ls, FShp E x) → ∃ r : List α, ls.flatten = rows f r ∧ r.length = ls.length ∧ r.all ok = true
 | [], _ => ⟨[], rfl, rfl, rfl⟩
 | x :: ls, hx => by
  obtain ⟨a, h1, rfl⟩ := h x (hx x (by simp))
  obtain ⟨r, e1, e2, e3⟩ := shp_rows h ls (fun y hy => hx y (by simp [hy]))
  exact ⟨a :: r, by rw [List.flatten_cons, e1, rows_cons], by simp [e2], by rw [List.all_cons, h1, e3]; rfl⟩
theorem bd_shp {l : List AV} (h : FShp (.sl (.sl (.f (.i .u8)))) l) : ∃ r : List (List UInt8), r.length ≤ 9223372036854775807 ∧ (r.all fun b => decide (b.length ≤ 9223372036854775807)) = true ∧ l = [.fz (rows bd1 r) r.length] := by
 obtain ⟨ls, h3, h4, rfl⟩ := h
 obtain ⟨r, e1, e2, e3⟩ := shp_rows (E := .sl (.f (.i .u8))) (f := bd1) (ok := fun b => decide (b.length ≤ 9223372036854775807)) (fun x h => by
  obtain ⟨b, hb, rfl⟩ := u8s_shp h
  exact ⟨b, decide_eq_true hb, rfl⟩) ls h3
 exact ⟨r, by rw [e2]; exact h4, e3, by rw [e1, e2]⟩
theorem dr_shp {l : List AV} (h : FShp (.st [.f (.i .u16), .sl (.f (.i .u8)), .sl (.sl (.f (.i .u8)))]) l) : ∃ d : Dr, d.ok = true ∧ l = d.a := by
 obtain ⟨a1, r1, rfl, h1, a2, r2, rfl, h2, a3, r3, rfl, h3, rfl⟩ := h
 obtain ⟨fi, rfl, hfi⟩ := h1
 obtain ⟨ki, hk, rfl⟩ := u8s_shp h2
 obtain ⟨bo, hb1, hb2, rfl⟩ := bd_shp h3
 have := u16_rng hfi
 refine ⟨⟨fi, ki, bo⟩, ?_, rfl⟩
 simp only [Dr.ok, Bool.and_eq_true, decide_eq_true_eq]
 exact ⟨⟨by omega, by omega, hk, hb1⟩, hb2⟩
end Go.Proofs.Flt
end
