/- PictureJoins, joined; printed by joinlib.py. It holds for every input. -/
import Derived.Test.YtndbgcmgjnjnhaaRows
import Derived.Test.YtndbgcmgjnjnhaaAbFzs
import Derived.Test.YtndbgcmgjnjnhaaAbLen
import Derived.Test.YtndbgcmgjnjnhaaPicN5
namespace Go.Proofs.Ytndbgcmgjnjnhaa
open Go.Ab Go.ChangeShapes Go.WideShapes Go.ChangeAt Go.RowKit
set_option linter.unusedVariables false
theorem own : ownKnob Try.prog.godebug = none := by kernel_rfl
theorem laid : laidOutB Try.prog = true := by kernel_rfl
def aTys : List TyF := [.f (.st [.i .u8, .i .u16, .i .u8, .i .u8, .i .u8]), .st [.f .b, .f (.i .u8), .f (.i .u16), .f (.i .u32), .f (.i .u32), .sl (.f (.i .u32)), .sl (.f (.st [.i .u8, .s])), .f (.i .u8), .f .s], .sl (.f .s), .f (.st [.i .u8, .i .u8, .i .i64]), .f (.st [.i .u16, .i .u8, .s]), .f (.ar 2 (.i .u8))]
set_option maxRecDepth 100000 in
theorem core : ∀ avs, ArgsF aTys avs → FTL Try.prog 11 avs (glH 0 []) 0 (.b true) [] 0 := by
 intro avs h
 show FTL Try.prog 11 avs [] 0 (.b true) [] 0
 obtain ⟨l1, vs1, rfl, d1, l2, vs2, rfl, d2, l3, vs3, rfl, d3, l5, vs5, rfl, d5, l6, vs6, rfl, d6, l4, vs4, rfl, d4, rfl⟩ := h
 obtain ⟨_, _, rfl, ⟨f, rfl, hf⟩, _, _, rfl, ⟨i, rfl, hi⟩, _, _, rfl, ⟨b, rfl, hb⟩, _, _, rfl, ⟨t, rfl, ht⟩, _, _, rfl, ⟨s, rfl, hs⟩, rfl⟩ := d1
 obtain ⟨dm, rfl, hd⟩ := dm_shp d2
 obtain ⟨ls, h1, h2, rfl⟩ := d3
 obtain ⟨ps, e1, e2, _⟩ := flat_rows (T := .s) (f := strR) (ok := fun _ => true) (fun x h => by obtain ⟨b, rfl, _⟩ := h; exact ⟨b, rfl, rfl⟩) ls h1
 obtain ⟨_, _, rfl, ⟨bw, rfl, hbw⟩, _, _, rfl, ⟨ba, rfl, hba⟩, _, _, rfl, ⟨bn, rfl, hbn⟩, rfl⟩ := d5
 obtain ⟨_, _, rfl, ⟨ea, rfl, hea⟩, _, _, rfl, ⟨el, rfl, hel⟩, _, _, rfl, ⟨tx, rfl, htx⟩, rfl⟩ := d6
 obtain ⟨ls4, h41, rfl, h42⟩ := d4
 obtain ⟨a, c, rfl⟩ := len2 h41
 obtain ⟨x, rfl, hx⟩ := h42 a (by simp)
 obtain ⟨y, rfl, hy⟩ := h42 c (by simp)
 have := Pic.body11 f i b t s dm ps ⟨bw, ba, bn⟩ ea el tx x y hd (Pic.draft_good hi hb ht hs) (by simp only [Pic.Bm.okB, Pic.inI_of (lo := 0) (hi := 255) hbw, Pic.inI_of (lo := 0) (hi := 255) hba, Bool.and_self]) hea hel hx hy
 rw [← e1, e2] at this
 exact this
set_option maxRecDepth 100000 in
theorem lifted (os : Os) (started : os.Started) (H : Type) (enc : TypeId × Value → H) :
 ReturnsInHanded {} Try.checked os 11 .any (Rows.pictureJoinsSpec.pre6 enc Try.prog Try.f11 Rows.pictureJoinsRow.domain false) (Rows.pictureJoinsSpec.post enc Try.prog Try.f11 false true false false) := by
 refine returnsInHanded_of_change (C := Try.checked) own started (by kernel_rfl) Try.func11
  (ChangeSpec.witness6 (enc := enc) (C := Try.checked) false ⟨#[], #[.agg #[.int .u8 0, .int .u16 0, .int .u8 0, .int .u8 0, .int .u8 0], .agg #[.bool false, .int .u8 0, .int .u16 0, .int .u32 0, .int .u32 0, .slice none 0 0, .slice none 0 0, .int .u8 0, .string ⟨#[]⟩], .slice none 0 0, .agg #[.int .u8 0, .int .u8 0, .int .i64 0], .agg #[.int .u16 0, .int .u8 0, .string ⟨#[]⟩], .agg #[.int .u8 0, .int .u8 0]], []⟩ 8 (by kernel_rfl) (by kernel_rfl) (by kernel_rfl) (by kernel_rfl)) ?_
 intro W base args ds gs before hval0 hW hcnd _
 exact law_postF (P := Try.prog) (Ts := aTys) [] (fun x hx => by cases hx) (by kernel_rfl) laid (by kernel_rfl) (by kernel_rfl) Try.underlying4 rfl (fun l hl => by
  match l, hl with
  | [_, _, _, _, _, _], _ => rfl) hval0 hW core
theorem proved : Rows.PictureJoinsSaid :=
 OpenClaim.holds_of_wide 11 Try.f11 rfl rfl rfl rfl rfl rfl rfl ⟨rfl, rfl, rfl, rfl, rfl⟩ rfl rfl rfl rfl rfl (by kernel_rfl) Try.func11 (by kernel_rfl)
  (of_decide_eq_true (by kernel_rfl)) (by unfold Func.isWrapper; first | (rw [if_pos (by decide +kernel)]; kernel_rfl) | (rw [if_neg (by decide +kernel)]; exact ⟨rfl, rfl⟩))
  (fun os started H enc _ => lifted os started H enc)
end Go.Proofs.Ytndbgcmgjnjnhaa
