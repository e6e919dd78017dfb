/- Texts laid as one: ResC15 ResC16. -/
import Derived.Test.YthnmkedknannhaaResCe
import Derived.Test.YthnmkedknannhaaAbShs
section
/- The contract of Draft.Wants. -/
namespace Go.Proofs.Res
open Go.Ab
set_option maxRecDepth 100000
set_option maxHeartbeats 4000000
set_option linter.unusedSimpArgs false
set_option linter.unusedVariables false
def ev3 : List AV → Option Ev
 | [.i .u8 a, .i .u16 b, .i .i8 c] => some ⟨a, b, c⟩
 | _ => none
theorem ev3_l (x : Ev) : ev3 x.l = some x := rfl
theorem ev3_eq {c : List AV} {x : Ev} (h : ev3 c = some x) : c = x.l := by
 unfold ev3 at h
 split at h
 · cases h; rfl
 · cases h
def drA : List AV → Option Dr
 | [.i .u16 sq, .i .u16 tr, .fz L m] => (unrows 3 ev3 m L).bind fun l => some ⟨sq, tr, l⟩
 | _ => none
theorem drA_a (d : Dr) : drA d.a = some d := by
 obtain ⟨sq, tr, l⟩ := d
 simp only [drA, Dr.a, unrows_rows Ev.len ev3_l, Option.bind_some]
theorem drA_eq {c : List AV} {d : Dr} (h : drA c = some d) : c = d.a := by
 unfold drA at h
 split at h
 · simp only [Option.bind_eq_some_iff, Option.some.injEq] at h
   obtain ⟨l, hl, rfl⟩ := h
   obtain ⟨rfl, hm⟩ := unrows_eq (f := Ev.l) (fun c a h => ev3_eq h) hl
   subst hm
   rfl
 · cases h
def Dr.okB (d : Dr) : Bool := inI 0 65535 d.sq && (inI 0 65535 d.tr && d.ev.all Ev.ok)
theorem Dr.ok_iff {d : Dr} : d.okB = true ↔ d.ok := by
 simp only [Dr.okB, Bool.and_eq_true, List.all_eq_true]
 exact ⟨fun h => ⟨h.1, h.2.1, h.2.2⟩, fun h => ⟨h.sq, h.tr, h.ev⟩⟩
def k17 : Ct
 | [.agg c], _, n => (drA c).bind fun d => some (d.okB, { v := .i .i64 (roundS d), n })
 | _, _, _ => none
theorem s17 : SoundAt Try.prog 17 k17 := fun args h n c E hc ht => by
 unfold k17 at hc
 split at hc
 · simp only [Option.bind_eq_some_iff] at hc
   obtain ⟨d, hd, he⟩ := hc
   cases he
   rw [drA_eq hd]
   exact CallOK.pure (by kernel_rfl) (by simp only [belL, AV.bel, Dr.bel, Bool.and_self]) rfl (w17 d (Dr.ok_iff.1 ht)) _ _
 · cases hc
def k27 : Ct
 | [.agg c], _, n => (drA c).bind fun d => some (d.okB, { v := .fz (rows I1 (stepsL d)) (stepsL d).length, n })
 | _, _, _ => none
theorem s27 : SoundAt Try.prog 27 k27 := fun args h n c E hc ht => by
 unfold k27 at hc
 split at hc
 · simp only [Option.bind_eq_some_iff] at hc
   obtain ⟨d, hd, he⟩ := hc
   cases he
   rw [drA_eq hd]
   exact CallOK.pure (by kernel_rfl) (by simp only [belL, AV.bel, Dr.bel, Bool.and_self]) (by simp only [AV.bel, rows_bel I1.bel]) (w27 d (Dr.ok_iff.1 ht)) _ _
 · cases hc
/-! The wants of a draft -/
end Go.Proofs.Res
end
section
/- The contract of Bend.Wants. -/
namespace Go.Proofs.Res
open Go.Ab
set_option maxRecDepth 100000
set_option maxHeartbeats 16000000
set_option linter.unusedSimpArgs false
set_option linter.unusedVariables false
structure Bd where
 wh : Int
 at_ : Int
 n : Int
def Bd.a (b : Bd) : List AV := [.i .u8 b.wh, .i .u8 b.at_, .i .i64 b.n]
def Bd.okB (b : Bd) : Bool := inI 0 255 b.wh && inI 0 255 b.at_
end Go.Proofs.Res
end
