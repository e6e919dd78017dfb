/- Contracts of Draft.Media and Draft.Packets as table entries. -/
import Derived.Test.YtndbgcmgjnjnhaaPicP3
namespace Go.Proofs.Pic
open Go.Ab
set_option maxRecDepth 100000
set_option maxHeartbeats 4000000
set_option linter.unusedSimpArgs false
set_option linter.unusedVariables false
def k32 : Ct
 | [.agg l], _, n => (dm9 l).bind fun p => some (p.okB, { v := .agg p.md.l, n })
 | _, _, _ => none
theorem s32 : SoundAt Try.prog 32 k32 := fun args h n c E hc ht => by
 unfold k32 at hc
 split at hc
 · simp only [Option.bind_eq_some_iff] at hc
   obtain ⟨p, hp, he⟩ := hc
   cases he
   rw [dm9_eq hp]
   exact CallOK.pure (by kernel_rfl) (by simp only [belL, AV.bel, p.bel, Bool.and_self]) (by simp only [AV.bel, p.md.bel]) (w32 p (Dm.ok_of ht)) _ _
 · cases hc
end Go.Proofs.Pic
