/- Plain facts of the law's buffers: packets that are not huge, numbers in range. -/
import Derived.Test.YtcpgamgkbbckoaaJitDb
namespace Go.Proofs.Jit
open Go.Ab
set_option maxRecDepth 100000
set_option maxHeartbeats 4000000
set_option linter.unusedSimpArgs false
set_option linter.unusedVariables false
def FinL (l : List Hd) : Prop := ∀ x ∈ l, x.p.fin = true
theorem finB_iff {l : List Hd} : finB l = true ↔ FinL l := by simp only [finB, List.all_eq_true]; rfl
theorem pks_fin (ck : Int) (s : Sm) : ∀ i, ∀ p ∈ pks ck s i, p.fin = true
 | 0 => fun p hp => by cases hp
 | i + 1 => fun p hp => by
  simp only [pks] at hp
  split at hp
  · simp only [inP, List.mem_append] at hp
    rcases hp with hp | hp
    · exact pks_fin ck s i p hp
    · obtain ⟨j, hj⟩ := List.getElem?_of_mem hp
      have hlt : j < _ := (List.getElem?_eq_some_iff.1 hj).1
      rw [mapN_len] at hlt
      rw [mapN_get hlt] at hj
      cases hj
      rfl
  · exact pks_fin ck s i p hp
theorem putAt_l {b : Bf} {now : Int} {p : Md} {k : Nat} {st : Int} : (putAt b now p k st).l = insL b.l k ⟨p, st⟩ := by
 unfold putAt; cases b.sd <;> rfl
/-! numbers in range -/
end Go.Proofs.Jit
