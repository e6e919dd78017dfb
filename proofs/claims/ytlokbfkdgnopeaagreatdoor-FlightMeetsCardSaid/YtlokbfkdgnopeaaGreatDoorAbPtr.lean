/- The abstract layer, part 29: functions that look at one block, and change it. -/
import Derived.Test.YtlokbfkdgnopeaaGreatDoorAbExecs
import Derived.Test.YtlokbfkdgnopeaaGreatDoorAbLoops
namespace Go.Ab
set_option linter.unusedVariables false
theorem CallOK.upd1 {P : Program} {f : FuncId} {argsL : List AV} {v : AV} {k k' : Blk} {b n : Nat} {h : Hp} (hc : Go.Ab.callable P f = true) (ha : belL 1 argsL = true) (hk : belL 0 k.cells = true) (hk' : belL 0 k'.cells = true) (hro : k'.ro = false) (hv : v.bel 0 = true) (hb : hget h b = some k)
 (hf : FTL P f argsL [(0, k)] 1 v [(0, k')] 1) : CallOK P f (renL (fun _ => b) argsL) h n { v, n, rd := [b], md := [(b, some k')] } := by
 have hkr : k.ren (fun _ => b) = k := by simp only [Blk.ren, renL_fix0 k.cells hk]
 have h0 : ∀ c kk, hget [(0, k)] c = some kk → c = 0 ∧ kk = k := fun c kk hh => by
  simp only [hget] at hh
  by_cases hc : c = 0
  · subst hc; simp at hh; exact ⟨rfl, hh.symm⟩
  · rw [beq_ne hc] at hh; simp at hh
 have hbel1 : belL 1 k.cells = true := belL_mono0 _ hk
 refine CallOK.of_FTL (ψ := fun _ => b) hc hf (Nat.le_refl _) ha (fun c hc => ⟨k, by rw [show c = 0 by omega]; rfl⟩) (fun c kk hh => ?_) rfl (fun c kk hh => ?_) (fun b1 b2 k1 k2 h1 h2 _ _ => ?_) (by simp) (ren_fix0 _ hv).symm (fun c r hh => ?_) (fun c kk hh => by simp [hget] at hh) (fun c kk hh => ?_)
 · obtain ⟨rfl, rfl⟩ := h0 c kk hh
   exact ⟨by omega, hbel1⟩
 · obtain ⟨rfl, rfl⟩ := h0 c kk hh
   rw [hkr]
   simp [only, inl, hb]
 · rw [(h0 b1 k1 h1).1, (h0 b2 k2 h2).1]
 · simp only [mget] at hh
   by_cases hcb : c = b
   · subst hcb; simp [inl]
   · rw [beq_ne hcb] at hh; simp at hh
 · simp only [Eff.app, mget, hget] at hh
   by_cases hcb : c = b
   · subst hcb
     simp at hh
     subst hh
     exact ⟨0, k', rfl, by omega, by simp, by simp only [Blk.ren, renL_fix0 k'.cells hk'], fun h => by rw [hro] at h; cases h⟩
   · simp only [only, inl, Bool.or_false, beq_ne hcb, beq_ne (fun e => hcb e.symm), cond_false] at hh
     cases hh
theorem Ends.keep1 {n : Nat} {v v2 : AV} {h : Hp} {k k2 : Blk} (hv : v.bel 1 = true) (hb : hget h 0 = some k) (hk : belL 1 k.cells = true) (he : v = v2) (hkk : k = k2) : Ends 1 v h n v2 [(0, k2)] 1 := by
 subst he hkk
 refine Ends.keep hv (fun b x hx => ?_)
 simp only [List.mem_cons, Prod.mk.injEq, List.not_mem_nil, or_false] at hx
 obtain ⟨rfl, rfl⟩ := hx
 exact ⟨hb, hk, by omega⟩
end Go.Ab
