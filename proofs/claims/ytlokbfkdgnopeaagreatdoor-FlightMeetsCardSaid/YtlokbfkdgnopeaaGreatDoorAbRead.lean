/- The abstract layer, part 36: functions that look at several blocks. -/
import Derived.Test.YtlokbfkdgnopeaaGreatDoorAbPtr
import Derived.Test.YtlokbfkdgnopeaaGreatDoorAbChunk
namespace Go.Ab
set_option linter.unusedVariables false
def int1 (x : Int) : List AV := [.i .i64 x]
theorem int1_len (x : Int) : (int1 x).length = 1 := rfl
theorem int1_bel (x : Int) : belL 0 (int1 x) = true := rfl
theorem CallOK.new1 {P : Program} {f : FuncId} {args : List AV} {v : AV} {k : Blk} {h : Hp} {n : Nat} (hc : Go.Ab.callable P f = true) (ha : belL 0 args = true) (hk : belL 0 k.cells = true) (hro : k.ro = false) (hf : FTL P f args [] 0 v [(0, k)] 1) :
 CallOK P f args h n { v := v.ren (fun b => n + b), n := n + 1, nw := [(n, k)] } := by
 have hkr : ∀ χ : Nat → Nat, k.ren χ = k := fun χ => by simp only [Blk.ren, renL_fix0 k.cells hk]
 have e : (fun b => if b < 0 then b else n + (b - 0)) = fun b => n + b := by funext b; simp
 refine CallOK.of_FTL (ψ := fun b => b) hc hf (Nat.zero_le _) ha (fun b hb => absurd hb (by omega)) (fun b kk hb => by simp [hget] at hb) (renL_fix0 _ ha).symm (fun b kk hb => by simp [hget] at hb) (fun b1 b2 k1 k2 hb => by simp [hget] at hb) rfl (by rw [e]) (fun c r hh => by simp [mget] at hh) (fun c kk hh => ?_) (fun c kk hh => ?_)
 · simp only [hget] at hh
   by_cases hcn : c = n
   · subst hcn; show c ≤ c ∧ c < c + 1; omega
   · rw [beq_ne hcn] at hh; cases hh
 · simp only [Eff.app, mget, hget, only, inl] at hh
   by_cases hcn : c = n
   · subst hcn
     simp at hh
     subst hh
     exact ⟨0, k, rfl, by omega, by simp, (hkr _).symm, fun h => by rw [hro] at h; cases h⟩
   · rw [beq_ne hcn] at hh
     simp at hh
theorem Ends.new1 {n0 n b : Nat} {v v2 : AV} {h : Hp} {k k2 : Blk} (hb : n0 ≤ b) (hv : v2.ren (fun i => if i = n0 then b else i) = v) (hvb : v2.bel (n0 + 1) = true) (hk : hget h b = some k) (hkb : belL 0 k2.cells = true) (hkk : k = k2) : Ends n0 v h n v2 [(n0, k2)] (n0 + 1) := by
 subst hkk
 refine ⟨fun i => if i = n0 then b else i, by omega, fun i hi => by simp [show i ≠ n0 by omega], fun t x hx => ?_, fun c kk hc => ?_, fun b1 b2 k1 k2 h1 h2 _ _ => ?_⟩
 · simp only [eget] at hx
   by_cases ht : t = 0
   · subst ht
     simp at hx; subst hx
     exact ⟨by simp [eget, hv], hvb⟩
   · rw [beq_ne ht] at hx; simp at hx
 · have hm := hget_mem hc
   simp only [List.mem_cons, Prod.mk.injEq, List.not_mem_nil, or_false] at hm
   obtain ⟨rfl, rfl⟩ := hm
   refine ⟨?_, belL_mono0 _ hkb, by omega⟩
   simp only [if_true, hk]
   simp only [Blk.ren, renL_fix0 _ hkb]
 · have hm1 := hget_mem h1
   have hm2 := hget_mem h2
   simp only [List.mem_cons, Prod.mk.injEq, List.not_mem_nil, or_false] at hm1 hm2
   rw [hm1.1, hm2.1]
end Go.Ab
