/- The abstract layer, part 36: functions that look at several blocks. -/
import Derived.Test.YtndbgcmgjnjnhaaAbPtr
import Derived.Test.YtndbgcmgjnjnhaaAbChunk
namespace Go.Ab
set_option linter.unusedVariables false
def int1 (x : Int) : List AV := [.i .i64 x]
def intV : List AV → Option Int
 | [.i .i64 x] => some x
 | _ => none
theorem intV_eq (c : List AV) (a : Int) (h : intV c = some a) : c = int1 a := by
 unfold intV at h
 split at h
 · cases h; rfl
 · cases h
theorem int1_len (x : Int) : (int1 x).length = 1 := rfl
theorem int1_bel (x : Int) : belL 0 (int1 x) = true := rfl
def oneB : Blk → Option Int
 | ⟨[.i .i64 x], false, none, none⟩ => some x
 | _ => none
theorem oneB_eq {k : Blk} {x : Int} (h : oneB k = some x) : k = { cells := int1 x } := by
 unfold oneB at h
 split at h
 · cases h; rfl
 · cases h
theorem CallOK.new1 {P : Program} {f : FuncId} {args : List AV} {v : AV} {k : Blk} {h : Hp} {n : Nat} (hc : Go.Ab.callable P f = true) (ha : belL 0 args = true) (hk : belL 0 k.cells = true) (hro : k.ro = false) (hf : FTL P f args [] 0 v [(0, k)] 1) :
 CallOK P f args h n { v := v.ren (fun b => n + b), n := n + 1, nw := [(n, k)] } := by
 have hkr : ∀ χ : Nat → Nat, k.ren χ = k := fun χ => by simp only [Blk.ren, renL_fix0 k.cells hk]
 have e : (fun b => if b < 0 then b else n + (b - 0)) = fun b => n + b := by funext b; simp
 refine CallOK.of_FTL (ψ := fun b => b) hc hf (Nat.zero_le _) ha (fun b hb => absurd hb (by omega)) (fun b kk hb => by simp [hget] at hb) (renL_fix0 _ ha).symm (fun b kk hb => by simp [hget] at hb) (fun b1 b2 k1 k2 hb => by simp [hget] at hb) rfl (by rw [e]) (fun c r hh => by simp [mget] at hh) (fun c kk hh => ?_) (fun c kk hh => ?_)
 · simp only [hget] at hh
   by_cases hcn : c = n
   · subst hcn; show c ≤ c ∧ c < c + 1; omega
   · rw [beq_ne hcn] at hh; cases hh
 · simp only [Eff.app, mget, hget, only, inl] at hh
   by_cases hcn : c = n
   · subst hcn
     simp at hh
     subst hh
     exact ⟨0, k, rfl, by omega, by simp, (hkr _).symm, fun h => by rw [hro] at h; cases h⟩
   · rw [beq_ne hcn] at hh
     simp at hh
end Go.Ab
