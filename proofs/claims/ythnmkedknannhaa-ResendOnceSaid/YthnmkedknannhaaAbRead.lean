/- The abstract layer, part 36: functions that look at several blocks. -/
import Derived.Test.YthnmkedknannhaaAbPtr
import Derived.Test.YthnmkedknannhaaAbChunk
namespace Go.Ab
set_option linter.unusedVariables false
theorem CallOK.readL {P : Program} {f : FuncId} {argsL : List AV} {v : AV} {hL h : Hp} {k n : Nat} (ψ : Nat → Nat) (hc : Go.Ab.callable P f = true) (ha : belL k argsL = true) (hv : v.bel 0 = true) (hf : FTL P f argsL hL k v hL k)
 (hcov : ∀ b, b < k → ∃ kk, hget hL b = some kk) (hbel : ∀ b kk, hget hL b = some kk → b < k ∧ belL 0 kk.cells = true) (hheap : ∀ b kk, hget hL b = some kk → hget h (ψ b) = some kk)
 (hinj : ∀ b1 b2 k1 k2, hget hL b1 = some k1 → hget hL b2 = some k2 → k1.ro = false → ψ b1 = ψ b2 → b1 = b2) (rd : List Nat) (hrd : rd = (List.range k).map ψ) :
 CallOK P f (renL ψ argsL) h n { v, n, rd } := by
 have hin : ∀ b, b < k → inl rd (ψ b) = true := fun b hb => by
  have : ∀ {l : List Nat} {c : Nat}, c ∈ l → inl l c = true := by
   intro l c hm
   induction l with
   | nil => cases hm
   | cons x l ih =>
    rcases List.mem_cons.1 hm with rfl | hm
    · simp [inl]
    · simp [inl, ih hm]
  exact this (by rw [hrd]; exact List.mem_map.2 ⟨b, List.mem_range.2 hb, rfl⟩)
 have hout : ∀ c, inl rd c = true → ∃ b, b < k ∧ ψ b = c := fun c hc => by
  have : ∀ {l : List Nat} {c : Nat}, inl l c = true → c ∈ l := by
   intro l c hm
   induction l with
   | nil => cases hm
   | cons x l ih =>
    rw [inl_cons] at hm
    by_cases hx : x = c
    · subst hx; exact List.mem_cons_self
    · rw [if_neg hx] at hm; exact List.mem_cons_of_mem _ (ih hm)
  have := this hc
  rw [hrd] at this
  obtain ⟨b, hb, rfl⟩ := List.mem_map.1 this
  exact ⟨b, List.mem_range.1 hb, rfl⟩
 have hren : ∀ {χ : Nat → Nat} {kk : Blk}, belL 0 kk.cells = true → kk.ren χ = kk := fun hb => by simp only [Blk.ren, renL_fix0 _ hb]
 refine CallOK.of_FTL (ψ := ψ) hc hf (Nat.le_refl _) ha hcov (fun b kk hb => ⟨(hbel b kk hb).1, belL_mono0 _ (hbel b kk hb).2⟩) rfl (fun b kk hb => ?_) hinj (by simp) (ren_fix0 _ hv).symm (fun c r hh => by simp [mget] at hh) (fun c kk hh => by simp [hget] at hh) (fun c kk hh => ?_)
 · rw [hren (hbel b kk hb).2]
   simp only [only, hin b (hbel b kk hb).1, cond_true, hheap b kk hb]
 · simp only [Eff.app, mget, hget, only] at hh
   cases hi : inl rd c
   · rw [hi] at hh; cases hh
   · rw [hi] at hh
     simp only [cond_true] at hh
     obtain ⟨b, hb, rfl⟩ := hout c hi
     obtain ⟨kb, hkb⟩ := hcov b hb
     have h2 := hheap b kb hkb
     rw [h2] at hh
     cases hh
     exact ⟨b, kk, hkb, hb, by rw [if_pos hb], (hren (hbel b kk hkb).2).symm, fun _ => ⟨hb, hkb⟩⟩
def int1 (x : Int) : List AV := [.i .i64 x]
theorem int1_len (x : Int) : (int1 x).length = 1 := rfl
theorem int1_bel (x : Int) : belL 0 (int1 x) = true := rfl
def oneB : Blk → Option Int
 | ⟨[.i .i64 x], false, none, none⟩ => some x
 | _ => none
theorem oneB_eq {k : Blk} {x : Int} (h : oneB k = some x) : k = { cells := int1 x } := by
 unfold oneB at h
 split at h
 · cases h; rfl
 · cases h
theorem Ends.keepL {n0 n : Nat} {v v2 : AV} {h h2 : Hp} (hv : v.bel n0 = true) (he : v = v2) (hh : HpIn n0 h h2) : Ends n0 v h n v2 h2 n0 := by
 subst he
 refine ⟨_root_.id, Nat.le_refl _, fun _ _ => rfl, fun t x hx => ?_, fun b k hb => ?_, fun b1 b2 k1 k2 _ _ _ he => he⟩
 · simp only [eget] at hx
   by_cases ht : t = 0
   · subst ht
     simp at hx; subst hx
     exact ⟨by simp [eget, AV.ren_fix (ψ := _root_.id) (fun _ _ => rfl) v hv], hv⟩
   · rw [beq_ne ht] at hx; simp at hx
 · obtain ⟨h1, h2, h3⟩ := hh.get b k hb
   refine ⟨?_, h2, h3⟩
   simp only [_root_.id, Blk.ren, renL_fix (ψ := _root_.id) (fun _ _ => rfl) k.cells h2]
   exact h1
theorem CallOK.new1 {P : Program} {f : FuncId} {args : List AV} {v : AV} {k : Blk} {h : Hp} {n : Nat} (hc : Go.Ab.callable P f = true) (ha : belL 0 args = true) (hk : belL 0 k.cells = true) (hro : k.ro = false) (hf : FTL P f args [] 0 v [(0, k)] 1) :
 CallOK P f args h n { v := v.ren (fun b => n + b), n := n + 1, nw := [(n, k)] } := by
 have hkr : ∀ χ : Nat → Nat, k.ren χ = k := fun χ => by simp only [Blk.ren, renL_fix0 k.cells hk]
 have e : (fun b => if b < 0 then b else n + (b - 0)) = fun b => n + b := by funext b; simp
 refine CallOK.of_FTL (ψ := fun b => b) hc hf (Nat.zero_le _) ha (fun b hb => absurd hb (by omega)) (fun b kk hb => by simp [hget] at hb) (renL_fix0 _ ha).symm (fun b kk hb => by simp [hget] at hb) (fun b1 b2 k1 k2 hb => by simp [hget] at hb) rfl (by rw [e]) (fun c r hh => by simp [mget] at hh) (fun c kk hh => ?_) (fun c kk hh => ?_)
 · simp only [hget] at hh
   by_cases hcn : c = n
   · subst hcn; show c ≤ c ∧ c < c + 1; omega
   · rw [beq_ne hcn] at hh; cases hh
 · simp only [Eff.app, mget, hget, only, inl] at hh
   by_cases hcn : c = n
   · subst hcn
     simp at hh
     subst hh
     exact ⟨0, k, rfl, by omega, by simp, (hkr _).symm, fun h => by rw [hro] at h; cases h⟩
   · rw [beq_ne hcn] at hh
     simp at hh
theorem Ends.new1 {n0 n b : Nat} {v v2 : AV} {h : Hp} {k k2 : Blk} (hb : n0 ≤ b) (hv : v2.ren (fun i => if i = n0 then b else i) = v) (hvb : v2.bel (n0 + 1) = true) (hk : hget h b = some k) (hkb : belL 0 k2.cells = true) (hkk : k = k2) : Ends n0 v h n v2 [(n0, k2)] (n0 + 1) := by
 subst hkk
 refine ⟨fun i => if i = n0 then b else i, by omega, fun i hi => by simp [show i ≠ n0 by omega], fun t x hx => ?_, fun c kk hc => ?_, fun b1 b2 k1 k2 h1 h2 _ _ => ?_⟩
 · simp only [eget] at hx
   by_cases ht : t = 0
   · subst ht
     simp at hx; subst hx
     exact ⟨by simp [eget, hv], hvb⟩
   · rw [beq_ne ht] at hx; simp at hx
 · have hm := hget_mem hc
   simp only [List.mem_cons, Prod.mk.injEq, List.not_mem_nil, or_false] at hm
   obtain ⟨rfl, rfl⟩ := hm
   refine ⟨?_, belL_mono0 _ hkb, by omega⟩
   simp only [if_true, hk]
   simp only [Blk.ren, renL_fix0 _ hkb]
 · have hm1 := hget_mem h1
   have hm2 := hget_mem h2
   simp only [List.mem_cons, Prod.mk.injEq, List.not_mem_nil, or_false] at hm1 hm2
   rw [hm1.1, hm2.1]
end Go.Ab
