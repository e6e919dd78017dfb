/- The abstract layer, part 25: functions that hand out a plain value. -/
import Derived.Test.YtiacdfhaopnekaaAbExec2
namespace Go.Ab
set_option linter.unusedVariables false

mutual
theorem AV.bel_mono0 {m : Nat} : ∀ v : AV, v.bel 0 = true → v.bel m = true
  | .p b o, h => by simp [AV.bel, Nat.blt] at h
  | .sl b o l c, h => by simp [AV.bel, Nat.blt] at h
  | .sg b o l, h => by simp [AV.bel, Nat.blt] at h
  | .fn f l, h => belL_mono0 l h
  | .agg l, h => belL_mono0 l h
  | .tup l, h => belL_mono0 l h
  | .b x, _ => rfl
  | .i k n, _ => rfl
  | .s l, _ => rfl
  | .np, _ => rfl
  | .ns, _ => rfl
  | .nf, _ => rfl
  | .ni, _ => rfl
theorem belL_mono0 {m : Nat} : ∀ l : List AV, belL 0 l = true → belL m l = true
  | [], _ => rfl
  | v :: r, h => by
    simp only [belL, Bool.and_eq_true] at h ⊢
    exact ⟨AV.bel_mono0 v h.1, belL_mono0 r h.2⟩
end

theorem FTL.forget {P : Program} {f : FuncId} {args : List AV} {h hR : Hp} {n k : Nat} {v : AV} (hf : FTL P f args h n v hR k) (hv : v.bel n = true) : FTL P f args h n v [] n := by
  intro D φ w us hD hH hA
  refine (hf D φ w us hD hH hA).mono fun e w' hx => ?_
  obtain ⟨D', φ', u, rfl, hlt, hr, hS⟩ := hx
  refine ⟨fun b => b < n ∧ D' b, φ', u, rfl, fun b hb => hb.1, ?_, ⟨fun b hb => ⟨hD b hb, hS.sub b hb⟩, hS.agree, ⟨fun b k hb => by simp [hget] at hb, fun b1 b2 k1 k2 _ hb => by simp [hget] at hb⟩, hS.frm, fun b k hb => by simp [hget] at hb⟩⟩
  have hren : v = v.ren _root_.id := (AV.ren_fix (m := n) (fun _ _ => rfl) v hv).symm
  exact VRel.unren (ψ := _root_.id) hr v hren hv

/-- New names are given up; old blocks are kept. -/
theorem FTL.shrink {P : Program} {f : FuncId} {args : List AV} {h hR h2 : Hp} {n k : Nat} {v : AV} (hf : FTL P f args h n v hR k) (hv : v.bel n = true) (h2k : ∀ b x, hget h2 b = some x → hget hR b = some x ∧ b < n ∧ belL n x.cells = true) : FTL P f args h n v h2 n := by
  intro D φ w us hD hH hA
  refine (hf D φ w us hD hH hA).mono fun e w' hx => ?_
  obtain ⟨D', φ', u, rfl, hlt, hr, hS⟩ := hx
  have hren : ∀ v : AV, v.bel n = true → v = v.ren _root_.id := fun v hv => (AV.ren_fix (m := n) (fun _ _ => rfl) v hv).symm
  have hbr : ∀ b x, hget h2 b = some x → (b < n ∧ D' b) ∧ BRel (fun b => b < n ∧ D' b) φ' w' b x := fun b x hb => by
    obtain ⟨g1, g2, g3⟩ := h2k b x hb
    obtain ⟨d1, ⟨⟨cs, elem, fr, q1, q2, q3, q4⟩, q5⟩⟩ := hS.hr.at_ b x g1
    refine ⟨⟨g2, d1⟩, ⟨⟨cs, elem, fr, q1, fun i v hv => ?_, q3, q4⟩, q5⟩⟩
    obtain ⟨u, hu, hr⟩ := q2 i v hv
    have hvb := belL_spec g3 v (List.mem_of_getElem? hv)
    exact ⟨u, hu, VRel.unren (ψ := _root_.id) hr v (hren v hvb) hvb⟩
  refine ⟨fun b => b < n ∧ D' b, φ', u, rfl, fun b hb => hb.1, VRel.unren (ψ := _root_.id) hr v (hren v hv) hv, ⟨fun b hb => ⟨hD b hb, hS.sub b hb⟩, hS.agree, ⟨hbr, fun b1 b2 k1 k2 hne h1 h2' hro => hS.hr.sep b1 b2 k1 k2 hne (h2k b1 k1 h1).1 (h2k b2 k2 h2').1 hro⟩, hS.frm, fun b k hb hro => hS.img b k (h2k b k hb).1 hro⟩⟩

/-- A function that looks at one block of plain cells. -/
theorem CallOK.read1 {P : Program} {f : FuncId} {argsL : List AV} {v : AV} {k : Blk} {b n : Nat} {h : Hp} (hc : Go.Ab.callable P f = true) (ha : belL 1 argsL = true) (hk : belL 0 k.cells = true) (hv : v.bel 0 = true) (hb : hget h b = some k)
    (hf : FTL P f argsL [(0, k)] 1 v [(0, k)] 1) : CallOK P f (renL (fun _ => b) argsL) h n { v, n, rd := [b] } := by
  have hkr : k.ren (fun _ => b) = k := by simp only [Blk.ren, renL_fix0 k.cells hk]
  have h0 : ∀ c kk, hget [(0, k)] c = some kk → c = 0 ∧ kk = k := fun c kk hh => by
    simp only [hget] at hh
    by_cases hc : c = 0
    · subst hc; simp at hh; exact ⟨rfl, hh.symm⟩
    · rw [beq_ne hc] at hh; simp at hh
  have hbel1 : belL 1 k.cells = true := belL_mono0 _ hk
  refine CallOK.of_FTL (ψ := fun _ => b) hc hf (Nat.le_refl _) ha (fun c hc => ⟨k, by rw [show c = 0 by omega]; rfl⟩) (fun c kk hh => ?_) rfl (fun c kk hh => ?_) (fun b1 b2 k1 k2 h1 h2 _ _ => ?_) (by simp) (ren_fix0 _ hv).symm (fun c r hh => by simp [mget] at hh) (fun c kk hh => by simp [hget] at hh) (fun c kk hh => ?_)
  · obtain ⟨rfl, rfl⟩ := h0 c kk hh
    exact ⟨by omega, hbel1⟩
  · obtain ⟨rfl, rfl⟩ := h0 c kk hh
    rw [hkr]
    simp [only, inl, hb]
  · rw [(h0 b1 k1 h1).1, (h0 b2 k2 h2).1]
  · simp only [Eff.app, mget, hget] at hh
    simp only [only, inl, Bool.or_false] at hh
    by_cases hcb : b = c
    · subst hcb
      simp [hb] at hh
      subst hh
      exact ⟨0, k, rfl, by omega, by simp, by simp only [Blk.ren, renL_fix0 k.cells hk], fun _ => ⟨by omega, rfl⟩⟩
    · rw [beq_ne (fun e => hcb e.symm)] at hh; simp at hh

/-- A closed call, computed: its value. -/
theorem FTL.of_val {P : Program} {T : List (Nat × IFn)} (fuel : Nat) (hm : P.follows .mixedOrders = true) (hT : Valid P T) {f : FuncId} {fn : Func} {I : IFn} (hf : P.funcs[f]? = some fn) (hI : compF P fn = some I) {args : List AV} {v : AV}
    (hx : (xFn (xrun T fuel) I args [] 0).map (·.1) = some v) (hv : v.bel 0 = true) : FTL P f args [] 0 v [] 0 := by
  obtain ⟨⟨v', hR, k⟩, h1, rfl⟩ := Option.map_eq_some_iff.1 hx
  exact FTL.forget (FTL.of_run fuel hm hT hf hI h1) hv

end Go.Ab
