/- Texts laid as one: AbFrs AbCln AbGive. -/
import Derived.Test.YtlokbfkdgnopeaaGreatDoorAbFzs
import Derived.Test.YtlokbfkdgnopeaaGreatDoorAbRfs
section
/- The abstract layer, part 69: at a seam, a block that nobody writes any more is frozen. -/
namespace Go.Ab
set_option linter.unusedVariables false
set_option linter.unusedSimpArgs false
def FzE (x y : AV) (e : Env) : Env → Prop
 | [] => True
 | (t, v2) :: r => (∃ v, eget e t = some v ∧ FzV x y v v2) ∧ FzE x y e r
theorem FzE.get {x y : AV} {e : Env} : ∀ {e2 : Env}, FzE x y e e2 → ∀ t v2, eget e2 t = some v2 → ∃ v, eget e t = some v ∧ FzV x y v v2
 | [], _, t, v2, h => by simp [eget] at h
 | (s, u) :: r, hf, t, v2, h => by
  simp only [eget] at h
  by_cases hs : t = s
  · subst hs; simp at h; subst h; exact hf.1
  · rw [beq_ne hs] at h; exact FzE.get hf.2 t v2 h
def FzH (x y : AV) (b : Nat) (h : Hp) : Hp → Prop
 | [] => True
 | (c, k2) :: r => (c ≠ b ∧ ∃ k, hget h c = some k ∧ k2.ro = k.ro ∧ k2.gr = k.gr ∧ k2.gid = k.gid ∧ FzVs x y k.cells k2.cells) ∧ FzH x y b h r
theorem FzH.get {x y : AV} {b : Nat} {h : Hp} : ∀ {h2 : Hp}, FzH x y b h h2 → ∀ c k2, hget h2 c = some k2 → c ≠ b ∧ ∃ k, hget h c = some k ∧ k2.ro = k.ro ∧ k2.gr = k.gr ∧ k2.gid = k.gid ∧ FzVs x y k.cells k2.cells
 | [], _, c, k2, h => by simp [hget] at h
 | (s, u) :: r, hf, c, k2, h => by
  simp only [hget] at h
  by_cases hs : c = s
  · subst hs; simp at h; subst h; exact hf.1
  · rw [beq_ne hs] at h; exact FzH.get hf.2 c k2 h
theorem FzH.app {x y : AV} {b : Nat} {h : Hp} : ∀ {a r : Hp}, FzH x y b h a → FzH x y b h r → FzH x y b h (a ++ r)
 | [], r, _, hr => hr
 | _ :: a, r, ha, hr => ⟨ha.1, FzH.app ha.2 hr⟩
theorem FzVs.refl {x y : AV} : ∀ {l : List AV}, FzVs x y l l
 | [] => trivial
 | a :: l => ⟨FzV.refl, FzVs.refl⟩
theorem Seam.frz {F : Fx} {c : ICode} {K : Kont} {e e2 : Env} {h h2 : Hp} {n b m o : Nat} {x : AV} {k : Blk} {cs : List AV} (hs : Seam F c K e2 h2 n) (hk : hget h b = some k) (hro : k.ro = false) (hx : (∃ cap, x = .sl b o m cap ∧ m ≤ cap) ∨ x = .sg b o m) (hcs : cs = k.cells.drop o ∨ cs = (k.cells.drop o).take cs.length)
 (he : FzE x (.fz cs m) e e2) (hh : FzH x (.fz cs m) b h h2) : Seam F c K e h n := by
 intro c' hc' ro hro0 Bd D0 φ0 H0 w0 g1 g2 D φ a w hR hS
 have hH := hR.heap
 obtain ⟨hdb, ⟨⟨vs, elem, fr, q1, q2, q3, q4⟩, q5⟩⟩ := hH.at_ b k hk
 let φ1 : Phi := { φ with fz := fun B => if B = φ.blk b then some vs else φ.fz B }
 have ag : Agree D φ φ1 := ⟨fun c _ => ⟨rfl, rfl, rfl, rfl⟩, fun B vs' hB => by
  simp only [φ1]
  split
  · rename_i hBb
    subst hBb
    obtain ⟨elem', fr', h1⟩ := hH.fz _ _ hB
    rw [q1] at h1
    simp only [Option.some.injEq, Obj.cells.injEq] at h1
    rw [h1.1]
  · exact hB, rfl⟩
 have hxy : ∀ u1, VRel D φ1 x u1 → VRel D φ1 (.fz cs m) u1 := fun u1 h1 => by
  have get : ∀ (i : Nat) (a : AV), cs[i]? = some a → ∃ u, vs[φ.off b + o + i]? = some u ∧ VRel D φ a u := fun i a ha => by
   have ha' : k.cells[o + i]? = some a := by
    rcases hcs with e | e
    · rw [e, List.getElem?_drop] at ha; exact ha
    · rw [e, List.getElem?_take, List.getElem?_drop] at ha
      split at ha
      · exact ha
      · cases ha
   obtain ⟨u, hu, hr⟩ := q2 _ a ha'
   exact ⟨u, by rw [Nat.add_assoc]; exact hu, hr⟩
  have g1 : φ1.fz (φ.blk b) = some vs := by simp [φ1]
  have g2 : ∀ i, i < cs.length → φ.off b + o + i < vs.size := fun i hi => by
   obtain ⟨u, hu, _⟩ := get i _ (List.getElem?_eq_getElem hi)
   rcases Nat.lt_or_ge (φ.off b + o + i) vs.size with h' | h'
   · exact h'
   · rw [Array.getElem?_eq_none h'] at hu; cases hu
  have g3 : ∀ (i : Nat) (a : AV) (u : Value), cs[i]? = some a → vs[φ.off b + o + i]? = some u → VRel D φ1 a u := fun i a u ha hu => by
   obtain ⟨u', hu', hr⟩ := get i a ha
   rw [hu] at hu'; cases hu'
   exact hr.mono (fun _ h => h) ag
  rcases hx with ⟨cap, rfl, hcap⟩ | rfl
  · cases h1 with
    | sl _ _ _ _ _ => exact .fz _ _ _ _ _ vs g1 hcap g2 g3
  · cases h1 with
    | sg _ _ _ j cap _ _ _ hl => exact .fz _ _ _ _ _ vs g1 hl g2 g3
 have hH1 : HR D φ1 (hget h2) w := by
  refine ⟨⟨fun c kk2 hc => ?_, fun b1 b2 k1 k2 hne h1 h2' hr => ?_⟩, fun B vs' hB => ?_, hH.lp, fun c kk B vs' hc hr hB => ?_⟩
  · obtain ⟨hne, kk, h3, e1, e2', e3, hv⟩ := hh.get c kk2 hc
    obtain ⟨d1, ⟨⟨vs', elem', fr', r1, r2, r3, r4⟩, r5⟩⟩ := hH.at_ c kk h3
    refine ⟨d1, ⟨⟨vs', elem', fr', r1, fun i v2 hi => ?_, by rw [e1, e2']; exact r3, by rw [e1, e2']; exact r4⟩, by rw [e3]; exact r5⟩⟩
    obtain ⟨v, hv1, hv2⟩ := hv.get hi
    obtain ⟨u, hu, hur⟩ := r2 i v hv1
    exact ⟨u, hu, hv2 D φ1 u hxy (hur.mono (fun _ h => h) ag)⟩
  · obtain ⟨_, kk1, a1, a2, _⟩ := hh.get _ _ h1
    obtain ⟨_, kk2, b1', b2', _⟩ := hh.get _ _ h2'
    exact hH.sep b1 b2 kk1 kk2 hne a1 b1' (by rw [← a2]; exact hr)
  · simp only [φ1] at hB
    split at hB
    · rename_i e; subst e; cases hB; exact ⟨elem, fr, q1⟩
    · exact hH.fz B vs' hB
  · obtain ⟨hne, kk1, a1, a2, _⟩ := hh.get _ _ hc
    simp only [φ1] at hB
    split at hB
    · rename_i e; subst e
      exact hH.sep c b kk1 k hne a1 hk (by rw [← a2]; exact hr)
    · exact hH.fsep c kk1 B vs' a1 (by rw [← a2]; exact hr) hB
 refine hs c' hc' ro hro0 Bd D0 φ0 H0 w0 g1 g2 D φ1 a w ⟨hR.lt, fun t v2 ht => ?_, hH1, hR.size, hR.defers⟩ ⟨hS.sub, ⟨hS.agree.at_, fun B vs' hB => ag.fz B vs' (hS.agree.fz B vs' hB), hS.agree.lp⟩, hH1, hS.frm, fun c kk hc hr => ?_, fun B vs' hB => ?_⟩
 · obtain ⟨v, hv1, hv2⟩ := he.get t v2 ht
   exact hv2 D φ1 _ hxy ((hR.env t v hv1).mono (fun _ h => h) ag)
 · obtain ⟨_, kk1, a1, a2, _⟩ := hh.get _ _ hc
   exact hS.img c kk1 a1 (by rw [← a2]; exact hr)
 · simp only [φ1] at hB
   split at hB
   · rename_i e; subst e
     exact .inr (hS.img b k hk hro)
   · exact hS.fnew B vs' hB
theorem CovS.frzH {n0 n n2 : Nat} {v v' v2 : AV} {h h' h2 : Hp} {x : AV} {b : Nat} {k : Blk} {cs : List AV} {m o : Nat} (hk : hget h b = some k) (hro : k.ro = false) (hx : (∃ cap, x = .sl b o m cap ∧ m ≤ cap) ∨ x = .sg b o m) (hcs : cs = k.cells.drop o ∨ cs = (k.cells.drop o).take cs.length) (hf : FzV x (.fz cs m) v v')
 (hh : FzH x (.fz cs m) b h h') (hc : CovS n0 v' h' n v2 h2 n2) : CovS n0 v h n v2 h2 n2 := by
 intro D φ w D0 φ0 H0 w0 u hD0 hD hv hH hS
 obtain ⟨hdb, ⟨⟨vs, elem, fr, q1, q2, q3, q4⟩, q5⟩⟩ := hH.at_ b k hk
 let φ1 : Phi := { φ with fz := fun B => if B = φ.blk b then some vs else φ.fz B }
 have ag : Agree D φ φ1 := ⟨fun c _ => ⟨rfl, rfl, rfl, rfl⟩, fun B vs' hB => by
  simp only [φ1]
  split
  · rename_i hBb
    subst hBb
    obtain ⟨elem', fr', h1⟩ := hH.fz _ _ hB
    rw [q1] at h1
    simp only [Option.some.injEq, Obj.cells.injEq] at h1
    rw [h1.1]
  · exact hB, rfl⟩
 have hxy : ∀ u1, VRel D φ1 x u1 → VRel D φ1 (.fz cs m) u1 := fun u1 h1 => by
  have get : ∀ (i : Nat) (a : AV), cs[i]? = some a → ∃ u, vs[φ.off b + o + i]? = some u ∧ VRel D φ a u := fun i a ha => by
   have ha' : k.cells[o + i]? = some a := by
    rcases hcs with e | e
    · rw [e, List.getElem?_drop] at ha; exact ha
    · rw [e, List.getElem?_take, List.getElem?_drop] at ha
      split at ha
      · exact ha
      · cases ha
   obtain ⟨u, hu, hr⟩ := q2 _ a ha'
   exact ⟨u, by rw [Nat.add_assoc]; exact hu, hr⟩
  have g1 : φ1.fz (φ.blk b) = some vs := by simp [φ1]
  have g2 : ∀ i, i < cs.length → φ.off b + o + i < vs.size := fun i hi => by
   obtain ⟨u, hu, _⟩ := get i _ (List.getElem?_eq_getElem hi)
   rcases Nat.lt_or_ge (φ.off b + o + i) vs.size with h' | h'
   · exact h'
   · rw [Array.getElem?_eq_none h'] at hu; cases hu
  have g3 : ∀ (i : Nat) (a : AV) (u : Value), cs[i]? = some a → vs[φ.off b + o + i]? = some u → VRel D φ1 a u := fun i a u ha hu => by
   obtain ⟨u', hu', hr⟩ := get i a ha
   rw [hu] at hu'; cases hu'
   exact hr.mono (fun _ h => h) ag
  rcases hx with ⟨cap, rfl, hcap⟩ | rfl
  · cases h1 with
    | sl _ _ _ _ _ => exact .fz _ _ _ _ _ vs g1 hcap g2 g3
  · cases h1 with
    | sg _ _ _ j cap _ _ _ hl => exact .fz _ _ _ _ _ vs g1 hl g2 g3
 have hH1 : HR D φ1 (hget h') w := by
  refine ⟨⟨fun c kk2 hc => ?_, fun b1 b2 k1 k2 hne h1 h2' hr => ?_⟩, fun B vs' hB => ?_, hH.lp, fun c kk B vs' hc hr hB => ?_⟩
  · obtain ⟨hne, kk, h3, e1, e2', e3, hv⟩ := hh.get c kk2 hc
    obtain ⟨d1, ⟨⟨vs', elem', fr', r1, r2, r3, r4⟩, r5⟩⟩ := hH.at_ c kk h3
    refine ⟨d1, ⟨⟨vs', elem', fr', r1, fun i v2 hi => ?_, by rw [e1, e2']; exact r3, by rw [e1, e2']; exact r4⟩, by rw [e3]; exact r5⟩⟩
    obtain ⟨v, hv1, hv2⟩ := hv.get hi
    obtain ⟨u, hu, hur⟩ := r2 i v hv1
    exact ⟨u, hu, hv2 D φ1 u hxy (hur.mono (fun _ h => h) ag)⟩
  · obtain ⟨_, kk1, a1, a2, _⟩ := hh.get _ _ h1
    obtain ⟨_, kk2, b1', b2', _⟩ := hh.get _ _ h2'
    exact hH.sep b1 b2 kk1 kk2 hne a1 b1' (by rw [← a2]; exact hr)
  · simp only [φ1] at hB
    split at hB
    · rename_i e; subst e; cases hB; exact ⟨elem, fr, q1⟩
    · exact hH.fz B vs' hB
  · obtain ⟨hne, kk1, a1, a2, _⟩ := hh.get _ _ hc
    simp only [φ1] at hB
    split at hB
    · rename_i e; subst e
      exact hH.sep c b kk1 k hne a1 hk (by rw [← a2]; exact hr)
    · exact hH.fsep c kk1 B vs' a1 (by rw [← a2]; exact hr) hB
 refine hc D φ1 w D0 φ0 H0 w0 u hD0 hD (hf D φ1 u hxy (hv.mono (fun _ h => h) ag)) hH1 ⟨hS.sub, ⟨hS.agree.at_, fun B vs' hB => ag.fz B vs' (hS.agree.fz B vs' hB), hS.agree.lp⟩, hH1, hS.frm, fun c kk2 hc hr => ?_, fun B vs' hB => ?_⟩
 · obtain ⟨_, kk1, a1, a2, _⟩ := hh.get _ _ hc
   exact hS.img c kk1 a1 (by rw [← a2]; exact hr)
 · simp only [φ1] at hB
   split at hB
   · rename_i e; subst e
     exact .inr (hS.img b k hk hro)
   · exact hS.fnew B vs' hB
end Go.Ab
end
section
/- The abstract layer, part 66: slices.Clone of what is frozen, where the copy is frozen too: the same value. -/
namespace Go.Ab
set_option maxRecDepth 100000
set_option linter.unusedSimpArgs false
set_option linter.unusedVariables false
section
variable {P : Program} {f : FuncId} {fn : Func} {z bytes : Nat} {zs : List AV}
end
end Go.Ab
end
section
/- The abstract layer, part 68: calls to which blocks are given up: they are frozen from then on. -/
namespace Go.Ab
set_option linter.unusedVariables false
set_option linter.unusedSimpArgs false
def dels : List Nat → List (Nat × Option Blk)
 | [] => []
 | b :: r => (b, none) :: dels r
theorem mget_dels {c : Nat} : ∀ {l : List Nat}, mget (dels l) c = if inl l c = true then some none else none
 | [] => rfl
 | b :: r => by
  simp only [dels, mget, inl_cons]
  by_cases h : c = b
  · subst h; simp
  · have h' : ¬ b = c := fun e => h e.symm
    rw [beq_ne h]
    simp [h', mget_dels (l := r)]
def wrt (h : Hp) : List Nat → Bool
 | [] => true
 | b :: r => (match hget h b with | some k => !k.ro | none => true) && wrt h r
theorem wrt_spec {h : Hp} : ∀ {l : List Nat} {b : Nat} {k : Blk}, wrt h l = true → inl l b = true → hget h b = some k → k.ro = false
 | [], b, k, _, hb, _ => by simp [inl] at hb
 | c :: r, b, k, hw, hb, hk => by
  simp only [wrt, Bool.and_eq_true] at hw
  rw [inl_cons] at hb
  by_cases h : c = b
  · subst h; rw [hk] at hw; simpa using hw.1
  · rw [if_neg h] at hb; exact wrt_spec hw.2 hb hk
theorem appL_del1 {pn : Option Value} {v : AV} {n : Nat} {rd : List Nat} {b : Nat} {h : Hp} : (Eff.mk v n rd [(b, none)] [] pn).appL h = hdel h b := (rfl)
attribute [go_sem ↓] appL_del1
end Go.Ab
end
