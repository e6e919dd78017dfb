/- The abstract layer, part 3: steps of the world that stand behind single operations: nothing changes; a block is made; a block's cells are written. -/
import Derived.Test.YtiacdfhaopnekaaAbOps
namespace Go.Ab
set_option linter.unusedVariables false

def Dn (D : Nat → Prop) (n m : Nat) : Nat → Prop := fun b => D b ∨ (n ≤ b ∧ b < m)

/-- The run's result stands for the effect. -/
def Sim (P : Program) (D : Nat → Prop) (φ : Phi) (H : Hf) (w : World) (n : Nat) (E : Eff) (r : Result Next) : Prop :=
  ∃ φ' u nx w', r = .ok nx w' ∧ (nx = .value u ∨ (nx = .skip ∧ u = undef)) ∧ n ≤ E.n ∧ VRel (Dn D n E.n) φ' E.v u ∧ Stp D φ H w (Dn D n E.n) φ' (E.app H) w' ∧
    (∀ b k, E.app H b = some k → k.ro = true → H b = some k) ∧ (∀ b r, mget E.md b = some r → inl E.rd b = true) ∧ (∀ b k, hget E.nw b = some k → n ≤ b ∧ b < E.n)

theorem Dn_self {D : Nat → Prop} {n : Nat} {b : Nat} : Dn D n n b ↔ D b :=
  ⟨fun h => h.elim id (fun h => by omega), .inl⟩

theorem Sim.pure {P : Program} {D : Nat → Prop} {φ : Phi} {H : Hf} {w : World} {n : Nat} {v : AV} {rd : List Nat} {u : Value} {r : Result Next} (hr : r = .ok (.value u) w) (hH : HR D φ H w) (hv : VRel D φ v u) :
    Sim P D φ H w n { v, n, rd } r := by
  have e : (Eff.app { v, n, rd } H) = H := by funext b; rfl
  have hd : ∀ b, D b → Dn D n n b := fun b h => .inl h
  refine ⟨φ, u, _, w, hr, .inl rfl, Nat.le_refl _, hv.mono hd (Agree.refl _ _), ?_, fun b k h _ => by rw [e] at h; exact h, fun b r h => by simp [mget] at h, fun b k h => by simp [hget] at h⟩
  rw [e]
  exact ⟨hd, Agree.refl _ _, ⟨fun b k hb => ⟨hd b (hH.at_ b k hb).1, (hH.at_ b k hb).2.mono hd (Agree.refl _ _) (hH.at_ b k hb).1 rfl⟩, hH.sep⟩, FRM.refl _ _ _, fun b k hb hk => .inr ⟨b, k, hb, hk, rfl⟩⟩

def Phi.set (φ : Phi) (n blk cap esz : Nat) : Phi where
  blk b := if b = n then blk else φ.blk b
  off b := if b = n then 0 else φ.off b
  cap b := if b = n then cap else φ.cap b
  esz b := if b = n then esz else φ.esz b

theorem Phi.set_agree {D : Nat → Prop} {φ : Phi} {n blk cap esz : Nat} (hn : ¬ D n) : Agree D φ (φ.set n blk cap esz) := fun b hb => by
  have : b ≠ n := fun e => hn (e ▸ hb)
  simp [Phi.set, this]

theorem getElem?_push_lt' {l : Array Obj} {o : Obj} {c : Nat} (h : c < l.size) : (l.push o)[c]? = l[c]? := by
  rw [Array.getElem?_push]; rw [if_neg (by omega)]

/-- A new block. -/
theorem Stp.alloc {D : Nat → Prop} {φ : Phi} {H : Hf} {w w' : World} {n : Nat} {z : List AV} {cs : Array Value} {elem : TypeId} {fr : Nat × Nat} {g : Option Nat} {cap esz : Nat}
    (hH : HR D φ H w) (hn : ¬ D n) (hw : w'.heap = w.heap.push (.cells cs elem fr)) (hos : w'.os = w.os) (htape : w'.tape = w.tape) (hout : w'.output = w.output)
    (hz : ∀ (i : Nat) (v : AV), z[i]? = some v → ∃ u, cs[i]? = some u ∧ VRel D φ v u) (hfr : ∀ i, i < cs.size → ¬ (fr.1 ≤ i ∧ i < fr.2)) (hg : ∀ e, g = some e → esz = e ∧ cs.size = cap * e) :
    Stp D φ H w (Dn D n (n + 1)) (φ.set n w.heap.size cap esz) (fun b => if b = n then some { cells := z, gr := g } else H b) w' := by
  have hD : ∀ b, D b → Dn D n (n + 1) b := fun b h => .inl h
  have hnn : ¬ D n := hn
  have hag := @Phi.set_agree D φ n w.heap.size cap esz hnn
  have hold : ∀ c, c < w.heap.size → w'.heap[c]? = w.heap[c]? := fun c hc => by rw [hw]; exact getElem?_push_lt' hc
  have hsz : w'.heap.size = w.heap.size + 1 := by rw [hw]; simp
  have hne : ∀ b k, H b = some k → b ≠ n := fun b k hb e => hnn (e ▸ (hH.at_ b k hb).1)
  refine ⟨hD, hag, ⟨fun b k hb => ?_, fun b1 b2 k1 k2 hne' h1 h2 hk => ?_⟩, ⟨hos, htape, hout, by omega, fun c hc _ => hold c hc⟩, fun b k hb hk => ?_⟩
  · by_cases hbn : b = n
    · subst hbn
      simp at hb; subst hb
      refine ⟨.inr ⟨Nat.le_refl _, by omega⟩, ⟨⟨cs, elem, fr, by simp [Phi.set, hw], fun i v hv => ?_, fun _ => ⟨by simp [Phi.set], hfr⟩, fun e he => ⟨rfl, by simp [Phi.set]; exact (hg e he).1, by simp [Phi.set]; exact (hg e he).2⟩⟩, fun g' h => by simp at h⟩⟩
      obtain ⟨u, hu, hvu⟩ := hz i v hv
      exact ⟨u, by simpa [Phi.set] using hu, hvu.mono hD hag⟩
    · rw [if_neg hbn] at hb
      have h' := hH.at_ b k hb
      exact ⟨hD b h'.1, h'.2.mono hD hag h'.1 (hold _ h'.2.lt)⟩
  · by_cases hb1 : b1 = n <;> by_cases hb2 : b2 = n
    · exact absurd (hb1.trans hb2.symm) hne'
    · rw [if_neg hb2] at h2
      have := (hH.at_ b2 k2 h2).2.lt
      simp [Phi.set, hb1, hb2]; omega
    · rw [if_neg hb1] at h1
      have := (hH.at_ b1 k1 h1).2.lt
      simp [Phi.set, hb1, hb2]; omega
    · rw [if_neg hb1] at h1; rw [if_neg hb2] at h2
      simp [Phi.set, hb1, hb2]
      exact hH.sep b1 b2 k1 k2 hne' h1 h2 hk
  · by_cases hbn : b = n
    · left; simp [Phi.set, hbn]
    · rw [if_neg hbn] at hb
      right; exact ⟨b, k, hb, hk, by simp [Phi.set, hbn]⟩

theorem app_alloc {v : AV} {n m : Nat} {rd : List Nat} {k : Blk} {H : Hf} : (Eff.app { v, n := m, rd, nw := [(n, k)] } H) = fun b => if b = n then some k else H b := by
  funext b
  simp only [Eff.app, mget, hget]
  by_cases h : b = n
  · subst h; simp
  · have : Nat.beq n b = false := by
      rw [Bool.eq_false_iff]; intro h'; exact h (Nat.eq_of_beq_eq_true h').symm
    simp [this, h]

theorem Sim.alloc {P : Program} {D : Nat → Prop} {φ : Phi} {H : Hf} {w w' : World} {n : Nat} {z : List AV} {cs : Array Value} {elem : TypeId} {fr : Nat × Nat} {g : Option Nat} {cap esz : Nat} {v : AV} {rd : List Nat} {u : Value} {r : Result Next}
    (hr : r = .ok (.value u) w')
    (hH : HR D φ H w) (hn : ¬ D n) (hw : w'.heap = w.heap.push (.cells cs elem fr)) (hos : w'.os = w.os) (htape : w'.tape = w.tape) (hout : w'.output = w.output)
    (hz : ∀ (i : Nat) (v : AV), z[i]? = some v → ∃ u, cs[i]? = some u ∧ VRel D φ v u) (hfr : ∀ i, i < cs.size → ¬ (fr.1 ≤ i ∧ i < fr.2)) (hg : ∀ e, g = some e → esz = e ∧ cs.size = cap * e)
    (hv : VRel (Dn D n (n + 1)) (φ.set n w.heap.size cap esz) v u) :
    Sim P D φ H w n { v, n := n + 1, rd, nw := [(n, { cells := z, gr := g })] } r := by
  have hnn : ∀ b k, H b = some k → b ≠ n := fun b k hb e => hn (e ▸ (hH.at_ b k hb).1)
  refine ⟨φ.set n w.heap.size cap esz, u, _, w', hr, .inl rfl, by show n ≤ n + 1; omega, hv, by rw [app_alloc]; exact Stp.alloc hH hn hw hos htape hout hz hfr hg, fun b k hb hk => ?_, fun b r h => by simp [mget] at h, fun b k h => ?_⟩
  · rw [app_alloc] at hb
    by_cases hbn : b = n
    · simp [hbn] at hb; subst hb; simp at hk
    · simpa [hbn] using hb
  · simp only [hget] at h
    by_cases hbn : Nat.beq n b = true
    · have := Nat.eq_of_beq_eq_true hbn; show n ≤ b ∧ b < n + 1; omega
    · simp [hbn] at h

theorem getElem?_setIfInBounds' {l : Array Obj} {o : Obj} {c d : Nat} (hc : c < l.size) : (l.setIfInBounds c o)[d]? = if c = d then some o else l[d]? := by
  rw [Array.getElem?_setIfInBounds]; split <;> simp_all

/-- A block's cells are written. -/
theorem Stp.write {D : Nat → Prop} {φ : Phi} {H : Hf} {w w' : World} {b : Nat} {k : Blk} {cs cs' : Array Value} {elem : TypeId} {fr : Nat × Nat} {xs : List AV}
    (hH : HR D φ H w) (hb : H b = some k) (hro : k.ro = false) (hk : w.heap[φ.blk b]? = some (.cells cs elem fr)) (hw : w'.heap = w.heap.setIfInBounds (φ.blk b) (.cells cs' elem fr))
    (hos : w'.os = w.os) (htape : w'.tape = w.tape) (hout : w'.output = w.output) (hsize : cs'.size = cs.size)
    (hz : ∀ (i : Nat) (v : AV), xs[i]? = some v → ∃ u, cs'[i]? = some u ∧ VRel D φ v u) :
    Stp D φ H w D φ (fun c => if c = b then some { k with cells := xs } else H c) w' := by
  have hlt := (hH.at_ b k hb).2.lt
  have hne : ∀ c, c ≠ φ.blk b → w'.heap[c]? = w.heap[c]? := fun c hc => by rw [hw, getElem?_setIfInBounds' hlt, if_neg (Ne.symm hc)]
  refine ⟨fun _ h => h, Agree.refl _ _, ⟨fun c k' hc => ?_, fun b1 b2 k1 k2 hne' h1 h2 hk' => ?_⟩, ⟨hos, htape, hout, by rw [hw]; simp, fun c hc hn => hne c (fun e => hn b k hb hro e.symm)⟩, fun c k' hc hk' => ?_⟩
  · by_cases hcb : c = b
    · subst hcb
      simp at hc; subst hc
      obtain ⟨hd, ⟨⟨cs0, elem0, fr0, h1, h2, h3, h4⟩, h5⟩⟩ := hH.at_ c k hb
      rw [hk] at h1
      simp only [Option.some.injEq, Obj.cells.injEq] at h1
      obtain ⟨rfl, rfl, rfl⟩ := h1
      refine ⟨hd, ⟨⟨cs', elem, fr, by rw [hw, getElem?_setIfInBounds' hlt]; simp, fun i v hv => ?_, fun _ => ⟨(h3 hro).1, fun i hi => (h3 hro).2 i (by rw [← hsize]; exact hi)⟩, fun e he => ⟨hro, (h4 e he).2.1, by rw [hsize]; exact (h4 e he).2.2⟩⟩, h5⟩⟩
      rw [(h3 hro).1, Nat.zero_add]
      exact hz i v hv
    · rw [if_neg hcb] at hc
      have h' := hH.at_ c k' hc
      exact ⟨h'.1, h'.2.mono (fun _ h => h) (Agree.refl _ _) h'.1 (hne _ (fun e => hH.sep b c k k' (Ne.symm hcb) hb hc hro e.symm))⟩
  · have key : ∀ c k', (if c = b then some { k with cells := xs } else H c) = some k' → ∃ k0, H c = some k0 ∧ k0.ro = k'.ro := fun c k' hc => by
      by_cases hcb : c = b
      · subst hcb; simp at hc; subst hc; exact ⟨k, hb, rfl⟩
      · rw [if_neg hcb] at hc; exact ⟨k', hc, rfl⟩
    obtain ⟨k10, g1, r1⟩ := key b1 k1 h1
    obtain ⟨k20, g2, r2⟩ := key b2 k2 h2
    exact hH.sep b1 b2 k10 k20 hne' g1 g2 (r1.trans hk')
  · by_cases hcb : c = b
    · subst hcb; exact .inr ⟨c, k, hb, hro, rfl⟩
    · rw [if_neg hcb] at hc; exact .inr ⟨c, k', hc, hk', rfl⟩

theorem beq_ne {n b : Nat} (h : ¬ b = n) : Nat.beq n b = false := by
  rw [Bool.eq_false_iff]; intro h'; exact h (Nat.eq_of_beq_eq_true h').symm
theorem beq_self' {n : Nat} : Nat.beq n n = true := by simp

theorem app_write {v : AV} {n b : Nat} {rd : List Nat} {k : Blk} {H : Hf} : (Eff.app { v, n, rd, md := [(b, some k)] } H) = fun c => if c = b then some k else H c := by
  funext c
  simp only [Eff.app, mget, hget]
  by_cases h : c = b
  · subst h; simp
  · simp [beq_ne h, h]

theorem Sim.write {P : Program} {D : Nat → Prop} {φ : Phi} {H : Hf} {w w' : World} {n b : Nat} {k : Blk} {cs cs' : Array Value} {elem : TypeId} {fr : Nat × Nat} {xs : List AV} {v : AV} {u : Value} {nx : Next} {rd : List Nat} {r : Result Next}
    (hr : r = .ok nx w') (hnx : nx = .value u ∨ (nx = .skip ∧ u = undef)) (hv : VRel D φ v u) (hrd : inl rd b = true)
    (hH : HR D φ H w) (hb : H b = some k) (hro : k.ro = false) (hk : w.heap[φ.blk b]? = some (.cells cs elem fr)) (hw : w'.heap = w.heap.setIfInBounds (φ.blk b) (.cells cs' elem fr))
    (hos : w'.os = w.os) (htape : w'.tape = w.tape) (hout : w'.output = w.output) (hsize : cs'.size = cs.size)
    (hz : ∀ (i : Nat) (v : AV), xs[i]? = some v → ∃ u, cs'[i]? = some u ∧ VRel D φ v u) :
    Sim P D φ H w n { v, n, rd, md := [(b, some { k with cells := xs })] } r := by
  have h := Stp.write hH hb hro hk hw hos htape hout hsize hz
  have hd : ∀ b, D b → Dn D n n b := fun b h => .inl h
  have e : Dn D n n = D := by funext b; exact propext Dn_self
  refine ⟨φ, u, nx, w', hr, hnx, Nat.le_refl _, hv.mono hd (Agree.refl _ _), by rw [app_write, e]; exact h, fun c k' hc hk' => ?_, fun c r hc => ?_, fun b k h => by simp [hget] at h⟩
  · rw [app_write] at hc
    by_cases hcb : c = b
    · simp [hcb] at hc; subst hc; simp [hro] at hk'
    · simpa [hcb] using hc
  · simp only [mget] at hc
    by_cases hcb : c = b
    · subst hcb; exact hrd
    · simp [beq_ne hcb] at hc

/-- A block made by growth is given up; its cells, and more, go by a new name, in the same place. -/
theorem Sim.growIn {P : Program} {D : Nat → Prop} {φ : Phi} {H : Hf} {w w' : World} {n b e : Nat} {k : Blk} {cs cs' : Array Value} {elem : TypeId} {fr : Nat × Nat} {xs : List AV} {v : AV} {u : Value} {rd : List Nat} {r : Result Next}
    (hr : r = .ok (.value u) w') (hrd : inl rd b = true) (hn : ¬ D n)
    (hH : HR D φ H w) (hb : H b = some k) (hgr : k.gr = some e) (hk : w.heap[φ.blk b]? = some (.cells cs elem fr)) (hw : w'.heap = w.heap.setIfInBounds (φ.blk b) (.cells cs' elem fr))
    (hos : w'.os = w.os) (htape : w'.tape = w.tape) (hout : w'.output = w.output) (hsize : cs'.size = cs.size)
    (hz : ∀ (i : Nat) (v : AV), xs[i]? = some v → ∃ u, cs'[i]? = some u ∧ VRel D φ v u)
    (hv : VRel (Dn D n (n + 1)) (φ.set n (φ.blk b) (φ.cap b) e) v u) :
    Sim P D φ H w n { v, n := n + 1, rd, md := [(b, none)], nw := [(n, { cells := xs, gr := some e })] } r := by
  have hD : ∀ b, D b → Dn D n (n + 1) b := fun b h => .inl h
  have hnn : ¬ D n := hn
  have hag := @Phi.set_agree D φ n (φ.blk b) (φ.cap b) e hnn
  obtain ⟨hdb, ⟨⟨cs0, elem0, fr0, h1, h2, h3, h4⟩, h5⟩⟩ := hH.at_ b k hb
  have hlt := (hH.at_ b k hb).2.lt
  rw [hk] at h1
  simp only [Option.some.injEq, Obj.cells.injEq] at h1
  obtain ⟨rfl, rfl, rfl⟩ := h1
  obtain ⟨hro, hesz, hcap⟩ := h4 e hgr
  have hbn : b ≠ n := fun e => hnn (e ▸ hdb)
  have happ : (Eff.app { v, n := n + 1, rd, md := [(b, none)], nw := [(n, { cells := xs, gr := some e })] } H) = fun c => if c = b then none else if c = n then some { cells := xs, gr := some e } else H c := by
    funext c
    simp only [Eff.app, mget, hget]
    by_cases h : c = b
    · subst h; simp
    · by_cases h' : c = n
      · subst h'; simp [beq_ne h, h]
      · simp [beq_ne h, beq_ne h', h, h']
  have hne : ∀ c, c ≠ φ.blk b → w'.heap[c]? = w.heap[c]? := fun c hc => by rw [hw, getElem?_setIfInBounds' hlt, if_neg (Ne.symm hc)]
  refine ⟨φ.set n (φ.blk b) (φ.cap b) e, u, _, w', hr, .inl rfl, by show n ≤ n + 1; omega, hv, ?_, fun c k' hc hk' => ?_, fun c r hc => ?_, fun c k' h => ?_⟩
  · rw [happ]
    refine ⟨hD, hag, ⟨fun c k' hc => ?_, fun b1 b2 k1 k2 hne' g1 g2 hk' => ?_⟩, ⟨hos, htape, hout, by rw [hw]; simp, fun c hc hn => hne c (fun e => hn b k hb hro e.symm)⟩, fun c k' hc hk' => ?_⟩
    · by_cases hcb : c = b
      · simp [hcb] at hc
      · rw [if_neg hcb] at hc
        by_cases hcn : c = n
        · subst hcn
          simp at hc; subst hc
          refine ⟨.inr ⟨Nat.le_refl _, Nat.lt_succ_self _⟩, ⟨⟨cs', elem, fr, by simp [Phi.set]; rw [hw, getElem?_setIfInBounds' hlt]; simp, fun i v hv => ?_, fun _ => ⟨by simp [Phi.set], fun i hi => (h3 hro).2 i (by rw [← hsize]; exact hi)⟩, fun e' he => ?_⟩, fun g' h => by simp at h⟩⟩
          · obtain ⟨u, hu, hvu⟩ := hz i v hv
            exact ⟨u, by simpa [Phi.set] using hu, hvu.mono hD hag⟩
          · simp at he; subst he
            exact ⟨rfl, by simp [Phi.set], by simp [Phi.set]; rw [hsize]; exact hcap⟩
        · rw [if_neg hcn] at hc
          have h' := hH.at_ c k' hc
          exact ⟨hD c h'.1, h'.2.mono hD hag h'.1 (hne _ (fun e => hH.sep b c k k' (Ne.symm hcb) hb hc hro e.symm))⟩
    · have hb1 : b1 ≠ b := fun e => by simp [e] at g1
      have hb2 : b2 ≠ b := fun e => by simp [e] at g2
      rw [if_neg hb1] at g1; rw [if_neg hb2] at g2
      by_cases hb1n : b1 = n <;> by_cases hb2n : b2 = n
      · exact absurd (hb1n.trans hb2n.symm) hne'
      · rw [if_neg hb2n] at g2
        simp [Phi.set, hb1n, hb2n]
        exact hH.sep b b2 k k2 (Ne.symm hb2) hb g2 hro
      · rw [if_neg hb1n] at g1
        simp [Phi.set, hb1n, hb2n]
        exact hH.sep b1 b k1 k hb1 g1 hb hk'
      · rw [if_neg hb1n] at g1; rw [if_neg hb2n] at g2
        simp [Phi.set, hb1n, hb2n]
        exact hH.sep b1 b2 k1 k2 hne' g1 g2 hk'
    · have hcb : c ≠ b := fun e => by simp [e] at hc
      rw [if_neg hcb] at hc
      by_cases hcn : c = n
      · right; exact ⟨b, k, hb, hro, by simp [Phi.set, hcn]⟩
      · rw [if_neg hcn] at hc
        right; exact ⟨c, k', hc, hk', by simp [Phi.set, hcn]⟩
  · rw [happ] at hc
    by_cases hcb : c = b
    · simp [hcb] at hc
    · simp only [hcb, if_false] at hc
      by_cases hcn : c = n
      · simp [hcn] at hc; subst hc; simp at hk'
      · simpa [hcn] using hc
  · simp only [mget] at hc
    by_cases hcb : c = b
    · subst hcb; exact hrd
    · simp [beq_ne hcb] at hc
  · simp only [hget] at h
    by_cases hcn : c = n
    · show n ≤ c ∧ c < n + 1; omega
    · simp [beq_ne hcn] at h

/-- A block made by growth is given up; its cells, and more, lie in a new place. -/
theorem Sim.growOut {P : Program} {D : Nat → Prop} {φ : Phi} {H : Hf} {w w' : World} {n b e cap : Nat} {cs : Array Value} {elem : TypeId} {fr : Nat × Nat} {xs : List AV} {v : AV} {u : Value} {rd : List Nat} {r : Result Next}
    (hr : r = .ok (.value u) w') (hrd : inl rd b = true) (hn : ¬ D n) (hdb : D b)
    (hH : HR D φ H w) (hw : w'.heap = w.heap.push (.cells cs elem fr)) (hos : w'.os = w.os) (htape : w'.tape = w.tape) (hout : w'.output = w.output)
    (hz : ∀ (i : Nat) (v : AV), xs[i]? = some v → ∃ u, cs[i]? = some u ∧ VRel D φ v u) (hfr : ∀ i, i < cs.size → ¬ (fr.1 ≤ i ∧ i < fr.2)) (hcap : cs.size = cap * e)
    (hv : VRel (Dn D n (n + 1)) (φ.set n w.heap.size cap e) v u) :
    Sim P D φ H w n { v, n := n + 1, rd, md := [(b, none)], nw := [(n, { cells := xs, gr := some e })] } r := by
  have hnn : ¬ D n := hn
  have hbn : b ≠ n := fun e => hnn (e ▸ hdb)
  have hst := @Stp.alloc D φ H w w' n xs cs elem fr (some e) cap e hH hn hw hos htape hout hz hfr (fun e' he => by simp at he; subst he; exact ⟨rfl, hcap⟩)
  have happ : (Eff.app { v, n := n + 1, rd, md := [(b, none)], nw := [(n, { cells := xs, gr := some e })] } H) = fun c => if c = b then none else if c = n then some { cells := xs, gr := some e } else H c := by
    funext c
    simp only [Eff.app, mget, hget]
    by_cases h : c = b
    · subst h; simp
    · by_cases h' : c = n
      · subst h'; simp [beq_ne h, h]
      · simp [beq_ne h, beq_ne h', h, h']
  refine ⟨φ.set n w.heap.size cap e, u, _, w', hr, .inl rfl, by show n ≤ n + 1; omega, hv, ?_, fun c k' hc hk' => ?_, fun c r hc => ?_, fun c k' h => ?_⟩
  · rw [happ]
    have sub : ∀ c k, (if c = b then none else if c = n then some { cells := xs, gr := some e } else H c) = some k → (if c = n then some { cells := xs, gr := some e } else H c) = some k := fun c k hc => by
      by_cases hcb : c = b
      · simp [hcb] at hc
      · simpa [hcb] using hc
    exact ⟨hst.sub, hst.agree, ⟨fun c k hc => hst.hr.at_ c k (sub c k hc), fun b1 b2 k1 k2 hne h1 h2 hk => hst.hr.sep b1 b2 k1 k2 hne (sub _ _ h1) (sub _ _ h2) hk⟩, hst.frm, fun c k hc hk => hst.img c k (sub c k hc) hk⟩
  · rw [happ] at hc
    by_cases hcb : c = b
    · simp [hcb] at hc
    · simp only [hcb, if_false] at hc
      by_cases hcn : c = n
      · simp [hcn] at hc; subst hc; simp at hk'
      · simpa [hcn] using hc
  · simp only [mget] at hc
    by_cases hcb : c = b
    · subst hcb; exact hrd
    · simp [beq_ne hcb] at hc
  · simp only [hget] at h
    by_cases hcn : c = n
    · show n ≤ c ∧ c < n + 1; omega
    · simp [beq_ne hcn] at h

end Go.Ab
