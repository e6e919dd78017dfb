/- The abstract layer, part 8: 'step' is sound, the other operations. -/
import Derived.Test.YtiacdfhaopnekaaAbStep
namespace Go.Ab
set_option linter.unusedVariables false
set_option linter.unusedSimpArgs false

section
variable {P : Program} {D : Nat → Prop} {φ : Phi} {w : World} {n : Nat} {e : Env} {h : Hp} {E : Eff} {ρ : Operand → Value}

theorem asTy_agg {t : TypeId} {x : AV} {y : Value} {xs : List AV} {cs : List Value} (hg : tyAgg P t = some true) (hx : x = .agg xs) (h : VRel D φ x y) : ∃ us, y = .agg us.toArray ∧ All2 D φ xs us ∧ asTy P t us y := by
  subst hx
  obtain ⟨m, rfl, hm⟩ := h.agg_inv
  exact ⟨m, rfl, hm, .inl ⟨hg, rfl⟩⟩

theorem snd_eqk {neg g : Bool} {ks : List Kd} {x y : Opd} {a b : Value} {t : TypeId} {xo yo : Operand} {c : Bool} (hs : step (.eqk neg g ks x y) e h n = some (c, E)) (hk : kdOf P 9 t = some ks) (hg : tyAgg P t = some g) (hgd : guardOk P t = true)
    (hnk : (∀ k, P.underlying t ≠ some (.int k)) ∧ P.underlying t ≠ some .string)
    (hx : OK1 D φ e h x a) (hy : OK1 D φ e h y b) (hH : HR D φ (only (hget h) E.rd) w) :
    Sim P D φ (only (hget h) E.rd) w n E ((do pure (Next.value (← (do eqGuard (if neg then .neq else .eql) t xo yo a b; binOp (if neg then .neq else .eql) t a b))) : Sem Next).run P w) := by
  simp only [step, Option.bind_eq_some_iff] at hs
  obtain ⟨v, hv, v', hv', r, hr, hs⟩ := hs
  have ha := hx v hv
  have hb := hy v' hv'
  refine snd_pure (u := .bool (bif neg then !r else r)) hs hH ?_ (.b _)
  have hgd' : P.eqGuardType P.depth t = false := by simpa [guardOk] using hgd
  have key : (Op.equal t a b).run P w = .ok r w ∧ a ≠ .nilIface ∧ ((∃ q, a = .bool q) ∧ (∃ q, b = .bool q) ∨ (∃ q, a = .agg q) ∧ (∃ q, b = .agg q)) := by
    unfold eqk at hr
    split at hr
    · obtain ⟨us, rfl, h1⟩ := ha.agg_inv
      obtain ⟨vs, rfl, h2⟩ := hb.agg_inv
      exact ⟨eqTy 9 t ks hk Op.maxDepth (by decide) _ _ us vs _ _ r hr h1 h2 (.inl ⟨hg, rfl⟩) (.inl ⟨hg, rfl⟩), by simp, .inr ⟨⟨_, rfl⟩, ⟨_, rfl⟩⟩⟩
    · have hu : P.underlying t = some .bool := by
        unfold tyAgg at hg
        simp only [kdOf] at hk
        split at hk <;> rename_i hu
        · exact hu
        · exact absurd hu (hnk.1 _)
        · exact absurd hu hnk.2
        · rw [hu] at hg; cases hg
        · rw [hu] at hg; cases hg
        · cases hk
      have hks : ks = [.b] := by simp only [kdOf, hu] at hk; cases hk; rfl
      subst hks
      have h1 : (Op.equal t a b).run P w = .ok r w := eqTy 9 t [.b] hk Op.maxDepth (by decide) _ _ [a] [b] _ _ r hr (.cons ha .nil) (.cons hb .nil) (.inr ⟨hg, rfl⟩) (.inr ⟨hg, rfl⟩)
      simp only [eqs, Option.bind_eq_some_iff] at hr
      obtain ⟨q, hq, _⟩ := hr
      unfold eq1 at hq
      split at hq
      · cases ha; cases hb; exact ⟨h1, by simp, .inl ⟨⟨_, rfl⟩, ⟨_, rfl⟩⟩⟩
      · contradiction
      · contradiction
      · cases hq
    · cases hr
  obtain ⟨h1, h2, h3⟩ := key
  have hge := run_eqGuard_of (P := P) (w := w) (op := if neg then .neq else .eql) (t := t) (x := xo) (y := yo) (b := b) (.inr hgd') h2
  have hb2 : (binOp (if neg then .neq else .eql) t a b).run P w = .ok (.bool (bif neg then !r else r)) w := by
    rcases h3 with ⟨⟨q, rfl⟩, ⟨q', rfl⟩⟩ | ⟨⟨q, rfl⟩, ⟨q', rfl⟩⟩ <;> cases neg <;> simp [binOp, h1]
  simp [hge, hb2]

theorem eqn_eq {k : Nat} {t : TypeId} {a b : AV} {x y : Value} {r : Bool} {d : Nat} (hk : nilTy P t = some k) (hr : eqn k a b = some r) (ha : VRel D φ a x) (hb : VRel D φ b y) :
    (Op.equalIn (d + 1) t x y).run P w = .ok r w ∧ x ≠ .nilIface ∧ (∀ q, x ≠ .agg q) ∧ (∀ neg : Bool, (binOp (if neg then .neq else .eql) t x y).run P w = ((Op.equal t x y).run P w).andThen fun r w' => .ok (.bool (bif neg then !r else r)) w') := by
  unfold nilTy at hk
  split at hk <;> rename_i hu <;> cases hk <;> unfold eqn at hr <;> split at hr <;> first | contradiction | cases hr <;> cases ha <;> cases hb <;>
    refine ⟨by simp only [Op.equalIn, Sem.run_bind, run_underlying hu, Result.andThen_ok]; simp, by simp, by simp, fun neg => by cases neg <;> simp only [binOp, Sem.run_bind, Bool.false_eq_true, if_false, if_true, Sem.run_pure, cond_true, cond_false]⟩

theorem snd_eqn {neg : Bool} {k : Nat} {x y : Opd} {a b : Value} {t : TypeId} {xo yo : Operand} {c : Bool} (hs : step (.eqn neg k x y) e h n = some (c, E)) (hk : nilTy P t = some k)
    (hx : OK1 D φ e h x a) (hy : OK1 D φ e h y b) (hH : HR D φ (only (hget h) E.rd) w) :
    Sim P D φ (only (hget h) E.rd) w n E ((do pure (Next.value (← (do eqGuard (if neg then .neq else .eql) t xo yo a b; binOp (if neg then .neq else .eql) t a b))) : Sem Next).run P w) := by
  simp only [step, Option.bind_eq_some_iff] at hs
  obtain ⟨v, hv, v', hv', r, hr, hs⟩ := hs
  have ha := hx v hv
  have hb := hy v' hv'
  refine snd_pure (u := .bool (bif neg then !r else r)) hs hH ?_ (.b _)
  obtain ⟨h1, h2, h3, h4⟩ := eqn_eq (P := P) (w := w) (d := 9999) hk hr ha hb
  have h1 : (Op.equal t a b).run P w = .ok r w := h1
  have hge := run_eqGuard_of (P := P) (w := w) (op := if neg then .neq else .eql) (t := t) (x := xo) (y := yo) (b := b) (.inl h3) h2
  simp only [Sem.run_bind, hge, h4 neg, h1, Result.andThen_ok, Sem.run_pure]

theorem snd_not {x : Opd} {u : Value} {c : Bool} (hs : step (.not x) e h n = some (c, E)) (hx : OK1 D φ e h x u) (hH : HR D φ (only (hget h) E.rd) w) :
    Sim P D φ (only (hget h) E.rd) w n E ((do pure (Next.value (← Op.unary .not u)) : Sem Next).run P w) := by
  simp only [step, Option.bind_eq_some_iff] at hs
  obtain ⟨v, hv, hs⟩ := hs
  have hr := hx v hv
  split at hs
  · cases hr; exact snd_pure hs hH (by simp [Op.unary]) (.b _)
  · cases hs

theorem snd_neg {x : Opd} {u : Value} {c : Bool} (hs : step (.neg x) e h n = some (c, E)) (hx : OK1 D φ e h x u) (hH : HR D φ (only (hget h) E.rd) w) :
    Sim P D φ (only (hget h) E.rd) w n E ((do pure (Next.value (← Op.unary .neg u)) : Sem Next).run P w) := by
  simp only [step, Option.bind_eq_some_iff] at hs
  obtain ⟨v, hv, hs⟩ := hs
  have hr := hx v hv
  split at hs
  · cases hr; exact snd_pure hs hH (by simp [Op.unary, Op.intArith]) (.i _ _)
  · cases hs

theorem snd_i2i {k : IntKind} {x : Opd} {u : Value} {s d : TypeId} {c : Bool} (hs : step (.i2i k x) e h n = some (c, E)) (h1 : ∃ j, P.underlying s = some (.int j)) (h2 : P.underlying d = some (.int k)) (hx : OK1 D φ e h x u) (hH : HR D φ (only (hget h) E.rd) w) :
    Sim P D φ (only (hget h) E.rd) w n E ((do pure (Next.value (← convert s d u)) : Sem Next).run P w) := by
  obtain ⟨j, h1⟩ := h1
  simp only [step, Option.bind_eq_some_iff] at hs
  obtain ⟨v, hv, hs⟩ := hs
  have hr := hx v hv
  split at hs
  · cases hr; exact snd_pure hs hH (by simp [convert, run_underlying h1, run_underlying h2, Conv.intToInt]) (.i _ _)
  · cases hs

theorem snd_idc {x : Opd} {u : Value} {s d : TypeId} {c : Bool} (hs : step (.idc x) e h n = some (c, E)) (h1 : P.underlying s = some .string) (h2 : P.underlying d = some .string) (hx : OK1 D φ e h x u) (hH : HR D φ (only (hget h) E.rd) w) :
    Sim P D φ (only (hget h) E.rd) w n E ((do pure (Next.value (← convert s d u)) : Sem Next).run P w) := by
  simp only [step, Option.bind_eq_some_iff] at hs
  obtain ⟨v, hv, hs⟩ := hs
  have hr := hx v hv
  split at hs
  · cases hr; exact snd_pure hs hH (by simp [convert, run_underlying h1, run_underlying h2]) (.s _)
  · cases hs

theorem run_markStringish {a : Addr} {cs : Array Value} {el : TypeId} {fr : Nat × Nat} (hw : w.heap[a.block]? = some (.cells cs el fr)) : (markStringish a).run P w = .ok () (w.freeze { block := a.block, off := cs.size } 1) := by
  have hsh : w.shape? a.block = some (el, cs.size) := by simp [World.shape?, hw]
  simp only [markStringish, Sem.run_bind, run_shape, Result.andThen_ok, hsh, run_freeze]

theorem freeze_new {w : World} {cs : Array Value} {el : TypeId} {m : Nat} (hm : m = w.heap.size) : (World.freeze { w with heap := w.heap.push (.cells cs el) } ⟨m, cs.size, none⟩ 1) = { w with heap := w.heap.push (.cells cs el (cs.size, cs.size + 1)) } := by
  subst hm
  simp only [World.freeze]
  rw [if_neg (by decide)]
  congr 1
  apply Array.ext_getElem?
  intro d
  simp only [Array.getElem?_modify, Array.getElem?_push]
  by_cases hd : d = w.heap.size
  · subst hd; simp
  · simp [hd, show ¬ w.heap.size = d from fun e => hd e.symm]

def sbCells (s : ByteArray) (cap : Nat) : Array Value := s.data.map (fun b : UInt8 => Value.int .u8 b.toNat) ++ Array.replicate (cap - s.size) (Value.int .u8 0)

theorem run_stringToBytes (el : TypeId) (s : ByteArray) (w : World) : ∃ cap, s.size ≤ cap ∧ (Conv.stringToBytes el s).run P w =
    .ok (.slice (some ⟨w.heap.size, 0, none⟩) s.size cap)
      { w with drawn := w.drawn + 1, heap := w.heap.push (.cells (sbCells s cap) el ((sbCells s cap).size, (sbCells s cap).size + 1)) } := by
  refine ⟨(Question.appendCap s.size 0 el).cut (w.tape w.drawn (.appendCap s.size 0 el)), ?_, ?_⟩
  · show s.size ≤ s.size + _; omega
  · simp only [Conv.stringToBytes, Sem.run_bind, run_choose]
    rw [if_neg (by simp [Question.forced])]
    simp only [Result.andThen_ok, run_newRow]
    generalize (Question.appendCap s.size 0 el).cut (w.tape w.drawn (.appendCap s.size 0 el)) = cap
    have hcs : (s.data.map (fun b : UInt8 => Value.int .u8 b.toNat) ++ Array.replicate (cap - s.size) (Value.int .u8 0)) = sbCells s cap := rfl
    rw [hcs]
    generalize sbCells s cap = cs
    rw [run_markStringish (cs := cs) (el := el) (fr := (0, 0)) (by simp)]
    simp only [Result.andThen_ok, Sem.run_pure]
    rw [freeze_new (w := { w with drawn := w.drawn + 1 }) rfl]

theorem snd_s2b {x : Opd} {u : Value} {s d el : TypeId} {c : Bool} (hs : step (.s2b x) e h n = some (c, E)) (h1 : P.underlying s = some .string) (h2 : P.underlying d = some (.slice el)) (h3 : P.underlying el = some (.int .u8)) (hn : n < E.n → ¬ D n)
    (hx : OK1 D φ e h x u) (hH : HR D φ (only (hget h) E.rd) w) :
    Sim P D φ (only (hget h) E.rd) w n E ((do pure (Next.value (← convert s d u)) : Sem Next).run P w) := by
  simp only [step, Option.bind_eq_some_iff] at hs
  obtain ⟨v, hv, hs⟩ := hs
  have hr := hx v hv
  split at hs
  · rename_i l
    cases hr
    simp only [Option.some.injEq, Prod.mk.injEq] at hs
    obtain ⟨_, rfl⟩ := hs
    obtain ⟨cap, hcap, hrun⟩ := run_stringToBytes (P := P) el ⟨l.toArray⟩ w
    rw [size_mk] at hcap hrun
    have hsz : (sbCells ⟨l.toArray⟩ cap).size = cap := by simp [sbCells, size_mk]; omega
    generalize hcs : sbCells ⟨l.toArray⟩ cap = cs at hrun hsz
    refine Sim.alloc (g := some 1) (cap := cap) (esz := 1) (cs := cs) (elem := el) (fr := (cs.size, cs.size + 1)) (w' := { w with drawn := w.drawn + 1, heap := w.heap.push (.cells cs el (cs.size, cs.size + 1)) }) (u := .slice (some ⟨w.heap.size, 0, none⟩) l.length cap) ?_ hH (hn (Nat.lt_succ_self _)) rfl rfl rfl rfl (fun i v hv => ?_) (fun i hi => by show ¬ (cs.size ≤ i ∧ i < cs.size + 1); omega) (fun e he => by cases he; exact ⟨rfl, by omega⟩) (sg_new hcap)
    · rw [run_v]
      simp only [convert, Sem.run_bind, run_underlying h1, run_underlying h2, run_underlying h3, Result.andThen_ok]
      rw [hrun]
      rfl
    · have hi : i < l.length := by
        rcases Nat.lt_or_ge i l.length with h' | h'
        · exact h'
        · rw [List.getElem?_eq_none (by simpa using h')] at hv; cases hv
      refine ⟨.int .u8 l[i].toNat, ?_, ?_⟩
      · rw [← hcs]; simp [sbCells, Array.getElem?_append, hi]
      · simp [hi] at hv; subst hv; exact .i _ _
  · cases hs

end
end Go.Ab
