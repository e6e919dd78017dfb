/- The abstract layer, part 7: 'step' is sound, operation by operation. -/
import Derived.Test.YtiacdfhaopnekaaAbSound
namespace Go.Ab
set_option linter.unusedVariables false
set_option linter.unusedSimpArgs false

section
variable {P : Program} {D : Nat → Prop} {φ : Phi} {w : World} {n : Nat} {e : Env} {h : Hp} {E : Eff} {ρ : Operand → Value}

/-- An operand stands for the model's value. -/
def OK1 (D : Nat → Prop) (φ : Phi) (e : Env) (h : Hp) (x : Opd) (u : Value) : Prop := ∀ v, x.ev e h = some v → VRel D φ v u

theorem evs_rel : ∀ {ys : List Operand} {xs : List Opd} {vs : List AV}, cOs ys = some xs → evs e h xs = some vs →
    (∀ y ∈ ys, ∀ x, cO y = some x → OK1 D φ e h x (ρ y)) → All2 D φ vs (ys.map ρ)
  | [], xs, vs, h1, h2, _ => by simp [cOs] at h1; subst h1; simp [evs] at h2; subst h2; exact .nil
  | y :: ys, xs, vs, h1, h2, hk => by
    simp only [cOs, Option.bind_eq_some_iff] at h1
    obtain ⟨x, hx, xs', hxs, h1⟩ := h1
    cases h1
    simp only [evs, Option.bind_eq_some_iff] at h2
    obtain ⟨v, hv, vs', hvs, h2⟩ := h2
    cases h2
    exact .cons (hk y (List.mem_cons_self) x hx v hv) (evs_rel hxs hvs (fun y hy => hk y (List.mem_cons_of_mem _ hy)))

theorem pe_inv {v : AV} {c : Bool} (hs : pe v n = some (c, E)) : c = true ∧ E = { v, n } := by
  simp only [pe, Option.some.injEq, Prod.mk.injEq] at hs; exact ⟨hs.1.symm, hs.2.symm⟩

theorem snd_pure {v : AV} {c : Bool} {r : Result Next} {u : Value} (hs : pe v n = some (c, E)) (hH : HR D φ (only (hget h) E.rd) w) (hr : r = .ok (.value u) w) (hv : VRel D φ v u) :
    Sim P D φ (only (hget h) E.rd) w n E r := by
  obtain ⟨_, rfl⟩ := pe_inv hs
  exact Sim.pure hr hH hv

/-- As 'snd_pure', the effect given outright. -/
theorem snd_pure' {v : AV} {rd : List Nat} {r : Result Next} {u : Value} (hE : E = { v, n, rd }) (hH : HR D φ (only (hget h) E.rd) w) (hr : r = .ok (.value u) w) (hv : VRel D φ v u) :
    Sim P D φ (only (hget h) E.rd) w n E r := by
  subst hE; exact Sim.pure hr hH hv

theorem snd_mv {x : Opd} {u : Value} {c : Bool} (hs : step (.mv x) e h n = some (c, E)) (hx : OK1 D φ e h x u) (hH : HR D φ (only (hget h) E.rd) w) :
    Sim P D φ (only (hget h) E.rd) w n E ((pure (.value u) : Sem Next).run P w) := by
  simp only [step, Option.bind_eq_some_iff] at hs
  obtain ⟨v, hv, hs⟩ := hs
  exact snd_pure hs hH rfl (hx v hv)

theorem snd_pick {c a b : Opd} {uc ua ub : Value} {cc : Bool} (hs : step (.pick c a b) e h n = some (cc, E)) (hc : OK1 D φ e h c uc) (ha : OK1 D φ e h a ua) (hb : OK1 D φ e h b ub) (hH : HR D φ (only (hget h) E.rd) w) :
    Sim P D φ (only (hget h) E.rd) w n E ((do pure (.value (if ← asBool uc then ua else ub)) : Sem Next).run P w) := by
  simp only [step, Option.bind_eq_some_iff] at hs
  obtain ⟨v, hv, hs⟩ := hs
  have hcv := hc v hv
  split at hs
  · simp only [Option.bind_eq_some_iff] at hs
    obtain ⟨x, hx, hs⟩ := hs
    cases hcv
    exact snd_pure hs hH (by simp [asBool]) (ha x hx)
  · simp only [Option.bind_eq_some_iff] at hs
    obtain ⟨x, hx, hs⟩ := hs
    cases hcv
    exact snd_pure hs hH (by simp [asBool]) (hb x hx)
  · cases hs

theorem All2.push {z : List AV} {cs : Array Value} (hz : All2 D φ z cs.toList) : ∀ (i : Nat) (v : AV), z[i]? = some v → ∃ u, cs[i]? = some u ∧ VRel D φ v u := fun i v hv => by
  obtain ⟨u, hu, hr⟩ := hz.get hv
  exact ⟨u, by simpa using hu, hr⟩

theorem run_newRow (t : TypeId) (cs : Array Value) (w : World) : (newRow t cs).run P w = .ok ⟨w.heap.size, 0, none⟩ { w with heap := w.heap.push (.cells cs t) } := by
  simp [newRow]

theorem ptr_new {m cap esz : Nat} : VRel (Dn D n (n + 1)) (φ.set n m cap esz) (.p n 0) (.pointer (some ⟨m, 0, none⟩)) := by
  have := VRel.p (D := Dn D n (n + 1)) (φ := φ.set n m cap esz) n 0 (.inr ⟨Nat.le_refl _, Nat.lt_succ_self _⟩)
  simpa [Phi.set] using this

theorem sl_new {m cap esz l c : Nat} : VRel (Dn D n (n + 1)) (φ.set n m cap esz) (.sl n 0 l c) (.slice (some ⟨m, 0, none⟩) l c) := by
  have := VRel.sl (D := Dn D n (n + 1)) (φ := φ.set n m cap esz) n 0 l c (.inr ⟨Nat.le_refl _, Nat.lt_succ_self _⟩)
  simpa [Phi.set] using this

theorem sg_new {m cap esz l : Nat} (hl : l ≤ cap) : VRel (Dn D n (n + 1)) (φ.set n m cap esz) (.sg n 0 l) (.slice (some ⟨m, 0, none⟩) l cap) := by
  have := VRel.sg (D := Dn D n (n + 1)) (φ := φ.set n m cap esz) n 0 l 0 cap (.inr ⟨Nat.le_refl _, Nat.lt_succ_self _⟩) (by simp) (by simp [Phi.set]) hl
  simpa [Phi.set] using this

theorem snd_new {z : List AV} {t : TypeId} {c : Bool} (hs : step (.new z) e h n = some (c, E)) (hz : tyZero P t = some z) (hn : n < E.n → ¬ D n) (hH : HR D φ (only (hget h) E.rd) w) :
    Sim P D φ (only (hget h) E.rd) w n E ((do pure (Next.value (← Instr.alloc t true (.tuple #[]))) : Sem Next).run P w) := by
  simp only [step, Option.some.injEq, Prod.mk.injEq] at hs
  obtain ⟨_, rfl⟩ := hs
  obtain ⟨u, hu, hz'⟩ := run_zero hz w
  refine Sim.alloc (g := none) (cap := 0) (esz := 0) (cs := u.cells) (elem := t) (fr := (0, 0)) (w' := { w with heap := w.heap.push (.cells u.cells t) }) (u := .pointer (some ⟨w.heap.size, 0, none⟩)) ?_ hH (hn (Nat.lt_succ_self _)) rfl rfl rfl rfl (avsOf_rel hz').push (fun i _ => by simp) (fun e he => by cases he) ptr_new
  simp [Instr.alloc, hu, newVar, run_newRow]

theorem snd_box {x : Opd} {u : Value} {t : TypeId} {c : Bool} (hs : step (.box x) e h n = some (c, E)) (hx : OK1 D φ e h x u) (hn : n < E.n → ¬ D n) (hH : HR D φ (only (hget h) E.rd) w) :
    Sim P D φ (only (hget h) E.rd) w n E ((do pure (Next.value (← Instr.box t u)) : Sem Next).run P w) := by
  simp only [step, Option.bind_eq_some_iff, Option.some.injEq, Prod.mk.injEq] at hs
  obtain ⟨v, hv, _, rfl⟩ := hs
  refine Sim.alloc (g := none) (cap := 0) (esz := 0) (cs := u.cells) (elem := t) (fr := (0, 0)) (w' := { w with heap := w.heap.push (.cells u.cells t) }) (u := .pointer (some ⟨w.heap.size, 0, none⟩)) ?_ hH (hn (Nat.lt_succ_self _)) rfl rfl rfl rfl (hx v hv).cells.push (fun i _ => by simp) (fun e he => by cases he) ptr_new
  simp [Instr.box, newVar, run_newRow]

theorem run_loadAt_one {t : TypeId} {a : Addr} {y : Value} (hg : tyAgg P t = some false) (hy : (load a).run P w = .ok y w) : (Instr.loadAt t (.pointer (some a))).run P w = .ok y w := by
  simp only [Instr.loadAt, Instr.sureAddr, loadVar, Sem.run_bind, Sem.run_pure, Result.andThen_ok, run_isAgg hg, Bool.false_eq_true, if_false]
  exact hy

theorem run_loadAt_agg {t : TypeId} {a : Addr} {z : Nat} {us : Array Value} (hg : tyAgg P t = some true) (hz : tySz P t = some z) (hy : (loadCells a z).run P w = .ok us w) : (Instr.loadAt t (.pointer (some a))).run P w = .ok (.agg us) w := by
  simp only [Instr.loadAt, Instr.sureAddr, loadVar, Sem.run_bind, Sem.run_pure, Result.andThen_ok, run_isAgg hg, if_true, run_sizeOf hz]
  rw [hy]
  rfl

theorem snd_ld {agg : Bool} {z : Nat} {a : Opd} {u : Value} {t : TypeId} {c : Bool} (hs : step (.ld agg z a) e h n = some (c, E)) (hc : c = true) (hg : tyAgg P t = some agg) (hz : tySz P t = some z) (ha : OK1 D φ e h a u)
    (hH : HR D φ (only (hget h) E.rd) w) : Sim P D φ (only (hget h) E.rd) w n E ((do pure (Next.value (← Instr.loadAt t u)) : Sem Next).run P w) := by
  simp only [step, Option.bind_eq_some_iff] at hs
  obtain ⟨v, hv, hs⟩ := hs
  have hr := ha v hv
  split at hs
  · rename_i b o
    simp only [Option.bind_eq_some_iff] at hs
    obtain ⟨k, hk, hs⟩ := hs
    cases hr
    cases agg
    · simp only [Option.bind_eq_some_iff, Option.some.injEq, Prod.mk.injEq] at hs
      obtain ⟨x, hx, _, rfl⟩ := hs
      have hkk : only (hget h) [b] b = some k := by rw [only_get (by simp [inl])]; exact hk
      obtain ⟨y, hy, hyr⟩ := HR.cell (P := P) hH hkk hx
      exact snd_pure' rfl hH (by rw [run_v, run_loadAt_one hg hy]; rfl) hyr
    · simp only [Option.some.injEq, Prod.mk.injEq] at hs
      obtain ⟨h1, rfl⟩ := hs
      rw [hc] at h1
      have hkk : only (hget h) [b] b = some k := by rw [only_get (by simp [inl])]; exact hk
      obtain ⟨us, hy, hyr⟩ := HR.row (P := P) hH hkk (of_decide_eq_true h1)
      exact snd_pure' rfl hH (by rw [run_v, run_loadAt_agg hg hz hy]; rfl) (VRel.agg' hyr)
  · cases hs

theorem snd_st {z : Nat} {a x : Opd} {u y : Value} {t : TypeId} {c : Bool} (hs : step (.st z a x) e h n = some (c, E)) (hc : c = true) (hz : tySz P t = some z) (ha : OK1 D φ e h a u) (hx : OK1 D φ e h x y)
    (hH : HR D φ (only (hget h) E.rd) w) : Sim P D φ (only (hget h) E.rd) w n E ((do Instr.storeAt t u y; pure Next.skip : Sem Next).run P w) := by
  simp only [step, Option.bind_eq_some_iff] at hs
  obtain ⟨v, hv, hs⟩ := hs
  have hr := ha v hv
  split at hs
  · rename_i b o
    simp only [Option.bind_eq_some_iff] at hs
    obtain ⟨k, hk, y', hy, hs⟩ := hs
    have hyr := hx y' hy
    cases hr
    split at hs
    · cases hs
    · rename_i hro
      simp only [Option.some.injEq, Prod.mk.injEq] at hs
      obtain ⟨h1, rfl⟩ := hs
      rw [hc] at h1
      simp only [Bool.and_eq_true, decide_eq_true_eq] at h1
      obtain ⟨⟨h2, h3⟩, h4⟩ := h1
      have h3 := Nat.eq_of_beq_eq_true h3
      have hkk : only (hget h) [b] b = some k := by rw [only_get (by simp [inl])]; exact hk
      obtain ⟨w', cs, cs', elem, fr, g1, g2, g3, g4, g5, g6, g7, g8⟩ := HR.stores (P := P) hH hkk hro hyr.cells h2 (by rw [h3]; exact h4)
      have hsz : y.cells.size = z := by have := hyr.cells.1; simp at this; omega
      refine Sim.write (nx := .skip) (u := undef) ?_ (.inr ⟨rfl, rfl⟩) (VRel.tup [] #[] rfl (fun i a u ha => by simp at ha)) (by simp [inl]) hH hkk hro g2 g3 g4 g5 g6 g7 g8
      simp [Instr.storeAt, Instr.sureAddr, storeVar, run_sizeOf hz, hsz, g1]
  · cases hs

theorem snd_nck {x : Opd} {u : Value} {c : Bool} (hs : step (.nck x) e h n = some (c, E)) (hx : OK1 D φ e h x u) (hH : HR D φ (only (hget h) E.rd) w) {o : Oper} {y : Operand} (ho : o.op = .nilCheck y) (hy : ρ y = u) :
    Sim P D φ (only (hget h) E.rd) w n E ((execOp ρ o).run P w) := by
  simp only [step, Option.bind_eq_some_iff] at hs
  obtain ⟨v, hv, hs⟩ := hs
  have hr := hx v hv
  split at hs
  · refine snd_pure (u := u) hs hH ?_ hr
    cases hr
    simp [execOp, ho, hy]
  · refine snd_pure (u := u) hs hH ?_ hr
    cases hr
    simp [execOp, ho, hy]
  · cases hs

theorem wf_toList (l : List UInt8) : (ByteArray.mk l.toArray).toList = l := by
  rw [ByteArray.toList_eq]

theorem size_mk (l : List UInt8) : (ByteArray.mk l.toArray).size = l.length := by simp [ByteArray.size]

theorem append_mk (a b : List UInt8) : (ByteArray.mk a.toArray) ++ (ByteArray.mk b.toArray) = ByteArray.mk (a ++ b).toArray := by
  apply ByteArray.ext; simp

theorem bin_rel {op : BinOp} {a b : AV} {x y : Value} {t : TypeId} {r : Bool × AV} (hb : bin op a b = some r) (hr : r.1 = true) (ha : VRel D φ a x) (hb' : VRel D φ b y) :
    ∃ u, (binOp op t x y).run P w = .ok u w ∧ VRel D φ r.2 u := by
  unfold bin at hb
  split at hb
  · rename_i k m k' m'
    cases ha; cases hb'
    split at hb
    · simp only [shI, Option.some.injEq] at hb; subst hb
      have h0 : 0 ≤ m' := of_decide_eq_true hr
      refine ⟨_, ?_, .i _ _⟩
      simp [binOp, Op.shift, show ¬ m' < 0 by omega, Nat.min_def]
    · simp only [shI, Option.some.injEq] at hb; subst hb
      have h0 : 0 ≤ m' := of_decide_eq_true hr
      refine ⟨_, ?_, .i _ _⟩
      simp [binOp, Op.shift, show ¬ m' < 0 by omega, Nat.min_def]
    · rename_i hn1 hn2
      split at hb
      · rename_i hk; subst hk
        cases op <;> simp only [binI, Option.some.injEq, reduceCtorEq] at hb <;> subst hb <;>
          first
            | (refine ⟨_, ?_, .b _⟩; simp [binOp, Op.intArith, Op.intBits, Op.intCmp]; done)
            | (refine ⟨_, ?_, .i _ _⟩; simp [binOp, Op.intArith, Op.intBits, Op.intCmp]; done)
            | (have h0 : ¬ m' = 0 := by simpa using hr
               refine ⟨_, ?_, .i _ _⟩; simp [binOp, Op.intDiv, h0]; done)
      · cases hb
  · cases ha; cases hb'
    rename_i l m
    cases op <;> simp only [binS, Option.some.injEq, reduceCtorEq] at hb <;> subst hb
    · have h0 := of_decide_eq_true hr
      refine ⟨.string ⟨(l ++ m).toArray⟩, ?_, .s _⟩
      simp only [binOp, Op.stringOp, size_mk]
      rw [if_neg (by simp [IntKind.max, IntKind.signed, IntKind.bits]; omega)]
      simp [append_mk]
    all_goals exact ⟨_, by simp [binOp, Op.stringOp, wf_toList], .b _⟩
  · cases hb

theorem run_eqGuard_of {op : BinOp} {t : TypeId} {x y : Operand} {a b : Value} (hg : (∀ xs, a ≠ .agg xs) ∨ P.eqGuardType P.depth t = false) (hi : a ≠ .nilIface) : (eqGuard op t x y a b).run P w = .ok () w := by
  cases a with
  | nilIface => exact absurd rfl hi
  | agg xs =>
    have hg' : P.eqGuardType P.depth t = false := hg.resolve_left (fun h => h xs rfl)
    cases op <;> cases b <;> simp [eqGuard, hg']
  | _ => cases op <;> simp [eqGuard]

theorem bin_kind {op : BinOp} {a b : AV} {x y : Value} {r : Bool × AV} (hb : bin op a b = some r) (ha : VRel D φ a x) : (∀ xs, x ≠ .agg xs) ∧ x ≠ .nilIface := by
  unfold bin at hb
  split at hb <;> first | (cases hb; done) | (cases ha; exact ⟨fun xs => by simp, by simp⟩)

theorem snd_bin {op : BinOp} {x y : Opd} {a b : Value} {t : TypeId} {xo yo : Operand} {c : Bool} (hs : step (.bin op x y) e h n = some (c, E)) (hc : c = true) (hx : OK1 D φ e h x a) (hy : OK1 D φ e h y b) (hH : HR D φ (only (hget h) E.rd) w) :
    Sim P D φ (only (hget h) E.rd) w n E ((do pure (Next.value (← (do eqGuard op t xo yo a b; binOp op t a b))) : Sem Next).run P w) := by
  simp only [step, Option.bind_eq_some_iff, Option.some.injEq, Prod.mk.injEq] at hs
  obtain ⟨v, hv, v', hv', r, hr, h1, rfl⟩ := hs
  obtain ⟨u, hu, hur⟩ := bin_rel (P := P) (w := w) (t := t) hr (h1.trans hc) (hx v hv) (hy v' hv')
  have hk := bin_kind (y := b) hr (hx v hv)
  exact snd_pure' (rd := []) rfl hH (by simp [run_eqGuard_of (.inl hk.1) hk.2, hu]) hur

/-! ### equality -/

def kdTy (P : Program) (t : TypeId) : Kd → Prop
  | .b => P.underlying t = some .bool
  | .i => ∃ j, P.underlying t = some (.int j)
  | .s => P.underlying t = some .string

theorem eq1_rel {k : Kd} {a b : AV} {r : Bool} {t : TypeId} {x y : Value} {d : Nat} (hr : eq1 k a b = some r)
    (hk : kdTy P t k)
    (ha : VRel D φ a x) (hb : VRel D φ b y) : (Op.equalIn (d + 1) t x y).run P w = .ok r w := by
  unfold eq1 at hr
  split at hr
  · cases hr; cases ha; cases hb; exact run_equalIn_bool' _ _ _ _ _ hk
  · by_cases e : ‹IntKind› = ‹IntKind›
    · rename_i k x k' y
      by_cases e : k = k'
      · subst e
        simp only [if_true, Option.some.injEq] at hr
        subst hr; cases ha; cases hb; obtain ⟨j, hk⟩ := hk; exact run_equalIn_int _ _ _ _ j _ _ hk
      · rw [if_neg e] at hr; cases hr
    · exact absurd rfl e
  · cases hr; cases ha; cases hb; rw [run_equalIn_string _ _ _ _ _ hk]; simp [wf_toList]
  · cases hr

theorem eqs_nil {xs ys : List AV} {r : Bool} (h : eqs [] xs ys = some r) : r = true := by
  cases xs <;> cases ys <;> simp [eqs] at h; exact h

theorem eqs_append : ∀ {ks ks' : List Kd} {xs ys : List AV} {r : Bool}, eqs (ks ++ ks') xs ys = some r →
    ∃ r1 r2, eqs ks (xs.take ks.length) (ys.take ks.length) = some r1 ∧ eqs ks' (xs.drop ks.length) (ys.drop ks.length) = some r2 ∧ r = (r1 && r2)
  | [], ks', xs, ys, r, h => ⟨true, r, rfl, by simpa using h, by simp⟩
  | k :: ks, ks', [], ys, r, h => by cases ys <;> simp [eqs] at h
  | k :: ks, ks', x :: xs, [], r, h => by simp [eqs] at h
  | k :: ks, ks', x :: xs, y :: ys, r, h => by
    simp only [List.cons_append, eqs, Option.bind_eq_some_iff, Option.some.injEq] at h
    obtain ⟨a, ha, b, hb, rfl⟩ := h
    obtain ⟨r1, r2, h1, h2, rfl⟩ := eqs_append hb
    exact ⟨a && r1, r2, by simp [eqs, ha, h1], by simpa using h2, by simp [Bool.and_assoc]⟩

theorem eqs_length : ∀ {ks : List Kd} {xs ys : List AV} {r : Bool}, eqs ks xs ys = some r → xs.length = ks.length ∧ ys.length = ks.length
  | [], [], [], _, _ => ⟨rfl, rfl⟩
  | [], [], _ :: _, _, h => by simp [eqs] at h
  | [], _ :: _, _, _, h => by simp [eqs] at h
  | _ :: _, [], ys, _, h => by cases ys <;> simp [eqs] at h
  | _ :: _, _ :: _, [], _, h => by simp [eqs] at h
  | k :: ks, x :: xs, y :: ys, r, h => by
    simp only [eqs, Option.bind_eq_some_iff] at h
    obtain ⟨a, ha, b, hb, _⟩ := h
    have := eqs_length hb
    simp [this.1, this.2]

/-- A value of a type, by its cells. -/
def asTy (P : Program) (t : TypeId) (cs : List Value) : Value → Prop := fun v => (tyAgg P t = some true ∧ v = .agg cs.toArray) ∨ (tyAgg P t = some false ∧ cs = [v])

theorem run_part {t : TypeId} {cs : Array Value} {off z : Nat} {g : Bool} (hg : tyAgg P t = some g) (hz : tySz P t = some z) (hz1 : g = false → z = 1) (hle : off + z ≤ cs.size) :
    ∃ v, (part t cs off).run P w = .ok v w ∧ asTy P t ((cs.toList.drop off).take z) v := by
  cases g
  · have := hz1 rfl; subst this
    have hlt : off < cs.size := by omega
    refine ⟨cs[off], ?_, .inr ⟨hg, ?_⟩⟩
    · simp only [part, Sem.run_bind, run_isAgg hg, Result.andThen_ok, Bool.false_eq_true, if_false]
      simp [hlt]
    · rw [List.drop_eq_getElem_cons (by simpa using hlt)]; simp
  · refine ⟨.agg (cs.extract off (off + z)), ?_, .inl ⟨hg, ?_⟩⟩
    · simp only [part, Sem.run_bind, run_isAgg hg, Result.andThen_ok, if_true, run_sizeOf hz, Sem.run_pure]
    · congr 1
      apply Array.ext'
      simp [List.take_drop]

theorem kdOf_agg {d : Nat} {t : TypeId} {ks : List Kd} (h : kdOf P d t = some ks) : ∃ g, tyAgg P t = some g ∧ (g = false → ks.length = 1) := by
  cases d with
  | zero => simp [kdOf] at h
  | succ d =>
    simp only [kdOf] at h
    split at h <;> rename_i hu
    · cases h; exact ⟨false, by simp [tyAgg, hu], fun _ => rfl⟩
    · cases h; exact ⟨false, by simp [tyAgg, hu], fun _ => rfl⟩
    · cases h; exact ⟨false, by simp [tyAgg, hu], fun _ => rfl⟩
    · exact ⟨true, by simp [tyAgg, hu], fun h => by cases h⟩
    · exact ⟨true, by simp [tyAgg, hu], fun h => by cases h⟩
    · cases h



theorem eqTy : ∀ (d : Nat) (t : TypeId) (ks : List Kd), kdOf P d t = some ks → ∀ (dd : Nat), d ≤ dd → ∀ (xs ys : List AV) (us vs : List Value) (x y : Value) (r : Bool), eqs ks xs ys = some r →
    All2 D φ xs us → All2 D φ ys vs → asTy P t us x → asTy P t vs y → (Op.equalIn dd t x y).run P w = .ok r w
  | 0, t, ks, h, _, _, _, _, _, _, _, _, _, _, _, _, _, _ => by simp [kdOf] at h
  | d + 1, t, ks, h, dd, hd, xs, ys, us, vs, x, y, r, hr, hxu, hyv, hx, hy => by
    obtain ⟨dd, rfl⟩ : ∃ e, dd = e + 1 := ⟨dd - 1, by omega⟩
    have scalar : ∀ k, ks = [k] → tyAgg P t = some false → kdTy P t k → (Op.equalIn (dd + 1) t x y).run P w = .ok r w := by
      intro k hk hag hty
      subst hk
      obtain ⟨hl1, hl2⟩ := eqs_length hr
      rcases hx with ⟨h1, _⟩ | ⟨_, rfl⟩
      · rw [hag] at h1; cases h1
      rcases hy with ⟨h1, _⟩ | ⟨_, rfl⟩
      · rw [hag] at h1; cases h1
      match xs, ys, hl1, hl2 with
      | [a], [b], _, _ =>
        simp only [eqs, Option.bind_eq_some_iff, Option.some.injEq] at hr
        obtain ⟨r1, h1, r2, h2, rfl⟩ := hr
        subst h2
        rw [Bool.and_true]
        exact eq1_rel h1 hty (hxu.2 0 a x rfl rfl) (hyv.2 0 b y rfl rfl)
    simp only [kdOf] at h
    split at h <;> rename_i hu
    · cases h; exact scalar .b rfl (by simp [tyAgg, hu]) hu
    · cases h; exact scalar .i rfl (by simp [tyAgg, hu]) ⟨_, hu⟩
    · cases h; exact scalar .s rfl (by simp [tyAgg, hu]) hu
    · rename_i fs
      split at h
      · rename_i hst
        have hag : tyAgg P t = some true := by simp [tyAgg, hu]
        rcases hx with ⟨_, rfl⟩ | ⟨h1, _⟩
        · rcases hy with ⟨_, rfl⟩ | ⟨h1, _⟩
          · have hfs : P.fieldsOf t = fs := by simp [Program.fieldsOf, hu]
            rw [run_equalIn_struct w dd t us.toArray vs.toArray (by rw [hfs]; exact hu) hst, hfs]
            have key : ∀ (l : List Field) (off : Nat) (ks' : List Kd) (r' : Bool), kdFields P (kdOf P d) l off = some ks' → off + ks'.length ≤ us.length → off + ks'.length ≤ vs.length → eqs ks' ((xs.drop off).take ks'.length) ((ys.drop off).take ks'.length) = some r' →
                (Op.eqFields dd us.toArray vs.toArray l).run P w = .ok r' w := by
              intro l
              induction l with
              | nil => intro off ks' r' h1 _ _ h2; simp [kdFields] at h1; subst h1; simp [eqs] at h2; subst h2; simp [Op.eqFields]
              | cons f l ih =>
                intro off ks' r' h1 hl1 hl2 h2
                simp only [kdFields] at h1
                split at h1
                · rename_i hc
                  obtain ⟨hname, hoff⟩ := hc
                  simp only [Option.bind_eq_some_iff] at h1
                  obtain ⟨k1, hk1, h1⟩ := h1
                  split at h1
                  · rename_i hsz
                    obtain ⟨k2, hk2, rfl⟩ := Option.map_eq_some_iff.1 h1
                    obtain ⟨r1, r2, g1, g2, rfl⟩ := eqs_append h2
                    obtain ⟨g, hg, hg1⟩ := kdOf_agg hk1
                    simp only [List.length_append] at hl1 hl2 g1 g2 h2
                    obtain ⟨v1, p1, q1⟩ := run_part (P := P) (w := w) (cs := us.toArray) (off := off) hg hsz hg1 (by simp; omega)
                    obtain ⟨v2, p2, q2⟩ := run_part (P := P) (w := w) (cs := vs.toArray) (off := off) hg hsz hg1 (by simp; omega)
                    have e1 : ∀ (m : List AV), ((m.drop off).take (k1.length + k2.length)).take k1.length = (m.drop off).take k1.length := fun m => by rw [List.take_take]; congr 1; omega
                    have e2 : ∀ (m : List AV), ((m.drop off).take (k1.length + k2.length)).drop k1.length = (m.drop (off + k1.length)).take k2.length := fun m => by rw [List.drop_take, List.drop_drop]; congr 1; omega
                    rw [e1, e1] at g1
                    rw [e2, e2] at g2
                    have hrec := eqTy d f.type k1 hk1 dd (by omega) _ _ _ _ v1 v2 r1 g1 ((hxu.drop off).take k1.length) ((hyv.drop off).take k1.length) q1 q2
                    have hih := ih (off + k1.length) k2 r2 hk2 (by omega) (by omega) g2
                    simp only [Op.eqFields]
                    rw [if_pos hname]
                    simp only [Sem.run_bind, hoff, p1, p2, Result.andThen_ok, hrec]
                    cases r1
                    · simp
                    · simp [hih]
                  · cases h1
                · cases h1
            have hl := eqs_length hr
            refine key fs.toList 0 ks r h (by rw [← hxu.1]; omega) (by rw [← hyv.1]; omega) ?_
            rw [List.drop_zero, List.drop_zero, ← hl.1, List.take_length, hl.1, ← hl.2, List.take_length]
            exact hr
          · rw [hag] at h1; cases h1
        · rw [hag] at h1; cases h1
      · cases h
    · rename_i len el
      have hag : tyAgg P t = some true := by simp [tyAgg, hu]
      rcases hx with ⟨_, rfl⟩ | ⟨h1, _⟩
      · rcases hy with ⟨_, rfl⟩ | ⟨h1, _⟩
        · simp only [Option.bind_eq_some_iff] at h
          obtain ⟨k1, hk1, h⟩ := h
          split at h
          · rename_i hsz
            cases h
            obtain ⟨g, hg, hg1⟩ := kdOf_agg hk1
            simp only [Op.equalIn, Sem.run_bind, run_underlying hu, Result.andThen_ok, run_sizeOf hsz]
            rw [Std.Legacy.Range.forIn_eq_forIn_range']
            have hsize : [:len].size = len := by simp [Std.Legacy.Range.size]
            show ((Sem.run P (forIn (List.range' 0 [:len].size 1) _ _) w).andThen _) = _
            rw [hsize]
            have hlr := eqs_length hr
            have hrl : ∀ m, (kdRep k1 m).length = m * k1.length := fun m => by
              induction m with
              | zero => simp [kdRep]
              | succ m ih => simp [kdRep, ih, Nat.succ_mul]; omega
            have key : ∀ (m i : Nat) (r' : Bool), i + m = len → eqs (kdRep k1 m) (xs.drop (i * k1.length)) (ys.drop (i * k1.length)) = some r' →
                (forIn (List.range' i m 1) ((none, ()) : Option Bool × Unit) fun i __s => do
                  let __do_lift ← part el us.toArray (i * k1.length)
                  let __do_lift_1 ← part el vs.toArray (i * k1.length)
                  let __do_lift ← Op.equalIn dd el __do_lift __do_lift_1
                  if (!__do_lift) = true then pure (ForInStep.done (some false, ())) else pure (ForInStep.yield (none, ()))).run P w = .ok (if r' then (none, ()) else (some false, ())) w := by
              intro m
              induction m with
              | zero => intro i r' _ h2; simp only [kdRep] at h2; simp [eqs_nil h2]
              | succ m ih =>
                intro i r' hi h2
                simp only [kdRep] at h2
                obtain ⟨r1, r2, g1, g2, rfl⟩ := eqs_append h2
                have hle : i * k1.length + k1.length ≤ len * k1.length := by
                  have : i * k1.length + k1.length = (i + 1) * k1.length := by rw [Nat.succ_mul]
                  rw [this]; exact Nat.mul_le_mul_right _ (by omega)
                rw [hrl] at hlr
                obtain ⟨v1, p1, q1⟩ := run_part (P := P) (w := w) (cs := us.toArray) (off := i * k1.length) hg hsz hg1 (by simp [← hxu.1, hlr.1]; omega)
                obtain ⟨v2, p2, q2⟩ := run_part (P := P) (w := w) (cs := vs.toArray) (off := i * k1.length) hg hsz hg1 (by simp [← hyv.1, hlr.2]; omega)
                have hrec := eqTy d el k1 hk1 dd (by omega) _ _ _ _ v1 v2 r1 g1 ((hxu.drop _).take k1.length) ((hyv.drop _).take k1.length) q1 q2
                rw [List.drop_drop, List.drop_drop, show i * k1.length + k1.length = (i + 1) * k1.length by rw [Nat.succ_mul]] at g2
                have hih := ih (i + 1) r2 (by omega) g2
                simp only [List.range'_succ, List.forIn_cons, Sem.run_bind, p1, p2, Result.andThen_ok, hrec]
                cases r1
                · simp
                · simp only [Bool.not_true, Bool.false_eq_true, if_false, Sem.run_pure, Result.andThen_ok, Bool.true_and]
                  exact hih
            rw [key len 0 r (by omega) (by simpa using hr)]
            cases r <;> simp
          · cases h
        · rw [hag] at h1; cases h1
      · rw [hag] at h1; cases h1
    · cases h

end
end Go.Ab
