/- The abstract layer, part 9: 'step' is sound, the rest. -/
import Derived.Test.YtiacdfhaopnekaaAbStep2
namespace Go.Ab
set_option linter.unusedVariables false
set_option linter.unusedSimpArgs false

section
variable {P : Program} {D : Nat → Prop} {φ : Phi} {w : World} {n : Nat} {e : Env} {h : Hp} {E : Eff} {ρ : Operand → Value}

theorem snd_mkf {f : FuncId} {caps : List Opd} {us : List Operand} {c : Bool} (hs : step (.mkf f caps) e h n = some (c, E)) (hc : cOs us = some caps) (hk : ∀ y ∈ us, ∀ x, cO y = some x → OK1 D φ e h x (ρ y)) (hH : HR D φ (only (hget h) E.rd) w) :
    Sim P D φ (only (hget h) E.rd) w n E ((do pure (Next.value (← Instr.makeFunc (.func f) #[] (us.map ρ).toArray)) : Sem Next).run P w) := by
  simp only [step, Option.bind_eq_some_iff] at hs
  obtain ⟨v, hv, hs⟩ := hs
  exact snd_pure hs hH (by simp [Instr.makeFunc]) (VRel.fn' (evs_rel hc hv hk))

theorem asJ_rel {v : AV} {u : Value} {i : Int} (h : asJ v = some i) (hv : VRel D φ v u) : ∃ k, u = .int k i := by
  unfold asJ at h
  split at h <;> cases h
  cases hv; exact ⟨_, rfl⟩

theorem asI_rel {v : AV} {u : Value} {i : Int} (h : asI v = some i) (hv : VRel D φ v u) : u = .int .i64 i := by
  unfold asI at h
  split at h <;> cases h
  cases hv; rfl

/-- A bound of a slice expression. -/
def OKo (D : Nat → Prop) (φ : Phi) (e : Env) (h : Hp) (x : Option Opd) (u : Option Value) : Prop :=
  match x, u with
  | none, none => True
  | some x, some u => OK1 D φ e h x u
  | _, _ => False

def Bd (i : Option Int) (u : Option Value) : Prop :=
  match i, u with
  | none, none => True
  | some i, some u => ∃ k, u = .int k i
  | _, _ => False

theorem obind_rel {α : Type} {x : Option Opd} {u : Option Value} {k : Option Int → Option α} {r : α} (hb : obind e h x k = some r) (hx : OKo D φ e h x u) : ∃ i, Bd i u ∧ k i = some r := by
  cases x with
  | none => cases u with
    | none => exact ⟨none, trivial, hb⟩
    | some u => exact hx.elim
  | some x => cases u with
    | none => exact hx.elim
    | some u =>
      simp only [obind, Option.bind_eq_some_iff] at hb
      obtain ⟨v, hv, i, hi, hb⟩ := hb
      obtain ⟨k', rfl⟩ := asJ_rel hi (hx v hv)
      exact ⟨some i, ⟨k', rfl⟩, hb⟩

theorem run_sliceBound {k : IntKind} {i : Int} {y : Nat} {code : BoundsCode} (h : 0 ≤ i ∧ i ≤ y) : (Instr.sliceBound (.int k i) y code).run P w = .ok i.toNat w := by
  simp [Instr.sliceBound, asIntOf, h]

theorem run_sliceBounds {b : Bool} {len cap : Nat} {lo hi mx : Option Int} {ulo uhi umx : Option Value} (h : (sbound len cap lo hi mx).1 = true) (hl : Bd lo ulo) (hh : Bd hi uhi) (hm : Bd mx umx) (hmh : mx = none ∨ ∃ v, hi = some v) :
    (Instr.sliceBounds b len cap ulo uhi umx).run P w = .ok ((sbound len cap lo hi mx).2.1, (sbound len cap lo hi mx).2.2.1, (sbound len cap lo hi mx).2.2.2) w := by
  simp only [sbound, decide_eq_true_eq] at h ⊢
  cases mx with
  | none =>
    cases umx with
    | some u => exact hm.elim
    | none =>
      simp only [Option.getD_none] at h ⊢
      cases hi with
      | none => cases uhi with
        | some u => exact hh.elim
        | none =>
          cases lo with
          | none => cases ulo with
            | some u => exact hl.elim
            | none => simp [Instr.sliceBounds]
          | some l => cases ulo with
            | none => exact hl.elim
            | some u =>
              obtain ⟨k, rfl⟩ := hl
              simp only [Option.getD_none, Option.getD_some] at h ⊢
              simp [Instr.sliceBounds, run_sliceBound (P := P) (w := w) (k := k) (i := l) (y := len) (code := .sliceB) ⟨h.1, by omega⟩]
      | some i => cases uhi with
        | none => exact hh.elim
        | some u =>
          obtain ⟨k, rfl⟩ := hh
          simp only [Option.getD_some] at h ⊢
          have h1 : ∀ code, (Instr.sliceBound (.int k i) cap code).run P w = .ok i.toNat w := fun code => run_sliceBound ⟨by omega, by omega⟩
          cases lo with
          | none => cases ulo with
            | some u => exact hl.elim
            | none => simp [Instr.sliceBounds, h1]
          | some l => cases ulo with
            | none => exact hl.elim
            | some u =>
              obtain ⟨k', rfl⟩ := hl
              simp only [Option.getD_some] at h ⊢
              have h2 : ∀ code, (Instr.sliceBound (.int k' l) i.toNat code).run P w = .ok l.toNat w := fun code => run_sliceBound ⟨by omega, by omega⟩
              simp [Instr.sliceBounds, h1, h2]
  | some m =>
    cases umx with
    | none => exact hm.elim
    | some u =>
      obtain ⟨k0, rfl⟩ := hm
      obtain ⟨i, rfl⟩ := hmh.resolve_left (by simp)
      cases uhi with
      | none => exact hh.elim
      | some u =>
        obtain ⟨k, rfl⟩ := hh
        simp only [Option.getD_some] at h ⊢
        have h0 : ∀ code, (Instr.sliceBound (.int k0 m) cap code).run P w = .ok m.toNat w := fun code => run_sliceBound ⟨by omega, by omega⟩
        have h1 : ∀ code, (Instr.sliceBound (.int k i) m.toNat code).run P w = .ok i.toNat w := fun code => run_sliceBound ⟨by omega, by omega⟩
        cases lo with
        | none => cases ulo with
          | some u => exact hl.elim
          | none => simp [Instr.sliceBounds, h0, h1]
        | some l => cases ulo with
          | none => exact hl.elim
          | some u =>
            obtain ⟨k', rfl⟩ := hl
            simp only [Option.getD_some] at h ⊢
            have h2 : ∀ code, (Instr.sliceBound (.int k' l) i.toNat code).run P w = .ok l.toNat w := fun code => run_sliceBound ⟨by omega, by omega⟩
            simp [Instr.sliceBounds, h0, h1, h2]

theorem extract_mk (l : List UInt8) (a b : Nat) : (ByteArray.mk l.toArray).extract a b = ByteArray.mk ((l.take b).drop a).toArray := by
  apply ByteArray.ext
  simp [ByteArray.data_extract, List.drop_take]

theorem snd_slS {x : Opd} {lo hi : Option Opd} {u : Value} {ulo uhi : Option Value} {t : TypeId} {c : Bool} (hs : step (.slS x lo hi) e h n = some (c, E)) (hc : c = true) (ht : P.underlying t = some .string) (hx : OK1 D φ e h x u) (hlo : OKo D φ e h lo ulo) (hhi : OKo D φ e h hi uhi)
    (hH : HR D φ (only (hget h) E.rd) w) : Sim P D φ (only (hget h) E.rd) w n E ((do pure (Next.value (← Instr.sliceAt t u ulo uhi none)) : Sem Next).run P w) := by
  simp only [step, Option.bind_eq_some_iff] at hs
  obtain ⟨v, hv, hs⟩ := hs
  have hr := hx v hv
  split at hs
  · rename_i l
    cases hr
    obtain ⟨lo', hl, hs⟩ := obind_rel hs hlo
    obtain ⟨hi', hh, hs⟩ := obind_rel hs hhi
    simp only [Option.some.injEq, Prod.mk.injEq] at hs
    obtain ⟨h1, rfl⟩ := hs
    have hb := run_sliceBounds (P := P) (w := w) (b := false) (ulo := ulo) (uhi := uhi) (umx := none) (h1.trans hc) hl hh trivial (.inl rfl)
    refine snd_pure' (rd := []) rfl hH ?_ (.s _)
    rw [run_v]
    simp only [Instr.sliceAt, Sem.run_bind, run_underlying ht, Result.andThen_ok, Instr.slice, Option.isSome_none, Bool.false_eq_true, if_false, size_mk, hb, Sem.run_pure, extract_mk]
  · cases hs

theorem sbound_le {len cap : Nat} {lo hi mx : Option Int} (h : (sbound len cap lo hi mx).1 = true) :
    (sbound len cap lo hi mx).2.1 ≤ (sbound len cap lo hi mx).2.2.1 ∧ (sbound len cap lo hi mx).2.2.1 ≤ (sbound len cap lo hi mx).2.2.2 ∧ (sbound len cap lo hi mx).2.2.2 ≤ cap := by
  simp only [sbound, decide_eq_true_eq] at h ⊢
  omega

theorem snd_slV {z : Nat} {x : Opd} {lo hi mx : Option Opd} {u : Value} {ulo uhi umx : Option Value} {t el : TypeId} {c : Bool} (hs : step (.slV z x lo hi mx) e h n = some (c, E)) (hc : c = true) (ht : P.underlying t = some (.slice el)) (hz : tySz P el = some z)
    (hx : OK1 D φ e h x u) (hlo : OKo D φ e h lo ulo) (hhi : OKo D φ e h hi uhi) (hmx : OKo D φ e h mx umx) (hmh : mx = none ∨ hi.isSome = true)
    (hH : HR D φ (only (hget h) E.rd) w) : Sim P D φ (only (hget h) E.rd) w n E ((do pure (Next.value (← Instr.sliceAt t u ulo uhi umx)) : Sem Next).run P w) := by
  simp only [step, Option.bind_eq_some_iff] at hs
  obtain ⟨v, hv, hs⟩ := hs
  have hr := hx v hv
  have hmh' : ∀ hi' mx', Bd hi' uhi → Bd mx' umx → mx' = none ∨ ∃ v, hi' = some v := fun hi' mx' h1 h2 => by
    rcases hmh with rfl | h3
    · cases umx with
      | none => cases mx' with
        | none => exact .inl rfl
        | some _ => exact h2.elim
      | some _ => exact hmx.elim
    · cases hi with
      | none => simp at h3
      | some _ => cases uhi with
        | none => exact hhi.elim
        | some _ => cases hi' with
          | none => exact h1.elim
          | some q => exact .inr ⟨q, rfl⟩
  split at hs
  · cases hr
    obtain ⟨lo', hl, hs⟩ := obind_rel hs hlo
    obtain ⟨hi', hh, hs⟩ := obind_rel hs hhi
    obtain ⟨mx', hm, hs⟩ := obind_rel hs hmx
    simp only [Option.some.injEq, Prod.mk.injEq] at hs
    obtain ⟨h1, rfl⟩ := hs
    have hb := run_sliceBounds (P := P) (w := w) (b := true) (h1.trans hc) hl hh hm (hmh' _ _ hh hm)
    have hle := sbound_le (h1.trans hc)
    refine snd_pure' (rd := []) rfl hH ?_ .ns
    rw [run_v]
    simp only [Instr.sliceAt, Sem.run_bind, run_underlying ht, Result.andThen_ok, Instr.slice, hb, run_sizeOf hz, Sem.run_pure, Option.map_none, ite_self]
    rw [show (sbound 0 0 lo' hi' mx').2.2.1 - (sbound 0 0 lo' hi' mx').2.1 = 0 by omega, show (sbound 0 0 lo' hi' mx').2.2.2 - (sbound 0 0 lo' hi' mx').2.1 = 0 by omega]
  · rename_i b o len cap
    cases hr with
    | sl _ _ _ _ hD =>
    obtain ⟨lo', hl, hs⟩ := obind_rel hs hlo
    obtain ⟨hi', hh, hs⟩ := obind_rel hs hhi
    obtain ⟨mx', hm, hs⟩ := obind_rel hs hmx
    simp only [Option.some.injEq, Prod.mk.injEq] at hs
    obtain ⟨h1, rfl⟩ := hs
    have hb := run_sliceBounds (P := P) (w := w) (b := true) (h1.trans hc) hl hh hm (hmh' _ _ hh hm)
    refine snd_pure' (rd := []) rfl hH ?_ (.sl _ _ _ _ hD)
    rw [run_v]
    simp only [Instr.sliceAt, Sem.run_bind, run_underlying ht, Result.andThen_ok, Instr.slice, hb, run_sizeOf hz, Sem.run_pure, Option.map_some, Addr.add_eq]
    split
    · rfl
    · simp only [Nat.add_assoc]
  · rename_i b o len
    cases hr with
    | sg _ _ _ j cap hD hj hcap hlen =>
    split at hs
    · cases hs
    · simp only [Option.bind_eq_some_iff] at hs
      obtain ⟨k, hk, hs⟩ := hs
      obtain ⟨lo', hl, hs⟩ := obind_rel hs hlo
      obtain ⟨hi', hh, hs⟩ := obind_rel hs hhi
      cases umx with
      | some _ => exact hmx.elim
      | none =>
      split at hs
      · rename_i z' hgr
        simp only [Option.some.injEq, Prod.mk.injEq] at hs
        obtain ⟨h1, rfl⟩ := hs
        rw [hc] at h1
        simp only [Bool.and_eq_true, decide_eq_true_eq] at h1
        obtain ⟨⟨h1, h2⟩, h3⟩ := h1
        have h3 := Nat.eq_of_beq_eq_true h3
        subst h3
        have hkk : only (hget h) [b] b = some k := by rw [only_get (by simp [inl])]; exact hk
        obtain ⟨_, ⟨⟨cs, elem, fr, _, _, _, h4⟩, _⟩⟩ := hH.at_ b k hkk
        obtain ⟨_, h5, _⟩ := h4 z hgr
        have hle := sbound_le h1
        have h1' : (sbound len cap lo' hi' none).1 = true := by simp only [sbound, decide_eq_true_eq] at h1 ⊢; simp only [Option.getD_none] at h1 ⊢; omega
        have hb := run_sliceBounds (P := P) (w := w) (b := true) h1' hl hh (mx := none) (umx := none) trivial (.inl rfl)
        have e1 : (sbound len cap lo' hi' none).2.1 = (sbound len len lo' hi' none).2.1 := rfl
        have e2 : (sbound len cap lo' hi' none).2.2.1 = (sbound len len lo' hi' none).2.2.1 := rfl
        have e3 : (sbound len cap lo' hi' none).2.2.2 = cap := by simp [sbound]
        rw [e1, e2, e3] at hb
        generalize (sbound len len lo' hi' none).2.1 = l at *
        generalize (sbound len len lo' hi' none).2.2.1 = hh' at *
        have hv2 : VRel D φ (.sg b (o + l * z) (hh' - l)) (.slice (some ⟨φ.blk b, φ.off b + (o + l * z), none⟩) (hh' - l) (cap - l)) :=
          .sg b (o + l * z) (hh' - l) (j + l) (cap - l) hD (by rw [h5, Nat.add_mul, ← hj, h5]) (by omega) (by omega)
        refine snd_pure' rfl hH ?_ hv2
        rw [run_v]
        simp only [Instr.sliceAt, Sem.run_bind, run_underlying ht, Result.andThen_ok, Instr.slice, hb, run_sizeOf hz, Sem.run_pure, Option.map_some, Addr.add_eq]
        split
        · rename_i hcl
          have : l = 0 := by omega
          subst this; simp
        · simp only [Nat.add_assoc]
      · cases hs
  · cases hs

theorem snd_slA {m z : Nat} {x : Opd} {lo hi mx : Option Opd} {u : Value} {ulo uhi umx : Option Value} {t el : TypeId} {c : Bool} (hs : step (.slA m z x lo hi mx) e h n = some (c, E)) (hc : c = true) (ht : P.underlying t = some (.array m el)) (hz : tySz P el = some z)
    (hx : OK1 D φ e h x u) (hlo : OKo D φ e h lo ulo) (hhi : OKo D φ e h hi uhi) (hmx : OKo D φ e h mx umx) (hmh : mx = none ∨ hi.isSome = true)
    (hH : HR D φ (only (hget h) E.rd) w) : Sim P D φ (only (hget h) E.rd) w n E ((do pure (Next.value (← Instr.sliceAt t u ulo uhi umx)) : Sem Next).run P w) := by
  simp only [step, Option.bind_eq_some_iff] at hs
  obtain ⟨v, hv, hs⟩ := hs
  have hr := hx v hv
  have hmh' : ∀ hi' mx', Bd hi' uhi → Bd mx' umx → mx' = none ∨ ∃ v, hi' = some v := fun hi' mx' h1 h2 => by
    rcases hmh with rfl | h3
    · cases umx with
      | none => cases mx' with
        | none => exact .inl rfl
        | some _ => exact h2.elim
      | some _ => exact hmx.elim
    · cases hi with
      | none => simp at h3
      | some _ => cases uhi with
        | none => exact hhi.elim
        | some _ => cases hi' with
          | none => exact h1.elim
          | some q => exact .inr ⟨q, rfl⟩
  split at hs
  · rename_i b o
    cases hr with
    | p _ _ hD =>
    obtain ⟨lo', hl, hs⟩ := obind_rel hs hlo
    obtain ⟨hi', hh, hs⟩ := obind_rel hs hhi
    obtain ⟨mx', hm, hs⟩ := obind_rel hs hmx
    simp only [Option.some.injEq, Prod.mk.injEq] at hs
    obtain ⟨h1, rfl⟩ := hs
    have hb := run_sliceBounds (P := P) (w := w) (b := false) (h1.trans hc) hl hh hm (hmh' _ _ hh hm)
    refine snd_pure' (rd := []) rfl hH ?_ (.sl _ _ _ _ hD)
    rw [run_v]
    simp only [Instr.sliceAt, Instr.sureAddr, Sem.run_bind, run_underlying ht, Result.andThen_ok, hb, run_sizeOf hz, Sem.run_pure, Addr.add_eq]
    split
    · rfl
    · simp only [Nat.add_assoc]
  · cases hs

theorem tyField_inv {t : TypeId} {f : Nat} {q : Nat × Nat × TypeId} (h : tyField P t f = some q) : ∃ fs fl, P.underlying t = some (.struct fs) ∧ fs[f]? = some fl ∧ fl.offset = q.1 ∧ tySz P fl.type = some q.2.1 ∧ fl.type = q.2.2 := by
  unfold tyField at h
  split at h
  · rename_i fs hu
    simp only [Option.bind_eq_some_iff] at h
    obtain ⟨fl, hfl, h⟩ := h
    obtain ⟨z, hz, rfl⟩ := Option.map_eq_some_iff.1 h
    exact ⟨fs, fl, hu, hfl, rfl, hz, rfl⟩
  · cases h

theorem snd_fa {x : Opd} {u : Value} {t : TypeId} {f : Nat} {q : Nat × Nat × TypeId} {c : Bool} (hs : step (.fa q.1 x) e h n = some (c, E)) (hq : tyField P t f = some q) (hq0 : q.2.1 ≠ 0) (hx : OK1 D φ e h x u) (hH : HR D φ (only (hget h) E.rd) w) :
    Sim P D φ (only (hget h) E.rd) w n E ((do pure (Next.value (← Instr.fieldAt t u f)) : Sem Next).run P w) := by
  obtain ⟨fs, fl, h1, h2, h3, h4, h5⟩ := tyField_inv hq
  simp only [step, Option.bind_eq_some_iff] at hs
  obtain ⟨v, hv, hs⟩ := hs
  have hr := hx v hv
  split at hs
  · rename_i b o
    cases hr with
    | p _ _ hD =>
    refine snd_pure hs hH ?_ (.p _ _ hD)
    rw [run_v]
    simp only [Instr.fieldAt, Sem.run_bind, run_underlying h1, Result.andThen_ok, h2, Instr.sureAddr, Sem.run_pure, fieldPlace, run_sizeOf h4, hq0, if_false, Addr.add_eq, h3, Nat.add_assoc]
  · cases hs

theorem run_part_of {t : TypeId} {cs : List Value} {l : List AV} {off z : Nat} (hl : All2 D φ l cs) {g : Bool} (hg : tyAgg P t = some g) (hz : tySz P t = some z) (hle : g = true → off + z ≤ l.length) {v : AV} (hv : (if g then some (.agg (cellsAt l off z)) else l[off]?) = some v) :
    ∃ u, (part t cs.toArray off).run P w = .ok u w ∧ VRel D φ v u := by
  cases g
  · simp only [Bool.false_eq_true, if_false] at hv
    obtain ⟨u, hu, hr⟩ := hl.get hv
    refine ⟨u, ?_, hr⟩
    simp only [part, Sem.run_bind, run_isAgg hg, Result.andThen_ok, Bool.false_eq_true, if_false, List.getElem?_toArray, hu, Sem.run_pure]
  · simp only [if_true, Option.some.injEq] at hv
    subst hv
    refine ⟨.agg ((cs.drop off).take z).toArray, ?_, VRel.agg' ((hl.drop off).take z)⟩
    simp only [part, Sem.run_bind, run_isAgg hg, Result.andThen_ok, if_true, run_sizeOf hz, Sem.run_pure]
    congr 2
    apply Array.ext'
    simp [List.take_drop]

theorem snd_fld {x : Opd} {u : Value} {t : TypeId} {f : Nat} {q : Nat × Nat × TypeId} {g : Bool} {c : Bool} (hs : step (.fld g q.2.1 q.1 x) e h n = some (c, E)) (hc : c = true) (hq : tyField P t f = some q) (hg : tyAgg P q.2.2 = some g) (hx : OK1 D φ e h x u) (hH : HR D φ (only (hget h) E.rd) w) :
    Sim P D φ (only (hget h) E.rd) w n E ((do pure (Next.value (← Instr.field t u f)) : Sem Next).run P w) := by
  obtain ⟨fs, fl, h1, h2, h3, h4, h5⟩ := tyField_inv hq
  simp only [step, Option.bind_eq_some_iff] at hs
  obtain ⟨v, hv, hs⟩ := hs
  have hr := hx v hv
  split at hs
  · rename_i l
    obtain ⟨us, rfl, hl⟩ := hr.agg_inv
    rw [← h5] at hg
    have hrun : ∀ u w', (part fl.type us.toArray q.1).run P w = .ok u w' → (do pure (Next.value (← Instr.field t (.agg us.toArray) f)) : Sem Next).run P w = .ok (.value u) w' := fun u w' hp => by
      rw [run_v]
      simp only [Instr.field, Sem.run_bind, run_underlying h1, Result.andThen_ok, h2, asAgg, Sem.run_pure, h3]
      rw [hp]; rfl
    cases g
    · simp only [Option.bind_eq_some_iff] at hs
      obtain ⟨v, hv, hs⟩ := hs
      obtain ⟨y, hy, hyr⟩ := run_part_of (P := P) (w := w) hl hg h4 (by simp) (v := v) (by simpa using hv)
      exact snd_pure hs hH (hrun _ _ hy) hyr
    · simp only [Option.some.injEq, Prod.mk.injEq] at hs
      obtain ⟨h6, rfl⟩ := hs
      rw [hc] at h6
      obtain ⟨y, hy, hyr⟩ := run_part_of (P := P) (w := w) hl hg h4 (fun _ => of_decide_eq_true h6) (v := .agg (cellsAt l q.1 q.2.1)) (by simp)
      exact snd_pure' (rd := []) rfl hH (hrun _ _ hy) hyr
  · cases hs

theorem slParts_rel {v : AV} {u : Value} {q : Nat × Nat × Nat} (h : slParts v = some q) (hv : VRel D φ v u) : ∃ cap, u = .slice (some ⟨φ.blk q.1, φ.off q.1 + q.2.1, none⟩) q.2.2 cap ∧ D q.1 := by
  unfold slParts at h
  split at h <;> cases h <;> cases hv <;> exact ⟨_, rfl, by assumption⟩

theorem snd_ixaA {m z : Nat} {x i : Opd} {u ui : Value} {t el : TypeId} {c : Bool} (hs : step (.ixaA m z x i) e h n = some (c, E)) (hc : c = true) (ht : P.underlying t = some (.array m el)) (hz : tySz P el = some z) (hx : OK1 D φ e h x u) (hi : OK1 D φ e h i ui) (hH : HR D φ (only (hget h) E.rd) w) :
    Sim P D φ (only (hget h) E.rd) w n E ((do pure (Next.value (← Instr.indexAt t u ui)) : Sem Next).run P w) := by
  simp only [step, Option.bind_eq_some_iff] at hs
  obtain ⟨v, hv, vi, hvi, j, hj, hs⟩ := hs
  have hr := hx v hv
  obtain ⟨k, rfl⟩ := asJ_rel hj (hi vi hvi)
  split at hs
  · rename_i b o
    cases hr with
    | p _ _ hD =>
    simp only [Option.some.injEq, Prod.mk.injEq] at hs
    obtain ⟨h1, rfl⟩ := hs
    rw [hc] at h1
    have h1 := of_decide_eq_true h1
    refine snd_pure' (rd := []) rfl hH ?_ (.p _ _ hD)
    rw [run_v]
    simp only [Instr.indexAt, asIntOf, Sem.run_bind, Sem.run_pure, run_underlying ht, Result.andThen_ok, Instr.sureAddr]
    rw [if_pos h1]
    simp only [Sem.run_bind, run_sizeOf hz, Result.andThen_ok, Sem.run_pure, Addr.add_eq, Nat.add_assoc]
  · cases hs

theorem snd_ixaV {z : Nat} {x i : Opd} {u ui : Value} {t el : TypeId} {c : Bool} (hs : step (.ixaV z x i) e h n = some (c, E)) (hc : c = true) (ht : P.underlying t = some (.slice el)) (hz : tySz P el = some z) (hx : OK1 D φ e h x u) (hi : OK1 D φ e h i ui) (hH : HR D φ (only (hget h) E.rd) w) :
    Sim P D φ (only (hget h) E.rd) w n E ((do pure (Next.value (← Instr.indexAt t u ui)) : Sem Next).run P w) := by
  simp only [step, Option.bind_eq_some_iff] at hs
  obtain ⟨v, hv, vi, hvi, j, hj, q, hq, hs⟩ := hs
  obtain ⟨k, rfl⟩ := asJ_rel hj (hi vi hvi)
  obtain ⟨cap, rfl, hD⟩ := slParts_rel hq (hx v hv)
  simp only [Option.some.injEq, Prod.mk.injEq] at hs
  obtain ⟨h1, rfl⟩ := hs
  rw [hc] at h1
  have h1 := of_decide_eq_true h1
  refine snd_pure' (rd := []) rfl hH ?_ (.p _ _ hD)
  rw [run_v]
  simp only [Instr.indexAt, asIntOf, Sem.run_bind, Sem.run_pure, run_underlying ht, Result.andThen_ok, Instr.sureAddr]
  rw [if_pos h1]
  simp only [Sem.run_bind, run_sizeOf hz, Result.andThen_ok, Sem.run_pure, Addr.add_eq, Nat.add_assoc]

theorem snd_ixA {m z : Nat} {g : Bool} {x i : Opd} {u ui : Value} {t el : TypeId} {c : Bool} (hs : step (.ixA m z g x i) e h n = some (c, E)) (hc : c = true) (ht : P.underlying t = some (.array m el)) (hz : tySz P el = some z) (hg : tyAgg P el = some g) (hx : OK1 D φ e h x u) (hi : OK1 D φ e h i ui) (hH : HR D φ (only (hget h) E.rd) w) :
    Sim P D φ (only (hget h) E.rd) w n E ((do pure (Next.value (← Instr.index t u ui)) : Sem Next).run P w) := by
  simp only [step, Option.bind_eq_some_iff] at hs
  obtain ⟨v, hv, vi, hvi, j, hj, hs⟩ := hs
  have hr := hx v hv
  obtain ⟨k, rfl⟩ := asJ_rel hj (hi vi hvi)
  split at hs
  · rename_i l
    obtain ⟨us, rfl, hl⟩ := hr.agg_inv
    have hrun : 0 ≤ j ∧ j < m → ∀ u w', (part el us.toArray (j.toNat * z)).run P w = .ok u w' → (do pure (Next.value (← Instr.index t (.agg us.toArray) (.int k j))) : Sem Next).run P w = .ok (.value u) w' := fun hjm u w' hp => by
      rw [run_v]
      simp only [Instr.index, asIntOf, Sem.run_bind, Sem.run_pure, run_underlying ht, Result.andThen_ok]
      rw [if_pos hjm]
      simp only [Sem.run_bind, run_sizeOf hz, Result.andThen_ok]
      rw [hp]; rfl
    cases g
    · simp only [Option.bind_eq_some_iff, Option.some.injEq, Prod.mk.injEq] at hs
      obtain ⟨v, hv, h1, rfl⟩ := hs
      rw [hc] at h1
      obtain ⟨y, hy, hyr⟩ := run_part_of (P := P) (w := w) hl hg hz (by simp) (v := v) (by simpa using hv)
      exact snd_pure' (rd := []) rfl hH (hrun (of_decide_eq_true h1) _ _ hy) hyr
    · simp only [Option.some.injEq, Prod.mk.injEq] at hs
      obtain ⟨h6, rfl⟩ := hs
      rw [hc, Bool.and_eq_true] at h6
      obtain ⟨y, hy, hyr⟩ := run_part_of (P := P) (w := w) hl hg hz (fun _ => of_decide_eq_true h6.2) (v := .agg (cellsAt l (j.toNat * z) z)) (by simp)
      exact snd_pure' (rd := []) rfl hH (hrun (of_decide_eq_true h6.1) _ _ hy) hyr
  · cases hs

theorem snd_ixS {x i : Opd} {u ui : Value} {t : TypeId} {c : Bool} (hs : step (.ixS x i) e h n = some (c, E)) (hc : c = true) (ht : P.underlying t = some .string) (hx : OK1 D φ e h x u) (hi : OK1 D φ e h i ui) (hH : HR D φ (only (hget h) E.rd) w) :
    Sim P D φ (only (hget h) E.rd) w n E ((do pure (Next.value (← Instr.index t u ui)) : Sem Next).run P w) := by
  simp only [step, Option.bind_eq_some_iff] at hs
  obtain ⟨v, hv, vi, hvi, j, hj, hs⟩ := hs
  have hr := hx v hv
  obtain ⟨k, rfl⟩ := asJ_rel hj (hi vi hvi)
  split at hs
  · rename_i l
    cases hr
    simp only [Option.some.injEq, Prod.mk.injEq] at hs
    obtain ⟨h1, rfl⟩ := hs
    rw [hc] at h1
    have h1 := of_decide_eq_true h1
    refine snd_pure' (rd := []) rfl hH ?_ (.i _ _)
    rw [run_v]
    simp only [Instr.index, asIntOf, Sem.run_bind, Sem.run_pure, run_underlying ht, Result.andThen_ok]
    have hlt : j.toNat < l.length := by omega
    have hb : ((if 0 ≤ j then (ByteArray.mk l.toArray)[j.toNat]? else none) : Option UInt8) = some l[j.toNat] := by
      rw [if_pos h1.1]
      have : j.toNat < (ByteArray.mk l.toArray).size := by rw [size_mk]; exact hlt
      rw [getElem?_pos (ByteArray.mk l.toArray) j.toNat this]
      rfl
    rw [hb]
    simp [hlt]
  · cases hs

theorem snd_ext {x : Opd} {u : Value} {i : Nat} {c : Bool} (hs : step (.ext x i) e h n = some (c, E)) (hx : OK1 D φ e h x u) (hH : HR D φ (only (hget h) E.rd) w) :
    Sim P D φ (only (hget h) E.rd) w n E ((do pure (Next.value (← Instr.extract u i)) : Sem Next).run P w) := by
  simp only [step, Option.bind_eq_some_iff] at hs
  obtain ⟨v, hv, hs⟩ := hs
  have hr := hx v hv
  split at hs
  · rename_i l
    obtain ⟨us, rfl, hl⟩ := hr.tup_inv
    simp only [Option.bind_eq_some_iff] at hs
    obtain ⟨v, hv, hs⟩ := hs
    obtain ⟨y, hy, hyr⟩ := hl.get hv
    exact snd_pure hs hH (by simp [Instr.extract, hy]) hyr
  · cases hs

end
end Go.Ab
