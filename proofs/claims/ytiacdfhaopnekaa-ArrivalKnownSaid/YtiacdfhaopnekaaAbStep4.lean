/- The abstract layer, part 10: builtins, builds; the theorem for every operation but calls. -/
import Derived.Test.YtiacdfhaopnekaaAbStep3
namespace Go.Ab
set_option linter.unusedVariables false
set_option linter.unusedSimpArgs false

section
variable {P : Program} {D : Nat → Prop} {φ : Phi} {w : World} {n : Nat} {e : Env} {h : Hp} {E : Eff} {ρ : Operand → Value}

theorem snd_lenS {x : Opd} {u : Value} {t tt : TypeId} {c : Bool} (hs : step (.lenS x) e h n = some (c, E)) (ht : P.underlying t = some .string) (hx : OK1 D φ e h x u) (hH : HR D φ (only (hget h) E.rd) w) :
    Sim P D φ (only (hget h) E.rd) w n E ((do pure (Next.value (← Builtin.len_ #[t] tt #[u])) : Sem Next).run P w) := by
  simp only [step, Option.bind_eq_some_iff] at hs
  obtain ⟨v, hv, hs⟩ := hs
  have hr := hx v hv
  split at hs
  · cases hr
    refine snd_pure hs hH ?_ (.i _ _)
    rw [run_v]
    simp [Builtin.len_, run_underlying ht, size_mk, goInt]
  · cases hs

theorem snd_lenV {x : Opd} {u : Value} {t tt el : TypeId} {c : Bool} (hs : step (.lenV x) e h n = some (c, E)) (ht : P.underlying t = some (.slice el)) (hx : OK1 D φ e h x u) (hH : HR D φ (only (hget h) E.rd) w) :
    Sim P D φ (only (hget h) E.rd) w n E ((do pure (Next.value (← Builtin.len_ #[t] tt #[u])) : Sem Next).run P w) := by
  simp only [step, Option.bind_eq_some_iff] at hs
  obtain ⟨v, hv, hs⟩ := hs
  have hr := hx v hv
  split at hs
  · cases hr
    refine snd_pure hs hH ?_ (.i _ _)
    rw [run_v]
    simp [Builtin.len_, run_underlying ht, goInt]
  · simp only [Option.bind_eq_some_iff] at hs
    obtain ⟨q, hq, hs⟩ := hs
    obtain ⟨cap, rfl, _⟩ := slParts_rel hq hr
    refine snd_pure hs hH ?_ (.i _ _)
    rw [run_v]
    simp [Builtin.len_, run_underlying ht, goInt]

theorem snd_lenC {m : Nat} {u : Value} {t tt : TypeId} {c : Bool} (hs : step (.lenC m) e h n = some (c, E)) (ht : (∃ el, P.underlying t = some (.array m el)) ∨ ∃ a el, P.underlying t = some (.pointer a) ∧ P.underlying a = some (.array m el)) (hH : HR D φ (only (hget h) E.rd) w) :
    Sim P D φ (only (hget h) E.rd) w n E ((do pure (Next.value (← Builtin.len_ #[t] tt #[u])) : Sem Next).run P w) := by
  refine snd_pure hs hH ?_ (.i _ _)
  rw [run_v]
  rcases ht with ⟨el, ht⟩ | ⟨a, el, ht, ha⟩
  · simp [Builtin.len_, run_underlying ht, goInt]
  · simp [Builtin.len_, run_underlying ht, run_underlying ha, goInt]

theorem snd_capV {x : Opd} {u : Value} {t tt el : TypeId} {c : Bool} (hs : step (.capV x) e h n = some (c, E)) (ht : P.underlying t = some (.slice el)) (hx : OK1 D φ e h x u) (hH : HR D φ (only (hget h) E.rd) w) :
    Sim P D φ (only (hget h) E.rd) w n E ((do pure (Next.value (← Builtin.cap_ #[t] tt #[u])) : Sem Next).run P w) := by
  simp only [step, Option.bind_eq_some_iff] at hs
  obtain ⟨v, hv, hs⟩ := hs
  have hr := hx v hv
  split at hs
  · cases hr
    refine snd_pure hs hH ?_ (.i _ _)
    rw [run_v]
    simp [Builtin.cap_, run_underlying ht, goInt]
  · cases hr
    refine snd_pure hs hH ?_ (.i _ _)
    rw [run_v]
    simp [Builtin.cap_, run_underlying ht, goInt]
  · cases hs

theorem minI_rel {k : IntKind} : ∀ {l : List AV} {us : List Value} {a m : Int}, minI k a l = some m → All2 D φ l us → (us.foldlM Builtin.min2 (.int k a)).run P w = .ok (.int k m) w
  | [], us, a, m, hm, hl => by rw [hl.unnil]; simp [minI] at hm; subst hm; simp
  | v :: l, us, a, m, hm, hl => by
    obtain ⟨u, us', rfl, hv, hl'⟩ := hl.uncons
    unfold minI at hm
    split at hm
    · contradiction
    · rename_i k' y r heq
      cases heq
      split at hm
      · rename_i e; subst e
        cases hv
        simp only [List.foldlM_cons, Sem.run_bind, Builtin.min2, Sem.run_pure, Result.andThen_ok]
        exact minI_rel hm hl'
      · cases hm
    · cases hm

theorem maxI_rel {k : IntKind} : ∀ {l : List AV} {us : List Value} {a m : Int}, maxI k a l = some m → All2 D φ l us → (us.foldlM Builtin.max2 (.int k a)).run P w = .ok (.int k m) w
  | [], us, a, m, hm, hl => by rw [hl.unnil]; simp [maxI] at hm; subst hm; simp
  | v :: l, us, a, m, hm, hl => by
    obtain ⟨u, us', rfl, hv, hl'⟩ := hl.uncons
    unfold maxI at hm
    split at hm
    · contradiction
    · rename_i k' y r heq
      cases heq
      split at hm
      · rename_i e; subst e
        cases hv
        simp only [List.foldlM_cons, Sem.run_bind, Builtin.max2, Sem.run_pure, Result.andThen_ok]
        exact maxI_rel hm hl'
      · cases hm
    · cases hm

theorem asK_rel {v : AV} {u : Value} {q : IntKind × Int} (h : asK v = some q) (hv : VRel D φ v u) : u = .int q.1 q.2 := by
  unfold asK at h
  split at h <;> cases h
  cases hv; rfl

theorem snd_mn {x : Opd} {xs : List Opd} {u : Value} {ys : List Operand} {ats : Array TypeId} {tt : TypeId} {c : Bool} (hs : step (.mn x xs) e h n = some (c, E)) (hc : cOs ys = some xs) (hx : OK1 D φ e h x u) (hk : ∀ y ∈ ys, ∀ x, cO y = some x → OK1 D φ e h x (ρ y)) (hH : HR D φ (only (hget h) E.rd) w) :
    Sim P D φ (only (hget h) E.rd) w n E ((do pure (Next.value (← Builtin.min_ ats tt (u :: ys.map ρ).toArray)) : Sem Next).run P w) := by
  simp only [step, Option.bind_eq_some_iff] at hs
  obtain ⟨v, hv, q, hq, l, hl, m, hm, hs⟩ := hs
  have := asK_rel hq (hx v hv)
  subst this
  refine snd_pure hs hH ?_ (.i _ _)
  rw [run_v]
  simp only [Builtin.min_]
  rw [minI_rel hm (evs_rel hc hl hk)]
  rfl

theorem snd_mx {x : Opd} {xs : List Opd} {u : Value} {ys : List Operand} {ats : Array TypeId} {tt : TypeId} {c : Bool} (hs : step (.mx x xs) e h n = some (c, E)) (hc : cOs ys = some xs) (hx : OK1 D φ e h x u) (hk : ∀ y ∈ ys, ∀ x, cO y = some x → OK1 D φ e h x (ρ y)) (hH : HR D φ (only (hget h) E.rd) w) :
    Sim P D φ (only (hget h) E.rd) w n E ((do pure (Next.value (← Builtin.max_ ats tt (u :: ys.map ρ).toArray)) : Sem Next).run P w) := by
  simp only [step, Option.bind_eq_some_iff] at hs
  obtain ⟨v, hv, q, hq, l, hl, m, hm, hs⟩ := hs
  have := asK_rel hq (hx v hv)
  subst this
  refine snd_pure hs hH ?_ (.i _ _)
  rw [run_v]
  simp only [Builtin.max_]
  rw [maxI_rel hm (evs_rel hc hl hk)]
  rfl

/-- The source of an append or a copy. -/
theorem src_rel {z : Nat} {x : AV} {u : Value} {r : List Nat × Nat × List AV × Bool} (hs : srcCells h z x = some r) (hr : r.2.2.2 = true) {rd : List Nat} (hrd : ∀ b, inl r.1 b = true → inl rd b = true)
    (hx : VRel D φ x u) (hH : HR D φ (only (hget h) rd) w) :
    (Builtin.lenOf u).run P w = .ok r.2.1 w ∧ ∃ us : List Value, (Builtin.firstCells z r.2.1 u).run P w = .ok us.toArray w ∧ All2 D φ r.2.2.1 us ∧ r.2.2.1.length = r.2.1 * z ∧
      ∀ m, m ≤ r.2.1 → (Builtin.firstCells z m u).run P w = .ok (us.take (m * z)).toArray w := by
  have row : ∀ (b o len cap : Nat) (k : Blk), hget h b = some k → inl rd b = true → (cellsAt k.cells o (len * z)).length = len * z → ∃ us : List Value, (Builtin.firstCells z len (.slice (some ⟨φ.blk b, φ.off b + o, none⟩) len cap)).run P w = .ok us.toArray w ∧ All2 D φ (cellsAt k.cells o (len * z)) us ∧
      ∀ m, m ≤ len → (Builtin.firstCells z m (.slice (some ⟨φ.blk b, φ.off b + o, none⟩) len cap)).run P w = .ok (us.take (m * z)).toArray w := fun b o len cap k hk hb hl => by
    have hkk : only (hget h) rd b = some k := by rw [only_get hb]; exact hk
    obtain ⟨us, h1, h2⟩ := HR.row (P := P) hH hkk hl
    refine ⟨us, by simpa [Builtin.firstCells] using h1, h2, fun m hm => ?_⟩
    have hmz : m * z ≤ len * z := Nat.mul_le_mul_right _ hm
    have hl' : (cellsAt k.cells o (m * z)).length = m * z := by simp [cellsAt] at hl ⊢; omega
    obtain ⟨us', h3, h4⟩ := HR.row (P := P) hH hkk hl'
    simp only [Builtin.firstCells]
    rw [h3]
    congr 2
    -- both are the same cells of the world
    obtain ⟨_, ⟨⟨cs, elem, fr, g1, _⟩, _⟩⟩ := hH.at_ b k hkk
    by_cases h0 : len * z = 0
    · have h0' : m * z = 0 := by omega
      have : us'.length = 0 := by rw [← h4.1, hl']; exact h0'
      rw [List.eq_nil_of_length_eq_zero this, h0']; simp
    · obtain ⟨_, ⟨⟨cs, elem, fr, g1, g2, _⟩, _⟩⟩ := hH.at_ b k hkk
      have hin : ∀ i, i < k.cells.length → φ.off b + i < cs.size := fun i hi => by
        obtain ⟨u, hu, _⟩ := g2 i _ (List.getElem?_eq_getElem hi)
        rcases Nat.lt_or_ge (φ.off b + i) cs.size with h' | h'
        · exact h'
        · rw [Array.getElem?_eq_none h'] at hu; cases hu
      have hle : φ.off b + o + len * z ≤ cs.size := by
        simp [cellsAt] at hl
        have := hin (o + len * z - 1) (by omega); omega
      have e1 := run_loadCells (P := P) (o := φ.off b + o) (n := len * z) g1 hle
      have e2 := run_loadCells (P := P) (o := φ.off b + o) (n := m * z) g1 (by omega)
      rw [h1] at e1
      rw [h3] at e2
      simp only [Result.ok.injEq, and_true] at e1 e2
      have e1' : us = List.take (len * z) (List.drop (φ.off b + o) cs.toList) := by simpa using congrArg Array.toList e1
      have e2' : us' = List.take (m * z) (List.drop (φ.off b + o) cs.toList) := by simpa using congrArg Array.toList e2
      rw [e1', e2', List.take_take, Nat.min_eq_left hmz]
  unfold srcCells at hs
  split at hs
  · cases hs; cases hx
    refine ⟨by simp [Builtin.lenOf], [], by simp [Builtin.firstCells], .nil, by simp, fun m hm => by simp [Builtin.firstCells]⟩
  · rename_i l
    cases hs; cases hx
    have hz : z = 1 := Nat.eq_of_beq_eq_true hr
    subst hz
    refine ⟨by simp [Builtin.lenOf, size_mk], l.map (fun b => Value.int .u8 b.toNat), ?_, ⟨by simp, fun i a u ha hu => ?_⟩, by simp, fun m hm => ?_⟩
    · simp [Builtin.firstCells, ← size_mk l]
    · simp only [List.getElem?_map, Option.map_eq_some_iff] at ha hu
      obtain ⟨b, hb, rfl⟩ := ha
      obtain ⟨b', hb', rfl⟩ := hu
      rw [hb] at hb'; cases hb'
      exact .i _ _
    · simp [Builtin.firstCells, ByteArray.data_extract, List.map_take]
  · rename_i b o len cap
    simp only [Option.bind_eq_some_iff, Option.some.injEq] at hs
    obtain ⟨k, hk, rfl⟩ := hs
    cases hx
    have hl := of_decide_eq_true hr
    obtain ⟨us, h1, h2, h3⟩ := row b o len cap k hk (hrd b (by simp [inl])) hl
    exact ⟨by simp [Builtin.lenOf], us, h1, h2, hl, h3⟩
  · rename_i b o len
    simp only [Option.bind_eq_some_iff, Option.some.injEq] at hs
    obtain ⟨k, hk, rfl⟩ := hs
    cases hx
    have hl := of_decide_eq_true hr
    obtain ⟨us, h1, h2, h3⟩ := row b o len _ k hk (hrd b (by simp [inl])) hl
    exact ⟨by simp [Builtin.lenOf], us, h1, h2, hl, h3⟩
  · cases hs

theorem run_copy {ats : Array TypeId} {t tt el : TypeId} {z m : Nat} {us : Value} {base : Option Addr} {len cap : Nat} {cells : Array Value} (h0 : ats[0]? = some t) (ht : P.underlying t = some (.slice el)) (hz : tySz P el = some z)
    (hl : (Builtin.lenOf us).run P w = .ok m w) (hf : (Builtin.firstCells z (Nat.min m len) us).run P w = .ok cells w) :
    (Builtin.copy_ ats tt #[.slice base len cap, us]).run P w = ((match base with | some a => storeCells a cells.toList | none => pure () : Sem Unit).run P w).andThen fun _ w' => .ok (goInt (Nat.min m len)) w' := by
  have e0 : (#[Value.slice base len cap, us] : Array Value)[0]? = some (Value.slice base len cap) := rfl
  have e1 : (#[Value.slice base len cap, us] : Array Value)[1]? = some us := rfl
  unfold Builtin.copy_
  rw [h0, e0, e1]
  simp only [Sem.run_bind, run_underlying ht, Result.andThen_ok, hl, run_sizeOf hz, hf]
  cases base <;> simp only [Sem.run_bind, Sem.run_pure, Result.andThen_ok]

theorem only_sub {rd rd' : List Nat} {D : Nat → Prop} {φ : Phi} {w : World} {h : Hp} : HR D φ (only (hget h) rd) w → (∀ b, inl rd' b = true → inl rd b = true) → HR D φ (only (hget h) rd') w := fun hh hs =>
  ⟨fun b k hb => hh.at_ b k (by
      unfold only at hb ⊢
      cases hb' : inl rd' b
      · simp [hb'] at hb
      · rw [hs b hb']; simpa [hb'] using hb),
   fun b1 b2 k1 k2 hne h1 h2 hk => hh.sep b1 b2 k1 k2 hne (by
      unfold only at h1 ⊢
      cases hb' : inl rd' b1
      · simp [hb'] at h1
      · rw [hs b1 hb']; simpa [hb'] using h1) (by
      unfold only at h2 ⊢
      cases hb' : inl rd' b2
      · simp [hb'] at h2
      · rw [hs b2 hb']; simpa [hb'] using h2) hk⟩

theorem oneAll_take : ∀ {xs : List AV} (m : Nat), oneAll xs = true → oneAll (xs.take m) = true
  | [], m, h => by simp [oneAll]
  | x :: xs, 0, h => by simp [oneAll]
  | x :: xs, m + 1, h => by
    simp only [oneAll, Bool.and_eq_true, List.take_succ_cons] at h ⊢
    exact ⟨h.1, oneAll_take m h.2⟩

theorem snd_cpy {z : Nat} {d s : Opd} {ud us : Value} {ats : Array TypeId} {t tt el : TypeId} {c : Bool} (hs : step (.cpy z d s) e h n = some (c, E)) (hc : c = true) (h0 : ats[0]? = some t) (ht : P.underlying t = some (.slice el)) (hz : tySz P el = some z)
    (hd : OK1 D φ e h d ud) (hss : OK1 D φ e h s us) (hH : HR D φ (only (hget h) E.rd) w) :
    Sim P D φ (only (hget h) E.rd) w n E ((do pure (Next.value (← Builtin.copy_ ats tt #[ud, us])) : Sem Next).run P w) := by
  simp only [step, Option.bind_eq_some_iff] at hs
  obtain ⟨vd, hvd, vs, hvs, r, hr, hs⟩ := hs
  have hrd := hd vd hvd
  have hrs := hss vs hvs
  split at hs
  · cases hrd
    simp only [Option.some.injEq, Prod.mk.injEq] at hs
    obtain ⟨h1, rfl⟩ := hs
    obtain ⟨hl, us', hf, hu, hul, hft⟩ := src_rel (P := P) hr (h1.trans hc) (rd := r.1) (fun b hb => hb) hrs hH
    refine snd_pure' rfl hH ?_ (.i .i64 0)
    rw [run_v, run_copy h0 ht hz hl (hft _ (Nat.min_le_left _ _))]
    simp [goInt]
  · simp only [Option.bind_eq_some_iff] at hs
    obtain ⟨q, hq, k, hk, hs⟩ := hs
    obtain ⟨cap, rfl, hDq⟩ := slParts_rel hq hrd
    split at hs
    · cases hs
    · rename_i hro
      simp only [Option.some.injEq, Prod.mk.injEq] at hs
      obtain ⟨h1, rfl⟩ := hs
      rw [hc] at h1
      simp only [Bool.and_eq_true, decide_eq_true_eq] at h1
      obtain ⟨⟨h1, h2⟩, h3⟩ := h1
      have hi : inl (q.1 :: r.1) q.1 = true := by simp [inl]
      obtain ⟨hl, us', hf, hu, hul, hft⟩ := src_rel (P := P) hr h1 (rd := q.1 :: r.1) (fun b hb => by simp [inl, hb]) hrs hH
      have hmm := Nat.min_le_left r.2.1 q.2.2
      have hkk : only (hget h) (q.1 :: r.1) q.1 = some k := by rw [only_get hi]; exact hk
      have hmz : Nat.min r.2.1 q.2.2 * z ≤ r.2.1 * z := Nat.mul_le_mul_right _ hmm
      obtain ⟨w', cs, cs', elem, fr, g1, g2, g3, g4, g5, g6, g7, g8⟩ := HR.stores (P := P) hH hkk hro (hu.take (Nat.min r.2.1 q.2.2 * z)) (oneAll_take _ h2) (o := q.2.1) (by simp [hul]; omega)
      refine Sim.write (nx := .value (goInt (Nat.min r.2.1 q.2.2))) ?_ (.inl rfl) (.i _ _) hi hH hkk hro g2 g3 g4 g5 g6 g7 g8
      rw [run_v, run_copy h0 ht hz hl (hft _ hmm)]
      simp only [List.toList_toArray]
      rw [g1]
      rfl

theorem snd_clr {z : Nat} {zs : List AV} {x : Opd} {u : Value} {t tt el : TypeId} {c : Bool} (hs : step (.clr z zs x) e h n = some (c, E)) (hc : c = true) (ht : P.underlying t = some (.slice el)) (hz : tySz P el = some z) (hzs : tyZero P el = some zs)
    (hx : OK1 D φ e h x u) (hH : HR D φ (only (hget h) E.rd) w) :
    Sim P D φ (only (hget h) E.rd) w n E ((do pure (Next.value (← Builtin.clear_ #[t] tt #[u])) : Sem Next).run P w) := by
  simp only [step, Option.bind_eq_some_iff] at hs
  obtain ⟨v, hv, hs⟩ := hs
  have hr := hx v hv
  have hund : VRel D φ (.tup []) undef := VRel.tup [] #[] rfl (fun i a u ha => by simp at ha)
  split at hs
  · cases hr
    refine snd_pure (u := undef) hs hH ?_ hund
    rw [run_v]
    simp [Builtin.clear_, run_underlying ht, undef]
  · simp only [Option.bind_eq_some_iff] at hs
    obtain ⟨q, hq, k, hk, hs⟩ := hs
    obtain ⟨cap, rfl, hDq⟩ := slParts_rel hq hr
    split at hs
    · cases hs
    · rename_i hro
      simp only [Option.some.injEq, Prod.mk.injEq] at hs
      obtain ⟨h1, rfl⟩ := hs
      rw [hc] at h1
      simp only [Bool.and_eq_true, decide_eq_true_eq] at h1
      obtain ⟨⟨h1, h2⟩, h3⟩ := h1
      have h2 := Nat.eq_of_beq_eq_true h2
      have hi : inl [q.1] q.1 = true := by simp [inl]
      have hkk : only (hget h) [q.1] q.1 = some k := by rw [only_get hi]; exact hk
      obtain ⟨uz, huz, hzz⟩ := run_zero hzs w
      have hzr := avsOf_rel (D := D) (φ := φ) hzz
      have hsz : uz.cells.size = z := by have := hzr.1; simp at this; omega
      have hrow := zeros_rel hzr q.2.2
      have hone : ∀ m, oneAll (zeros zs m) = true := fun m => by
        have happ : ∀ a b : List AV, oneAll a = true → oneAll b = true → oneAll (a ++ b) = true := fun a b ha hb => by
          induction a with
          | nil => exact hb
          | cons x a ih => simp only [List.cons_append, oneAll, Bool.and_eq_true] at ha ⊢; exact ⟨ha.1, ih ha.2⟩
        induction m with
        | zero => rfl
        | succ m ih => exact happ _ _ h1 ih
      have hzl : ∀ m, (zeros zs m).length = m * z := fun m => by
        induction m with
        | zero => simp [zeros]
        | succ m ih => simp [zeros, ih, Nat.succ_mul]; omega
      obtain ⟨w', cs, cs', elem, fr, g1, g2, g3, g4, g5, g6, g7, g8⟩ := HR.stores (P := P) hH hkk hro hrow (hone _) (o := q.2.1) (by rw [hzl]; exact h3)
      refine Sim.write (nx := .value undef) ?_ (.inl rfl) hund hi hH hkk hro g2 g3 g4 g5 g6 g7 g8
      rw [run_v]
      have e0 : (#[Value.slice (some ⟨φ.blk q.1, φ.off q.1 + q.2.1, none⟩) q.2.2 cap] : Array Value)[0]? = some (Value.slice (some ⟨φ.blk q.1, φ.off q.1 + q.2.1, none⟩) q.2.2 cap) := rfl
      have e1 : (#[t] : Array TypeId)[0]? = some t := rfl
      unfold Builtin.clear_
      rw [e0, e1]
      simp only [Sem.run_bind, run_underlying ht, Result.andThen_ok]
      by_cases hq0 : q.2.2 = 0
      · rw [hq0] at g1 ⊢
        simp [storeCells] at g1
        subst g1
        simp [undef]
      · obtain ⟨m, hm⟩ : ∃ m, q.2.2 = m + 1 := ⟨q.2.2 - 1, by omega⟩
        rw [hm] at g1 ⊢
        simp only [Sem.run_bind, huz, Result.andThen_ok, Builtin.zeroCells]
        rw [g1]
        rfl

theorem bytesOf_rel {f : Value → ByteArray → Sem (ForInStep ByteArray)} (hf : ∀ n s, f (.int .u8 n) s = pure (ForInStep.yield (s.push (UInt8.ofNat n.toNat)))) :
    ∀ {l : List AV} {us : List Value} {m : List UInt8} (s : ByteArray), bytesOf l = some m → All2 D φ l us →
    (forIn us s f : Sem ByteArray).run P w = .ok (ByteArray.mk (s.data ++ m.toArray)) w
  | [], us, m, s, hm, hl => by rw [hl.unnil]; simp [bytesOf] at hm; subst hm; simp
  | v :: l, us, m, s, hm, hl => by
    obtain ⟨u, us', rfl, hv, hl'⟩ := hl.uncons
    unfold bytesOf at hm
    split at hm
    · contradiction
    · rename_i k r heq
      cases heq
      cases hv
      simp only [Option.bind_eq_some_iff, Option.some.injEq] at hm
      obtain ⟨m', hm', rfl⟩ := hm
      simp only [List.forIn_cons, Sem.run_bind, hf, Sem.run_pure, Result.andThen_ok]
      rw [bytesOf_rel hf _ hm' hl']
      congr 2
      apply Array.ext'
      simp [ByteArray.push]
    · cases hm

theorem snd_b2s {x : Opd} {u : Value} {s d el : TypeId} {c : Bool} (hs : step (.b2s x) e h n = some (c, E)) (hc : c = true) (h1 : P.underlying s = some (.slice el)) (h2 : P.underlying d = some .string) (h3 : P.underlying el = some (.int .u8))
    (hx : OK1 D φ e h x u) (hH : HR D φ (only (hget h) E.rd) w) :
    Sim P D φ (only (hget h) E.rd) w n E ((do pure (Next.value (← convert s d u)) : Sem Next).run P w) := by
  simp only [step, Option.bind_eq_some_iff] at hs
  obtain ⟨v, hv, hs⟩ := hs
  have hr := hx v hv
  split at hs
  · cases hr
    refine snd_pure hs hH ?_ (.s [])
    rw [run_v]
    simp only [convert, Sem.run_bind, run_underlying h1, run_underlying h2, run_underlying h3, Result.andThen_ok, Conv.bytesToString, Sem.run_pure]
    rfl
  · simp only [Option.bind_eq_some_iff, Option.some.injEq, Prod.mk.injEq] at hs
    obtain ⟨q, hq, k, hk, l, hl, hcc, rfl⟩ := hs
    rw [hc] at hcc
    have hcc := of_decide_eq_true hcc
    obtain ⟨cap, rfl, hDq⟩ := slParts_rel hq hr
    have hkk : only (hget h) [q.1] q.1 = some k := by rw [only_get (by simp [inl])]; exact hk
    have hbl : ∀ {a : List AV} {b : List UInt8}, bytesOf a = some b → a.length = b.length := fun {a} {b} => by
      induction a generalizing b with
      | nil => intro hh; simp [bytesOf] at hh; subst hh; rfl
      | cons v a ih =>
        intro hh
        unfold bytesOf at hh
        split at hh
        · contradiction
        · rename_i k r heq
          cases heq
          simp only [Option.bind_eq_some_iff, Option.some.injEq] at hh
          obtain ⟨m', hm', rfl⟩ := hh
          simp [ih hm']
        · cases hh
    obtain ⟨us, g1, g2⟩ := HR.row (P := P) hH hkk (o := q.2.1) (z := q.2.2) (by rw [hbl hl]; exact hcc)
    refine snd_pure' rfl hH ?_ (.s l)
    rw [run_v]
    simp only [convert, Sem.run_bind, run_underlying h1, run_underlying h2, run_underlying h3, Result.andThen_ok, Conv.bytesToString, g1]
    rw [← Array.forIn_toList]
    simp only [List.toList_toArray]
    rw [bytesOf_rel (fun _ _ => rfl) ByteArray.empty hl g2]
    simp [ByteArray.empty, ByteArray.emptyWithCapacity]
    rfl

end
end Go.Ab
