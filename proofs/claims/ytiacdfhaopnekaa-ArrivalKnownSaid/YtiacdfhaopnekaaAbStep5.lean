/- The abstract layer, part 11: append, make, builds. -/
import Derived.Test.YtiacdfhaopnekaaAbStep4
namespace Go.Ab
set_option linter.unusedVariables false
set_option linter.unusedSimpArgs false

section
variable {P : Program} {D : Nat → Prop} {φ : Phi} {w : World} {n : Nat} {e : Env} {h : Hp} {E : Eff} {ρ : Operand → Value}

theorem cPartsA_rel {z : Nat} : ∀ {ps : List (Nat × Operand)} {xs : List (Nat × Nat × Opd)} {vs : List (Nat × Nat × AV)}, cPartsA z ps = some xs → evps e h xs = some vs →
    (∀ q ∈ ps, ∀ x, cO q.2 = some x → OK1 D φ e h x (ρ q.2)) → vs.length = (ps.map (fun q => (q.1, ρ q.2))).length ∧
      ∀ (j : Nat) a q, vs[j]? = some a → (ps.map (fun q => (q.1, ρ q.2)))[j]? = some q → (some (q.1 * z, z) : Option (Nat × Nat)) = some (a.1, a.2.1) ∧ VRel D φ a.2.2 q.2
  | [], xs, vs, h1, h2, _ => by
    simp [cPartsA] at h1; subst h1; simp [evps] at h2; subst h2
    exact ⟨rfl, fun j a q ha => by simp at ha⟩
  | (i, y) :: ps, xs, vs, h1, h2, hk => by
    simp only [cPartsA, Option.bind_eq_some_iff] at h1
    obtain ⟨x, hx, xs', hxs, h1⟩ := h1
    cases h1
    simp only [evps, Option.bind_eq_some_iff] at h2
    obtain ⟨v, hv, vs', hvs, h2⟩ := h2
    cases h2
    obtain ⟨i1, i2⟩ := cPartsA_rel hxs hvs (fun q hq => hk q (List.mem_cons_of_mem _ hq))
    refine ⟨by simp [i1], fun j a q ha hq => ?_⟩
    cases j with
    | zero => simp at ha hq; subst ha; subst hq; exact ⟨rfl, hk (i, y) (List.mem_cons_self) x hx v hv⟩
    | succ j => exact i2 j a q (by simpa using ha) (by simpa using hq)

theorem run_mapM_fields : ∀ (fs : List Field), (∀ f ∈ fs, (P.info? f.type).isSome = true) →
    (fs.mapM (fun f => do pure (f.offset, ← sizeOf f.type) : Field → Sem (Nat × Nat))).run P w = .ok (fs.map fun f => (f.offset, (tySz P f.type).getD 0)) w
  | [], _ => by simp
  | f :: fs, hf => by
    obtain ⟨i, hi⟩ := Option.isSome_iff_exists.1 (hf f (List.mem_cons_self))
    have hz : tySz P f.type = some i.size := by simp [tySz, hi]
    have ih := run_mapM_fields fs (fun g hg => hf g (List.mem_cons_of_mem _ hg))
    simp only [List.mapM_cons, Sem.run_bind, run_sizeOf hz, Sem.run_pure, Result.andThen_ok, ih, List.map_cons, hz, Option.getD_some]

theorem cPartsS_rel {t : TypeId} {fs : Array Field} (ht : P.underlying t = some (.struct fs)) : ∀ {ps : List (Nat × Operand)} {xs : List (Nat × Nat × Opd)} {vs : List (Nat × Nat × AV)}, cPartsS P t ps = some xs → evps e h xs = some vs →
    (∀ q ∈ ps, ∀ x, cO q.2 = some x → OK1 D φ e h x (ρ q.2)) → vs.length = (ps.map (fun q => (q.1, ρ q.2))).length ∧
      ∀ (j : Nat) a q, vs[j]? = some a → (ps.map (fun q => (q.1, ρ q.2)))[j]? = some q → (fs.map fun f => (f.offset, (tySz P f.type).getD 0))[q.1]? = some (a.1, a.2.1) ∧ VRel D φ a.2.2 q.2
  | [], xs, vs, h1, h2, _ => by
    simp [cPartsS] at h1; subst h1; simp [evps] at h2; subst h2
    exact ⟨rfl, fun j a q ha => by simp at ha⟩
  | (i, y) :: ps, xs, vs, h1, h2, hk => by
    simp only [cPartsS, Option.bind_eq_some_iff] at h1
    obtain ⟨qq, hqq, x, hx, xs', hxs, h1⟩ := h1
    cases h1
    simp only [evps, Option.bind_eq_some_iff] at h2
    obtain ⟨v, hv, vs', hvs, h2⟩ := h2
    cases h2
    obtain ⟨i1, i2⟩ := cPartsS_rel ht hxs hvs (fun q hq => hk q (List.mem_cons_of_mem _ hq))
    refine ⟨by simp [i1], fun j a q ha hq => ?_⟩
    cases j with
    | zero =>
      simp at ha hq; subst ha; subst hq
      obtain ⟨fs', fl, g1, g2, g3, g4, g5⟩ := tyField_inv hqq
      rw [ht] at g1; cases g1
      refine ⟨?_, hk (i, y) (List.mem_cons_self) x hx v hv⟩
      rw [Array.getElem?_map, g2]
      simp [g3, g4]
    | succ j => exact i2 j a q (by simpa using ha) (by simpa using hq)

theorem snd_buildS {z : List AV} {ps : List (Nat × Nat × Opd)} {parts : Array (Nat × Operand)} {t : TypeId} {fs : Array Field} {c : Bool} (hs : step (.build z ps) e h n = some (c, E)) (ht : P.underlying t = some (.struct fs)) (hz : tyZero P t = some z)
    (hall : fs.all (fun f => (P.info? f.type).isSome) = true) (hc : cPartsS P t parts.toList = some ps) (hk : ∀ q ∈ parts.toList, ∀ x, cO q.2 = some x → OK1 D φ e h x (ρ q.2)) (hH : HR D φ (only (hget h) E.rd) w) :
    Sim P D φ (only (hget h) E.rd) w n E ((do pure (Next.value (← Instr.build t (parts.map fun (i, x) => (i, ρ x)))) : Sem Next).run P w) := by
  simp only [step, Option.bind_eq_some_iff] at hs
  obtain ⟨l, hl, cs, hcs, hs⟩ := hs
  obtain ⟨uz, huz, hzz⟩ := run_zero hz w
  obtain ⟨e1, e2⟩ := cPartsS_rel (ρ := ρ) ht hc hl hk
  obtain ⟨cs', hf, hr⟩ := fill_rel (place := fun i => (fs.map fun f => (f.offset, (tySz P f.type).getD 0))[i]?) (cs := uz.cells) (avsOf_rel (D := D) (φ := φ) hzz) e1 e2 hcs
  have hv := VRel.agg' hr
  refine snd_pure (u := .agg cs') hs hH ?_ (by simpa using hv)
  rw [run_v]
  have hm : (fs.mapM (fun f => do pure (f.offset, ← sizeOf f.type) : Field → Sem (Nat × Nat))).run P w = .ok (fs.map fun f => (f.offset, (tySz P f.type).getD 0)) w := by
    rw [Array.mapM_eq_mapM_toList]
    simp only [Sem.run_map]
    rw [run_mapM_fields fs.toList (fun f hf => by rw [Array.all_eq_true_iff_forall_mem] at hall; exact hall f (by simpa using hf))]
    simp only [Result.andThen_ok]
    congr 1
    apply Array.ext'; simp
  simp only [Instr.build, Sem.run_bind, huz, Result.andThen_ok, run_underlying ht]
  rw [hm]
  have hq : (parts.map (fun x => match x with | (i, x) => (i, ρ x))).toList = (parts.toList.map (fun q => (q.1, ρ q.2))) := by simp
  simp only [Result.andThen_ok, hq]
  rw [hf]
  rfl

theorem snd_buildA {z : List AV} {s : Nat} {ps : List (Nat × Nat × Opd)} {parts : Array (Nat × Operand)} {t el : TypeId} {m : Nat} {c : Bool} (hs : step (.build z ps) e h n = some (c, E)) (ht : P.underlying t = some (.array m el)) (hz : tyZero P t = some z)
    (hsz : tySz P el = some s) (hc : cPartsA s parts.toList = some ps) (hk : ∀ q ∈ parts.toList, ∀ x, cO q.2 = some x → OK1 D φ e h x (ρ q.2)) (hH : HR D φ (only (hget h) E.rd) w) :
    Sim P D φ (only (hget h) E.rd) w n E ((do pure (Next.value (← Instr.build t (parts.map fun (i, x) => (i, ρ x)))) : Sem Next).run P w) := by
  simp only [step, Option.bind_eq_some_iff] at hs
  obtain ⟨l, hl, cs, hcs, hs⟩ := hs
  obtain ⟨uz, huz, hzz⟩ := run_zero hz w
  obtain ⟨e1, e2⟩ := cPartsA_rel (ρ := ρ) hc hl hk
  obtain ⟨cs', hf, hr⟩ := fill_rel (place := fun i => some (i * s, s)) (cs := uz.cells) (avsOf_rel (D := D) (φ := φ) hzz) e1 e2 hcs
  have hv := VRel.agg' hr
  refine snd_pure (u := .agg cs') hs hH ?_ (by simpa using hv)
  rw [run_v]
  simp only [Instr.build, Sem.run_bind, huz, Result.andThen_ok, run_underlying ht, run_sizeOf hsz]
  have hq : (parts.map (fun x => match x with | (i, x) => (i, ρ x))).toList = (parts.toList.map (fun q => (q.1, ρ q.2))) := by simp
  simp only [hq]
  rw [hf]
  rfl

theorem zero_row {z : List AV} {el : TypeId} {s : Nat} (hz : tyZero P el = some z) (hs : z.length = s) (m : Nat) :
    ∃ zero uz : Array Value, (m * s = 0 → zero = #[]) ∧ (m * s ≠ 0 → ∃ u : Value, (zeroValue el).run P w = .ok u w ∧ u.cells = zero) ∧ All2 D φ (zeros z m) ((Array.range (m * s)).map (fun i => zero[i % zero.size]!)).toList := by
  obtain ⟨uz, huz, hzz⟩ := run_zero hz w
  have hzr := avsOf_rel (D := D) (φ := φ) hzz
  have hus : uz.cells.size = s := by have := hzr.1; simp at this; omega
  by_cases h0 : m * s = 0
  · refine ⟨#[], #[], fun _ => rfl, fun h => absurd h0 h, ?_⟩
    have hzl : ∀ m, (zeros z m).length = m * z.length := fun m => by
      induction m with
      | zero => simp [zeros]
      | succ m ih => simp [zeros, ih, Nat.succ_mul]; omega
    have : zeros z m = [] := List.eq_nil_of_length_eq_zero (by rw [hzl, hs]; exact h0)
    rw [this, h0]
    simpa using All2.nil
  · refine ⟨uz.cells, #[], fun h => absurd h h0, fun _ => ⟨uz, huz, rfl⟩, ?_⟩
    have := zeros_rel hzr m
    rwa [hus] at this ⊢

theorem snd_bsl {z : List AV} {s len : Nat} {ps : List (Nat × Nat × Opd)} {parts : Array (Nat × Operand)} {t el : TypeId} {c : Bool} (hs : step (.bsl (zeros z len) len ps) e h n = some (c, E)) (ht : P.underlying t = some (.slice el)) (hz : tyZero P el = some z)
    (hsz : tySz P el = some s) (hzl : z.length = s) (hlim : len * s ≤ 2 ^ 24) (hc : cPartsA s parts.toList = some ps) (hk : ∀ q ∈ parts.toList, ∀ x, cO q.2 = some x → OK1 D φ e h x (ρ q.2)) (hn : n < E.n → ¬ D n) (hH : HR D φ (only (hget h) E.rd) w) :
    Sim P D φ (only (hget h) E.rd) w n E ((do pure (Next.value (← Instr.buildSlice t len (parts.map fun (i, x) => (i, ρ x)))) : Sem Next).run P w) := by
  simp only [step, Option.bind_eq_some_iff, Option.some.injEq, Prod.mk.injEq] at hs
  obtain ⟨l, hl, cs, hcs, _, rfl⟩ := hs
  obtain ⟨zero, _, hz1, hz1', hz2⟩ := zero_row (P := P) (D := D) (φ := φ) (w := w) hz hzl len
  obtain ⟨e1, e2⟩ := cPartsA_rel (ρ := ρ) hc hl hk
  obtain ⟨cs', hf, hr⟩ := fill_rel (place := fun i => some (i * s, s)) (cs := (Array.range (len * s)).map (fun i => zero[i % zero.size]!)) hz2 e1 e2 hcs
  refine Sim.alloc (g := none) (cap := 0) (esz := 0) (cs := cs') (elem := el) (fr := (0, 0)) (w' := { w with heap := w.heap.push (.cells cs' el) }) (u := .slice (some ⟨w.heap.size, 0, none⟩) len len) ?_ hH (hn (Nat.lt_succ_self _)) rfl rfl rfl rfl hr.push (fun i _ => by simp) (fun e he => by cases he) sl_new
  rw [run_v]
  simp only [Instr.buildSlice, Sem.run_bind, run_underlying ht, Result.andThen_ok, run_sizeOf hsz]
  have hq : (parts.map (fun x => match x with | (i, x) => (i, ρ x))).toList = (parts.toList.map (fun q => (q.1, ρ q.2))) := by simp
  have hlim' : ¬ (len * s > 2 ^ 24) := by omega
  simp only [hlim', if_false, hq]
  by_cases h0 : len * s = 0
  · have := hz1 h0; subst this
    simp only [h0, if_true, Sem.run_bind, Sem.run_pure, Result.andThen_ok]
    rw [h0] at hf
    rw [hf]
    simp only [Sem.run_bind, run_newRow, Result.andThen_ok, Sem.run_pure]
  · obtain ⟨u, hu, hu'⟩ := hz1' h0
    simp only [h0, if_false, Sem.run_bind, Sem.run_pure, Result.andThen_ok, hu, hu']
    rw [hf]
    simp only [Sem.run_bind, run_newRow, Result.andThen_ok, Sem.run_pure]

theorem wrap64_id {i : Int} (h1 : 0 ≤ i) (h2 : i ≤ 9223372036854775807) : IntKind.i64.wrap i = i := by
  exact IntWalk.i64_in i ⟨by omega, by omega⟩

theorem snd_mks {z bytes : Nat} {zs : List AV} {l cc : Opd} {ul uc : Value} {t el : TypeId} {i : TypeInfo} {c : Bool} (hs : step (.mks i.size i.bytes zs l cc) e h n = some (c, E)) (hc : c = true) (ht : P.underlying t = some (.slice el)) (hi : P.info? el = some i) (hz : tyZero P el = some zs)
    (hzl : zs.length = i.size) (hl : OK1 D φ e h l ul) (hcc : OK1 D φ e h cc uc) (hn : n < E.n → ¬ D n) (hH : HR D φ (only (hget h) E.rd) w) :
    Sim P D φ (only (hget h) E.rd) w n E ((do pure (Next.value (← Instr.makeSlice t ul uc)) : Sem Next).run P w) := by
  simp only [step, Option.bind_eq_some_iff, Option.some.injEq, Prod.mk.injEq] at hs
  obtain ⟨vl, hvl, a, ha, vc, hvc, b, hb, h1, rfl⟩ := hs
  have := asI_rel ha (hl vl hvl); subst this
  have := asI_rel hb (hcc vc hvc); subst this
  rw [hc] at h1
  obtain ⟨h2, h3, h4, h5⟩ := of_decide_eq_true h1
  obtain ⟨zero, _, hz1, hz1', hz2⟩ := zero_row (P := P) (D := D) (φ := φ) (w := w) hz hzl b.toNat
  refine Sim.alloc (g := none) (cap := 0) (esz := 0) (cs := (Array.range (b.toNat * i.size)).map (fun i => zero[i % zero.size]!)) (elem := el) (fr := (0, 0)) (w' := { w with heap := w.heap.push (.cells ((Array.range (b.toNat * i.size)).map (fun i => zero[i % zero.size]!)) el) }) (u := .slice (some ⟨w.heap.size, 0, none⟩) a.toNat b.toNat) ?_ hH (hn (Nat.lt_succ_self _)) rfl rfl rfl rfl hz2.push (fun i _ => by simp) (fun e he => by cases he) sl_new
  have hsz : tySz P el = some i.size := by simp [tySz, hi]
  rw [run_v]
  simp only [Instr.makeSlice, Sem.run_bind, run_underlying ht, Result.andThen_ok, asInt, asIntOf, Sem.run_pure, run_typeInfo hi, wrap64_id h2 (by omega), wrap64_id (show 0 ≤ b by omega) h5]
  rw [if_neg (by simp; omega)]
  simp only [Sem.run_bind, run_askRoom, Result.andThen_ok, run_sizeOf hsz, Sem.run_pure]
  by_cases h0 : b.toNat * i.size = 0
  · have := hz1 h0; subst this
    simp only [h0, if_true, Sem.run_bind, Sem.run_pure, Result.andThen_ok, run_newRow]
  · obtain ⟨u, hu, hu'⟩ := hz1' h0
    simp only [h0, if_false, Sem.run_bind, Sem.run_pure, Result.andThen_ok, run_newRow, hu, hu']

theorem growBy_le (newLen : Nat) : ∀ (r c : Nat), 256 ≤ c → c < 2 * newLen → Builtin.growBy newLen r c ≤ 2 * newLen
  | 0, c, _, h => by simp [Builtin.growBy]; omega
  | r + 1, c, h0, h => by
    simp only [Builtin.growBy]
    split
    · omega
    · exact growBy_le newLen r _ (by omega) (by omega)

theorem nextslicecap_le {newLen cap : Nat} (h : cap < newLen) : Builtin.nextslicecap newLen cap ≤ 2 * newLen := by
  unfold Builtin.nextslicecap
  split
  · omega
  · split
    · omega
    · exact growBy_le newLen 4 cap (by omega) (by omega)

theorem run_loadCellsFrom_drawn {a : Addr} : ∀ {n i : Nat} {acc us : Array Value} {w : World}, (loadCellsFrom a i n acc).run P w = .ok us w → ∀ d, (loadCellsFrom a i n acc).run P { w with drawn := d } = .ok us { w with drawn := d }
  | 0, i, acc, us, w, h, d => by simp only [loadCellsFrom, Sem.run_pure] at h ⊢; cases h; rfl
  | n + 1, i, acc, us, w, h, d => by
    simp only [loadCellsFrom, Sem.run_bind, run_load] at h ⊢
    have hc : ({ w with drawn := d } : World).cell? (a.add i) = w.cell? (a.add i) := rfl
    rw [hc]
    cases hcell : w.cell? (a.add i) with
    | some v =>
      rw [hcell] at h
      simp only [Result.andThen_ok] at h ⊢
      exact run_loadCellsFrom_drawn h d
    | none =>
      rw [hcell] at h
      have hf : World.farLoad P ({ w with drawn := d } : World) (a.add i) (Mode.plain == Mode.atomic) = World.farLoad P w (a.add i) (Mode.plain == Mode.atomic) := rfl
      simp only [hf] at h ⊢
      cases hfl : World.farLoad P w (a.add i) (Mode.plain == Mode.atomic) with
      | ok x =>
        rw [hfl] at h
        simp only [Result.andThen_ok] at h ⊢
        exact run_loadCellsFrom_drawn h d
      | error e =>
        rw [hfl] at h
        simp [Result.andThen] at h

theorem run_loadCells_drawn {a : Addr} {n : Nat} {us : Array Value} (h : (loadCells a n).run P w = .ok us w) (d : Nat) : (loadCells a n).run P { w with drawn := d } = .ok us { w with drawn := d } :=
  run_loadCellsFrom_drawn h d

/-- What an append does where it must grow. -/
theorem run_append_grow {t tt el xt : TypeId} {d : TypeDesc} {i : TypeInfo} {zs : List AV} {base : Option Addr} {len cap m : Nat} {ux : Value} {old new : Array Value} (ht : P.underlying t = some (.slice el)) (hxt : P.underlying xt = some d) (hd : ∀ k, d ≠ .int k)
    (hi : P.info? el = some i) (hzs : tyZero P el = some zs) (hzl : zs.length = i.size) (hl : (Builtin.lenOf ux).run P w = .ok m w) (hcap : cap < len + m) (hbytes : i.bytes * (len + m) ≤ 140737488355328) (hb0 : i.bytes ≠ 0)
    (hold : (Builtin.firstCells i.size len (.slice base len cap)).run P w = .ok old w) (hnew : (Builtin.firstCells i.size m ux).run P w = .ok new w)
    (hos : old.size = len * i.size) (hns : new.size = m * i.size) :
    ∃ (cap' : Nat) (cs : Array Value), len + m ≤ cap' ∧ cs.size = cap' * i.size ∧ (∀ j, j < (old ++ new).size → cs[j]? = (old ++ new)[j]?) ∧
      (Builtin.append_ #[t, xt] tt #[.slice base len cap, ux]).run P w = .ok (.slice (some ⟨w.heap.size, 0, none⟩) (len + m) cap') { w with drawn := w.drawn + 1, heap := w.heap.push (.cells cs el) } := by
  obtain ⟨uz, huz, hzz⟩ := run_zero hzs w
  have hzr := avsOf_rel (D := fun _ => True) (φ := ⟨id, id, id, id⟩) hzz
  have hus : uz.cells.size = i.size := by have := hzr.1; simp at this; omega
  have hsz : tySz P el = some i.size := by simp [tySz, hi]
  let q : Question := .appendCap (len + m) cap el
  let cap' := q.cut (w.tape w.drawn q)
  have hcap' : len + m ≤ cap' := by show len + m ≤ len + m + _; omega
  refine ⟨cap', old ++ new ++ Builtin.zeroCells uz.cells (cap' - (len + m)), hcap', ?_, fun j hj => ?_, ?_⟩
  · simp only [Array.size_append, hos, hns, Builtin.zeroCells, Array.size_map, Array.size_range, hus]
    rw [← Nat.add_mul, ← Nat.add_mul]
    congr 1; omega
  · rw [Array.getElem?_append_left hj]
  · have e0 : (#[t, xt] : Array TypeId)[0]? = some t := rfl
    have e1 : (#[t, xt] : Array TypeId)[1]? = some xt := rfl
    have e2 : (#[Value.slice base len cap, ux] : Array Value)[0]? = some (.slice base len cap) := rfl
    have e3 : (#[Value.slice base len cap, ux] : Array Value)[1]? = some ux := rfl
    have hz0 : (match d with | .int k => true | _ => false) = false := by
      cases d <;> first | rfl | exact absurd rfl (hd _)
    have hnx := nextslicecap_le hcap
    have hb2 : ¬ (Builtin.nextslicecap (len + m) cap * i.bytes > 2 ^ 48) := by
      have : Builtin.nextslicecap (len + m) cap * i.bytes ≤ 2 * (len + m) * i.bytes := Nat.mul_le_mul_right _ hnx
      have e : 2 * (len + m) * i.bytes = 2 * (i.bytes * (len + m)) := by rw [Nat.mul_assoc, Nat.mul_comm (len + m)]
      rw [e] at this
      omega
    unfold Builtin.append_
    rw [e0, e2, e3]
    simp only [Sem.run_bind, run_underlying ht, Result.andThen_ok, run_sizeOf hsz, e1, run_underlying hxt, Sem.run_pure, hz0, Bool.false_eq_true, if_false, hl]
    have hcap2 : ¬ (len + m ≤ cap) := by omega
    simp only [hcap2, if_false, Sem.run_bind, run_typeInfo hi, Result.andThen_ok, hb0, or_false, and_false, hb2, run_choose]
    rw [if_neg (by simp [Question.forced])]
    have hold' : ∀ d, (Builtin.firstCells i.size len (.slice base len cap)).run P { w with drawn := d } = .ok old { w with drawn := d } := fun d => by
      cases base with
      | none => simp only [Builtin.firstCells, Sem.run_pure] at hold ⊢; cases hold; rfl
      | some a => exact run_loadCells_drawn hold d
    have hnew' : ∀ d, (Builtin.firstCells i.size m ux).run P { w with drawn := d } = .ok new { w with drawn := d } := fun d => by
      cases ux <;> simp only [Builtin.firstCells, run_stuck] at hnew ⊢ <;> first | (cases hnew; done) | skip
      · simp only [Sem.run_pure] at hnew ⊢; cases hnew; rfl
      · rename_i a l c
        cases a with
        | none => simp only [Sem.run_pure] at hnew ⊢; cases hnew; rfl
        | some a => exact run_loadCells_drawn hnew d
    have huz' : ∀ d, (zeroValue el).run P { w with drawn := d } = .ok uz { w with drawn := d } := fun d => by
      simp only [tyZero, Option.bind_eq_some_iff] at hzs
      obtain ⟨i', hi', u', hu', _⟩ := hzs
      simp only [zeroValue, Sem.run_bind, run_typeInfo hi', Result.andThen_ok, hu', Sem.run_pure] at huz ⊢
      cases huz; rfl
    simp only [Result.andThen_ok, run_typeInfo hi, run_askRoom, hold', Bool.not_false, if_true, hnew', huz', run_newRow, Sem.run_pure]
    rfl

end
end Go.Ab
