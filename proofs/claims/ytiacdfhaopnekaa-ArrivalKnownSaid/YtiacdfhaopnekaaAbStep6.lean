/- The abstract layer, part 12: append; every operation but calls. -/
import Derived.Test.YtiacdfhaopnekaaAbStep5
namespace Go.Ab
set_option linter.unusedVariables false
set_option linter.unusedSimpArgs false

section
variable {P : Program} {D : Nat → Prop} {φ : Phi} {w : World} {n : Nat} {e : Env} {h : Hp} {E : Eff} {ρ : Operand → Value}

theorem run_append_in {t tt el xt : TypeId} {d : TypeDesc} {z : Nat} {base : Option Addr} {len cap m : Nat} {ux : Value} {new : Array Value} (ht : P.underlying t = some (.slice el)) (hxt : P.underlying xt = some d) (hd : ∀ k, d ≠ .int k)
    (hsz : tySz P el = some z) (hl : (Builtin.lenOf ux).run P w = .ok m w) (hcap : len + m ≤ cap) (hnew : (Builtin.firstCells z m ux).run P w = .ok new w) :
    (Builtin.append_ #[t, xt] tt #[.slice base len cap, ux]).run P w = ((match base with | some a => storeCells (a.add (len * z)) new.toList | none => pure () : Sem Unit).run P w).andThen fun _ w' => .ok (.slice base (len + m) cap) w' := by
  have e0 : (#[t, xt] : Array TypeId)[0]? = some t := rfl
  have e1 : (#[t, xt] : Array TypeId)[1]? = some xt := rfl
  have e2 : (#[Value.slice base len cap, ux] : Array Value)[0]? = some (.slice base len cap) := rfl
  have e3 : (#[Value.slice base len cap, ux] : Array Value)[1]? = some ux := rfl
  have hz0 : (match d with | .int k => true | _ => false) = false := by
    cases d <;> first | rfl | exact absurd rfl (hd _)
  unfold Builtin.append_
  rw [e0, e2, e3]
  simp only [Sem.run_bind, run_underlying ht, Result.andThen_ok, run_sizeOf hsz, e1, run_underlying hxt, Sem.run_pure, hz0, Bool.false_eq_true, if_false, hl, hcap, if_true, Bool.not_false, hnew]
  cases base <;> simp only [Sem.run_bind, Sem.run_pure, Result.andThen_ok]

theorem setIf_self {w : World} {c : Nat} {o : Obj} (h : w.heap[c]? = some o) : w.heap.setIfInBounds c o = w.heap := by
  have hlt : c < w.heap.size := by
    rcases Nat.lt_or_ge c w.heap.size with h' | h'
    · exact h'
    · rw [Array.getElem?_eq_none h'] at h; cases h
  apply Array.ext_getElem?
  intro d
  rw [getElem?_setIfInBounds' hlt]
  split
  · rename_i e; subst e; exact h.symm
  · rfl

theorem growMax_eq : growMax = 140737488355328 := rfl

set_option maxHeartbeats 1000000 in
theorem snd_app {zs : List AV} {s x : Opd} {us ux : Value} {t xt tt el : TypeId} {d : TypeDesc} {i : TypeInfo} {c : Bool} (hs : step (.app i.size i.bytes zs s x) e h n = some (c, E)) (hc : c = true) (ht : P.underlying t = some (.slice el)) (hxt : P.underlying xt = some d) (hd : ∀ k, d ≠ .int k)
    (hi : P.info? el = some i) (hzs : tyZero P el = some zs) (hzl : zs.length = i.size) (hb0 : i.bytes ≠ 0) (hss : OK1 D φ e h s us) (hxx : OK1 D φ e h x ux) (hn : n < E.n → ¬ D n) (hH : HR D φ (only (hget h) E.rd) w) :
    Sim P D φ (only (hget h) E.rd) w n E ((do pure (Next.value (← Builtin.append_ #[t, xt] tt #[us, ux])) : Sem Next).run P w) := by
  simp only [step, Option.bind_eq_some_iff] at hs
  obtain ⟨vs, hvs, vx, hvx, r, hr, hs⟩ := hs
  have hrs := hss vs hvs
  have hrx := hxx vx hvx
  have hsz : tySz P el = some i.size := by simp [tySz, hi]
  split at hs
  · -- nothing is appended
    rename_i hm
    have key : ∀ rd, (∀ b, inl r.1 b = true → inl rd b = true) → HR D φ (only (hget h) rd) w → r.2.2.2 = true → ∀ base len cap, len ≤ cap → (Builtin.append_ #[t, xt] tt #[.slice base len cap, ux]).run P w = .ok (.slice base len cap) w := by
      intro rd hrd hH' hok base len cap hle
      obtain ⟨hl, us', hf, hu, hul, hft⟩ := src_rel (P := P) hr hok (rd := rd) hrd hrx hH'
      rw [run_append_in (z := i.size) ht hxt hd hsz hl (by omega) hf]
      have hnil : us' = [] := List.eq_nil_of_length_eq_zero (by rw [← hu.1, hul, hm]; simp)
      subst hnil
      cases base <;> simp [storeCells, hm]
    split at hs
    · cases hrs
      simp only [Option.some.injEq, Prod.mk.injEq] at hs
      obtain ⟨h1, rfl⟩ := hs
      refine snd_pure' rfl hH ?_ .ns
      rw [run_v, key r.1 (fun b hb => hb) hH (h1.trans hc) none 0 0 (Nat.le_refl _)]
      rfl
    · cases hrs with
      | sl b o len cap hD =>
      simp only [Option.some.injEq, Prod.mk.injEq] at hs
      obtain ⟨h1, rfl⟩ := hs
      rw [hc, Bool.and_eq_true] at h1
      refine snd_pure' rfl hH ?_ (.sl _ _ _ _ hD)
      rw [run_v, key r.1 (fun b hb => hb) hH h1.1 _ _ _ (of_decide_eq_true h1.2)]
      rfl
    · cases hrs with
      | sg b o len j cap hD hj hcap hlen =>
      simp only [Option.some.injEq, Prod.mk.injEq] at hs
      obtain ⟨h1, rfl⟩ := hs
      refine snd_pure' rfl hH ?_ (.sg _ _ _ j cap hD hj hcap hlen)
      rw [run_v, key r.1 (fun b hb => hb) hH (h1.trans hc) _ _ _ hlen]
      rfl
    · cases hs
  · rename_i hm
    split at hs
    · -- onto nil
      cases hrs
      simp only [Option.some.injEq, Prod.mk.injEq] at hs
      obtain ⟨h1, rfl⟩ := hs
      rw [hc, Bool.and_eq_true, decide_eq_true_eq] at h1
      obtain ⟨hok, hby⟩ := h1
      rw [growMax_eq] at hby
      obtain ⟨hl, us', hf, hu, hul, hft⟩ := src_rel (P := P) hr hok (rd := r.1) (fun b hb => hb) hrx hH
      obtain ⟨cap', cs, h2, h3, h4, h5⟩ := run_append_grow (P := P) (tt := tt) (base := none) (len := 0) (cap := 0) (old := #[]) ht hxt hd hi hzs hzl hl (by omega) (by simpa using hby) hb0 (by simp [Builtin.firstCells]) hf (by simp) (by simp [← hu.1, hul])
      refine Sim.alloc (g := some i.size) (cap := cap') (esz := i.size) (cs := cs) (elem := el) (fr := (0, 0)) (w' := { w with drawn := w.drawn + 1, heap := w.heap.push (.cells cs el) }) (u := .slice (some ⟨w.heap.size, 0, none⟩) r.2.1 cap') ?_ hH (hn (Nat.lt_succ_self _)) rfl rfl rfl rfl (fun j v hv => ?_) (fun i _ => by simp) (fun e he => by cases he; exact ⟨rfl, h3⟩) (sg_new (by omega))
      · rw [run_v, h5]; simp
      · obtain ⟨u, hu1, hu2⟩ := hu.get hv
        have hj : j < us'.length := by
          rcases Nat.lt_or_ge j us'.length with h' | h'
          · exact h'
          · rw [List.getElem?_eq_none h'] at hu1; cases hu1
        exact ⟨u, by rw [h4 j (by simp; exact hj)]; simpa using hu1, hu2⟩
    · -- onto a slice whose capacity is known
      rename_i b o len cap
      cases hrs with
      | sl _ _ _ _ hD =>
      simp only [Option.bind_eq_some_iff] at hs
      obtain ⟨k, hk, hs⟩ := hs
      have hib : inl (b :: r.1) b = true := by simp [inl]
      split at hs
      · rename_i hle
        split at hs
        · cases hs
        · rename_i hro
          simp only [Option.some.injEq, Prod.mk.injEq] at hs
          obtain ⟨h1, rfl⟩ := hs
          rw [hc] at h1
          simp only [Bool.and_eq_true, decide_eq_true_eq] at h1
          obtain ⟨⟨hok, hfit⟩, hone⟩ := h1
          have hkk : only (hget h) (b :: r.1) b = some k := by rw [only_get hib]; exact hk
          obtain ⟨hl, us', hf, hu, hul, hft⟩ := src_rel (P := P) hr hok (rd := b :: r.1) (fun b hb => by simp [inl, hb]) hrx hH
          obtain ⟨w', cs, cs', elem, fr, g1, g2, g3, g4, g5, g6, g7, g8⟩ := HR.stores (P := P) hH hkk hro hu hone (o := o + len * i.size) hfit
          refine Sim.write (nx := .value (.slice (some ⟨φ.blk b, φ.off b + o, none⟩) (len + r.2.1) cap)) ?_ (.inl rfl) (.sl _ _ _ _ hD) hib hH hkk hro g2 g3 g4 g5 g6 g7 g8
          rw [run_v, run_append_in (z := i.size) ht hxt hd hsz hl hle hf]
          simp only [Addr.add_eq, List.toList_toArray, Nat.add_assoc] at g1 ⊢
          rw [g1]
          rfl
      · rename_i hle
        simp only [Option.some.injEq, Prod.mk.injEq] at hs
        obtain ⟨h1, rfl⟩ := hs
        rw [hc] at h1
        simp only [Bool.and_eq_true, decide_eq_true_eq] at h1
        obtain ⟨⟨⟨hok, hby⟩, hold⟩, hlc⟩ := h1
        rw [growMax_eq] at hby
        have hkk : only (hget h) (b :: r.1) b = some k := by rw [only_get hib]; exact hk
        obtain ⟨hl, us', hf, hu, hul, hft⟩ := src_rel (P := P) hr hok (rd := b :: r.1) (fun b hb => by simp [inl, hb]) hrx hH
        obtain ⟨os, ho1, ho2⟩ := HR.row (P := P) hH hkk hold
        obtain ⟨cap', cs, h2, h3, h4, h5⟩ := run_append_grow (P := P) (tt := tt) (base := some ⟨φ.blk b, φ.off b + o, none⟩) (len := len) (cap := cap) (old := os.toArray) ht hxt hd hi hzs hzl hl (by omega) hby hb0 (by simpa [Builtin.firstCells] using ho1) hf (by simp [← ho2.1, hold]) (by simp [← hu.1, hul])
        refine Sim.alloc (g := some i.size) (cap := cap') (esz := i.size) (cs := cs) (elem := el) (fr := (0, 0)) (w' := { w with drawn := w.drawn + 1, heap := w.heap.push (.cells cs el) }) (u := .slice (some ⟨w.heap.size, 0, none⟩) (len + r.2.1) cap') ?_ hH (hn (Nat.lt_succ_self _)) rfl rfl rfl rfl (fun j v hv => ?_) (fun i _ => by simp) (fun e he => by cases he; exact ⟨rfl, h3⟩) (sg_new h2)
        · rw [run_v, h5]; rfl
        · obtain ⟨u, hu1, hu2⟩ := (ho2.append hu).get hv
          have hj : j < (os ++ us').length := by
            rcases Nat.lt_or_ge j (os ++ us').length with h' | h'
            · exact h'
            · rw [List.getElem?_eq_none h'] at hu1; cases hu1
          exact ⟨u, by rw [h4 j (by simpa using hj)]; simpa using hu1, hu2⟩
    · -- onto a slice that was grown
      rename_i b o len
      cases hrs with
      | sg _ _ _ j cap hD hj hcap hlen =>
      simp only [Option.bind_eq_some_iff] at hs
      obtain ⟨k, hk, hs⟩ := hs
      have hib : inl (b :: r.1) b = true := by simp [inl]
      split at hs
      · rename_i z' hgr
        simp only [Option.some.injEq, Prod.mk.injEq] at hs
        obtain ⟨h1, rfl⟩ := hs
        rw [hc] at h1
        simp only [Bool.and_eq_true, decide_eq_true_eq] at h1
        obtain ⟨⟨⟨⟨⟨hok, hby⟩, hzz⟩, ho0⟩, hlen2⟩, hone⟩ := h1
        have hzz := Nat.eq_of_beq_eq_true hzz
        have ho0 := Nat.eq_of_beq_eq_true ho0
        rw [growMax_eq] at hby
        subst ho0
        have hkk : only (hget h) (b :: r.1) b = some k := by rw [only_get hib]; exact hk
        obtain ⟨hl, us', hf, hu, hul, hft⟩ := src_rel (P := P) hr hok (rd := b :: r.1) (fun b hb => by simp [inl, hb]) hrx hH
        obtain ⟨hDb, ⟨⟨cs0, elem0, ⟨lo, hi'⟩, q1, q2, q3, q4⟩, _⟩⟩ := hH.at_ b k hkk
        obtain ⟨hro, hesz, hcsz⟩ := q4 z' hgr
        obtain ⟨hoff, hfr⟩ := q3 hro
        have hz0 : i.size ≠ 0 ∨ i.size = 0 := by omega
        have hcapk : φ.cap b * i.size = cs0.size := by rw [hzz]; exact hcsz.symm
        have hjz : j = 0 ∨ i.size = 0 := by
          rw [hesz, ← hzz] at hj
          exact Nat.mul_eq_zero.1 hj
        -- the block's own cells, as a list of values
        have hold : (cellsAt k.cells 0 (len * i.size)).length = len * i.size := by simp [cellsAt, hlen2]
        by_cases hle : len + r.2.1 ≤ cap
        · -- there is room
          have hfit : 0 + len * i.size + us'.length ≤ cs0.size := by
            rw [← hu.1, hul, ← hcapk, Nat.zero_add, ← Nat.add_mul]
            exact Nat.mul_le_mul_right _ (by omega)
          obtain ⟨w', g1, g4, g5, g6, g3⟩ := @run_storeCells P (φ.blk b) (0 + len * i.size) elem0 lo hi' us' 0 w cs0 q1 hfr (by omega) (oneAll_spec hone hu)
          refine Sim.growIn (e := i.size) (xs := k.cells ++ r.2.2.1) (cs' := _) (u := .slice (some ⟨φ.blk b, 0, none⟩) (len + r.2.1) cap) ?_ hib (hn (Nat.lt_succ_self _)) hH hkk (by rw [hgr, hzz]) q1 g3 g4 g5 g6 (by simp; omega) (fun jj v hv => ?_) ?_
          · rw [run_v, run_append_in (z := i.size) ht hxt hd hsz hl hle hf]
            simp only [Addr.add_eq, List.toList_toArray, hoff, Nat.zero_add, Nat.add_zero] at g1 ⊢
            rw [g1]
            rfl
          · simp only [List.getElem?_append] at hv
            simp only [Nat.add_zero, Nat.zero_add, List.getElem?_toArray, List.getElem?_append, List.length_append, List.length_take, Array.length_toList, List.getElem?_take, List.getElem?_drop]
            have hlz : len * i.size ≤ cs0.size := by omega
            rw [Nat.min_eq_left hlz]
            split at hv
            · rename_i hjl
              rw [hlen2] at hjl
              rw [if_pos (by omega), if_pos hjl, if_pos hjl]
              obtain ⟨u, hu1, hu2⟩ := q2 jj v hv
              rw [hoff, Nat.zero_add] at hu1
              exact ⟨u, by rw [Array.getElem?_toList]; exact hu1, hu2⟩
            · rename_i hjl
              rw [hlen2] at hjl hv
              obtain ⟨u, hu1, hu2⟩ := hu.get hv
              have hjj : jj - len * i.size < us'.length := by
                rcases Nat.lt_or_ge (jj - len * i.size) us'.length with h' | h'
                · exact h'
                · rw [List.getElem?_eq_none h'] at hu1; cases hu1
              rw [if_pos (by omega), if_neg hjl]
              exact ⟨u, hu1, hu2⟩
          · have := VRel.sg (D := Dn D n (n + 1)) (φ := φ.set n (φ.blk b) (φ.cap b) i.size) n 0 (len + r.2.1) j cap (.inr ⟨Nat.le_refl _, Nat.lt_succ_self _⟩) (by
              simp [Phi.set]; rcases hjz with h' | h'
              · rw [h']; simp
              · rw [h']; simp) (by simp [Phi.set]; exact hcap) (by omega)
            simpa [Phi.set] using this
        · -- it grows
          obtain ⟨os, ho1, ho2⟩ := HR.row (P := P) hH hkk hold
          obtain ⟨cap', cs, h2, h3, h4, h5⟩ := run_append_grow (P := P) (tt := tt) (base := some ⟨φ.blk b, φ.off b + 0, none⟩) (len := len) (cap := cap) (old := os.toArray) ht hxt hd hi hzs hzl hl (by omega) hby hb0 (by simpa [Builtin.firstCells] using ho1) hf (by simp [← ho2.1, hold]) (by simp [← hu.1, hul])
          have hcells : cellsAt k.cells 0 (len * i.size) = k.cells := by simp [cellsAt, ← hlen2]
          rw [hcells] at ho2
          refine Sim.growOut (cap := cap') (cs := cs) (elem := el) (fr := (0, 0)) (w' := { w with drawn := w.drawn + 1, heap := w.heap.push (.cells cs el) }) (u := .slice (some ⟨w.heap.size, 0, none⟩) (len + r.2.1) cap') ?_ hib (hn (Nat.lt_succ_self _)) hD hH rfl rfl rfl rfl (fun j v hv => ?_) (fun i _ => by simp) h3 (sg_new h2)
          · rw [run_v, h5]; rfl
          · obtain ⟨u, hu1, hu2⟩ := (ho2.append hu).get hv
            have hj : j < (os ++ us').length := by
              rcases Nat.lt_or_ge j (os ++ us').length with h' | h'
              · exact h'
              · rw [List.getElem?_eq_none h'] at hu1; cases hu1
            exact ⟨u, by rw [h4 j (by simpa using hj)]; simpa using hu1, hu2⟩
      · cases hs
    · cases hs

end
end Go.Ab
