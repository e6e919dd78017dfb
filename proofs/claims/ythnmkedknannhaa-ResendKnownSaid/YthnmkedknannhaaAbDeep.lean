/- The abstract layer, part 40: a law's arguments that are structures with slices in them. -/
import Derived.Test.YthnmkedknannhaaAbGlob
namespace Go.Ab
open Go.ChangeShapes Go.WideShapes Go.RowKit
set_option linter.unusedVariables false

inductive TyD where
  | f (T : Ty)
  | sl (T : Ty)
  | st (l : List TyD)

mutual
def TyD.names : TyD → Nat
  | .f _ => 0
  | .sl _ => 1
  | .st l => dnamesL l
def dnamesL : List TyD → Nat
  | [] => 0
  | T :: r => T.names + dnamesL r
end
mutual
def TyD.size : TyD → Nat
  | .f T => T.size
  | .sl _ => 1
  | .st l => dsizeL l
def dsizeL : List TyD → Nat
  | [] => 0
  | T :: r => T.size + dsizeL r
end
mutual
def tyDIs (P : Program) : TyD → TypeId → Bool
  | .f T, t => tyIs P T t
  | .sl T, t => match P.underlying t with | some (.slice e) => tyIs P T e && Nat.beq (P.cellsOf t) 1 | _ => false
  | .st Ts, t => match P.underlying t with | some (.struct fs) => fldDIs P Ts fs.toList 0 && Nat.beq (P.cellsOf t) (dsizeL Ts) | _ => false
def fldDIs (P : Program) : List TyD → List Field → Nat → Bool
  | [], [], _ => true
  | T :: Ts, f :: fs, o => Nat.beq f.offset o && tyDIs P T f.type && fldDIs P Ts fs (o + T.size)
  | _, _, _ => false
end
def SlShp (T : Ty) (j : Nat) (l : List AV) (h : Hp) : Prop :=
  (l = [.ns] ∧ h = []) ∨ ∃ (ls : List (List AV)) (cap : Nat), (∀ x ∈ ls, Flat T x) ∧ ls.length ≤ cap ∧ cap ≤ maxLen ∧ l = [.sl j 0 ls.length cap] ∧ h = [(j, { cells := ls.flatten, ro := true })]
mutual
def DShp : TyD → Nat → List AV → Hp → Prop
  | .f T, _, l, h => Flat T l ∧ h = []
  | .sl T, j, l, h => SlShp T j l h
  | .st Ts, j, l, h => DShps Ts j l h
def DShps : List TyD → Nat → List AV → Hp → Prop
  | [], _, l, h => l = [] ∧ h = []
  | T :: Ts, j, l, h => ∃ a r h1 h2, l = a ++ r ∧ h = h1 ++ h2 ∧ DShp T j a h1 ∧ DShps Ts (j + T.names) r h2
end
def mkArgD (T : TyD) (l : List AV) : AV :=
  match T with
  | .f T => mkArg T l
  | .sl _ => l.headD .np
  | .st _ => .agg l
def ArgsD : List TyD → Nat → List AV → Hp → Prop
  | [], _, vs, h => vs = [] ∧ h = []
  | T :: Ts, j, vs, h => ∃ l vs' h1 h2, vs = mkArgD T l :: vs' ∧ h = h1 ++ h2 ∧ DShp T j l h1 ∧ ArgsD Ts (j + T.names) vs' h2
def tysD (P : Program) : List TyD → List TypeId → Bool
  | [], [] => true
  | T :: Ts, t :: ts => tyDIs P T t && tysD P Ts ts
  | _, _ => false

section
variable {H : Type} {enc : TypeId × Value → H} {P : Program} {W : World} {sp : Nat → Bool} {held : Bool}

theorem tyDIs_cells : ∀ {T : TyD} {t : TypeId}, tyDIs P T t = true → P.cellsOf t = T.size
  | .f T, t, h => tyIs_cells (T := T) (by simpa only [tyDIs] using h)
  | .sl T, t, h => by
    simp only [tyDIs] at h
    split at h
    · simp only [Bool.and_eq_true] at h; exact Nat.eq_of_beq_eq_true h.2
    · cases h
  | .st Ts, t, h => by
    simp only [tyDIs] at h
    split at h
    · simp only [Bool.and_eq_true] at h; exact Nat.eq_of_beq_eq_true h.2
    · cases h

/-- A slice's cell points into a row. -/
def SlOK (W : World) (v : Value) : Prop := ∀ a l c, v = .slice (some a) l c → a.spot = none ∧ ∃ row cells, W.shape? a.block = some (row, cells)

theorem slOK_cell {r : Reach} {base : Nat} {u : TypeId} {v : Value} (h : Cell.okWide P W r base u v) : SlOK W v := by
  intro a l c e
  subst e
  unfold Cell.okWide at h
  split at h <;> first | contradiction | skip
  unfold Cell.ok at h
  split at h <;> first | contradiction | skip
  all_goals first
    | (rename_i he; cases he; obtain ⟨_, _, _, hs, row, cells, hsh, _⟩ := h; exact ⟨hs, row, cells, hsh⟩)
    | exact h.elim
    | (rename_i he; cases he)
theorem slice_open {T : Ty} {t e : TypeId} {fuel : Nat} {cs : List Value} {x : DataW H × List MemPlace} {j : Nat} (hu : P.underlying t = some (.slice e)) (hT : tyIs P T e = true) (hok : ∀ v ∈ cs, SlOK W v)
    (h : DataW.trod enc P W 0 (fun _ => true) held fuel t cs = some x) : ∃ (l : List AV) (hp : Hp) (F : Nat × Nat), SlShp T j l hp ∧ ∀ (D : Nat → Prop) (φ : Phi), φ.blk j = F.1 → φ.off j = F.2 → D j → All2 D φ l cs ∧ RoOK j (j + 1) hp D φ W := by
  rcases DataW.trod_slice hu h with ⟨hc, _⟩ | ⟨a, l', c, elems, rest, n, _, hc, _, hb, hl, hm, hlen, hel, _⟩
  · subst hc
    exact ⟨[.ns], [], (0, 0), .inl ⟨rfl, rfl⟩, fun D φ _ _ _ => ⟨.cons .ns .nil, ⟨fun b k hb => by simp [hget] at hb⟩⟩⟩
  · subst hc
    obtain ⟨hspot, row, cells, hsh⟩ := hok _ (List.mem_singleton.2 rfl) a l' c rfl
    have hsz := tyIs_cells hT
    have key : ∀ m', m' ≤ l' → ∃ ls : List (List AV), ls.length = m' ∧ (∀ x ∈ ls, Flat T x) ∧ ∃ us : List Value, us.length = m' * T.size ∧ (∀ (D : Nat → Prop) (φ : Phi), All2 D φ ls.flatten us) ∧ ∀ i, i < m' * T.size → W.cell? ⟨a.block, a.off + i, none⟩ = us[i]? := by
      intro m'
      induction m' with
      | zero => intro _; exact ⟨[], rfl, (fun x hx => by cases hx), [], by simp, (fun D φ => by simpa using All2.nil), fun i hi => by simp at hi⟩
      | succ m' ih =>
        intro hm'
        obtain ⟨ls, h1, h2, us, h3, h4, h5⟩ := ih (by omega)
        have hy := hel m' (by omega)
        rw [List.getElem?_eq_getElem (by omega), Option.bind_eq_some_iff, hsz] at hy
        obtain ⟨cs, hcs, hy⟩ := hy
        obtain ⟨_, g1, g2⟩ := World.cells?_some hcs
        have hflat : ∃ l, Flat T l ∧ ∀ (D : Nat → Prop) (φ : Phi), All2 D φ l cs := by
          obtain ⟨l, f1, f2⟩ := open_flat (D := fun _ => False) (φ := ⟨fun _ => 0, fun _ => 0, fun _ => 0, fun _ => 0, fun _ => none, fun _ => none⟩) hT hy
          exact ⟨l, f1, fun D φ => ⟨f2.1, fun i x u hx hu => (f2.2 i x u hx hu).mono' (fun b hb => hb.elim) (fun b hb => hb.elim) (fun _ _ h => by cases h) (fun _ _ h => by cases h)⟩⟩
        obtain ⟨l, f1, f2⟩ := hflat
        refine ⟨ls ++ [l], by simp [h1], fun x hx => ?_, us ++ cs, by simp [h3, g1, Nat.add_mul], fun D φ => ?_, fun i hi => ?_⟩
        · rcases List.mem_append.1 hx with hx | hx
          · exact h2 x hx
          · simp at hx; subst hx; exact f1
        · simpa using (h4 D φ).append (f2 D φ)
        · by_cases hlt : i < m' * T.size
          · rw [List.getElem?_append_left (by omega)]; exact h5 i hlt
          · rw [Nat.add_mul, Nat.one_mul] at hi
            rw [List.getElem?_append_right (by omega), h3]
            have := g2 (i - m' * T.size) (by omega)
            rw [← this]
            congr 1
            have hadd : ∀ (a : Addr) (n : Nat), a.spot = none → a.add n = ⟨a.block, a.off + n, none⟩ := fun a n ha => by
              unfold Addr.add
              split
              · rename_i hn; subst hn; cases a; simp_all
              · rfl
            have hs2 : (a.add (m' * T.size)).spot = none := by rw [hadd a _ hspot]
            rw [hadd _ _ hs2, hadd a _ hspot]
            simp only [Addr.mk.injEq, and_true, true_and]
            omega
    obtain ⟨ls, h1, h2, us, h3, h4, h5⟩ := key l' (Nat.le_refl _)
    refine ⟨[.sl j 0 l' c], [(j, { cells := ls.flatten, ro := true })], (a.block, a.off), .inr ⟨ls, c, h2, by omega, hm, by rw [h1], rfl⟩, fun D φ hφ1 hφ2 hD => ⟨.cons ?_ .nil, ⟨fun b k hb => ?_⟩⟩⟩
    · have := VRel.sl (D := D) (φ := φ) j 0 l' c hD
      rw [hφ1, hφ2] at this
      have ha : a = ⟨a.block, a.off + 0, none⟩ := by cases a; simp_all
      rw [ha]
      exact this
    · simp only [hget] at hb
      by_cases hbj : b = j
      · subst hbj
        simp at hb; subst hb
        refine ⟨Nat.le_refl _, by omega, rfl, hD, ⟨?_, fun g hg => by cases hg⟩⟩
        simp only [World.shape?] at hsh
        split at hsh
        · rename_i cs elem fr hblk
          refine ⟨cs, elem, fr, by rw [hφ1]; exact hblk, fun i v hv => ?_, fun hr => (by cases hr), fun e he => (by cases he)⟩
          have hA := h4 D φ
          obtain ⟨u, hu, hr⟩ := hA.get hv
          have hi : i < l' * T.size := by
            have := (List.getElem?_eq_some_iff.1 hu).1; omega
          refine ⟨u, ?_, hr⟩
          have := h5 i hi
          rw [hu] at this
          simp only [World.cell?, hblk] at this
          simpa [hφ2] using this
        · cases hsh
      · rw [beq_ne hbj] at hb; simp at hb


mutual
theorem open_d : ∀ {T : TyD} {t : TypeId} {fuel : Nat} {cs : List Value} {x : DataW H × List MemPlace} {j : Nat}, tyDIs P T t = true → (∀ v ∈ cs, SlOK W v) → DataW.trod enc P W 0 (fun _ => true) held fuel t cs = some x →
    ∃ (l : List AV) (hp : Hp) (F : Nat → Nat × Nat), DShp T j l hp ∧ ∀ (D : Nat → Prop) (φ : Phi), (∀ b, j ≤ b → b < j + T.names → φ.blk b = (F b).1 ∧ φ.off b = (F b).2 ∧ D b) → All2 D φ l cs ∧ RoOK j (j + T.names) hp D φ W
  | .f T, t, fuel, cs, x, j, hT, hok, h => by
    simp only [tyDIs] at hT
    obtain ⟨l, f1, f2⟩ := open_flat (D := fun _ => False) (φ := ⟨fun _ => 0, fun _ => 0, fun _ => 0, fun _ => 0, fun _ => none, fun _ => none⟩) hT h
    exact ⟨l, [], fun _ => (0, 0), ⟨f1, rfl⟩, fun D φ _ => ⟨⟨f2.1, fun i x u hx hu => (f2.2 i x u hx hu).mono' (fun b hb => hb.elim) (fun b hb => hb.elim) (fun _ _ h => by cases h) (fun _ _ h => by cases h)⟩, ⟨fun b k hb => by simp [hget] at hb⟩⟩⟩
  | .sl T, t, fuel, cs, x, j, hT, hok, h => by
    simp only [tyDIs] at hT
    split at hT
    · rename_i e hu
      simp only [Bool.and_eq_true] at hT
      obtain ⟨l, hp, F, g1, g2⟩ := slice_open (j := j) hu hT.1 hok h
      exact ⟨l, hp, fun _ => F, g1, fun D φ hφ => by
        obtain ⟨q1, q2, q3⟩ := hφ j (Nat.le_refl _) (by simp only [TyD.names]; omega)
        exact g2 D φ q1 q2 q3⟩
    · cases hT
  | .st Ts, t, fuel, cs, x, j, hT, hok, h => by
    simp only [tyDIs] at hT
    split at hT
    · rename_i fs hu
      simp only [Bool.and_eq_true] at hT
      obtain ⟨xs, n, _, _, hl, hxl, hall⟩ := DataW.trod_struct hu h
      rw [Nat.eq_of_beq_eq_true hT.2] at hl
      obtain ⟨l, hp, F, h1, h2⟩ := open_ds (fuel := n) (cs := cs) (j := j) hT.1 (by omega) hok (fun f hf => by
        obtain ⟨i, hi⟩ := List.getElem?_of_mem hf
        have h1 := hall i f (by simpa using hi)
        have hlt : i < fs.size := by
          have := (List.getElem?_eq_some_iff.1 hi).1; simpa using this
        rw [h1]
        exact ⟨xs[i], by simp [hxl, hlt]⟩)
      exact ⟨l, hp, F, h1, by simpa only [TyD.names, List.drop_zero] using h2⟩
    · cases hT
theorem open_ds : ∀ {Ts : List TyD} {fs : List Field} {o : Nat} {fuel : Nat} {cs : List Value} {j : Nat}, fldDIs P Ts fs o = true → cs.length = o + dsizeL Ts → (∀ v ∈ cs, SlOK W v) → (∀ f ∈ fs, ∃ y, DataW.trod enc P W 0 (fun _ => true) held fuel f.type ((cs.drop f.offset).take (P.cellsOf f.type)) = some y) →
    ∃ (l : List AV) (hp : Hp) (F : Nat → Nat × Nat), DShps Ts j l hp ∧ ∀ (D : Nat → Prop) (φ : Phi), (∀ b, j ≤ b → b < j + dnamesL Ts → φ.blk b = (F b).1 ∧ φ.off b = (F b).2 ∧ D b) → All2 D φ l (cs.drop o) ∧ RoOK j (j + dnamesL Ts) hp D φ W
  | [], [], o, fuel, cs, j, _, hl, _, _ => ⟨[], [], fun _ => (0, 0), ⟨rfl, rfl⟩, fun D φ _ => ⟨by
      rw [List.drop_of_length_le (by simp only [dsizeL] at hl; omega)]; exact .nil, ⟨fun b k hb => by simp [hget] at hb⟩⟩⟩
  | [], _ :: _, o, fuel, cs, j, h, _, _, _ => by simp [fldDIs] at h
  | _ :: _, [], o, fuel, cs, j, h, _, _, _ => by simp [fldDIs] at h
  | T :: Ts, f :: fs, o, fuel, cs, j, h, hl, hok, hall => by
    simp only [fldDIs, Bool.and_eq_true] at h
    obtain ⟨⟨ho, hT⟩, hr⟩ := h
    have ho := Nat.eq_of_beq_eq_true ho
    obtain ⟨y, hy⟩ := hall f List.mem_cons_self
    rw [ho, tyDIs_cells hT] at hy
    obtain ⟨a, hp1, F1, g1, g2⟩ := open_d (j := j) hT (fun v hv => hok v (List.mem_of_mem_drop (List.mem_of_mem_take hv))) hy
    simp only [dsizeL] at hl
    obtain ⟨r, hp2, F2, g3, g4⟩ := open_ds (cs := cs) (j := j + T.names) hr (by omega) hok (fun f hf => hall f (List.mem_cons_of_mem _ hf))
    refine ⟨a ++ r, hp1 ++ hp2, fun b => if b < j + T.names then F1 b else F2 b, ⟨a, r, hp1, hp2, rfl, rfl, g1, g3⟩, fun D φ hφ => ?_⟩
    simp only [dnamesL] at hφ ⊢
    obtain ⟨a1, a2⟩ := g2 D φ (fun b hb1 hb2 => by
      have := hφ b hb1 (by omega)
      rwa [if_pos hb2] at this)
    obtain ⟨b1, b2⟩ := g4 D φ (fun b hb1 hb2 => by
      have := hφ b (by omega) (by omega)
      rwa [if_neg (by omega)] at this)
    have hA := a1.append b1
    rw [← List.drop_drop, List.take_append_drop] at hA
    refine ⟨hA, ?_⟩
    rw [← Nat.add_assoc]
    exact RoOK.append a2 b2 (by omega) (by omega)
end

theorem arg_d {T : TyD} {t : TypeId} {r : Reach} {base j : Nat} {v : Value} {d : DataW H} {ps : List MemPlace} (hT : tyDIs P T t = true) (hval : Value.okWide P W r base t v)
    (h : DataW.Trod enc P W 0 (fun _ => true) held t v d ps) : ∃ (l : List AV) (hp : Hp) (F : Nat → Nat × Nat), DShp T j l hp ∧ ∀ (D : Nat → Prop) (φ : Phi), (∀ b, j ≤ b → b < j + T.names → φ.blk b = (F b).1 ∧ φ.off b = (F b).2 ∧ D b) → VRel D φ (mkArgD T l) v ∧ RoOK j (j + T.names) hp D φ W := by
  match T with
  | .f T =>
    simp only [tyDIs] at hT
    obtain ⟨l, f1, f2⟩ := arg_plain (D := fun _ => False) (φ := ⟨fun _ => 0, fun _ => 0, fun _ => 0, fun _ => 0, fun _ => none, fun _ => none⟩) hT hval h
    exact ⟨l, [], fun _ => (0, 0), ⟨f1, rfl⟩, fun D φ _ => ⟨f2.mono' (fun b hb => hb.elim) (fun b hb => hb.elim) (fun _ _ h => by cases h) (fun _ _ h => by cases h), ⟨fun b k hb => by simp [hget] at hb⟩⟩⟩
  | .sl T =>
    obtain ⟨fuel, h⟩ := h
    simp only [tyDIs] at hT
    split at hT
    · rename_i e hu
      simp only [Bool.and_eq_true] at hT
      simp only [Value.okWide, hu] at hval
      have hsl := slOK_cell hval
      have hcs : v.cells.toList = [v] := by
        simp only [Cell.okWide, hu] at hval
        cases v <;> simp [Cell.ok, hu] at hval <;> rfl
      rw [hcs] at h
      obtain ⟨l, hp, F, g1, g2⟩ := slice_open (j := j) hu hT.1 (fun u hu => by rw [List.mem_singleton.1 hu]; exact hsl) h
      refine ⟨l, hp, fun _ => F, g1, fun D φ hφ => ?_⟩
      obtain ⟨q1, q2, q3⟩ := hφ j (Nat.le_refl _) (by simp only [TyD.names]; omega)
      obtain ⟨k1, k2⟩ := g2 D φ q1 q2 q3
      refine ⟨?_, k2⟩
      rcases g1 with ⟨rfl, _⟩ | ⟨_, _, _, _, _, rfl, _⟩
      all_goals (obtain ⟨u, m, he, hr, _⟩ := k1.uncons; simp at he; rw [← he.1] at hr; exact hr)
    · cases hT
  | .st Ts =>
    have hT' := hT
    simp only [tyDIs] at hT'
    split at hT'
    · rename_i fs hu
      simp only [Value.okWide, hu] at hval
      obtain ⟨cs, rfl, _, ts, _, _, hrow⟩ := hval
      obtain ⟨fuel, h⟩ := h
      simp only [Value.cells] at h
      obtain ⟨l, hp, F, g1, g2⟩ := open_d (j := j) hT (fun u hu => by
        obtain ⟨i, hi⟩ := List.getElem?_of_mem hu
        obtain ⟨tt, _, hc⟩ := hrow i u (by simpa using hi)
        exact slOK_cell hc) h
      refine ⟨l, hp, F, g1, fun D φ hφ => ?_⟩
      obtain ⟨k1, k2⟩ := g2 D φ hφ
      refine ⟨?_, k2⟩
      have : VRel D φ (.agg l) (.agg cs) := by
        have := VRel.agg' k1
        simpa using this
      exact this
    · cases hT'

theorem open_argsD {r : Reach} {base : Nat} : ∀ {Ts : List TyD} {ts : List TypeId} {vs : List Value} {ds : List (DataW H)} {ps : List MemPlace} {j : Nat}, tysD P Ts ts = true → (∀ (i : Nat) t v, ts[i]? = some t → vs[i]? = some v → Value.okWide P W r base t v) →
    DataW.TrodAll enc P W 0 (fun _ => true) held ts vs ds ps → ∃ (avs : List AV) (hp : Hp) (F : Nat → Nat × Nat), ArgsD Ts j avs hp ∧ ∀ (D : Nat → Prop) (φ : Phi), (∀ b, j ≤ b → b < j + dnamesL Ts → φ.blk b = (F b).1 ∧ φ.off b = (F b).2 ∧ D b) → All2 D φ avs vs ∧ RoOK j (j + dnamesL Ts) hp D φ W
  | [], [], vs, ds, ps, j, _, _, h => by
    cases vs with
    | nil => exact ⟨[], [], fun _ => (0, 0), ⟨rfl, rfl⟩, fun D φ _ => ⟨.nil, ⟨fun b k hb => by simp [hget] at hb⟩⟩⟩
    | cons v vs => cases ds <;> exact h.elim
  | T :: Ts, t :: ts, vs, ds, ps, j, hT, hv, h => by
    simp only [tysD, Bool.and_eq_true] at hT
    match vs, ds, h with
    | v :: vs, d :: ds, ⟨p, q, h1, h2, _⟩ =>
      obtain ⟨avs, hp, F, g1, g2⟩ := open_argsD (j := j + T.names) hT.2 (fun i t v ht hv' => hv (i + 1) t v (by simpa using ht) (by simpa using hv')) h2
      obtain ⟨l, hp1, F1, k1, k2⟩ := arg_d (j := j) hT.1 (hv 0 t v rfl rfl) h1
      refine ⟨mkArgD T l :: avs, hp1 ++ hp, fun b => if b < j + T.names then F1 b else F b, ⟨l, avs, hp1, hp, rfl, rfl, k1, g1⟩, fun D φ hφ => ?_⟩
      simp only [dnamesL] at hφ ⊢
      obtain ⟨a1, a2⟩ := k2 D φ (fun b hb1 hb2 => by
        have := hφ b hb1 (by omega)
        rwa [if_pos hb2] at this)
      obtain ⟨b1, b2⟩ := g2 D φ (fun b hb1 hb2 => by
        have := hφ b (by omega) (by omega)
        rwa [if_neg (by omega)] at this)
      refine ⟨.cons a1 b1, ?_⟩
      rw [← Nat.add_assoc]
      exact RoOK.append a2 b2 (by omega) (by omega)
  | [], _ :: _, vs, ds, ps, j, hT, _, h => by simp [tysD] at hT
  | _ :: _, [], vs, ds, ps, j, hT, _, h => by simp [tysD] at hT

/-- All that lies in a world that nobody has written yet. -/
def fzW (W : World) : Nat → Option (Array Value) := fun B => match W.heap[B]? with
  | some (.cells vs _ _) => some vs
  | _ => none
theorem fzW_spec {W : World} {B : Nat} {vs : Array Value} (h : fzW W B = some vs) : ∃ elem fr, W.heap[B]? = some (.cells vs elem fr) := by
  unfold fzW at h
  split at h
  · rename_i hb; cases h; exact ⟨_, _, hb⟩
  · cases h

theorem law_callsD {f : FuncId} {Ts : List TyD} {ts : List TypeId} {args : Array Value} {ds : List (DataW H)} {ps : List MemPlace} {r : Reach} {base n' : Nat} {h' : Hp} {v : Bool} (Gs : List (Nat × List AV)) (hG : ∀ x ∈ Gs, GlobOK W x) (hT : tysD P Ts ts = true)
    (hv : ∀ (i : Nat) t v, ts[i]? = some t → args.toList[i]? = some v → Value.okWide P W r base t v) (h : DataW.TrodAll enc P W 0 (fun _ => true) true ts args.toList ds ps)
    (core : ∀ avs hp, ArgsD Ts 0 avs hp → FTL P f avs (hp ++ glH (dnamesL Ts) Gs) (dnamesL Ts + Gs.length) (.b v) h' n') (hy : f ≠ YB := by decide) : Calls P f args W fun e W' => e = .returned (.bool v) ∧ Below W.heap.size W W' := by
  obtain ⟨avs, hp, F, g1, g2⟩ := open_argsD (j := 0) hT hv h
  let φ : Phi := ⟨fun b => if b < dnamesL Ts then (F b).1 else ((Gs[b - dnamesL Ts]?).map (·.1)).getD 0, fun b => if b < dnamesL Ts then (F b).2 else 0, fun _ => 0, fun _ => 0, fzW W, fun _ => none⟩
  obtain ⟨k1, k2⟩ := g2 (fun b => b < dnamesL Ts + Gs.length) φ (fun b _ hb => by
    simp at hb
    exact ⟨by simp [φ, hb], by simp [φ, hb], by show b < dnamesL Ts + Gs.length; omega⟩)
  have k3 : RoOK (dnamesL Ts) (dnamesL Ts + Gs.length) (glH (dnamesL Ts) Gs) (fun b => b < dnamesL Ts + Gs.length) φ W := ⟨fun b k hb => by
    obtain ⟨q1, q2, g, c, q3, rfl⟩ := glH_get hb
    obtain ⟨cs, elem, fr, q4, q5⟩ := hG (g, c) (List.mem_of_getElem? q3)
    have hblk : φ.blk b = g := by simp [φ, show ¬ b < dnamesL Ts by omega, q3]
    have hoff : φ.off b = 0 := by simp [φ, show ¬ b < dnamesL Ts by omega]
    refine ⟨q1, q2, rfl, q2, ⟨⟨cs, elem, fr, by rw [hblk]; exact q4, fun i v hi => ?_, fun hr => (by cases hr), fun e he => (by cases he)⟩, fun g' hg' => ?_⟩⟩
    · obtain ⟨u, h1, h2⟩ := q5 (fun b => b < dnamesL Ts + Gs.length) φ i v hi
      exact ⟨u, by rw [hoff, Nat.zero_add]; exact h1, h2⟩
    · simp only [Option.some.injEq] at hg'; subst hg'; exact ⟨hblk, hoff⟩⟩
  rw [Nat.zero_add] at k2
  have k4 := RoOK.append k2 k3 (by omega) (by omega)
  have hH : HR (fun b => b < dnamesL Ts + Gs.length) φ (hget (hp ++ glH (dnamesL Ts) Gs)) W :=
    ⟨⟨fun b k hb => ⟨(k4.at_ b k hb).2.2.2.1, (k4.at_ b k hb).2.2.2.2⟩, fun b1 b2 x1 x2 _ hb1 _ hro => by rw [(k4.at_ b1 x1 hb1).2.2.1] at hro; cases hro⟩, (fun B vs h => fzW_spec h), (fun L r h => by cases h), (fun b k B vs hb hro _ => by rw [(k4.at_ b k hb).2.2.1] at hro; cases hro)⟩
  have := core avs hp g1 (fun b => b < dnamesL Ts + Gs.length) φ W args.toList (fun b hb => hb) hH k1
  simp only [Array.toArray_toList] at this
  refine (this.calls hy).mono fun e w' hx => ?_
  obtain ⟨D', φ', u, rfl, _, hr, hS⟩ := hx
  cases hr
  exact ⟨rfl, FRM.below k4 hS.frm⟩

/-- A law's contract, beside variables that were laid. -/
theorem law_postD {f : FuncId} {fn : Func} {s : ChangeSpec} {Ts : List TyD} {args : Array Value} {ds gs : List (DataW H)} {before : List MemPlace} {r : Reach} {base n' : Nat} {h' : Hp} {tb : TypeId} {fresh handsOn : Bool} (Gs : List (Nat × List AV)) (hG : ∀ x ∈ Gs, GlobOK W x)
    (hT : tysD P Ts fn.params.toList = true) (hl : laidOutB P = true) (hread : (fn.params.toList.all fun t => P.readableRec t && decide (t < P.types.size)) = true) (hres : fn.resultTypes = #[tb]) (htb : P.underlying tb = some .bool) (hvars : s.vars = [])
    (hspec : ∀ (l : List (DataW H)), l.length = Ts.length → s.fn H l = { results := [.lit (.bool true)], args := l })
    (hv : ∀ (j : Nat) t v, fn.params[j]? = some t → args[j]? = some v → Value.okWide P W r base t v) (hW : DataW.Whole enc P fn.params.toList s.vars false W args.toList ds gs before)
    (core : ∀ avs hp, ArgsD Ts 0 avs hp → FTL P f avs (hp ++ glH (dnamesL Ts) Gs) (dnamesL Ts + Gs.length) (.b true) h' n') (hy : f ≠ YB := by decide) : Calls P f args W fun e W' => ∃ v, e = .returned v ∧ s.post enc P fn false fresh handsOn false W args v W' := by
  have hW' := hW
  have hlt := hW.lt
  obtain ⟨p, q, hA, hV, rfl, hfz, hnd⟩ := hW
  rw [hvars] at hV
  obtain ⟨rfl, rfl⟩ := trodVars_none hV
  refine (law_callsD Gs hG hT (fun i t v ht hv' => hv i t v (by simpa using ht) (by simpa using hv')) hA core hy).mono fun e W' hx => ?_
  obtain ⟨rfl, hB⟩ := hx
  have hlen : ds.length = Ts.length := by
    have h1 : ∀ {ts : List TypeId} {vs : List Value} {ds : List (DataW H)} {ps : List MemPlace}, DataW.TrodAll enc P W 0 (fun _ => true) true ts vs ds ps → ds.length = ts.length := by
      intro ts
      induction ts with
      | nil => intro vs ds ps h; obtain ⟨_, rfl, _⟩ := trodAll_nil h; rfl
      | cons t ts ih => intro vs ds ps h; obtain ⟨_, _, _, _, _, _, _, rfl, _, _, h2⟩ := trodAll_cons h; simp [ih h2]
    have h2 : ∀ {Ts : List TyD} {ts : List TypeId}, tysD P Ts ts = true → Ts.length = ts.length := by
      intro Ts
      induction Ts with
      | nil => intro ts h; cases ts with
        | nil => rfl
        | cons => simp [tysD] at h
      | cons T Ts ih => intro ts h; cases ts with
        | nil => simp [tysD] at h
        | cons t ts => simp only [tysD, Bool.and_eq_true] at h; simp [ih h.2]
    rw [h1 hA, h2 hT]
  have hfn := hspec (ds ++ []) (by simpa using hlen)
  have hlt' : ∀ x ∈ p, x.block < W.heap.size := fun x hx => hlt x (by simpa using hx)
  refine ⟨_, rfl, ds, [], p ++ [], [], p, [], hW', ?_, ?_, ?_, hB.frame _, fun h => by cases h⟩
  · rw [hfn, hres]
    exact trodAll_mk1 (shut_bool htb _)
  · rw [hfn]
    simpa using Below.trodAll hl hB hread hlt' hA
  · rw [hfn, hvars]; rfl


end
end Go.Ab
