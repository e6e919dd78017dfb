/- The abstract layer, part 56: a law's arguments as frozen values: structures and slices within each other. -/
import Derived.Test.YtndbgcmgjnjnhaaAbFz
namespace Go.Ab
open Go.ChangeShapes Go.WideShapes Go.RowKit
set_option linter.unusedVariables false

inductive TyF where
  | f (T : Ty)
  | sl (E : TyF)
  | st (l : List TyF)

mutual
def TyF.size : TyF → Nat
  | .f T => T.size
  | .sl _ => 1
  | .st l => fsizeL l
def fsizeL : List TyF → Nat
  | [] => 0
  | T :: r => T.size + fsizeL r
end
mutual
def tyFIs (P : Program) : TyF → TypeId → Bool
  | .f T, t => tyIs P T t
  | .sl E, t => match P.underlying t with | some (.slice e) => tyFIs P E e && Nat.beq (P.cellsOf t) 1 && Nat.blt 0 E.size | _ => false
  | .st Ts, t => match P.underlying t with | some (.struct fs) => fldFIs P Ts fs.toList 0 && Nat.beq (P.cellsOf t) (fsizeL Ts) | _ => false
def fldFIs (P : Program) : List TyF → List Field → Nat → Bool
  | [], [], _ => true
  | T :: Ts, f :: fs, o => Nat.beq f.offset o && tyFIs P T f.type && fldFIs P Ts fs (o + T.size)
  | _, _, _ => false
end
mutual
/-- The cells of a value of a type. -/
def FShp : TyF → List AV → Prop
  | .f T, l => Flat T l
  | .sl E, l => ∃ ls : List (List AV), (∀ x ∈ ls, FShp E x) ∧ ls.length ≤ maxLen ∧ l = [.fz ls.flatten ls.length]
  | .st Ts, l => FShps Ts l
def FShps : List TyF → List AV → Prop
  | [], l => l = []
  | T :: Ts, l => ∃ a r, l = a ++ r ∧ FShp T a ∧ FShps Ts r
end
def mkArgF (T : TyF) (l : List AV) : AV :=
  match T with
  | .f T => mkArg T l
  | .sl _ => l.headD .np
  | .st _ => .agg l
def ArgsF : List TyF → List AV → Prop
  | [], vs => vs = []
  | T :: Ts, vs => ∃ l vs', vs = mkArgF T l :: vs' ∧ FShp T l ∧ ArgsF Ts vs'
def tysF (P : Program) : List TyF → List TypeId → Bool
  | [], [] => true
  | T :: Ts, t :: ts => tyFIs P T t && tysF P Ts ts
  | _, _ => false

section
variable {H : Type} {enc : TypeId × Value → H} {P : Program} {W : World} {sp : Nat → Bool} {held : Bool}

theorem tyFIs_cells : ∀ {T : TyF} {t : TypeId}, tyFIs P T t = true → P.cellsOf t = T.size
  | .f T, t, h => tyIs_cells (T := T) (by simpa only [tyFIs] using h)
  | .sl T, t, h => by
    simp only [tyFIs] at h
    split at h
    · simp only [Bool.and_eq_true] at h; exact Nat.eq_of_beq_eq_true h.1.2
    · cases h
  | .st Ts, t, h => by
    simp only [tyFIs] at h
    split at h
    · simp only [Bool.and_eq_true] at h; exact Nat.eq_of_beq_eq_true h.2
    · cases h

theorem cell_inv {a : Addr} {v : Value} (h : W.cell? a = some v) : a.spot = none ∧ ∃ vs, fzW W a.block = some vs ∧ vs[a.off]? = some v := by
  unfold World.cell? at h
  split at h
  · rename_i c e f hb
    split at h
    · cases h
    · rename_i hs
      exact ⟨by simpa using hs, c, by simp [fzW, hb], h⟩
  · cases h
theorem add_none (a : Addr) (n : Nat) (h : a.spot = none) : a.add n = ⟨a.block, a.off + n, none⟩ := by
  unfold Addr.add
  split
  · rename_i hn; subst hn; cases a; simp_all
  · rfl

theorem slice_openF {E : TyF} {t e : TypeId} {fuel : Nat} {cs : List Value} {x : DataW H × List MemPlace} (hu : P.underlying t = some (.slice e)) (hT : P.cellsOf e = E.size) (h0 : 0 < E.size)
    (one : ∀ {fuel : Nat} {cs : List Value} {x : DataW H × List MemPlace}, DataW.trod enc P W 0 (fun _ => true) held fuel e cs = some x → ∃ l, FShp E l ∧ ∀ (D : Nat → Prop) (φ : Phi), φ.fz = fzW W → All2 D φ l cs)
    (h : DataW.trod enc P W 0 (fun _ => true) held fuel t cs = some x) : ∃ l, FShp (.sl E) l ∧ ∀ (D : Nat → Prop) (φ : Phi), φ.fz = fzW W → All2 D φ l cs := by
  rcases DataW.trod_slice hu h with ⟨hc, _⟩ | ⟨a, l', c, elems, rest, n, _, hc, _, hb, hl, hm, hlen, hel, _⟩
  · subst hc
    exact ⟨[.fz [] 0], ⟨[], (fun x hx => by cases hx), by simp [maxLen], rfl⟩, fun D φ _ => .cons (.fz0 _ _ _) .nil⟩
  · subst hc
    have key : ∀ m', m' ≤ l' → ∃ ls : List (List AV), ls.length = m' ∧ (∀ x ∈ ls, FShp E x) ∧ ∃ us : List Value, us.length = m' * E.size ∧ (∀ (D : Nat → Prop) (φ : Phi), φ.fz = fzW W → All2 D φ ls.flatten us) ∧ ∀ i, i < m' * E.size → (a.spot = none → W.cell? ⟨a.block, a.off + i, none⟩ = us[i]?) := by
      intro m'
      induction m' with
      | zero => intro _; exact ⟨[], rfl, (fun x hx => by cases hx), [], by simp, (fun D φ _ => by simpa using All2.nil), fun i hi => by simp at hi⟩
      | succ m' ih =>
        intro hm'
        obtain ⟨ls, h1, h2, us, h3, h4, h5⟩ := ih (by omega)
        have hy := hel m' (by omega)
        rw [List.getElem?_eq_getElem (by omega), Option.bind_eq_some_iff, hT] at hy
        obtain ⟨cs, hcs, hy⟩ := hy
        obtain ⟨_, g1, g2⟩ := World.cells?_some hcs
        obtain ⟨l, f1, f2⟩ := one hy
        refine ⟨ls ++ [l], by simp [h1], fun x hx => ?_, us ++ cs, by simp [h3, g1, Nat.add_mul], fun D φ hφ => ?_, fun i hi hspot => ?_⟩
        · rcases List.mem_append.1 hx with hx | hx
          · exact h2 x hx
          · simp at hx; subst hx; exact f1
        · simpa using (h4 D φ hφ).append (f2 D φ hφ)
        · by_cases hlt : i < m' * E.size
          · rw [List.getElem?_append_left (by omega)]; exact h5 i hlt hspot
          · rw [Nat.add_mul, Nat.one_mul] at hi
            rw [List.getElem?_append_right (by omega), h3]
            have := g2 (i - m' * E.size) (by omega)
            rw [← this]
            congr 1
            have hs2 : (a.add (m' * E.size)).spot = none := by rw [add_none a _ hspot]
            rw [add_none _ _ hs2, add_none a _ hspot]
            simp only [Addr.mk.injEq, and_true, true_and]
            omega
    obtain ⟨ls, h1, h2, us, h3, h4, h5⟩ := key l' (Nat.le_refl _)
    refine ⟨[.fz ls.flatten ls.length], ⟨ls, h2, by omega, rfl⟩, fun D φ hφ => .cons ?_ .nil⟩
    by_cases hz : l' = 0
    · rw [h1, hz]; exact .fz0 _ _ _
    · -- the first cell shows where the row lies
      have hy := hel 0 (by omega)
      rw [List.getElem?_eq_getElem (by omega), Option.bind_eq_some_iff, hT, Nat.zero_mul] at hy
      obtain ⟨cs, hcs, _⟩ := hy
      obtain ⟨_, g1, g2⟩ := World.cells?_some hcs
      have g3 := g2 0 h0
      rw [List.getElem?_eq_getElem (by omega)] at g3
      have ha0 : (a.add 0).add 0 = a := by simp [Addr.add]
      rw [ha0] at g3
      obtain ⟨hs, vs, hvs, _⟩ := cell_inv g3
      have hA := h4 D φ hφ
      have cellv : ∀ i, i < us.length → vs[a.off + i]? = us[i]? := fun i hi => by
        have := h5 i (by omega) hs
        rw [List.getElem?_eq_getElem hi] at this ⊢
        obtain ⟨_, vs', q1, q2⟩ := cell_inv this
        rw [hvs] at q1; cases q1
        exact q2
      have ha : a = ⟨a.block, a.off, none⟩ := by cases a; simp_all
      rw [ha, h1]
      refine .fz _ _ a.block a.off c vs (by rw [hφ]; exact hvs) hl (fun i hi => ?_) (fun i v u hv' hu' => ?_)
      · have hi' : i < us.length := by rw [← hA.1]; exact hi
        have := cellv i hi'
        rw [List.getElem?_eq_getElem hi'] at this
        rcases Nat.lt_or_ge (a.off + i) vs.size with h' | h'
        · exact h'
        · rw [Array.getElem?_eq_none h'] at this; cases this
      · obtain ⟨u', q1, q2⟩ := hA.get hv'
        have hi' : i < us.length := (List.getElem?_eq_some_iff.1 q1).1
        have := cellv i hi'
        rw [hu', q1] at this
        cases this; exact q2

mutual
theorem open_f : ∀ {T : TyF} {t : TypeId} {fuel : Nat} {cs : List Value} {x : DataW H × List MemPlace}, tyFIs P T t = true → DataW.trod enc P W 0 (fun _ => true) held fuel t cs = some x →
    ∃ l, FShp T l ∧ ∀ (D : Nat → Prop) (φ : Phi), φ.fz = fzW W → All2 D φ l cs
  | .f T, t, fuel, cs, x, hT, h => by
    simp only [tyFIs] at hT
    obtain ⟨l, f1, f2⟩ := open_flat (D := fun _ => False) (φ := ⟨fun _ => 0, fun _ => 0, fun _ => 0, fun _ => 0, fun _ => none⟩) hT h
    exact ⟨l, f1, fun D φ _ => ⟨f2.1, fun i x u hx hu => (f2.2 i x u hx hu).mono (fun b hb => hb.elim) ⟨fun b hb => hb.elim, fun _ _ h => by cases h⟩⟩⟩
  | .sl E, t, fuel, cs, x, hT, h => by
    simp only [tyFIs] at hT
    split at hT
    · rename_i e hu
      simp only [Bool.and_eq_true] at hT
      have hb : Nat.blt 0 E.size = true := hT.2
      rw [Nat.blt_eq] at hb
      exact slice_openF hu (tyFIs_cells hT.1.1) hb (fun h => open_f hT.1.1 h) h
    · cases hT
  | .st Ts, t, fuel, cs, x, hT, h => by
    simp only [tyFIs] at hT
    split at hT
    · rename_i fs hu
      simp only [Bool.and_eq_true] at hT
      obtain ⟨xs, n, _, _, hl, hxl, hall⟩ := DataW.trod_struct hu h
      rw [Nat.eq_of_beq_eq_true hT.2] at hl
      obtain ⟨l, h1, h2⟩ := open_fs (fuel := n) (cs := cs) hT.1 (by omega) (fun f hf => by
        obtain ⟨i, hi⟩ := List.getElem?_of_mem hf
        have h1 := hall i f (by simpa using hi)
        have hlt : i < fs.size := by
          have := (List.getElem?_eq_some_iff.1 hi).1; simpa using this
        rw [h1]
        exact ⟨xs[i], by simp [hxl, hlt]⟩)
      exact ⟨l, h1, by simpa only [List.drop_zero] using h2⟩
    · cases hT
theorem open_fs : ∀ {Ts : List TyF} {fs : List Field} {o : Nat} {fuel : Nat} {cs : List Value}, fldFIs P Ts fs o = true → cs.length = o + fsizeL Ts → (∀ f ∈ fs, ∃ y, DataW.trod enc P W 0 (fun _ => true) held fuel f.type ((cs.drop f.offset).take (P.cellsOf f.type)) = some y) →
    ∃ l, FShps Ts l ∧ ∀ (D : Nat → Prop) (φ : Phi), φ.fz = fzW W → All2 D φ l (cs.drop o)
  | [], [], o, fuel, cs, _, hl, _ => ⟨[], rfl, fun D φ _ => by
      rw [List.drop_of_length_le (by simp only [fsizeL] at hl; omega)]; exact .nil⟩
  | [], _ :: _, o, fuel, cs, h, _, _ => by simp [fldFIs] at h
  | _ :: _, [], o, fuel, cs, h, _, _ => by simp [fldFIs] at h
  | T :: Ts, f :: fs, o, fuel, cs, h, hl, hall => by
    simp only [fldFIs, Bool.and_eq_true] at h
    obtain ⟨⟨ho, hT⟩, hr⟩ := h
    have ho := Nat.eq_of_beq_eq_true ho
    obtain ⟨y, hy⟩ := hall f List.mem_cons_self
    rw [ho, tyFIs_cells hT] at hy
    obtain ⟨a, g1, g2⟩ := open_f hT hy
    simp only [fsizeL] at hl
    obtain ⟨r, g3, g4⟩ := open_fs (cs := cs) hr (by omega) (fun f hf => hall f (List.mem_cons_of_mem _ hf))
    refine ⟨a ++ r, ⟨a, r, rfl, g1, g3⟩, fun D φ hφ => ?_⟩
    have hA := (g2 D φ hφ).append (g4 D φ hφ)
    rwa [← List.drop_drop, List.take_append_drop] at hA
end

theorem arg_f {T : TyF} {t : TypeId} {r : Reach} {base : Nat} {v : Value} {d : DataW H} {ps : List MemPlace} (hT : tyFIs P T t = true) (hval : Value.okWide P W r base t v)
    (h : DataW.Trod enc P W 0 (fun _ => true) held t v d ps) : ∃ l, FShp T l ∧ ∀ (D : Nat → Prop) (φ : Phi), φ.fz = fzW W → VRel D φ (mkArgF T l) v := by
  match T with
  | .f T =>
    simp only [tyFIs] at hT
    obtain ⟨l, f1, f2⟩ := arg_plain (D := fun _ => False) (φ := ⟨fun _ => 0, fun _ => 0, fun _ => 0, fun _ => 0, fun _ => none⟩) hT hval h
    exact ⟨l, f1, fun D φ _ => f2.mono (fun b hb => hb.elim) ⟨fun b hb => hb.elim, fun _ _ h => by cases h⟩⟩
  | .sl E =>
    have hT0 := hT
    obtain ⟨fuel, h⟩ := h
    simp only [tyFIs] at hT
    split at hT
    · rename_i e hu
      simp only [Value.okWide, hu] at hval
      have hcs : v.cells.toList = [v] := by
        simp only [Cell.okWide, hu] at hval
        cases v <;> simp [Cell.ok, hu] at hval <;> rfl
      rw [hcs] at h
      obtain ⟨l, g1, g2⟩ := open_f hT0 h
      refine ⟨l, g1, fun D φ hφ => ?_⟩
      have k1 := g2 D φ hφ
      obtain ⟨ls, _, _, rfl⟩ := g1
      obtain ⟨u, m, he, hr, _⟩ := k1.uncons
      simp at he
      rw [← he.1] at hr; exact hr
    · cases hT
  | .st Ts =>
    have hT' := hT
    simp only [tyFIs] at hT'
    split at hT'
    · rename_i fs hu
      simp only [Value.okWide, hu] at hval
      obtain ⟨cs, rfl, _, ts, _, _, hrow⟩ := hval
      obtain ⟨fuel, h⟩ := h
      simp only [Value.cells] at h
      obtain ⟨l, g1, g2⟩ := open_f hT h
      refine ⟨l, g1, fun D φ hφ => ?_⟩
      have : VRel D φ (.agg l) (.agg cs) := by
        have := VRel.agg' (g2 D φ hφ)
        simpa using this
      exact this
    · cases hT'

theorem open_argsF {r : Reach} {base : Nat} : ∀ {Ts : List TyF} {ts : List TypeId} {vs : List Value} {ds : List (DataW H)} {ps : List MemPlace}, tysF P Ts ts = true → (∀ (i : Nat) t v, ts[i]? = some t → vs[i]? = some v → Value.okWide P W r base t v) →
    DataW.TrodAll enc P W 0 (fun _ => true) held ts vs ds ps → ∃ avs, ArgsF Ts avs ∧ ∀ (D : Nat → Prop) (φ : Phi), φ.fz = fzW W → All2 D φ avs vs
  | [], [], vs, ds, ps, _, _, h => by
    cases vs with
    | nil => exact ⟨[], rfl, fun D φ _ => .nil⟩
    | cons v vs => cases ds <;> exact h.elim
  | T :: Ts, t :: ts, vs, ds, ps, hT, hv, h => by
    simp only [tysF, Bool.and_eq_true] at hT
    match vs, ds, h with
    | v :: vs, d :: ds, ⟨p, q, h1, h2, _⟩ =>
      obtain ⟨avs, g1, g2⟩ := open_argsF hT.2 (fun i t v ht hv' => hv (i + 1) t v (by simpa using ht) (by simpa using hv')) h2
      obtain ⟨l, k1, k2⟩ := arg_f hT.1 (hv 0 t v rfl rfl) h1
      exact ⟨mkArgF T l :: avs, ⟨l, avs, rfl, k1, g1⟩, fun D φ hφ => .cons (k2 D φ hφ) (g2 D φ hφ)⟩
  | [], _ :: _, vs, ds, ps, hT, _, h => by simp [tysF] at hT
  | _ :: _, [], vs, ds, ps, hT, _, h => by simp [tysF] at hT

theorem law_callsF {f : FuncId} {Ts : List TyF} {ts : List TypeId} {args : Array Value} {ds : List (DataW H)} {ps : List MemPlace} {r : Reach} {base n' : Nat} {h' : Hp} {v : Bool} (Gs : List (Nat × List AV)) (hG : ∀ x ∈ Gs, GlobOK W x) (hT : tysF P Ts ts = true)
    (hv : ∀ (i : Nat) t v, ts[i]? = some t → args.toList[i]? = some v → Value.okWide P W r base t v) (h : DataW.TrodAll enc P W 0 (fun _ => true) true ts args.toList ds ps)
    (core : ∀ avs, ArgsF Ts avs → FTL P f avs (glH 0 Gs) Gs.length (.b v) h' n') : Calls P f args W fun e W' => e = .returned (.bool v) ∧ Below W.heap.size W W' := by
  obtain ⟨avs, g1, g2⟩ := open_argsF hT hv h
  let φ : Phi := ⟨fun b => ((Gs[b]?).map (·.1)).getD 0, fun b => 0, fun _ => 0, fun _ => 0, fzW W⟩
  have k1 := g2 (fun b => b < Gs.length) φ rfl
  have k4 : RoOK 0 Gs.length (glH 0 Gs) (fun b => b < Gs.length) φ W := ⟨fun b k hb => by
    obtain ⟨q1, q2, g, c, q3, rfl⟩ := glH_get hb
    obtain ⟨cs, elem, fr, q4, q5⟩ := hG (g, c) (List.mem_of_getElem? q3)
    have hblk : φ.blk b = g := by simp only [Nat.sub_zero] at q3; simp [φ, q3]
    refine ⟨q1, by omega, rfl, by simpa using q2, ⟨⟨cs, elem, fr, by rw [hblk]; exact q4, fun i v hi => ?_, fun hr => (by cases hr), fun e he => (by cases he)⟩, fun g' hg' => ?_⟩⟩
    · obtain ⟨u, h1, h2⟩ := q5 (fun b => b < Gs.length) φ i v hi
      exact ⟨u, by show cs[0 + i]? = _; rw [Nat.zero_add]; exact h1, h2⟩
    · simp only [Option.some.injEq] at hg'; subst hg'; exact ⟨hblk, rfl⟩⟩
  have hH : HR (fun b => b < Gs.length) φ (hget (glH 0 Gs)) W :=
    ⟨⟨fun b k hb => ⟨(k4.at_ b k hb).2.2.2.1, (k4.at_ b k hb).2.2.2.2⟩, fun b1 b2 x1 x2 _ hb1 _ hro => by rw [(k4.at_ b1 x1 hb1).2.2.1] at hro; cases hro⟩, (fun B vs h => fzW_spec h), (fun b k B vs hb hro _ => by rw [(k4.at_ b k hb).2.2.1] at hro; cases hro)⟩
  have := core avs g1 (fun b => b < Gs.length) φ W args.toList (fun b hb => hb) hH k1
  simp only [Array.toArray_toList] at this
  refine this.mono fun e w' hx => ?_
  obtain ⟨D', φ', u, rfl, _, hr, hS⟩ := hx
  cases hr
  exact ⟨rfl, FRM.below k4 hS.frm⟩

/-- A law's contract, beside variables that were laid. -/
theorem law_postF {f : FuncId} {fn : Func} {s : ChangeSpec} {Ts : List TyF} {args : Array Value} {ds gs : List (DataW H)} {before : List MemPlace} {r : Reach} {base n' : Nat} {h' : Hp} {tb : TypeId} {fresh handsOn : Bool} (Gs : List (Nat × List AV)) (hG : ∀ x ∈ Gs, GlobOK W x)
    (hT : tysF P Ts fn.params.toList = true) (hl : laidOutB P = true) (hread : (fn.params.toList.all fun t => P.readableRec t && decide (t < P.types.size)) = true) (hres : fn.resultTypes = #[tb]) (htb : P.underlying tb = some .bool) (hvars : s.vars = [])
    (hspec : ∀ (l : List (DataW H)), l.length = Ts.length → s.fn H l = { results := [.lit (.bool true)], args := l })
    (hv : ∀ (j : Nat) t v, fn.params[j]? = some t → args[j]? = some v → Value.okWide P W r base t v) (hW : DataW.Whole enc P fn.params.toList s.vars false W args.toList ds gs before)
    (core : ∀ avs, ArgsF Ts avs → FTL P f avs (glH 0 Gs) Gs.length (.b true) h' n') : Calls P f args W fun e W' => ∃ v, e = .returned v ∧ s.post enc P fn false fresh handsOn false W args v W' := by
  have hW' := hW
  have hlt := hW.lt
  obtain ⟨p, q, hA, hV, rfl, hfz, hnd⟩ := hW
  rw [hvars] at hV
  obtain ⟨rfl, rfl⟩ := trodVars_none hV
  refine (law_callsF Gs hG hT (fun i t v ht hv' => hv i t v (by simpa using ht) (by simpa using hv')) hA core).mono fun e W' hx => ?_
  obtain ⟨rfl, hB⟩ := hx
  have hlen : ds.length = Ts.length := by
    have h1 : ∀ {ts : List TypeId} {vs : List Value} {ds : List (DataW H)} {ps : List MemPlace}, DataW.TrodAll enc P W 0 (fun _ => true) true ts vs ds ps → ds.length = ts.length := by
      intro ts
      induction ts with
      | nil => intro vs ds ps h; obtain ⟨_, rfl, _⟩ := trodAll_nil h; rfl
      | cons t ts ih => intro vs ds ps h; obtain ⟨_, _, _, _, _, _, _, rfl, _, _, h2⟩ := trodAll_cons h; simp [ih h2]
    have h2 : ∀ {Ts : List TyF} {ts : List TypeId}, tysF P Ts ts = true → Ts.length = ts.length := by
      intro Ts
      induction Ts with
      | nil => intro ts h; cases ts with
        | nil => rfl
        | cons => simp [tysF] at h
      | cons T Ts ih => intro ts h; cases ts with
        | nil => simp [tysF] at h
        | cons t ts => simp only [tysF, Bool.and_eq_true] at h; simp [ih h.2]
    rw [h1 hA, h2 hT]
  have hfn := hspec (ds ++ []) (by simpa using hlen)
  have hlt' : ∀ x ∈ p, x.block < W.heap.size := fun x hx => hlt x (by simpa using hx)
  refine ⟨_, rfl, ds, [], p ++ [], [], p, [], hW', ?_, ?_, ?_, hB.frame _, fun h => by cases h⟩
  · rw [hfn, hres]
    exact trodAll_mk1 (shut_bool htb _)
  · rw [hfn]
    simpa using Below.trodAll hl hB hread hlt' hA
  · rw [hfn, hvars]; rfl


end
end Go.Ab
