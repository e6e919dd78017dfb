/- Texts laid as one: AbOpen AbLaw. -/
import Derived.Test.YthnmkedknannhaaAbExecs
import Derived.ProofKit
import Derived.Carry
section
/- The abstract layer, part 26: a law's arguments as abstract values: plain ones, and slices of plain ones. -/
namespace Go.Ab
open Go.ChangeShapes Go.WideShapes
set_option linter.unusedVariables false

inductive Ty where
  | b
  | i (k : IntKind)
  | s
  | st (l : List Ty)
  | ar (n : Nat) (T : Ty)

mutual
def Ty.size : Ty → Nat
  | .b => 1
  | .i _ => 1
  | .s => 1
  | .st l => sizeL l
  | .ar n T => n * T.size
def sizeL : List Ty → Nat
  | [] => 0
  | T :: r => T.size + sizeL r
end

mutual
def tyIs (P : Program) : Ty → TypeId → Bool
  | .b, t => match P.underlying t with | some .bool => Nat.beq (P.cellsOf t) 1 | _ => false
  | .i k, t => match P.underlying t with | some (.int k') => decide (k' = k) && Nat.beq (P.cellsOf t) 1 | _ => false
  | .s, t => match P.underlying t with | some .string => Nat.beq (P.cellsOf t) 1 | _ => false
  | .st Ts, t => match P.underlying t with | some (.struct fs) => fldIs P Ts fs.toList 0 && Nat.beq (P.cellsOf t) (sizeL Ts) | _ => false
  | .ar n T, t => match P.underlying t with | some (.array n' e) => Nat.beq n' n && tyIs P T e && Nat.beq (P.cellsOf t) (n * T.size) | _ => false
def fldIs (P : Program) : List Ty → List Field → Nat → Bool
  | [], [], _ => true
  | T :: Ts, f :: fs, o => Nat.beq f.offset o && tyIs P T f.type && fldIs P Ts fs (o + T.size)
  | _, _, _ => false
end

mutual
/-- The cells of a plain value. -/
def Flat : Ty → List AV → Prop
  | .b, l => ∃ x, l = [.b x]
  | .i k, l => ∃ n, l = [.i k n] ∧ k.min ≤ n ∧ n ≤ k.max
  | .s, l => ∃ x, l = [.s x] ∧ x.length ≤ maxLen
  | .st Ts, l => Flats Ts l
  | .ar n T, l => ∃ ls : List (List AV), ls.length = n ∧ l = ls.flatten ∧ ∀ x ∈ ls, Flat T x
def Flats : List Ty → List AV → Prop
  | [], l => l = []
  | T :: Ts, l => ∃ a r, l = a ++ r ∧ Flat T a ∧ Flats Ts r
end

section
variable {H : Type} {enc : TypeId × Value → H} {P : Program} {w : World} {base : Nat} {sp : Nat → Bool} {held : Bool} {D : Nat → Prop} {φ : Phi}

theorem tyIs_cells : ∀ {T : Ty} {t : TypeId}, tyIs P T t = true → P.cellsOf t = T.size
  | .b, t, h => by simp only [tyIs] at h; split at h <;> first | exact Nat.eq_of_beq_eq_true h | cases h
  | .i k, t, h => by
    simp only [tyIs] at h
    split at h
    · simp only [Bool.and_eq_true] at h; exact Nat.eq_of_beq_eq_true h.2
    · cases h
  | .s, t, h => by simp only [tyIs] at h; split at h <;> first | exact Nat.eq_of_beq_eq_true h | cases h
  | .st Ts, t, h => by
    simp only [tyIs] at h
    split at h
    · simp only [Bool.and_eq_true] at h; exact Nat.eq_of_beq_eq_true h.2
    · cases h
  | .ar n T, t, h => by
    simp only [tyIs] at h
    split at h
    · simp only [Bool.and_eq_true] at h; exact Nat.eq_of_beq_eq_true h.2
    · cases h

theorem trod_array {t e : TypeId} {n : Nat} {fuel : Nat} {cs : List Value} {x : DataW H × List MemPlace} (ht : P.underlying t = some (.array n e)) (h : DataW.trod enc P w base sp held fuel t cs = some x) :
    ∃ m, cs.length = P.cellsOf t ∧ ∀ i, i < n → ∃ y, DataW.trod enc P w base sp held m e ((cs.drop (i * P.cellsOf e)).take (P.cellsOf e)) = some y := by
  cases fuel with
  | zero => simp [DataW.trod] at h
  | succ m =>
    unfold DataW.trod at h
    rw [ht] at h
    split at h <;> simp_all
    obtain ⟨hl, xs, hp, hd⟩ := h
    refine ⟨m, fun i hi => ?_⟩
    have h1 := mapM_some_length hp
    have h2 := mapM_some_get hp i i (by simp [hi])
    simp at h1
    exact ⟨xs[i].1, xs[i].2, by simpa [h1, hi] using h2⟩

mutual
theorem open_flat : ∀ {T : Ty} {t : TypeId} {fuel : Nat} {cs : List Value} {x : DataW H × List MemPlace}, tyIs P T t = true → DataW.trod enc P w base sp held fuel t cs = some x → ∃ l, Flat T l ∧ All2 D φ l cs
  | .b, t, fuel, cs, x, hT, h => by
    simp only [tyIs] at hT
    split at hT
    · rename_i hu
      obtain ⟨b, rfl, _⟩ := DataW.trod_bool hu h
      exact ⟨[.b b], ⟨b, rfl⟩, .cons (.b b) .nil⟩
    · cases hT
  | .i k, t, fuel, cs, x, hT, h => by
    simp only [tyIs] at hT
    split at hT
    · rename_i k' hu
      simp only [Bool.and_eq_true, decide_eq_true_eq] at hT
      obtain ⟨rfl, _⟩ := hT
      obtain ⟨n, rfl, _, hw⟩ := DataW.trod_int hu h
      simp only [Lit.wf, Bool.and_eq_true, decide_eq_true_eq] at hw
      exact ⟨[.i k' n], ⟨n, rfl, hw⟩, .cons (.i k' n) .nil⟩
    · cases hT
  | .s, t, fuel, cs, x, hT, h => by
    simp only [tyIs] at hT
    split at hT
    · rename_i hu
      obtain ⟨s, rfl, _, hs⟩ := DataW.trod_string hu h
      refine ⟨[.s s.data.toList], ⟨s.data.toList, rfl, by simpa using hs⟩, .cons ?_ .nil⟩
      have := VRel.s (D := D) (φ := φ) s.data.toList
      simpa using this
    · cases hT
  | .st Ts, t, fuel, cs, x, hT, h => by
    simp only [tyIs] at hT
    split at hT
    · rename_i fs hu
      simp only [Bool.and_eq_true] at hT
      obtain ⟨xs, n, _, _, hl, hxl, hall⟩ := DataW.trod_struct hu h
      rw [Nat.eq_of_beq_eq_true hT.2] at hl
      obtain ⟨l, h1, h2⟩ := open_flats (fuel := n) (cs := cs) hT.1 (by omega) (fun f hf => by
        obtain ⟨i, hi⟩ := List.getElem?_of_mem hf
        have h1 := hall i f (by simpa using hi)
        have hlt : i < fs.size := by
          have := (List.getElem?_eq_some_iff.1 hi).1; simpa using this
        rw [h1]
        exact ⟨xs[i], by simp [hxl, hlt]⟩)
      exact ⟨l, h1, by simpa using h2⟩
    · cases hT
  | .ar n T, t, fuel, cs, x, hT, h => by
    simp only [tyIs] at hT
    split at hT
    · rename_i n' e hu
      simp only [Bool.and_eq_true] at hT
      obtain ⟨⟨hn, hT1⟩, hT2⟩ := hT
      have hn := Nat.eq_of_beq_eq_true hn
      subst hn
      obtain ⟨m, hl, hall⟩ := trod_array hu h
      rw [Nat.eq_of_beq_eq_true hT2] at hl
      have hsz := tyIs_cells hT1
      have key : ∀ m', m' ≤ n' → ∃ ls : List (List AV), ls.length = m' ∧ (∀ x ∈ ls, Flat T x) ∧ All2 D φ ls.flatten (cs.take (m' * T.size)) := by
        intro m'
        induction m' with
        | zero => intro _; exact ⟨[], rfl, (fun x hx => by cases hx), by simpa using All2.nil⟩
        | succ m' ih =>
          intro hm
          obtain ⟨ls, h1, h2, h3⟩ := ih (by omega)
          obtain ⟨y, hy⟩ := hall m' (by omega)
          rw [hsz] at hy
          obtain ⟨l, g1, g2⟩ := open_flat hT1 hy
          refine ⟨ls ++ [l], by simp [h1], fun x hx => ?_, ?_⟩
          · rcases List.mem_append.1 hx with hx | hx
            · exact h2 x hx
            · simp at hx; subst hx; exact g1
          · have : cs.take ((m' + 1) * T.size) = cs.take (m' * T.size) ++ (cs.drop (m' * T.size)).take T.size := by
              rw [Nat.add_mul, Nat.one_mul, List.take_add]
            rw [this]
            simpa using h3.append g2
      obtain ⟨ls, h1, h2, h3⟩ := key n' (Nat.le_refl _)
      refine ⟨ls.flatten, ⟨ls, h1, rfl, h2⟩, ?_⟩
      rw [List.take_of_length_le (by omega)] at h3
      exact h3
    · cases hT
theorem open_flats : ∀ {Ts : List Ty} {fs : List Field} {o : Nat} {fuel : Nat} {cs : List Value}, fldIs P Ts fs o = true → cs.length = o + sizeL Ts → (∀ f ∈ fs, ∃ y, DataW.trod enc P w base sp held fuel f.type ((cs.drop f.offset).take (P.cellsOf f.type)) = some y) → ∃ l, Flats Ts l ∧ All2 D φ l (cs.drop o)
  | [], [], o, fuel, cs, _, hl, _ => ⟨[], rfl, by
      rw [List.drop_of_length_le (by simp only [sizeL] at hl; omega)]; exact .nil⟩
  | [], _ :: _, o, fuel, cs, h, _, _ => by simp [fldIs] at h
  | _ :: _, [], o, fuel, cs, h, _, _ => by simp [fldIs] at h
  | T :: Ts, f :: fs, o, fuel, cs, h, hl, hall => by
    simp only [fldIs, Bool.and_eq_true] at h
    obtain ⟨⟨ho, hT⟩, hr⟩ := h
    have ho := Nat.eq_of_beq_eq_true ho
    obtain ⟨y, hy⟩ := hall f List.mem_cons_self
    rw [ho, tyIs_cells hT] at hy
    obtain ⟨a, g1, g2⟩ := open_flat hT hy
    simp only [sizeL] at hl
    obtain ⟨r, g3, g4⟩ := open_flats (cs := cs) hr (by omega) (fun f hf => hall f (List.mem_cons_of_mem _ hf))
    refine ⟨a ++ r, ⟨a, r, rfl, g1, g3⟩, ?_⟩
    have := g2.append g4
    rwa [← List.drop_drop, List.take_append_drop] at this
end

end

/-- A parameter: plain, or a slice of plain ones. -/
inductive Ty2 where
  | f (T : Ty)
  | sl (T : Ty)

def Ty.wide : Ty → Bool
  | .st _ => true
  | .ar _ _ => true
  | _ => false

def mkArg (T : Ty) (l : List AV) : AV :=
  match T.wide with
  | true => .agg l
  | false => l.headD .np

def ty2Is (P : Program) : Ty2 → TypeId → Bool
  | .f T, t => tyIs P T t
  | .sl T, t => match P.underlying t with | some (.slice e) => tyIs P T e | _ => false

def ArgShp : Ty2 → Nat → AV → Hp → Prop
  | .f T, _, v, h => ∃ l, Flat T l ∧ v = mkArg T l ∧ h = []
  | .sl T, j, v, h => (v = .ns ∧ h = []) ∨ ∃ (ls : List (List AV)) (cap : Nat), (∀ x ∈ ls, Flat T x) ∧ ls.length ≤ cap ∧ cap ≤ maxLen ∧ v = .sl j 0 ls.length cap ∧ h = [(j, { cells := ls.flatten, ro := true })]

def ArgsShp : List Ty2 → Nat → List AV → Hp → Prop
  | [], _, vs, h => vs = [] ∧ h = []
  | T :: Ts, j, vs, h => ∃ v vs' h1 h2, vs = v :: vs' ∧ h = h1 ++ h2 ∧ ArgShp T j v h1 ∧ ArgsShp Ts (j + 1) vs' h2

def tys2 (P : Program) : List Ty2 → List TypeId → Bool
  | [], [] => true
  | T :: Ts, t :: ts => ty2Is P T t && tys2 P Ts ts
  | _, _ => false

section
variable {H : Type} {enc : TypeId × Value → H} {P : Program} {W : World} {sp : Nat → Bool} {held : Bool}

/-- The heap of read-only blocks with names from j to m. -/
structure RoOK (j m : Nat) (h : Hp) (D : Nat → Prop) (φ : Phi) (W : World) : Prop where
  at_ : ∀ b k, hget h b = some k → j ≤ b ∧ b < m ∧ k.ro = true ∧ D b ∧ BRel D φ W b k

theorem arg_plain {T : Ty} {t : TypeId} {r : Reach} {base : Nat} {v : Value} {d : DataW H} {ps : List MemPlace} {D : Nat → Prop} {φ : Phi} (hT : tyIs P T t = true) (hval : Value.okWide P W r base t v)
    (h : DataW.Trod enc P W 0 sp held t v d ps) : ∃ l, Flat T l ∧ VRel D φ (mkArg T l) v := by
  obtain ⟨fuel, h⟩ := h
  obtain ⟨l, h1, h2⟩ := open_flat (D := D) (φ := φ) hT h
  refine ⟨l, h1, ?_⟩
  cases T with
  | b =>
    simp only [tyIs] at hT
    split at hT
    · rename_i hu
      obtain ⟨x, rfl⟩ := h1
      obtain ⟨b, hc, _⟩ := DataW.trod_bool hu h
      simp only [Value.okWide, hu, Cell.okWide] at hval
      cases v <;> simp [Cell.ok, hu] at hval
      rw [hc] at h2
      obtain ⟨u, m, he, hr, _⟩ := h2.uncons
      simp at he
      simp [Value.cells] at hc
      rw [← hc] at he
      rw [← he.1] at hr
      exact hr
    · cases hT
  | i k =>
    simp only [tyIs] at hT
    split at hT
    · rename_i k' hu
      obtain ⟨x, rfl, _⟩ := h1
      obtain ⟨b, hc, _⟩ := DataW.trod_int hu h
      simp only [Value.okWide, hu, Cell.okWide] at hval
      cases v <;> simp [Cell.ok, hu] at hval
      rw [hc] at h2
      obtain ⟨u, m, he, hr, _⟩ := h2.uncons
      simp at he
      simp [Value.cells] at hc
      obtain ⟨rfl, rfl⟩ := hc
      rw [← he.1] at hr
      exact hr
    · cases hT
  | s =>
    simp only [tyIs] at hT
    split at hT
    · rename_i hu
      obtain ⟨x, rfl, _⟩ := h1
      obtain ⟨b, hc, _⟩ := DataW.trod_string hu h
      simp only [Value.okWide, hu, Cell.okWide] at hval
      cases v <;> simp [Cell.ok, hu] at hval
      rw [hc] at h2
      obtain ⟨u, m, he, hr, _⟩ := h2.uncons
      simp at he
      simp [Value.cells] at hc
      subst hc
      rw [← he.1] at hr
      exact hr
    · cases hT
  | st Ts =>
    simp only [tyIs] at hT
    split at hT
    · rename_i fs hu
      simp only [Value.okWide, hu] at hval
      obtain ⟨cs, rfl, _⟩ := hval
      have : VRel D φ (.agg l) (.agg cs) := by
        have := VRel.agg' h2
        simpa [Value.cells] using this
      exact this
    · cases hT
  | ar n T =>
    simp only [tyIs] at hT
    split at hT
    · rename_i n' e hu
      simp only [Value.okWide, hu] at hval
      obtain ⟨cs, rfl, _⟩ := hval
      have : VRel D φ (.agg l) (.agg cs) := by
        have := VRel.agg' h2
        simpa [Value.cells] using this
      exact this
    · cases hT

theorem arg_slice {T : Ty} {t e : TypeId} {r : Reach} {base : Nat} {v : Value} {d : DataW H} {ps : List MemPlace} {j : Nat} (hu : P.underlying t = some (.slice e)) (hT : tyIs P T e = true) (hval : Value.okWide P W r base t v)
    (h : DataW.Trod enc P W 0 (fun _ => true) held t v d ps) : ∃ (av : AV) (hp : Hp) (F : Nat × Nat), ArgShp (.sl T) j av hp ∧ ∀ (D : Nat → Prop) (φ : Phi), φ.blk j = F.1 → φ.off j = F.2 → D j → VRel D φ av v ∧ RoOK j (j + 1) hp D φ W := by
  obtain ⟨fuel, h⟩ := h
  simp only [Value.okWide, hu, Cell.okWide] at hval
  rcases DataW.trod_slice hu h with ⟨hc, _⟩ | ⟨a, len, cap, elems, rest, n, _, hc, _, hb, hl, hm, hlen, hel, _⟩
  · cases v <;> simp [Cell.ok, hu] at hval
    rename_i o l c
    simp [Value.cells] at hc
    obtain ⟨rfl, rfl, rfl⟩ := hc
    exact ⟨.ns, [], (0, 0), .inl ⟨rfl, rfl⟩, fun D φ _ _ _ => ⟨.ns, ⟨fun b k hb => by simp [hget] at hb⟩⟩⟩
  · cases v <;> simp [Cell.ok, hu] at hval
    rename_i o l' c
    simp [Value.cells] at hc
    obtain ⟨rfl, rfl, rfl⟩ := hc
    obtain ⟨_, _, _, hspot, row, cells, hsh, _⟩ := hval
    have hsz := tyIs_cells hT
    have key : ∀ m', m' ≤ l' → ∃ ls : List (List AV), ls.length = m' ∧ (∀ x ∈ ls, Flat T x) ∧ ∃ us : List Value, us.length = m' * T.size ∧ (∀ (D : Nat → Prop) (φ : Phi), All2 D φ ls.flatten us) ∧ ∀ i, i < m' * T.size → W.cell? ⟨a.block, a.off + i, none⟩ = us[i]? := by
      intro m'
      induction m' with
      | zero => intro _; exact ⟨[], rfl, (fun x hx => by cases hx), [], by simp, (fun D φ => by simpa using All2.nil), fun i hi => by simp at hi⟩
      | succ m' ih =>
        intro hm'
        obtain ⟨ls, h1, h2, us, h3, h4, h5⟩ := ih (by omega)
        have hy := hel m' (by omega)
        rw [List.getElem?_eq_getElem (by omega), Option.bind_eq_some_iff, hsz] at hy
        obtain ⟨cs, hcs, hy⟩ := hy
        obtain ⟨_, g1, g2⟩ := World.cells?_some hcs
        have hflat : ∃ l, Flat T l ∧ ∀ (D : Nat → Prop) (φ : Phi), All2 D φ l cs := by
          obtain ⟨l, f1, f2⟩ := open_flat (D := fun _ => False) (φ := ⟨fun _ => 0, fun _ => 0, fun _ => 0, fun _ => 0, fun _ => none, fun _ => none⟩) hT hy
          exact ⟨l, f1, fun D φ => ⟨f2.1, fun i x u hx hu => (f2.2 i x u hx hu).mono' (fun b hb => hb.elim) (fun b hb => hb.elim) (fun _ _ h => by cases h) (fun _ _ h => by cases h)⟩⟩
        obtain ⟨l, f1, f2⟩ := hflat
        refine ⟨ls ++ [l], by simp [h1], fun x hx => ?_, us ++ cs, by simp [h3, g1, Nat.add_mul], fun D φ => ?_, fun i hi => ?_⟩
        · rcases List.mem_append.1 hx with hx | hx
          · exact h2 x hx
          · simp at hx; subst hx; exact f1
        · simpa using (h4 D φ).append (f2 D φ)
        · by_cases hlt : i < m' * T.size
          · rw [List.getElem?_append_left (by omega)]; exact h5 i hlt
          · rw [Nat.add_mul, Nat.one_mul] at hi
            rw [List.getElem?_append_right (by omega), h3]
            have := g2 (i - m' * T.size) (by omega)
            rw [← this]
            congr 1
            have hadd : ∀ (a : Addr) (n : Nat), a.spot = none → a.add n = ⟨a.block, a.off + n, none⟩ := fun a n ha => by
              unfold Addr.add
              split
              · rename_i hn; subst hn; cases a; simp_all
              · rfl
            have hs2 : (a.add (m' * T.size)).spot = none := by rw [hadd a _ hspot]
            rw [hadd _ _ hs2, hadd a _ hspot]
            simp only [Addr.mk.injEq, and_true, true_and]
            omega
    obtain ⟨ls, h1, h2, us, h3, h4, h5⟩ := key l' (Nat.le_refl _)
    refine ⟨.sl j 0 l' c, [(j, { cells := ls.flatten, ro := true })], (a.block, a.off), .inr ⟨ls, c, h2, by omega, hm, by rw [h1], rfl⟩, fun D φ hφ1 hφ2 hD => ⟨?_, ⟨fun b k hb => ?_⟩⟩⟩
    · have := VRel.sl (D := D) (φ := φ) j 0 l' c hD
      rw [hφ1, hφ2] at this
      have ha : a = ⟨a.block, a.off + 0, none⟩ := by cases a; simp_all
      rw [ha]
      exact this
    · simp only [hget] at hb
      by_cases hbj : b = j
      · subst hbj
        simp at hb; subst hb
        refine ⟨Nat.le_refl _, by omega, rfl, hD, ⟨?_, fun g hg => by cases hg⟩⟩
        simp only [World.shape?] at hsh
        split at hsh
        · rename_i cs elem fr hblk
          refine ⟨cs, elem, fr, by rw [hφ1]; exact hblk, fun i v hv => ?_, fun hr => (by cases hr), fun e he => (by cases he)⟩
          have hA := h4 D φ
          obtain ⟨u, hu, hr⟩ := hA.get hv
          have hi : i < l' * T.size := by
            have := (List.getElem?_eq_some_iff.1 hu).1; omega
          refine ⟨u, ?_, hr⟩
          have := h5 i hi
          rw [hu] at this
          simp only [World.cell?, hblk] at this
          simpa [hφ2] using this
        · cases hsh
      · rw [beq_ne hbj] at hb; simp at hb

theorem RoOK.append {j m k : Nat} {h1 h2 : Hp} {D : Nat → Prop} {φ : Phi} (h : RoOK j m h1 D φ W) (h' : RoOK m k h2 D φ W) (hjm : j ≤ m) (hmk : m ≤ k) : RoOK j k (h1 ++ h2) D φ W := ⟨fun b x hb => by
  rw [hget_append] at hb
  cases hg : hget h1 b with
  | some y =>
    rw [hg] at hb
    have hb : y = x := by simpa using hb
    subst hb
    obtain ⟨g1, g2, g3⟩ := h.at_ b y hg
    exact ⟨g1, by omega, g3⟩
  | none =>
    rw [hg] at hb
    obtain ⟨g1, g2, g3⟩ := h'.at_ b x hb
    exact ⟨by omega, g2, g3⟩⟩

theorem open_args {r : Reach} {base : Nat} : ∀ {Ts : List Ty2} {ts : List TypeId} {vs : List Value} {ds : List (DataW H)} {ps : List MemPlace} {j : Nat}, tys2 P Ts ts = true → (∀ (i : Nat) t v, ts[i]? = some t → vs[i]? = some v → Value.okWide P W r base t v) →
    DataW.TrodAll enc P W 0 (fun _ => true) held ts vs ds ps → ∃ (avs : List AV) (hp : Hp) (F : Nat → Nat × Nat), ArgsShp Ts j avs hp ∧ ∀ (D : Nat → Prop) (φ : Phi), (∀ b, j ≤ b → b < j + Ts.length → φ.blk b = (F b).1 ∧ φ.off b = (F b).2 ∧ D b) → All2 D φ avs vs ∧ RoOK j (j + Ts.length) hp D φ W
  | [], [], vs, ds, ps, j, _, _, h => by
    cases vs with
    | nil => exact ⟨[], [], fun _ => (0, 0), ⟨rfl, rfl⟩, fun D φ _ => ⟨.nil, ⟨fun b k hb => by simp [hget] at hb⟩⟩⟩
    | cons v vs => cases ds <;> exact h.elim
  | T :: Ts, t :: ts, vs, ds, ps, j, hT, hv, h => by
    simp only [tys2, Bool.and_eq_true] at hT
    match vs, ds, h with
    | v :: vs, d :: ds, ⟨p, q, h1, h2, _⟩ =>
      obtain ⟨avs, hp, F, g1, g2⟩ := open_args (j := j + 1) hT.2 (fun i t v ht hv' => hv (i + 1) t v (by simpa using ht) (by simpa using hv')) h2
      have hv0 := hv 0 t v rfl rfl
      have one : ∃ (av : AV) (hp1 : Hp) (F1 : Nat × Nat), ArgShp T j av hp1 ∧ ∀ (D : Nat → Prop) (φ : Phi), φ.blk j = F1.1 → φ.off j = F1.2 → D j → VRel D φ av v ∧ RoOK j (j + 1) hp1 D φ W := by
        cases T with
        | f T =>
          obtain ⟨l, f1, _⟩ := arg_plain (D := fun _ => False) (φ := ⟨fun _ => 0, fun _ => 0, fun _ => 0, fun _ => 0, fun _ => none, fun _ => none⟩) hT.1 hv0 h1
          obtain ⟨l, f1, f2⟩ := arg_plain (D := fun _ => False) (φ := ⟨fun _ => 0, fun _ => 0, fun _ => 0, fun _ => 0, fun _ => none, fun _ => none⟩) hT.1 hv0 h1
          exact ⟨mkArg T l, [], (0, 0), ⟨l, f1, rfl, rfl⟩, fun D φ _ _ _ => ⟨f2.mono' (fun b hb => hb.elim) (fun b hb => hb.elim) (fun _ _ h => by cases h) (fun _ _ h => by cases h), ⟨fun b k hb => by simp [hget] at hb⟩⟩⟩
        | sl T =>
          have hT1 := hT.1
          simp only [ty2Is] at hT1
          split at hT1
          · rename_i e hu
            exact arg_slice hu hT1 hv0 h1
          · cases hT1
      obtain ⟨av, hp1, F1, k1, k2⟩ := one
      refine ⟨av :: avs, hp1 ++ hp, fun b => if b = j then F1 else F b, ⟨av, avs, hp1, hp, rfl, rfl, k1, g1⟩, fun D φ hφ => ?_⟩
      simp only [List.length_cons] at hφ
      obtain ⟨e1, e2, e3⟩ := hφ j (Nat.le_refl _) (by omega)
      simp only [if_true] at e1 e2
      obtain ⟨a1, a2⟩ := k2 D φ e1 e2 e3
      obtain ⟨b1, b2⟩ := g2 D φ (fun b hb1 hb2 => by
        have := hφ b (by omega) (by omega)
        rw [if_neg (by omega)] at this
        exact this)
      refine ⟨.cons a1 b1, ?_⟩
      have := RoOK.append a2 b2 (by omega) (by omega)
      simp only [List.length_cons]
      rw [show j + (Ts.length + 1) = j + 1 + Ts.length by omega]
      exact this
  | [], _ :: _, vs, ds, ps, j, hT, _, h => by simp [tys2] at hT
  | _ :: _, [], vs, ds, ps, j, hT, _, h => by simp [tys2] at hT

end
end Go.Ab
end
section
/- The abstract layer, part 27: from a function's triple to a law's contract. -/
namespace Go.Ab
open Go.ChangeShapes Go.WideShapes Go.RowKit
set_option linter.unusedVariables false

section
variable {H : Type} {enc : TypeId × Value → H} {P : Program} {W : World}

theorem FRM.below {h : Hp} {φ : Phi} {w w' : World} {j m : Nat} {D : Nat → Prop} (hr : RoOK j m h D φ w) (hf : FRM (hget h) φ w w') : Below w.heap.size w w' :=
  ⟨hf.os, hf.tape, hf.output, hf.size, fun k hk => hf.block k hk (fun b x hb hro => by rw [(hr.at_ b x hb).2.2.1] at hro; cases hro)⟩

theorem law_calls {f : FuncId} {Ts : List Ty2} {ts : List TypeId} {args : Array Value} {ds : List (DataW H)} {ps : List MemPlace} {r : Reach} {base n' : Nat} {h' : Hp} {v : Bool} (hT : tys2 P Ts ts = true)
    (hv : ∀ (i : Nat) t v, ts[i]? = some t → args.toList[i]? = some v → Value.okWide P W r base t v) (h : DataW.TrodAll enc P W 0 (fun _ => true) true ts args.toList ds ps)
    (core : ∀ avs hp, ArgsShp Ts 0 avs hp → FTL P f avs hp Ts.length (.b v) h' n') (hy : f ≠ YB := by decide) : Calls P f args W fun e W' => e = .returned (.bool v) ∧ Below W.heap.size W W' := by
  obtain ⟨avs, hp, F, g1, g2⟩ := open_args (j := 0) hT hv h
  obtain ⟨k1, k2⟩ := g2 (fun b => b < Ts.length) ⟨fun b => (F b).1, fun b => (F b).2, fun _ => 0, fun _ => 0, fun _ => none, fun _ => none⟩ (fun b _ hb => ⟨rfl, rfl, by simpa using hb⟩)
  have hH : HR (fun b => b < Ts.length) ⟨fun b => (F b).1, fun b => (F b).2, fun _ => 0, fun _ => 0, fun _ => none, fun _ => none⟩ (hget hp) W :=
    ⟨⟨fun b k hb => ⟨(k2.at_ b k hb).2.2.2.1, (k2.at_ b k hb).2.2.2.2⟩, fun b1 b2 x1 x2 _ hb1 _ hro => by rw [(k2.at_ b1 x1 hb1).2.2.1] at hro; cases hro⟩, (fun B vs h => by cases h), (fun L r h => by cases h), (fun b k B vs _ _ h => by cases h)⟩
  have := core avs hp g1 (fun b => b < Ts.length) _ W args.toList (fun b hb => hb) hH k1
  simp only [Array.toArray_toList] at this
  refine (this.calls hy).mono fun e w' hx => ?_
  obtain ⟨D', φ', u, rfl, _, hr, hS⟩ := hx
  cases hr
  exact ⟨rfl, FRM.below k2 hS.frm⟩

theorem Below.trodAll (hl : laidOutB P = true) {W' : World} (hb : Below W.heap.size W W') : ∀ {ts : List TypeId} {vs : List Value} {ds : List (DataW H)} {ps : List MemPlace}, (ts.all fun t => P.readableRec t && decide (t < P.types.size)) = true → (∀ x ∈ ps, x.block < W.heap.size) →
    DataW.TrodAll enc P W 0 (fun _ => true) true ts vs ds ps → DataW.TrodAll enc P W' 0 (fun b => decide (b < W.heap.size)) true ts vs ds ps
  | [], [], [], ps, _, _, h => h
  | t :: ts, v :: vs, d :: ds, ps, ht, hlt, ⟨p, q, h1, h2, e⟩ => by
    simp only [List.all_cons, Bool.and_eq_true, decide_eq_true_eq] at ht
    subst e
    exact ⟨p, q, Below.trod hl ht.1.1 ht.1.2 h1 hb (fun x hx => hlt x (by simp [hx])), Below.trodAll hl hb ht.2 (fun x hx => hlt x (by simp [hx])) h2, rfl⟩
  | [], _ :: _, _, _, _, _, h => h.elim
  | [], [], _ :: _, _, _, _, h => h.elim
  | _ :: _, [], _, _, _, _, h => h.elim
  | _ :: _, _ :: _, [], _, _, _, h => h.elim

/-- A law's contract: true; everything that came in reads as it did. -/
theorem law_post {f : FuncId} {fn : Func} {s : ChangeSpec} {Ts : List Ty2} {args : Array Value} {ds gs : List (DataW H)} {before : List MemPlace} {r : Reach} {base n' : Nat} {h' : Hp} {tb : TypeId} {fresh handsOn : Bool}
    (hT : tys2 P Ts fn.params.toList = true) (hl : laidOutB P = true) (hread : (fn.params.toList.all fun t => P.readableRec t && decide (t < P.types.size)) = true) (hres : fn.resultTypes = #[tb]) (htb : P.underlying tb = some .bool) (hvars : s.vars = [])
    (hspec : ∀ (l : List (DataW H)), l.length = Ts.length → s.fn H l = { results := [.lit (.bool true)], args := l })
    (hv : ∀ (j : Nat) t v, fn.params[j]? = some t → args[j]? = some v → Value.okWide P W r base t v) (hW : DataW.Whole enc P fn.params.toList s.vars false W args.toList ds gs before)
    (core : ∀ avs hp, ArgsShp Ts 0 avs hp → FTL P f avs hp Ts.length (.b true) h' n') (hy : f ≠ YB := by decide) : Calls P f args W fun e W' => ∃ v, e = .returned v ∧ s.post enc P fn false fresh handsOn false W args v W' := by
  have hW' := hW
  have hlt := hW.lt
  obtain ⟨p, q, hA, hV, rfl, hfz, hnd⟩ := hW
  rw [hvars] at hV
  obtain ⟨rfl, rfl⟩ := trodVars_none hV
  refine (law_calls hT (fun i t v ht hv' => hv i t v (by simpa using ht) (by simpa using hv')) hA core hy).mono fun e W' hx => ?_
  obtain ⟨rfl, hB⟩ := hx
  have hlen : ds.length = Ts.length := by
    have h1 : ∀ {ts : List TypeId} {vs : List Value} {ds : List (DataW H)} {ps : List MemPlace}, DataW.TrodAll enc P W 0 (fun _ => true) true ts vs ds ps → ds.length = ts.length := by
      intro ts
      induction ts with
      | nil => intro vs ds ps h; obtain ⟨_, rfl, _⟩ := trodAll_nil h; rfl
      | cons t ts ih => intro vs ds ps h; obtain ⟨_, _, _, _, _, _, _, rfl, _, _, h2⟩ := trodAll_cons h; simp [ih h2]
    have h2 : ∀ {Ts : List Ty2} {ts : List TypeId}, tys2 P Ts ts = true → Ts.length = ts.length := by
      intro Ts
      induction Ts with
      | nil => intro ts h; cases ts with
        | nil => rfl
        | cons => simp [tys2] at h
      | cons T Ts ih => intro ts h; cases ts with
        | nil => simp [tys2] at h
        | cons t ts => simp only [tys2, Bool.and_eq_true] at h; simp [ih h.2]
    rw [h1 hA, h2 hT]
  have hfn := hspec (ds ++ []) (by simpa using hlen)
  have hlt' : ∀ x ∈ p, x.block < W.heap.size := fun x hx => hlt x (by simpa using hx)
  refine ⟨_, rfl, ds, [], p ++ [], [], p, [], hW', ?_, ?_, ?_, hB.frame _, fun h => by cases h⟩
  · rw [hfn, hres]
    exact trodAll_mk1 (shut_bool htb _)
  · rw [hfn]
    simpa using Below.trodAll hl hB hread hlt' hA
  · rw [hfn, hvars]; rfl

end
end Go.Ab
end
