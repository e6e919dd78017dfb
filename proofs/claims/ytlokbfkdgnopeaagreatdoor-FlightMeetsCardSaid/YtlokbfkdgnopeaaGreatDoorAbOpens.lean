/- Texts laid as one: AbOpen AbLaw. -/
import Derived.Test.YtlokbfkdgnopeaaGreatDoorAbExecs
import Derived.ProofKit
import Derived.Carry
section
/- The abstract layer, part 26: a law's arguments as abstract values: plain ones, and slices of plain ones. -/
namespace Go.Ab
open Go.ChangeShapes Go.WideShapes
set_option linter.unusedVariables false
inductive Ty where
 | b
 | i (k : IntKind)
 | s
 | st (l : List Ty)
 | ar (n : Nat) (T : Ty)
mutual
def Ty.size : Ty → Nat
 | .b => 1
 | .i _ => 1
 | .s => 1
 | .st l => sizeL l
 | .ar n T => n * T.size
def sizeL : List Ty → Nat
 | [] => 0
 | T :: r => T.size + sizeL r
end
mutual
def tyIs (P : Program) : Ty → TypeId → Bool
 | .b, t => match P.underlying t with | some .bool => Nat.beq (P.cellsOf t) 1 | _ => false
 | .i k, t => match P.underlying t with | some (.int k') => decide (k' = k) && Nat.beq (P.cellsOf t) 1 | _ => false
 | .s, t => match P.underlying t with | some .string => Nat.beq (P.cellsOf t) 1 | _ => false
 | .st Ts, t => match P.underlying t with | some (.struct fs) => fldIs P Ts fs.toList 0 && Nat.beq (P.cellsOf t) (sizeL Ts) | _ => false
 | .ar n T, t => match P.underlying t with | some (.array n' e) => Nat.beq n' n && tyIs P T e && Nat.beq (P.cellsOf t) (n * T.size) | _ => false
def fldIs (P : Program) : List Ty → List Field → Nat → Bool
 | [], [], _ => true
 | T :: Ts, f :: fs, o => Nat.beq f.offset o && tyIs P T f.type && fldIs P Ts fs (o + T.size)
 | _, _, _ => false
end
mutual
def Flat : Ty → List AV → Prop
 | .b, l => ∃ x, l = [.b x]
 | .i k, l => ∃ n, l = [.i k n] ∧ k.min ≤ n ∧ n ≤ k.max
 | .s, l => ∃ x, l = [.s x] ∧ x.length ≤ maxLen
 | .st Ts, l => Flats Ts l
 | .ar n T, l => ∃ ls : List (List AV), ls.length = n ∧ l = ls.flatten ∧ ∀ x ∈ ls, Flat T x
def Flats : List Ty → List AV → Prop
 | [], l => l = []
 | T :: Ts, l => ∃ a r, l = a ++ r ∧ Flat T a ∧ Flats Ts r
end
section
variable {H : Type} {enc : TypeId × Value → H} {P : Program} {w : World} {base : Nat} {sp : Nat → Bool} {held : Bool} {D : Nat → Prop} {φ : Phi}
theorem tyIs_cells : ∀ {T : Ty} {t : TypeId}, tyIs P T t = true → P.cellsOf t = T.size
 | .b, t, h => by simp only [tyIs] at h; split at h <;> first | exact Nat.eq_of_beq_eq_true h | cases h
 | .i k, t, h => by
  simp only [tyIs] at h
  split at h
  · simp only [Bool.and_eq_true] at h; exact Nat.eq_of_beq_eq_true h.2
  · cases h
 | .s, t, h => by simp only [tyIs] at h; split at h <;> first | exact Nat.eq_of_beq_eq_true h | cases h
 | .st Ts, t, h => by
  simp only [tyIs] at h
  split at h
  · simp only [Bool.and_eq_true] at h; exact Nat.eq_of_beq_eq_true h.2
  · cases h
 | .ar n T, t, h => by
  simp only [tyIs] at h
  split at h
  · simp only [Bool.and_eq_true] at h; exact Nat.eq_of_beq_eq_true h.2
  · cases h
theorem trod_array {t e : TypeId} {n : Nat} {fuel : Nat} {cs : List Value} {x : DataW H × List MemPlace} (ht : P.underlying t = some (.array n e)) (h : DataW.trod enc P w base sp held fuel t cs = some x) :
 ∃ m, cs.length = P.cellsOf t ∧ ∀ i, i < n → ∃ y, DataW.trod enc P w base sp held m e ((cs.drop (i * P.cellsOf e)).take (P.cellsOf e)) = some y := by
 cases fuel with
 | zero => simp [DataW.trod] at h
 | succ m =>
  unfold DataW.trod at h
  rw [ht] at h
  split at h <;> simp_all
  obtain ⟨hl, xs, hp, hd⟩ := h
  refine ⟨m, fun i hi => ?_⟩
  have h1 := mapM_some_length hp
  have h2 := mapM_some_get hp i i (by simp [hi])
  simp at h1
  exact ⟨xs[i].1, xs[i].2, by simpa [h1, hi] using h2⟩
mutual
theorem open_flat : ∀ {T : Ty} {t : TypeId} {fuel : Nat} {cs : List Value} {x : DataW H × List MemPlace}, tyIs P T t = true → DataW.trod enc P w base sp held fuel t cs = some x → ∃ l, Flat T l ∧ All2 D φ l cs
 | .b, t, fuel, cs, x, hT, h => by
  simp only [tyIs] at hT
  split at hT
  · rename_i hu
    obtain ⟨b, rfl, _⟩ := DataW.trod_bool hu h
    exact ⟨[.b b], ⟨b, rfl⟩, .cons (.b b) .nil⟩
  · cases hT
 | .i k, t, fuel, cs, x, hT, h => by
  simp only [tyIs] at hT
  split at hT
  · rename_i k' hu
    simp only [Bool.and_eq_true, decide_eq_true_eq] at hT
    obtain ⟨rfl, _⟩ := hT
    obtain ⟨n, rfl, _, hw⟩ := DataW.trod_int hu h
    simp only [Lit.wf, Bool.and_eq_true, decide_eq_true_eq] at hw
    exact ⟨[.i k' n], ⟨n, rfl, hw⟩, .cons (.i k' n) .nil⟩
  · cases hT
 | .s, t, fuel, cs, x, hT, h => by
  simp only [tyIs] at hT
  split at hT
  · rename_i hu
    obtain ⟨s, rfl, _, hs⟩ := DataW.trod_string hu h
    refine ⟨[.s s.data.toList], ⟨s.data.toList, rfl, by simpa using hs⟩, .cons ?_ .nil⟩
    have := VRel.s (D := D) (φ := φ) s.data.toList
    simpa using this
  · cases hT
 | .st Ts, t, fuel, cs, x, hT, h => by
  simp only [tyIs] at hT
  split at hT
  · rename_i fs hu
    simp only [Bool.and_eq_true] at hT
    obtain ⟨xs, n, _, _, hl, hxl, hall⟩ := DataW.trod_struct hu h
    rw [Nat.eq_of_beq_eq_true hT.2] at hl
    obtain ⟨l, h1, h2⟩ := open_flats (fuel := n) (cs := cs) hT.1 (by omega) (fun f hf => by
     obtain ⟨i, hi⟩ := List.getElem?_of_mem hf
     have h1 := hall i f (by simpa using hi)
     have hlt : i < fs.size := by
      have := (List.getElem?_eq_some_iff.1 hi).1; simpa using this
     rw [h1]
     exact ⟨xs[i], by simp [hxl, hlt]⟩)
    exact ⟨l, h1, by simpa using h2⟩
  · cases hT
 | .ar n T, t, fuel, cs, x, hT, h => by
  simp only [tyIs] at hT
  split at hT
  · rename_i n' e hu
    simp only [Bool.and_eq_true] at hT
    obtain ⟨⟨hn, hT1⟩, hT2⟩ := hT
    have hn := Nat.eq_of_beq_eq_true hn
    subst hn
    obtain ⟨m, hl, hall⟩ := trod_array hu h
    rw [Nat.eq_of_beq_eq_true hT2] at hl
    have hsz := tyIs_cells hT1
    have key : ∀ m', m' ≤ n' → ∃ ls : List (List AV), ls.length = m' ∧ (∀ x ∈ ls, Flat T x) ∧ All2 D φ ls.flatten (cs.take (m' * T.size)) := by
     intro m'
     induction m' with
     | zero => intro _; exact ⟨[], rfl, (fun x hx => by cases hx), by simpa using All2.nil⟩
     | succ m' ih =>
      intro hm
      obtain ⟨ls, h1, h2, h3⟩ := ih (by omega)
      obtain ⟨y, hy⟩ := hall m' (by omega)
      rw [hsz] at hy
      obtain ⟨l, g1, g2⟩ := open_flat hT1 hy
      refine ⟨ls ++ [l], by simp [h1], fun x hx => ?_, ?_⟩
      · rcases List.mem_append.1 hx with hx | hx
        · exact h2 x hx
        · simp at hx; subst hx; exact g1
      · have : cs.take ((m' + 1) * T.size) = cs.take (m' * T.size) ++ (cs.drop (m' * T.size)).take T.size := by
         rw [Nat.add_mul, Nat.one_mul, List.take_add]
        rw [this]
        simpa using h3.append g2
    obtain ⟨ls, h1, h2, h3⟩ := key n' (Nat.le_refl _)
    refine ⟨ls.flatten, ⟨ls, h1, rfl, h2⟩, ?_⟩
    rw [List.take_of_length_le (by omega)] at h3
    exact h3
  · cases hT
theorem open_flats : ∀ {Ts : List Ty} {fs : List Field} {o : Nat} {fuel : Nat} {cs : List Value}, fldIs P Ts fs o = true → cs.length = o + sizeL Ts → (∀ f ∈ fs, ∃ y, DataW.trod enc P w base sp held fuel f.type ((cs.drop f.offset).take (P.cellsOf f.type)) = some y) → ∃ l, Flats Ts l ∧ All2 D φ l (cs.drop o)
 | [], [], o, fuel, cs, _, hl, _ => ⟨[], rfl, by
  rw [List.drop_of_length_le (by simp only [sizeL] at hl; omega)]; exact .nil⟩
 | [], _ :: _, o, fuel, cs, h, _, _ => by simp [fldIs] at h
 | _ :: _, [], o, fuel, cs, h, _, _ => by simp [fldIs] at h
 | T :: Ts, f :: fs, o, fuel, cs, h, hl, hall => by
  simp only [fldIs, Bool.and_eq_true] at h
  obtain ⟨⟨ho, hT⟩, hr⟩ := h
  have ho := Nat.eq_of_beq_eq_true ho
  obtain ⟨y, hy⟩ := hall f List.mem_cons_self
  rw [ho, tyIs_cells hT] at hy
  obtain ⟨a, g1, g2⟩ := open_flat hT hy
  simp only [sizeL] at hl
  obtain ⟨r, g3, g4⟩ := open_flats (cs := cs) hr (by omega) (fun f hf => hall f (List.mem_cons_of_mem _ hf))
  refine ⟨a ++ r, ⟨a, r, rfl, g1, g3⟩, ?_⟩
  have := g2.append g4
  rwa [← List.drop_drop, List.take_append_drop] at this
end
end
inductive Ty2 where
 | f (T : Ty)
 | sl (T : Ty)
def Ty.wide : Ty → Bool
 | .st _ => true
 | .ar _ _ => true
 | _ => false
def mkArg (T : Ty) (l : List AV) : AV :=
 match T.wide with
 | true => .agg l
 | false => l.headD .np
section
variable {H : Type} {enc : TypeId × Value → H} {P : Program} {W : World} {sp : Nat → Bool} {held : Bool}
structure RoOK (j m : Nat) (h : Hp) (D : Nat → Prop) (φ : Phi) (W : World) : Prop where
 at_ : ∀ b k, hget h b = some k → j ≤ b ∧ b < m ∧ k.ro = true ∧ D b ∧ BRel D φ W b k
theorem arg_plain {T : Ty} {t : TypeId} {r : Reach} {base : Nat} {v : Value} {d : DataW H} {ps : List MemPlace} {D : Nat → Prop} {φ : Phi} (hT : tyIs P T t = true) (hval : Value.okWide P W r base t v)
 (h : DataW.Trod enc P W 0 sp held t v d ps) : ∃ l, Flat T l ∧ VRel D φ (mkArg T l) v := by
 obtain ⟨fuel, h⟩ := h
 obtain ⟨l, h1, h2⟩ := open_flat (D := D) (φ := φ) hT h
 refine ⟨l, h1, ?_⟩
 cases T with
 | b =>
  simp only [tyIs] at hT
  split at hT
  · rename_i hu
    obtain ⟨x, rfl⟩ := h1
    obtain ⟨b, hc, _⟩ := DataW.trod_bool hu h
    simp only [Value.okWide, hu, Cell.okWide] at hval
    cases v <;> simp [Cell.ok, hu] at hval
    rw [hc] at h2
    obtain ⟨u, m, he, hr, _⟩ := h2.uncons
    simp at he
    simp [Value.cells] at hc
    rw [← hc] at he
    rw [← he.1] at hr
    exact hr
  · cases hT
 | i k =>
  simp only [tyIs] at hT
  split at hT
  · rename_i k' hu
    obtain ⟨x, rfl, _⟩ := h1
    obtain ⟨b, hc, _⟩ := DataW.trod_int hu h
    simp only [Value.okWide, hu, Cell.okWide] at hval
    cases v <;> simp [Cell.ok, hu] at hval
    rw [hc] at h2
    obtain ⟨u, m, he, hr, _⟩ := h2.uncons
    simp at he
    simp [Value.cells] at hc
    obtain ⟨rfl, rfl⟩ := hc
    rw [← he.1] at hr
    exact hr
  · cases hT
 | s =>
  simp only [tyIs] at hT
  split at hT
  · rename_i hu
    obtain ⟨x, rfl, _⟩ := h1
    obtain ⟨b, hc, _⟩ := DataW.trod_string hu h
    simp only [Value.okWide, hu, Cell.okWide] at hval
    cases v <;> simp [Cell.ok, hu] at hval
    rw [hc] at h2
    obtain ⟨u, m, he, hr, _⟩ := h2.uncons
    simp at he
    simp [Value.cells] at hc
    subst hc
    rw [← he.1] at hr
    exact hr
  · cases hT
 | st Ts =>
  simp only [tyIs] at hT
  split at hT
  · rename_i fs hu
    simp only [Value.okWide, hu] at hval
    obtain ⟨cs, rfl, _⟩ := hval
    have : VRel D φ (.agg l) (.agg cs) := by
     have := VRel.agg' h2
     simpa [Value.cells] using this
    exact this
  · cases hT
 | ar n T =>
  simp only [tyIs] at hT
  split at hT
  · rename_i n' e hu
    simp only [Value.okWide, hu] at hval
    obtain ⟨cs, rfl, _⟩ := hval
    have : VRel D φ (.agg l) (.agg cs) := by
     have := VRel.agg' h2
     simpa [Value.cells] using this
    exact this
  · cases hT
theorem RoOK.append {j m k : Nat} {h1 h2 : Hp} {D : Nat → Prop} {φ : Phi} (h : RoOK j m h1 D φ W) (h' : RoOK m k h2 D φ W) (hjm : j ≤ m) (hmk : m ≤ k) : RoOK j k (h1 ++ h2) D φ W := ⟨fun b x hb => by
 rw [hget_append] at hb
 cases hg : hget h1 b with
 | some y =>
  rw [hg] at hb
  have hb : y = x := by simpa using hb
  subst hb
  obtain ⟨g1, g2, g3⟩ := h.at_ b y hg
  exact ⟨g1, by omega, g3⟩
 | none =>
  rw [hg] at hb
  obtain ⟨g1, g2, g3⟩ := h'.at_ b x hb
  exact ⟨by omega, g2, g3⟩⟩
end
end Go.Ab
end
section
/- The abstract layer, part 27: from a function's triple to a law's contract. -/
namespace Go.Ab
open Go.ChangeShapes Go.WideShapes Go.RowKit
set_option linter.unusedVariables false
section
variable {H : Type} {enc : TypeId × Value → H} {P : Program} {W : World}
theorem FRM.below {h : Hp} {φ : Phi} {w w' : World} {j m : Nat} {D : Nat → Prop} (hr : RoOK j m h D φ w) (hf : FRM (hget h) φ w w') : Below w.heap.size w w' :=
 ⟨hf.os, hf.tape, hf.output, hf.size, fun k hk => hf.block k hk (fun b x hb hro => by rw [(hr.at_ b x hb).2.2.1] at hro; cases hro)⟩
theorem Below.trodAll (hl : laidOutB P = true) {W' : World} (hb : Below W.heap.size W W') : ∀ {ts : List TypeId} {vs : List Value} {ds : List (DataW H)} {ps : List MemPlace}, (ts.all fun t => P.readableRec t && decide (t < P.types.size)) = true → (∀ x ∈ ps, x.block < W.heap.size) →
 DataW.TrodAll enc P W 0 (fun _ => true) true ts vs ds ps → DataW.TrodAll enc P W' 0 (fun b => decide (b < W.heap.size)) true ts vs ds ps
 | [], [], [], ps, _, _, h => h
 | t :: ts, v :: vs, d :: ds, ps, ht, hlt, ⟨p, q, h1, h2, e⟩ => by
  simp only [List.all_cons, Bool.and_eq_true, decide_eq_true_eq] at ht
  subst e
  exact ⟨p, q, Below.trod hl ht.1.1 ht.1.2 h1 hb (fun x hx => hlt x (by simp [hx])), Below.trodAll hl hb ht.2 (fun x hx => hlt x (by simp [hx])) h2, rfl⟩
 | [], _ :: _, _, _, _, _, h => h.elim
 | [], [], _ :: _, _, _, _, h => h.elim
 | _ :: _, [], _, _, _, _, h => h.elim
 | _ :: _, _ :: _, [], _, _, _, h => h.elim
end
end Go.Ab
end
