/- The abstract layer, part 1: abstract values and heaps, how they stand for the model's, steps between states, the frame rule. Generic over the program. -/
import Derived.WalkKit
import Derived.KernelRfl
namespace Go.Ab
set_option linter.unusedVariables false

/-- Abstract values. Pointers name abstract blocks. -/
inductive AV where
  | b (x : Bool)
  | i (k : IntKind) (n : Int)
  | s (l : List UInt8)
  | np
  | p (b o : Nat)
  | ns
  | sl (b o len cap : Nat)
  | sg (b o len : Nat)
  | fn (f : FuncId) (caps : List AV)
  | nf
  | ni
  | agg (l : List AV)
  | tup (l : List AV)

instance : Inhabited AV := ⟨.np⟩

/-- Where an abstract block lies: its concrete block, the place of its first cell there, and (for blocks made by growth) the capacity and the element's cells. -/
structure Phi where
  blk : Nat → Nat
  off : Nat → Nat
  cap : Nat → Nat
  esz : Nat → Nat

def Agree (D : Nat → Prop) (φ φ' : Phi) : Prop := ∀ b, D b → φ'.blk b = φ.blk b ∧ φ'.off b = φ.off b ∧ φ'.cap b = φ.cap b ∧ φ'.esz b = φ.esz b

inductive VRel (D : Nat → Prop) (φ : Phi) : AV → Value → Prop
  | b (x : Bool) : VRel D φ (.b x) (.bool x)
  | i (k : IntKind) (n : Int) : VRel D φ (.i k n) (.int k n)
  | s (l : List UInt8) : VRel D φ (.s l) (.string ⟨l.toArray⟩)
  | np : VRel D φ .np (.pointer none)
  | p (b o : Nat) (h : D b) : VRel D φ (.p b o) (.pointer (some ⟨φ.blk b, φ.off b + o, none⟩))
  | ns : VRel D φ .ns (.slice none 0 0)
  | sl (b o len cap : Nat) (h : D b) : VRel D φ (.sl b o len cap) (.slice (some ⟨φ.blk b, φ.off b + o, none⟩) len cap)
  | sg (b o len j cap : Nat) (h : D b) (hj : j * φ.esz b = o) (hc : j + cap = φ.cap b) (hl : len ≤ cap) :
      VRel D φ (.sg b o len) (.slice (some ⟨φ.blk b, φ.off b + o, none⟩) len cap)
  | fn (f : FuncId) (l : List AV) (cs : Array Value) (hl : l.length = cs.size) (h : ∀ (i : Nat) (a : AV) (u : Value), l[i]? = some a → cs[i]? = some u → VRel D φ a u) :
      VRel D φ (.fn f l) (.func (.func f) #[] cs)
  | nf : VRel D φ .nf .nilFunc
  | ni : VRel D φ .ni .nilIface
  | agg (l : List AV) (cs : Array Value) (hl : l.length = cs.size) (h : ∀ (i : Nat) (a : AV) (u : Value), l[i]? = some a → cs[i]? = some u → VRel D φ a u) :
      VRel D φ (.agg l) (.agg cs)
  | tup (l : List AV) (cs : Array Value) (hl : l.length = cs.size) (h : ∀ (i : Nat) (a : AV) (u : Value), l[i]? = some a → cs[i]? = some u → VRel D φ a u) :
      VRel D φ (.tup l) (.tuple cs)

theorem VRel.mono {D D' : Nat → Prop} {φ φ' : Phi} (hD : ∀ b, D b → D' b) (hφ : Agree D φ φ') {v : AV} {u : Value} (h : VRel D φ v u) : VRel D' φ' v u := by
  induction h with
  | b x => exact .b x
  | i k n => exact .i k n
  | s l => exact .s l
  | np => exact .np
  | p b o h => obtain ⟨h1, h2, _, _⟩ := hφ b h; rw [← h1, ← h2]; exact .p b o (hD b h)
  | ns => exact .ns
  | sl b o len cap h => obtain ⟨h1, h2, _, _⟩ := hφ b h; rw [← h1, ← h2]; exact .sl b o len cap (hD b h)
  | sg b o len j cap h hj hc hl => obtain ⟨h1, h2, h3, h4⟩ := hφ b h; rw [← h1, ← h2]; exact .sg b o len j cap (hD b h) (by rw [h4]; exact hj) (by rw [h3]; exact hc) hl
  | fn f l cs hl h ih => exact .fn f l cs hl ih
  | nf => exact .nf
  | ni => exact .ni
  | agg l cs hl h ih => exact .agg l cs hl ih
  | tup l cs hl h ih => exact .tup l cs hl ih

/-- Two lists, entry by entry. -/
def All2 (D : Nat → Prop) (φ : Phi) (l : List AV) (m : List Value) : Prop :=
  l.length = m.length ∧ ∀ (i : Nat) (a : AV) (u : Value), l[i]? = some a → m[i]? = some u → VRel D φ a u

theorem All2.nil {D : Nat → Prop} {φ : Phi} : All2 D φ [] [] := ⟨rfl, fun i a u h => by simp at h⟩
theorem All2.cons {D : Nat → Prop} {φ : Phi} {a : AV} {u : Value} {l : List AV} {m : List Value} (h : VRel D φ a u) (t : All2 D φ l m) : All2 D φ (a :: l) (u :: m) := by
  refine ⟨by simp [t.1], fun i x y hx hy => ?_⟩
  cases i with
  | zero => simp at hx hy; subst hx; subst hy; exact h
  | succ i => simp at hx hy; exact t.2 i x y hx hy
theorem All2.uncons {D : Nat → Prop} {φ : Phi} {a : AV} {l : List AV} {m : List Value} (h : All2 D φ (a :: l) m) : ∃ u m', m = u :: m' ∧ VRel D φ a u ∧ All2 D φ l m' := by
  cases m with
  | nil => have := h.1; simp at this
  | cons u m' =>
    refine ⟨u, m', rfl, h.2 0 a u (by simp) (by simp), by have := h.1; simpa using this, fun i x y hx hy => h.2 (i + 1) x y (by simpa using hx) (by simpa using hy)⟩
theorem All2.unnil {D : Nat → Prop} {φ : Phi} {m : List Value} (h : All2 D φ [] m) : m = [] := by
  cases m with
  | nil => rfl
  | cons u m' => have := h.1; simp at this
theorem All2.mono {D D' : Nat → Prop} {φ φ' : Phi} (hD : ∀ b, D b → D' b) (hφ : Agree D φ φ') {l : List AV} {m : List Value} (h : All2 D φ l m) : All2 D' φ' l m :=
  ⟨h.1, fun i a u ha hu => (h.2 i a u ha hu).mono hD hφ⟩
theorem All2.get {D : Nat → Prop} {φ : Phi} {l : List AV} {m : List Value} (h : All2 D φ l m) {i : Nat} {a : AV} (ha : l[i]? = some a) : ∃ u, m[i]? = some u ∧ VRel D φ a u := by
  have hi : i < l.length := by
    rcases Nat.lt_or_ge i l.length with h' | h'
    · exact h'
    · rw [List.getElem?_eq_none h'] at ha; cases ha
  have hm : i < m.length := by rw [← h.1]; exact hi
  exact ⟨m[i], by simp [hm], h.2 i a _ ha (by simp [hm])⟩
theorem All2.append {D : Nat → Prop} {φ : Phi} {l l' : List AV} {m m' : List Value} (h : All2 D φ l m) (h' : All2 D φ l' m') : All2 D φ (l ++ l') (m ++ m') := by
  refine ⟨by simp [h.1, h'.1], fun i a u ha hu => ?_⟩
  by_cases hi : i < l.length
  · rw [List.getElem?_append_left hi] at ha
    rw [List.getElem?_append_left (by rw [← h.1]; exact hi)] at hu
    exact h.2 i a u ha hu
  · rw [List.getElem?_append_right (by omega)] at ha
    rw [List.getElem?_append_right (by rw [← h.1]; omega), ← h.1] at hu
    exact h'.2 _ a u ha hu
theorem All2.drop {D : Nat → Prop} {φ : Phi} {l : List AV} {m : List Value} (n : Nat) (h : All2 D φ l m) : All2 D φ (l.drop n) (m.drop n) :=
  ⟨by simp [h.1], fun i a u ha hu => h.2 (n + i) a u (by simpa using ha) (by simpa using hu)⟩
theorem All2.take {D : Nat → Prop} {φ : Phi} {l : List AV} {m : List Value} (n : Nat) (h : All2 D φ l m) : All2 D φ (l.take n) (m.take n) := by
  refine ⟨by simp [h.1], fun i a u ha hu => ?_⟩
  rw [List.getElem?_take] at ha hu
  split at ha
  · rename_i hi; rw [if_pos hi] at hu; exact h.2 i a u ha hu
  · cases ha
theorem All2.set {D : Nat → Prop} {φ : Phi} {l : List AV} {m : List Value} {j : Nat} {x : AV} {y : Value} (h : All2 D φ l m) (hx : VRel D φ x y) : All2 D φ (l.set j x) (m.set j y) := by
  refine ⟨by simp [h.1], fun i a u ha hu => ?_⟩
  rw [List.getElem?_set] at ha hu
  by_cases hij : j = i
  · subst hij
    simp only [if_true] at ha hu
    split at ha
    · rename_i hl; rw [if_pos (by rw [← h.1]; exact hl)] at hu; cases ha; cases hu; exact hx
    · cases ha
  · rw [if_neg hij] at ha hu; exact h.2 i a u ha hu

theorem VRel.agg' {D : Nat → Prop} {φ : Phi} {l : List AV} {m : List Value} (h : All2 D φ l m) : VRel D φ (.agg l) (.agg m.toArray) :=
  .agg l m.toArray (by simp [h.1]) (fun i a u ha hu => h.2 i a u ha (by simpa using hu))
theorem VRel.tup' {D : Nat → Prop} {φ : Phi} {l : List AV} {m : List Value} (h : All2 D φ l m) : VRel D φ (.tup l) (.tuple m.toArray) :=
  .tup l m.toArray (by simp [h.1]) (fun i a u ha hu => h.2 i a u ha (by simpa using hu))
theorem VRel.fn' {D : Nat → Prop} {φ : Phi} {f : FuncId} {l : List AV} {m : List Value} (h : All2 D φ l m) : VRel D φ (.fn f l) (.func (.func f) #[] m.toArray) :=
  .fn f l m.toArray (by simp [h.1]) (fun i a u ha hu => h.2 i a u ha (by simpa using hu))
theorem VRel.agg_inv {D : Nat → Prop} {φ : Phi} {l : List AV} {u : Value} (h : VRel D φ (.agg l) u) : ∃ m : List Value, u = .agg m.toArray ∧ All2 D φ l m := by
  cases h with
  | agg _ cs hl h => exact ⟨cs.toList, rfl, by simpa using hl, fun i a u ha hu => h i a u ha (by simpa using hu)⟩
theorem VRel.tup_inv {D : Nat → Prop} {φ : Phi} {l : List AV} {u : Value} (h : VRel D φ (.tup l) u) : ∃ m : List Value, u = .tuple m.toArray ∧ All2 D φ l m := by
  cases h with
  | tup _ cs hl h => exact ⟨cs.toList, rfl, by simpa using hl, fun i a u ha hu => h i a u ha (by simpa using hu)⟩
theorem VRel.fn_inv {D : Nat → Prop} {φ : Phi} {f : FuncId} {l : List AV} {u : Value} (h : VRel D φ (.fn f l) u) : ∃ m : List Value, u = .func (.func f) #[] m.toArray ∧ All2 D φ l m := by
  cases h with
  | fn _ _ cs hl h => exact ⟨cs.toList, rfl, by simpa using hl, fun i a u ha hu => h i a u ha (by simpa using hu)⟩

/-- An abstract block: its cells; may it be written; was it made by growth (the element's cells); is it a package variable's. -/
structure Blk where
  cells : List AV
  ro : Bool := false
  gr : Option Nat := none
  gid : Option Nat := none

abbrev Hf := Nat → Option Blk

/-- A block's cells lie where the renaming says. -/
structure BRel (D : Nat → Prop) (φ : Phi) (w : World) (b : Nat) (k : Blk) : Prop where
  ex : ∃ cs elem fr, w.heap[φ.blk b]? = some (.cells cs elem fr) ∧
    (∀ (i : Nat) (v : AV), k.cells[i]? = some v → ∃ u, cs[φ.off b + i]? = some u ∧ VRel D φ v u) ∧
    (k.ro = false → φ.off b = 0 ∧ ∀ i, i < cs.size → ¬ (fr.1 ≤ i ∧ i < fr.2)) ∧
    (∀ e, k.gr = some e → k.ro = false ∧ φ.esz b = e ∧ cs.size = φ.cap b * e)
  gid : ∀ g, k.gid = some g → φ.blk b = g ∧ φ.off b = 0

/-- The heap relation. -/
structure HR (D : Nat → Prop) (φ : Phi) (H : Hf) (w : World) : Prop where
  at_ : ∀ b k, H b = some k → D b ∧ BRel D φ w b k
  sep : ∀ b1 b2 k1 k2, b1 ≠ b2 → H b1 = some k1 → H b2 = some k2 → k1.ro = false → φ.blk b1 ≠ φ.blk b2

/-- What a step may change of memory: blocks of the abstract heap that are not read-only; new blocks. -/
structure FRM (H : Hf) (φ : Phi) (w w' : World) : Prop where
  os : w'.os = w.os
  tape : w'.tape = w.tape
  output : w'.output = w.output
  size : w.heap.size ≤ w'.heap.size
  block : ∀ c, c < w.heap.size → (∀ b k, H b = some k → k.ro = false → φ.blk b ≠ c) → w'.heap[c]? = w.heap[c]?

/-- A step from one state to another. -/
structure Stp (D : Nat → Prop) (φ : Phi) (H : Hf) (w : World) (D' : Nat → Prop) (φ' : Phi) (H' : Hf) (w' : World) : Prop where
  sub : ∀ b, D b → D' b
  agree : Agree D φ φ'
  hr : HR D' φ' H' w'
  frm : FRM H φ w w'
  img : ∀ b k, H' b = some k → k.ro = false → w.heap.size ≤ φ'.blk b ∨ ∃ m km, H m = some km ∧ km.ro = false ∧ φ.blk m = φ'.blk b

theorem Agree.refl (D : Nat → Prop) (φ : Phi) : Agree D φ φ := fun _ _ => ⟨rfl, rfl, rfl, rfl⟩
theorem Agree.trans {D D' : Nat → Prop} {φ φ' φ'' : Phi} (hs : ∀ b, D b → D' b) (h : Agree D φ φ') (h' : Agree D' φ' φ'') : Agree D φ φ'' := fun b hb => by
  obtain ⟨a1, a2, a3, a4⟩ := h b hb
  obtain ⟨b1, b2, b3, b4⟩ := h' b (hs b hb)
  exact ⟨b1.trans a1, b2.trans a2, b3.trans a3, b4.trans a4⟩

theorem FRM.refl (H : Hf) (φ : Phi) (w : World) : FRM H φ w w := ⟨rfl, rfl, rfl, Nat.le_refl _, fun _ _ _ => rfl⟩

theorem BRel.lt {D : Nat → Prop} {φ : Phi} {w : World} {b : Nat} {k : Blk} (h : BRel D φ w b k) : φ.blk b < w.heap.size := by
  obtain ⟨⟨cs, elem, fr, h1, _⟩, _⟩ := h
  rcases Nat.lt_or_ge (φ.blk b) w.heap.size with h' | h'
  · exact h'
  · rw [Array.getElem?_eq_none h'] at h1; cases h1

theorem BRel.mono {D D' : Nat → Prop} {φ φ' : Phi} {w w' : World} {b : Nat} {k : Blk} (hD : ∀ b, D b → D' b) (hφ : Agree D φ φ') (hb : D b) (hw : w'.heap[φ.blk b]? = w.heap[φ.blk b]?)
    (h : BRel D φ w b k) : BRel D' φ' w' b k := by
  obtain ⟨⟨cs, elem, fr, h1, h2, h3, h4⟩, h5⟩ := h
  obtain ⟨e1, e2, e3, e4⟩ := hφ b hb
  refine ⟨⟨cs, elem, fr, by rw [e1, hw]; exact h1, fun i v hv => ?_, fun hr => by rw [e2]; exact h3 hr, fun e he => by rw [e3, e4]; exact h4 e he⟩, fun g hg => by rw [e1, e2]; exact h5 g hg⟩
  obtain ⟨u, hu, hvu⟩ := h2 i v hv
  exact ⟨u, by rw [e2]; exact hu, hvu.mono hD hφ⟩

theorem Stp.refl {D : Nat → Prop} {φ : Phi} {H : Hf} {w : World} (h : HR D φ H w) : Stp D φ H w D φ H w :=
  ⟨fun _ h => h, Agree.refl _ _, h, FRM.refl _ _ _, fun b k hb hk => .inr ⟨b, k, hb, hk, rfl⟩⟩

theorem Stp.trans {D D1 D2 : Nat → Prop} {φ φ1 φ2 : Phi} {H H1 H2 : Hf} {w w1 w2 : World} (h : Stp D φ H w D1 φ1 H1 w1) (h' : Stp D1 φ1 H1 w1 D2 φ2 H2 w2) :
    Stp D φ H w D2 φ2 H2 w2 := by
  refine ⟨fun b hb => h'.sub b (h.sub b hb), h.agree.trans h.sub h'.agree, h'.hr, ⟨h'.frm.os.trans h.frm.os, h'.frm.tape.trans h.frm.tape, h'.frm.output.trans h.frm.output, Nat.le_trans h.frm.size h'.frm.size, fun c hc hn => ?_⟩, fun b k hb hk => ?_⟩
  · rw [h'.frm.block c (Nat.lt_of_lt_of_le hc h.frm.size) (fun b k hb hk he => ?_)]
    · exact h.frm.block c hc hn
    · rcases h.img b k hb hk with h1 | ⟨m, km, h1, h2, h3⟩
      · rw [he] at h1; omega
      · exact hn m km h1 h2 (h3.trans he)
  · rcases h'.img b k hb hk with h1 | ⟨m, km, h1, h2, h3⟩
    · exact .inl (Nat.le_trans h.frm.size h1)
    · rcases h.img m km h1 h2 with h4 | ⟨m', km', h4, h5, h6⟩
      · exact .inl (by rw [← h3]; exact h4)
      · exact .inr ⟨m', km', h4, h5, h6.trans h3⟩

/-- THE FRAME RULE: a step over a part of the heap is a step over the whole; what the part left out stays. -/
theorem Stp.frame {D D' : Nat → Prop} {φ φ' : Phi} {H0 H0' H : Hf} {w w' : World} (hH : HR D φ H w) (hsub : ∀ b k, H0 b = some k → H b = some k) (h : Stp D φ H0 w D' φ' H0' w')
    (H' : Hf) (hH' : ∀ b k, H' b = some k → H0' b = some k ∨ (H b = some k ∧ H0 b = none))
    (hro : ∀ b k, H0' b = some k → k.ro = true → H0 b = some k) :
    Stp D φ H w D' φ' H' w' := by
  have old : ∀ b k, H b = some k → H0 b = none → ∀ m km, H0 m = some km → km.ro = false → φ.blk m ≠ φ.blk b := fun b k hb h0 m km hm hk =>
    hH.sep m b km k (by intro e; rw [e] at hm; rw [hm] at h0; cases h0) (hsub m km hm) hb hk
  have stays : ∀ b k, H b = some k → H0 b = none → w'.heap[φ.blk b]? = w.heap[φ.blk b]? := fun b k hb h0 =>
    h.frm.block _ (hH.at_ b k hb).2.lt (fun m km hm hk => old b k hb h0 m km hm hk)
  -- an old block outside the part against a changed or new one inside it
  have apart : ∀ b1 k1 b2 k2, H' b1 = some k1 → H' b2 = some k2 → H0' b1 = some k1 → H b2 = some k2 → H0 b2 = none → b1 ≠ b2 → (k1.ro = false ∨ k2.ro = false) → φ'.blk b1 ≠ φ'.blk b2 := by
    intro b1 k1 b2 k2 g1 g2 h1 h2 h20 hne hk
    have hD2 := (hH.at_ b2 k2 h2)
    have e2 := (h.agree b2 hD2.1).1
    rw [e2]
    by_cases hk1 : k1.ro = false
    · rcases h.img b1 k1 h1 hk1 with h3 | ⟨m, km, h3, h4, h5⟩
      · have := hD2.2.lt; omega
      · rw [← h5]; exact old b2 k2 h2 h20 m km h3 h4
    · have hk1' : k1.ro = true := by simpa using hk1
      have h10 := hro b1 k1 h1 hk1'
      have hD1 := hH.at_ b1 k1 (hsub b1 k1 h10)
      rw [(h.agree b1 hD1.1).1]
      have hk2 : k2.ro = false := hk.resolve_left hk1
      exact fun e => hH.sep b2 b1 k2 k1 (Ne.symm hne) h2 (hsub b1 k1 h10) hk2 e.symm
  refine ⟨h.sub, h.agree, ⟨fun b k hb => ?_, fun b1 b2 k1 k2 hne h1 h2 hk => ?_⟩, ⟨h.frm.os, h.frm.tape, h.frm.output, h.frm.size, fun c hc hn => h.frm.block c hc (fun b k hb hk => hn b k (hsub b k hb) hk)⟩, fun b k hb hk => ?_⟩
  · rcases hH' b k hb with h1 | ⟨h1, h2⟩
    · exact h.hr.at_ b k h1
    · have hb' := hH.at_ b k h1
      exact ⟨h.sub b hb'.1, hb'.2.mono h.sub h.agree hb'.1 (stays b k h1 h2)⟩
  · rcases hH' b1 k1 h1 with g1 | ⟨g1, g10⟩ <;> rcases hH' b2 k2 h2 with g2 | ⟨g2, g20⟩
    · exact h.hr.sep b1 b2 k1 k2 hne g1 g2 hk
    · exact apart b1 k1 b2 k2 h1 h2 g1 g2 g20 hne (.inl hk)
    · exact fun e => apart b2 k2 b1 k1 h2 h1 g2 g1 g10 (Ne.symm hne) (.inr hk) e.symm
    · rw [(h.agree b1 (hH.at_ b1 k1 g1).1).1, (h.agree b2 (hH.at_ b2 k2 g2).1).1]
      exact hH.sep b1 b2 k1 k2 hne g1 g2 hk
  · rcases hH' b k hb with h1 | ⟨h1, h2⟩
    · rcases h.img b k h1 hk with h3 | ⟨m, km, h3, h4, h5⟩
      · exact .inl h3
      · exact .inr ⟨m, km, hsub m km h3, h4, h5⟩
    · exact .inr ⟨b, k, h1, hk, ((h.agree b (hH.at_ b k h1).1).1).symm⟩

end Go.Ab
