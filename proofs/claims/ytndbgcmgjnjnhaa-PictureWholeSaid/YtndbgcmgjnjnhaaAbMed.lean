/- Media packets as values: what is frozen in them; plain laws. -/
import Derived.Test.YtndbgcmgjnjnhaaAbVwF
import Derived.Test.YtndbgcmgjnjnhaaAbRead
import Derived.Test.YtndbgcmgjnjnhaaAbJoin
namespace Go.Ab
set_option maxRecDepth 100000
set_option linter.unusedSimpArgs false
set_option linter.unusedVariables false

abbrev Xt := Int × List UInt8
def xtR (x : Xt) : List AV := [.i .i64 x.1, .s x.2]
theorem xtR_len : ∀ x, (xtR x).length = 2 := fun _ => rfl
theorem xtR_bel : ∀ x, belL 0 (xtR x) = true := fun _ => rfl
structure Md where
  ma : Bool
  ty : Int
  sq : Int
  tm : Int
  ss : Int
  cs : List Int
  xs : List Xt
  pd : Int
  pl : List UInt8
def Md.l (p : Md) : List AV := [.b p.ma, .i .i64 p.ty, .i .i64 p.sq, .i .i64 p.tm, .i .i64 p.ss, .fz (rows int1 p.cs) p.cs.length, .fz (rows xtR p.xs) p.xs.length, .i .i64 p.pd, .s p.pl]
theorem Md.len : ∀ p : Md, p.l.length = 9 := fun _ => rfl
theorem Md.bel : ∀ p : Md, belL 0 p.l = true := fun p => by
  simp only [Md.l, belL, AV.bel, rows_bel int1_bel, rows_bel xtR_bel, Bool.and_self]
theorem rows_inj {α : Type} {f : α → List AV} {z : Nat} (hf : ∀ a, (f a).length = z) (hi : ∀ a b, f a = f b → a = b) : ∀ {l m : List α}, l.length = m.length → rows f l = rows f m → l = m
  | [], [], _, _ => rfl
  | a :: l, b :: m, hl, h => by
    rw [rows_cons, rows_cons] at h
    obtain ⟨h1, h2⟩ := List.append_inj h (by rw [hf, hf])
    rw [hi _ _ h1, rows_inj hf hi (by simpa using hl) h2]
  | [], _ :: _, h, _ => by simp at h
  | _ :: _, [], h, _ => by simp at h
theorem Md.inj {p q : Md} (h : p.l = q.l) : p = q := by
  obtain ⟨a1, a2, a3, a4, a5, a6, a7, a8, a9⟩ := p
  obtain ⟨b1, b2, b3, b4, b5, b6, b7, b8, b9⟩ := q
  simp only [Md.l, List.cons.injEq, AV.b.injEq, AV.i.injEq, AV.fz.injEq, AV.s.injEq, true_and, and_true] at h
  obtain ⟨rfl, rfl, rfl, rfl, rfl, ⟨h6, l6⟩, ⟨h7, l7⟩, rfl, rfl⟩ := h
  have e6 := rows_inj (f := int1) int1_len (fun a b e => by simpa [int1] using e) l6 h6
  have e7 := rows_inj (f := xtR) xtR_len (fun a b e => by
    simp only [xtR, List.cons.injEq, AV.i.injEq, AV.s.injEq, true_and, and_true] at e
    exact Prod.ext e.1 e.2) l7 h7
  rw [e6, e7]
/-- The lists' lengths are no nonsense. -/
def Md.fin (p : Md) : Bool := decide (p.cs.length ≤ 1000000000000) && decide (p.xs.length ≤ 1000000000000) && (p.xs.all fun x => decide (x.2.length ≤ 1000000000000)) && decide (p.pl.length ≤ 1000000000000)

/-- Does a number fit into some bits? -/
def fitB (bits n : Int) : Bool := decide (0 ≤ n) && (n.fdiv (2 ^ (Nat.min bits.toNat 64)) == 0)
def inZ (lo hi x : Int) : Bool := decide (lo ≤ x) && decide (x ≤ hi)
theorem inZ_iff {lo hi x : Int} : inZ lo hi x = true ↔ lo ≤ x ∧ x ≤ hi := by simp [inZ]
theorem fit_eq {b : Int} {m : Int} (hm : (2 : Int) ^ (Nat.min b.toNat 64) = m + 1) (hm0 : 0 ≤ m) (n : Int) : fitB b n = inZ 0 m n := by
  rw [Bool.eq_iff_iff, inZ_iff]
  simp only [fitB, hm, Bool.and_eq_true, decide_eq_true_eq, beq_iff_eq]
  constructor
  · rintro ⟨h1, h2⟩
    rw [Int.fdiv_eq_ediv_of_nonneg _ (by omega)] at h2
    refine ⟨h1, ?_⟩
    have := Int.mul_ediv_add_emod n (m + 1)
    have hlt := Int.emod_lt_of_pos n (show 0 < m + 1 by omega)
    rw [h2] at this
    omega
  · rintro ⟨h1, h2⟩
    refine ⟨h1, ?_⟩
    rw [Int.fdiv_eq_ediv_of_nonneg _ (by omega)]
    exact Int.ediv_eq_zero_of_lt h1 (by omega)
theorem fit7 (n : Int) : fitB 7 n = inZ 0 127 n := fit_eq (by rfl) (by omega) n
theorem fit8 (n : Int) : fitB 8 n = inZ 0 255 n := fit_eq (by rfl) (by omega) n
theorem fit16 (n : Int) : fitB 16 n = inZ 0 65535 n := fit_eq (by rfl) (by omega) n
theorem fit32 (n : Int) : fitB 32 n = inZ 0 4294967295 n := fit_eq (by rfl) (by omega) n
def xtOK (l : List Xt) (i : Nat) : Bool := match l[i]? with
  | none => true
  | some x => inZ 0 255 x.1 && inZ 0 255 (x.2.length : Int) && decide (0 < x.1) && (i == 0 || (match l[i - 1]? with | some y => decide (y.1 < x.1) | none => true))
def mdPre (p : Md) : Bool := inZ 0 127 p.ty && inZ 0 65535 p.sq && (inZ 0 4294967295 p.tm && inZ 0 4294967295 p.ss) && p.cs.all (inZ 0 4294967295) && inZ 0 255 p.pd && decide (p.cs.length ≤ 15) && decide (p.xs.length ≤ 16)
/-- Of all numbers below k. -/
def allN (f : Nat → Bool) : Nat → Bool
  | 0 => true
  | k + 1 => allN f k && f k
theorem allN_z {f : Nat → Bool} : allN f 0 = true := (rfl)
theorem allN_s {f : Nat → Bool} {k : Nat} : allN f (k + 1) = (allN f k && f k) := (rfl)
theorem allN_iff {f : Nat → Bool} : ∀ {k : Nat}, allN f k = true ↔ ∀ i, i < k → f i = true
  | 0 => by simp [allN]
  | k + 1 => by
    rw [allN_s, Bool.and_eq_true, allN_iff]
    constructor
    · rintro ⟨h1, h2⟩ i hi
      rcases Nat.lt_succ_iff_lt_or_eq.1 hi with h | h
      · exact h1 i h
      · rw [h]; exact h2
    · exact fun h => ⟨fun i hi => h i (by omega), h k (by omega)⟩
/-- Is a packet valid? -/
def mdB (p : Md) : Bool := mdPre p && allN (xtOK p.xs) p.xs.length

/-- A packet's draft. -/
def u32R (x : Int) : List AV := [.i .u32 x]
def pcR (x : Int × List UInt8) : List AV := [.i .u8 x.1, .s x.2]
theorem u32R_len : ∀ x, (u32R x).length = 1 := fun _ => rfl
theorem pcR_len : ∀ x, (pcR x).length = 2 := fun _ => rfl
theorem u32R_bel : ∀ x, belL 0 (u32R x) = true := fun _ => rfl
theorem pcR_bel : ∀ x, belL 0 (pcR x) = true := fun _ => rfl
structure Dm where
  ma : Bool
  ty : Int
  sq : Int
  tm : Int
  ss : Int
  cs : List Int
  xs : List Xt
  pd : Int
  pl : List UInt8
def Dm.l (p : Dm) : List AV := [.b p.ma, .i .u8 p.ty, .i .u16 p.sq, .i .u32 p.tm, .i .u32 p.ss, .fz (rows u32R p.cs) p.cs.length, .fz (rows pcR p.xs) p.xs.length, .i .u8 p.pd, .s p.pl]
theorem Dm.bel : ∀ p : Dm, belL 0 p.l = true := fun p => by
  simp only [Dm.l, belL, AV.bel, rows_bel u32R_bel, rows_bel pcR_bel, Bool.and_self]
def extD : Int → List Xt → List Xt
  | _, [] => []
  | id, x :: r => (id + 1 + x.1 % 60, x.2.take 20) :: extD (id + 1 + x.1 % 60) r
def Dm.md (p : Dm) : Md := ⟨p.ma, p.ty % 128, p.sq, p.tm, p.ss, p.cs.take 3, extD 0 (p.xs.take 4), p.pd, p.pl.take 60⟩
structure Dm.ok (p : Dm) : Prop where
  ty : 0 ≤ p.ty ∧ p.ty ≤ 255
  sq : 0 ≤ p.sq ∧ p.sq ≤ 65535
  tm : 0 ≤ p.tm ∧ p.tm ≤ 4294967295
  ss : 0 ≤ p.ss ∧ p.ss ≤ 4294967295
  pd : 0 ≤ p.pd ∧ p.pd ≤ 255
  cs : ∀ x ∈ p.cs, 0 ≤ x ∧ x ≤ 4294967295
  xs : ∀ x ∈ p.xs, 0 ≤ x.1 ∧ x.1 ≤ 255

theorem vwK_rows {α β : Type} {h : Hp} {f : α → List AV} {z : Nat} (hf : ∀ a, (f a).length = z) {l : List α} {k : List Nat → Nat → List AV → Bool → Option β} : vwK h z (.fz (rows f l) l.length) k = k [] l.length (rows f l) true := by
  have e : cellsAt (rows f l) 0 (l.length * z) = rows f l := by
    rw [cellsAt, List.drop_zero, ← rows_len (f := f) (z := z) hf, List.take_length]
  rw [vwK_f, e, rows_len hf, decide_eq_true rfl]
theorem vwK_eq {α : Type} {h : Hp} {z : Nat} {x : AV} {k : List Nat → Nat → List AV → Bool → Option α} : vwK h z x k = (vwK h z x (fun a b c d => some (a, b, c, d))).bind fun r => k r.1 r.2.1 r.2.2.1 r.2.2.2 := by
  cases x <;> simp only [vwK, Option.bind_some, Option.bind_none] <;> (cases hget h _ <;> rfl)
def xtV : List AV → Option Xt
  | [.i .i64 x, .s l] => some (x, l)
  | _ => none
theorem xtV_eq (c : List AV) (a : Xt) (h : xtV c = some a) : c = xtR a := by
  unfold xtV at h
  split at h
  · cases h; rfl
  · cases h
/-- The values of a function below k. -/
def mapN {α : Type} (g : Nat → α) : Nat → List α
  | 0 => []
  | k + 1 => mapN g k ++ [g k]
theorem mapN_z {α : Type} {g : Nat → α} : mapN g 0 = [] := (rfl)
theorem mapN_s {α : Type} {g : Nat → α} {k : Nat} : mapN g (k + 1) = mapN g k ++ [g k] := (rfl)
theorem mapN_len {α : Type} {g : Nat → α} : ∀ k, (mapN g k).length = k
  | 0 => rfl
  | k + 1 => by rw [mapN_s, List.length_append, mapN_len k]; rfl
theorem mapN_get {α : Type} {g : Nat → α} : ∀ {k i : Nat}, i < k → (mapN g k)[i]? = some (g i)
  | k + 1, i, h => by
    rw [mapN_s]
    rcases Nat.lt_succ_iff_lt_or_eq.1 h with h' | h'
    · rw [List.getElem?_append_left (by rw [mapN_len]; exact h')]; exact mapN_get h'
    · subst h'; rw [List.getElem?_append_right (by rw [mapN_len]; omega), mapN_len]; simp
def strR (x : List UInt8) : List AV := [.s x]
theorem strR_len : ∀ x, (strR x).length = 1 := fun _ => rfl
theorem strR_bel : ∀ x, belL 0 (strR x) = true := fun _ => rfl
theorem md_ren {ψ : Nat → Nat} (p : Md) : renL ψ p.l = p.l := renL_fix0 _ p.bel
def md9 : List AV → Option Md
  | [.b ma, .i .i64 ty, .i .i64 sq, .i .i64 tm, .i .i64 ss, .fz C c, .fz X x, .i .i64 pd, .s pl] => (unrows 1 intV c C).bind fun cs => (unrows 2 xtV x X).bind fun xs => some ⟨ma, ty, sq, tm, ss, cs, xs, pd, pl⟩
  | _ => none
theorem md9_eq {l : List AV} {p : Md} (h : md9 l = some p) : l = p.l := by
  unfold md9 at h
  split at h
  · simp only [Option.bind_eq_some_iff, Option.some.injEq] at h
    obtain ⟨cs, h1, xs, h2, rfl⟩ := h
    obtain ⟨rfl, rfl⟩ := unrows_eq (f := int1) intV_eq h1
    obtain ⟨rfl, rfl⟩ := unrows_eq (f := xtR) xtV_eq h2
    rfl
  · cases h
theorem md9_eq' (c : List AV) (p : Md) (h : md9 c = some p) : c = p.l := md9_eq h
theorem md9_l (p : Md) : md9 p.l = some p := by
  have h1 : unrows 1 intV p.cs.length (rows int1 p.cs) = some p.cs := unrows_rows int1_len (fun _ => rfl) p.cs
  have h2 : unrows 2 xtV p.xs.length (rows xtR p.xs) = some p.xs := unrows_rows xtR_len (fun _ => rfl) p.xs
  simp only [md9, Md.l, h1, h2, Option.bind_some]
def u32V : List AV → Option Int
  | [.i .u32 x] => some x
  | _ => none
theorem u32V_eq (c : List AV) (a : Int) (h : u32V c = some a) : c = u32R a := by
  unfold u32V at h
  split at h
  · cases h; rfl
  · cases h
def pcV : List AV → Option Xt
  | [.i .u8 x, .s l] => some (x, l)
  | _ => none
theorem pcV_eq (c : List AV) (a : Xt) (h : pcV c = some a) : c = pcR a := by
  unfold pcV at h
  split at h
  · cases h; rfl
  · cases h
def strV : List AV → Option (List UInt8)
  | [.s l] => some l
  | _ => none
theorem strV_eq (c : List AV) (a : List UInt8) (h : strV c = some a) : c = strR a := by
  unfold strV at h
  split at h
  · cases h; rfl
  · cases h
def dm9 : List AV → Option Dm
  | [.b ma, .i .u8 ty, .i .u16 sq, .i .u32 tm, .i .u32 ss, .fz C c, .fz X x, .i .u8 pd, .s pl] => (unrows 1 u32V c C).bind fun cs => (unrows 2 pcV x X).bind fun xs => some ⟨ma, ty, sq, tm, ss, cs, xs, pd, pl⟩
  | _ => none
theorem dm9_eq {l : List AV} {p : Dm} (h : dm9 l = some p) : l = p.l := by
  unfold dm9 at h
  split at h
  · simp only [Option.bind_eq_some_iff, Option.some.injEq] at h
    obtain ⟨cs, h1, xs, h2, rfl⟩ := h
    obtain ⟨rfl, rfl⟩ := unrows_eq (f := u32R) u32V_eq h1
    obtain ⟨rfl, rfl⟩ := unrows_eq (f := pcR) pcV_eq h2
    rfl
  · cases h
theorem dm9_l (p : Dm) : dm9 p.l = some p := by
  have h1 : unrows 1 u32V p.cs.length (rows u32R p.cs) = some p.cs := unrows_rows u32R_len (fun _ => rfl) p.cs
  have h2 : unrows 2 pcV p.xs.length (rows pcR p.xs) = some p.xs := unrows_rows pcR_len (fun _ => rfl) p.xs
  simp only [dm9, Dm.l, h1, h2, Option.bind_some]
def Dm.okB (p : Dm) : Bool := inZ 0 255 p.ty && (inZ 0 65535 p.sq && (inZ 0 4294967295 p.tm && (inZ 0 4294967295 p.ss && (inZ 0 255 p.pd && (p.cs.all (inZ 0 4294967295) && p.xs.all fun x => inZ 0 255 x.1)))))
theorem Dm.ok_of {p : Dm} (h : p.okB = true) : p.ok := by
  simp only [Dm.okB, Bool.and_eq_true, inZ_iff, List.all_eq_true] at h
  obtain ⟨h1, h2, h3, h4, h5, h6, h7⟩ := h
  exact ⟨h1, h2, h3, h4, h5, h6, h7⟩
theorem extD_len : ∀ (l : List Xt) (id : Int), (extD id l).length = l.length
  | [], _ => rfl
  | x :: r, id => by simp [extD, extD_len r]
theorem extD_get : ∀ {l : List Xt} {id : Int} {i : Nat} {y : Xt}, (∀ x ∈ l, 0 ≤ x.1) → (extD id l)[i]? = some y → id < y.1 ∧ y.1 ≤ id + 60 * (i + 1) ∧ y.2.length ≤ 20 ∧ (0 < i → ∃ z, (extD id l)[i - 1]? = some z ∧ z.1 < y.1)
  | [], id, i, y, _, h => by simp [extD] at h
  | x :: r, id, 0, y, hx, h => by
    simp only [extD, List.getElem?_cons_zero, Option.some.injEq] at h
    subst h
    have := hx x (by simp)
    refine ⟨by simp only; omega, by simp only; omega, by simp only [List.length_take]; omega, fun h => by omega⟩
  | x :: r, id, i + 1, y, hx, h => by
    simp only [extD, List.getElem?_cons_succ] at h
    obtain ⟨h1, h2, h3, h4⟩ := extD_get (fun z hz => hx z (by simp [hz])) h
    have := hx x (by simp)
    refine ⟨by omega, by simp only [Int.natCast_add, Int.natCast_one] at h2 ⊢; omega, h3, fun _ => ?_⟩
    cases i with
    | zero => exact ⟨(id + 1 + x.1 % 60, x.2.take 20), rfl, h1⟩
    | succ i =>
      obtain ⟨z, hz1, hz2⟩ := h4 (by omega)
      exact ⟨z, by simpa [extD] using hz1, hz2⟩
theorem Dm.md_ok {p : Dm} (hp : p.ok) : mdB p.md = true ∧ p.md.fin = true := by
  obtain ⟨h1, h2, h3, h4, h5, h6, h7⟩ := hp
  have hx : ∀ x ∈ p.xs.take 4, 0 ≤ x.1 := fun x hx => (h7 x (List.mem_of_mem_take hx)).1
  have hlx : (extD 0 (p.xs.take 4)).length ≤ 4 := by rw [extD_len, List.length_take]; omega
  constructor
  · simp only [mdB, mdPre, Bool.and_eq_true, decide_eq_true_eq, inZ_iff, allN_iff, List.all_eq_true]
    refine ⟨⟨⟨⟨⟨⟨⟨?_, h2⟩, h3, h4⟩, ?_⟩, h5⟩, ?_⟩, ?_⟩, fun i hi => ?_⟩
    · show 0 ≤ p.ty % 128 ∧ p.ty % 128 ≤ 127; omega
    · intro x hx; exact h6 x (List.mem_of_mem_take hx)
    · show (p.cs.take 3).length ≤ 15; rw [List.length_take]; omega
    · show (extD 0 (p.xs.take 4)).length ≤ 16; omega
    · change i < (extD 0 (p.xs.take 4)).length at hi
      show xtOK (extD 0 (p.xs.take 4)) i = true
      have hg : (extD 0 (p.xs.take 4))[i]? = some (extD 0 (p.xs.take 4))[i] := List.getElem?_eq_getElem hi
      obtain ⟨g1, g2, g3, g4⟩ := extD_get hx hg
      simp only [xtOK, hg, Bool.and_eq_true, inZ_iff, decide_eq_true_eq, Bool.or_eq_true, beq_iff_eq]
      refine ⟨⟨⟨by omega, by omega⟩, g1⟩, ?_⟩
      by_cases h0 : i = 0
      · exact .inl h0
      · obtain ⟨z, hz1, hz2⟩ := g4 (by omega)
        right; rw [hz1]; exact decide_eq_true hz2
  · unfold Md.fin
    simp only [Bool.and_eq_true, decide_eq_true_eq, List.all_eq_true]
    refine ⟨⟨⟨?_, ?_⟩, fun x hx' => ?_⟩, ?_⟩
    · show (p.cs.take 3).length ≤ _; rw [List.length_take]; omega
    · show (extD 0 (p.xs.take 4)).length ≤ _; omega
    · obtain ⟨i, hi⟩ := List.getElem?_of_mem hx'
      have := (extD_get hx hi).2.2.1
      omega
    · show (p.pl.take 60).length ≤ _; rw [List.length_take]; omega
theorem vwK_v {α β : Type} {h : Hp} {f : α → List AV} {z b : Nat} {l : List α} {s : Sh} {k : List Nat → Nat → List AV → Bool → Option β} (hh : hasS h s b) (hs : s.is f z l) (hc : s.capOK) (hf : ∀ a, (f a).length = z) : vwK h z (s.v b) k = k (s.bl b) l.length (rows f l) true := by
  obtain ⟨h1, h2, h3⟩ := hs
  cases s with
  | nil =>
    have : l = [] := List.eq_nil_of_length_eq_zero h2.symm
    subst this; rfl
  | sl q o m c =>
    have hm : m = l.length := h2
    subst hm
    have h3 : cellsAt q.cells o (l.length * z) = rows f l := h3
    have hcc : l.length ≤ c := hc
    show vwK h z (.sl b o l.length c) k = _
    rw [vwK_s, hh b q (by simp [Sh.h, hget]), Option.bind_some, h3, rows_len hf, decide_eq_true rfl, decide_eq_true hcc]; rfl
  | sg q o m =>
    have hm : m = l.length := h2
    subst hm
    have h3 : cellsAt q.cells o (l.length * z) = rows f l := h3
    show vwK h z (.sg b o l.length) k = _
    rw [vwK_g, hh b q (by simp [Sh.h, hget]), Option.bind_some, h3, rows_len hf, decide_eq_true rfl]; rfl
/-- One row put in place of another. -/
theorem splice_set {α : Type} {f : α → List AV} {z : Nat} (hf : ∀ a, (f a).length = z) {a : α} : ∀ {l : List α} {i : Nat}, i < l.length → splice (rows f l) (i * z) (f a) = rows f (l.set i a)
  | [], i, h => by simp at h
  | x :: l, 0, _ => by
    rw [List.set_cons_zero, rows_cons, rows_cons]
    unfold splice
    rw [Nat.zero_mul, List.take_zero, List.nil_append, Nat.zero_add, hf, ← hf x, List.drop_left]
  | x :: l, i + 1, h => by
    rw [List.set_cons_succ, rows_cons, rows_cons, ← splice_set hf (l := l) (i := i) (by simpa using h)]
    unfold splice
    rw [Nat.add_mul, Nat.one_mul, Nat.add_comm (i * z) z, ← hf x, List.take_length_add_append, Nat.add_assoc, List.drop_length_add_append, List.append_assoc, List.append_assoc, List.append_assoc]
/-- A draft that came in. -/
theorem dm_shp {l : List AV} (h : FShp (.st [.f .b, .f (.i .u8), .f (.i .u16), .f (.i .u32), .f (.i .u32), .sl (.f (.i .u32)), .sl (.f (.st [.i .u8, .s])), .f (.i .u8), .f .s]) l) : ∃ dm : Dm, l = dm.l ∧ dm.okB = true := by
  obtain ⟨_, _, rfl, ⟨ma, rfl⟩, _, _, rfl, ⟨ty, rfl, h1⟩, _, _, rfl, ⟨sq, rfl, h2⟩, _, _, rfl, ⟨tm, rfl, h3⟩, _, _, rfl, ⟨ss, rfl, h4⟩, _, _, rfl, ⟨cl, hc1, _, rfl⟩, _, _, rfl, ⟨xl, hx1, _, rfl⟩, _, _, rfl, ⟨pd, rfl, h5⟩, _, _, rfl, ⟨pl, rfl, _⟩, rfl⟩ := h
  obtain ⟨cs, c1, c2, c3⟩ := flat_rows (T := .i .u32) (f := u32R) (ok := inZ 0 4294967295) (fun x h => by obtain ⟨b, rfl, hb⟩ := h; exact ⟨b, rfl, inZ_iff.2 hb⟩) cl hc1
  obtain ⟨xs, x1, x2, x3⟩ := flat_rows (T := .st [.i .u8, .s]) (f := pcR) (ok := fun x => inZ 0 255 x.1) (fun x h => by
    obtain ⟨_, _, rfl, ⟨a, rfl, ha⟩, _, _, rfl, ⟨s, rfl, _⟩, rfl⟩ := h
    exact ⟨(a, s), rfl, inZ_iff.2 ha⟩) xl hx1
  refine ⟨⟨ma, ty, sq, tm, ss, cs, xs, pd, pl⟩, ?_, ?_⟩
  · simp only [Dm.l, ← c1, ← c2, ← x1, ← x2]; rfl
  · simp only [Dm.okB, Bool.and_eq_true]
    exact ⟨inZ_iff.2 h1, inZ_iff.2 h2, inZ_iff.2 h3, inZ_iff.2 h4, inZ_iff.2 h5, c3, x3⟩
end Go.Ab
