/- Chapter 40: the frames of a stream, and what a decoder makes of them. -/
import Derived.Test.YtndbgcmgjnjnhaaPicC9
namespace Go.Proofs.Pic
open Go.Ab
set_option linter.unusedVariables false
set_option maxHeartbeats 4000000
/-- What a sender keeps between its frames. -/
structure Sn where
  id : Int
  ba : Int
  fr : Int
def frame (i : Nat) (k : Bool) (q : Sn) : Sh × Sn :=
  if i = 0 ∨ i % 4 = 0 ∧ k = true then (⟨true, true, false, true, q.id, (q.ba + 1) % 256, 0, 0⟩, ⟨(q.id + 1) % 32768, (q.ba + 1) % 256, 0⟩)
  else if i % 4 = 0 then (⟨true, false, false, true, q.id, (q.ba + 1) % 256, 0, 0⟩, ⟨(q.id + 1) % 32768, (q.ba + 1) % 256, q.fr⟩)
  else if i % 4 = 2 then (⟨true, false, q.fr == 0, true, q.id, q.ba, 1, 0⟩, ⟨(q.id + 1) % 32768, q.ba, max q.fr 1⟩)
  else if q.fr = 0 then (⟨true, false, true, true, q.id, q.ba, 1, 0⟩, ⟨(q.id + 1) % 32768, q.ba, 1⟩)
  else (⟨true, false, q.fr == 1, true, q.id, q.ba, 2, 0⟩, ⟨(q.id + 1) % 32768, q.ba, min (q.fr + 1) 2⟩)
section
variable (f : Int) (ks : List Bool)
def sq : Nat → Sn
  | 0 => ⟨f % 32768, f % 256, 0⟩
  | i + 1 => (frame i (ks.getD i false) (sq i)).2
def fr (i : Nat) : Sh := (frame i (ks.getD i false) (sq f ks i)).1
end
section
variable {f : Int} {ks : List Bool}
structure SqOK (f : Int) (i : Nat) (q : Sn) : Prop where
  id : q.id = (f + i) % 32768
  b0 : 0 ≤ q.ba
  b1 : q.ba ≤ 255
  p0 : i = 0 → q.fr = 0
  pz : 0 < i → i % 4 = 0 → q.fr = 2
  p1 : i % 4 = 1 → q.fr = 0 ∨ q.fr = 2
  p2 : i % 4 = 2 → q.fr = 1 ∨ q.fr = 2
  p3 : i % 4 = 3 → q.fr = 1 ∨ q.fr = 2
theorem sq_ok : ∀ i, SqOK f i (sq f ks i)
  | 0 => ⟨by simp [sq], by simp only [sq]; omega, by simp only [sq]; omega, fun _ => rfl, fun h => absurd h (by omega), fun h => absurd h (by omega), fun h => absurd h (by omega), fun h => absurd h (by omega)⟩
  | i + 1 => by
    obtain ⟨a1, a2, a3, a4, a5, a6, a7, a8⟩ := sq_ok i
    have e : sq f ks (i + 1) = (frame i (ks.getD i false) (sq f ks i)).2 := rfl
    generalize ks.getD i false = k at e
    generalize sq f ks i = q at *
    rw [e]
    clear e
    unfold frame
    have hc : ((i + 1 : Nat) : Int) = (i : Int) + 1 := by omega
    split
    · exact ⟨by dsimp only; omega, by dsimp only; omega, by dsimp only; omega, fun h => by omega, fun h h' => by omega, fun h => .inl rfl, fun h => by omega, fun h => by omega⟩
    · split
      · exact ⟨by dsimp only; omega, by dsimp only; omega, by dsimp only; omega, fun h => by omega, fun h h' => by omega, fun h => by dsimp only; omega, fun h => by omega, fun h => by omega⟩
      · split
        · exact ⟨by dsimp only; omega, by dsimp only; omega, by dsimp only; omega, fun h => by omega, fun h h' => by omega, fun h => by omega, fun h => by omega, fun h => by dsimp only; omega⟩
        · split
          · exact ⟨by dsimp only; omega, by dsimp only; omega, by dsimp only; omega, fun h => by omega, fun h h' => by omega, fun h => by omega, fun h => .inl rfl, fun h => by omega⟩
          · exact ⟨by dsimp only; omega, by dsimp only; omega, by dsimp only; omega, fun h => by omega, fun h h' => by dsimp only; omega, fun h => by omega, fun h => by dsimp only; omega, fun h => by omega⟩
/-- What is known of a frame. -/
structure FrOK (i : Nat) (q q' : Sn) (s : Sh) : Prop where
  id : s.id = q.id
  sp : s.sp = 0
  ba : s.ba = q'.ba
  te : 0 ≤ s.te ∧ s.te ≤ 2
  t0 : i % 4 = 0 → s.te = 0 ∧ q'.ba = (q.ba + 1) % 256
  t1 : i % 4 ≠ 0 → 1 ≤ s.te ∧ q'.ba = q.ba ∧ s.ky = false
  k0 : i = 0 → s.ky = true
  ky : s.ky = true → i % 4 = 0 ∧ q'.fr = 0
  nk : s.ky = false → i % 4 = 0 → q'.fr = q.fr
  sy : s.sy = true → 1 ≤ s.te
  st : i % 4 ≠ 0 → (s.te = 1 ∧ s.sy = true ∧ q.fr = 0 ∧ q'.fr = 1) ∨ (s.te ≤ q.fr ∧ q'.fr = q.fr) ∨ (s.te = 2 ∧ s.sy = true ∧ q.fr = 1 ∧ q'.fr = 2)
theorem fr_ok (i : Nat) : FrOK i (sq f ks i) (sq f ks (i + 1)) (fr f ks i) := by
  obtain ⟨a1, a2, a3, a4, a5, a6, a7, a8⟩ := sq_ok (f := f) (ks := ks) i
  have e : sq f ks (i + 1) = (frame i (ks.getD i false) (sq f ks i)).2 := rfl
  have e2 : fr f ks i = (frame i (ks.getD i false) (sq f ks i)).1 := rfl
  generalize ks.getD i false = k at e e2
  rw [e, e2]
  clear e e2
  generalize sq f ks i = q at *
  unfold frame
  split
  · rename_i h
    exact ⟨rfl, rfl, rfl, by dsimp only; omega, fun h => ⟨rfl, rfl⟩, fun h => by omega, fun _ => rfl, fun _ => ⟨by omega, rfl⟩, fun h => (by cases h), fun h => (by cases h), fun h => by omega⟩
  · rename_i h
    split
    · exact ⟨rfl, rfl, rfl, by dsimp only; omega, fun h => ⟨rfl, rfl⟩, fun h => by omega, fun h => by omega, fun h => (by cases h), fun _ _ => rfl, fun h => (by cases h), fun h => by omega⟩
    · split
      · exact ⟨rfl, rfl, rfl, by dsimp only; omega, fun h => by omega, fun h => ⟨by dsimp only; omega, rfl, rfl⟩, fun h => by omega, fun h => (by cases h), fun _ h => by omega, fun h => by dsimp only; omega, fun h => by dsimp only; omega⟩
      · split
        · rename_i h0
          exact ⟨rfl, rfl, rfl, by dsimp only; omega, fun h => by omega, fun h => ⟨by dsimp only; omega, rfl, rfl⟩, fun h => by omega, fun h => (by cases h), fun _ h => by omega, fun h => by dsimp only; omega, fun h => .inl ⟨rfl, rfl, h0, rfl⟩⟩
        · rename_i h0
          refine ⟨rfl, rfl, rfl, by dsimp only; omega, fun h => by omega, fun h => ⟨by dsimp only; omega, rfl, rfl⟩, fun h => by omega, fun h => (by cases h), fun _ h => by omega, fun h => by dsimp only; omega, fun h => ?_⟩
          dsimp only
          rcases (show q.fr = 1 ∨ q.fr = 2 by omega) with h1 | h1
          · exact .inr (.inr ⟨rfl, by simp [h1], h1, by omega⟩)
          · exact .inr (.inl ⟨by omega, by omega⟩)
theorem fr_good (i : Nat) : (fr f ks i).good = true := by
  have a := fr_ok (f := f) (ks := ks) i
  have b := sq_ok (f := f) (ks := ks) i
  have c := sq_ok (f := f) (ks := ks) (i + 1)
  rw [Sh.good_iff]
  obtain ⟨h1, h2, h3, h4, h5, h6, h7, h8, h9, h10, h11⟩ := a
  have := b.id
  have := c.b0
  have := c.b1
  refine ⟨by omega, by omega, by omega, by omega, by omega, by omega, by omega, by omega, ?_, ?_⟩
  · intro hk; have := h5 (h8 hk).1; omega
  · intro hs; have := h10 hs; omega
theorem lead_of {a i j : Int} (h : 1 ≤ i - j) (h' : i - j ≤ 100) : lead ((a + i) % 32768) ((a + j) % 32768) = i - j := by
  unfold lead
  split <;> omega
/-- A decoder of one layer. -/
def dcX (id ba op : Int) : Dc := ⟨⟨true, id, ba, op⟩, zLy, zLy⟩
theorem dcX_good {id ba op : Int} (h1 : 0 ≤ id ∧ id ≤ 32767) (h2 : 0 ≤ ba ∧ ba ≤ 255) (h3 : 0 ≤ op ∧ op ≤ 3) : (dcX id ba op).good = true := by
  simp [dcX, Dc.good, Ly.fit, zLy, h1, h2, h3]
theorem show_key {d : Dc} {s : Sh} (hk : s.ky = true) (h0 : s.sp = 0) : showS d s = (dcX s.id s.ba 0, true) := by
  simp [showS, hk, fitsS, h0, Dc.cut, Dc.set, dcX, zDc]
theorem show_dead {s : Sh} (hk : s.ky = false) (h0 : s.sp = 0) : showS zDc s = (zDc, false) := by
  simp [showS, hk, h0, Dc.get, zDc, zLy]
theorem show_base {s : Sh} {id ba op : Int} (hk : s.ky = false) (h0 : s.sp = 0) (ht : s.te = 0) (hl : 0 < lead s.id id) : showS (dcX id ba op) s = if s.ba = (ba + 1) % 256 then (dcX s.id s.ba op, true) else (zDc, false) := by
  simp [showS, hk, fitsS, h0, ht, Dc.get, Dc.set, Dc.cut, dcX, hl]
theorem show_up {s : Sh} {id ba op : Int} (hk : s.ky = false) (h0 : s.sp = 0) (ht : 1 ≤ s.te) (hl : 0 < lead s.id id) : showS (dcX id ba op) s = if s.ba = ba ∧ (s.te ≤ op ∨ s.sy = true ∧ s.te = op + 1) then (dcX s.id ba (max op s.te), true) else (dcX id ba op, false) := by
  have hne : ¬ s.te = 0 := by omega
  simp [showS, hk, fitsS, h0, hne, Dc.get, Dc.set, dcX, hl]
/-- A decoder that was shown the frames up to a temporal layer. -/
structure Lv (f : Int) (ks : List Bool) (most : Int) (i : Nat) (d : Dc) : Prop where
  z : i = 0 → d = zDc
  p : 0 < i → ∃ j : Nat, 4 * ((i - 1) / 4) ≤ j ∧ j < i ∧ d = dcX ((f + j) % 32768) (sq f ks i).ba (min (sq f ks i).fr most)
theorem Lv.good {most : Int} {i : Nat} {d : Dc} (h : Lv f ks most i d) (hm : 0 ≤ most ∧ most ≤ 2) : d.good = true := by
  rcases Nat.eq_zero_or_pos i with h0 | h0
  · rw [h.z h0]; rfl
  · obtain ⟨j, _, _, rfl⟩ := h.p h0
    have b := sq_ok (f := f) (ks := ks) i
    have := b.b0
    have := b.b1
    have : 0 ≤ (sq f ks i).fr := by
      rcases (show i % 4 = 0 ∨ i % 4 = 1 ∨ i % 4 = 2 ∨ i % 4 = 3 by omega) with h | h | h | h
      · have := b.pz h0 h; omega
      · have := b.p1 h; omega
      · have := b.p2 h; omega
      · have := b.p3 h; omega
    exact dcX_good (by omega) (by omega) (by omega)
theorem Lv.skip {most : Int} {i : Nat} {d : Dc} (h : Lv f ks most i d) (hm : 0 ≤ most ∧ most ≤ 2) (ht : most < (fr f ks i).te) : Lv f ks most (i + 1) d := by
  obtain ⟨h1, h2, h3, h4, h5, h6, h7, h8, h9, h10, h11⟩ := fr_ok (f := f) (ks := ks) i
  have hi : i % 4 ≠ 0 := fun e => by have := h5 e; omega
  have h0 : 0 < i := by omega
  obtain ⟨j, g1, g2, g3⟩ := h.p h0
  obtain ⟨u1, u2, u3⟩ := h6 hi
  refine ⟨fun e => by omega, fun _ => ⟨j, by omega, by omega, ?_⟩⟩
  rw [g3, u2]
  have := h11 hi
  congr 1
  omega
theorem Lv.shown {most : Int} {i : Nat} {d : Dc} (h : Lv f ks most i d) (hm : 0 ≤ most ∧ most ≤ 2) (ht : (fr f ks i).te ≤ most) : (showS d (fr f ks i)).2 = true ∧ Lv f ks most (i + 1) (showS d (fr f ks i)).1 := by
  obtain ⟨h1, h2, h3, h4, h5, h6, h7, h8, h9, h10, h11⟩ := fr_ok (f := f) (ks := ks) i
  have b := sq_ok (f := f) (ks := ks) i
  have bid := b.id
  have key : ∀ op, op = min (sq f ks (i + 1)).fr most → showS d (fr f ks i) = (dcX (fr f ks i).id (fr f ks i).ba op, true) → (showS d (fr f ks i)).2 = true ∧ Lv f ks most (i + 1) (showS d (fr f ks i)).1 := fun op ho e => by
    rw [e]
    refine ⟨rfl, fun e => by omega, fun _ => ⟨i, by omega, by omega, ?_⟩⟩
    rw [h1, h3, ho, bid]
  cases hk : (fr f ks i).ky
  · have h0 : 0 < i := by
      rcases Nat.eq_zero_or_pos i with h0 | h0
      · have := h7 h0; rw [hk] at this; cases this
      · exact h0
    obtain ⟨j, g1, g2, g3⟩ := h.p h0
    have hl : 0 < lead (fr f ks i).id ((f + (j : Int)) % 32768) := by
      rw [h1, bid, lead_of (by omega) (by omega)]; omega
    by_cases hi : i % 4 = 0
    · obtain ⟨u1, u2⟩ := h5 hi
      have u3 := h9 hk hi
      exact key _ (by rw [u3]) (by rw [g3, show_base hk h2 u1 hl, if_pos (by rw [h3, u2])])
    · obtain ⟨u1, u2, u3⟩ := h6 hi
      have u4 := h11 hi
      have hc : (fr f ks i).te ≤ min (sq f ks i).fr most ∨ (fr f ks i).sy = true ∧ (fr f ks i).te = min (sq f ks i).fr most + 1 := by
        rcases u4 with ⟨t1, t2, t3, _⟩ | ⟨t1, _⟩ | ⟨t1, t2, t3, _⟩
        · exact .inr ⟨t2, by omega⟩
        · exact .inl (by omega)
        · exact .inr ⟨t2, by omega⟩
      have e : showS d (fr f ks i) = (dcX (fr f ks i).id (fr f ks i).ba (max (min (sq f ks i).fr most) (fr f ks i).te), true) := by
        rw [g3, show_up hk h2 u1 hl, if_pos ⟨by rw [h3, u2], hc⟩, h3, u2]
      exact key _ (by omega) e
  · exact key 0 (by have := (h8 hk).2; omega) (show_key hk h2)
/-- A decoder behind the loss of a frame that is not a base one. -/
structure Lw (f : Int) (ks : List Bool) (i : Nat) (d : Dc) : Prop where
  p : ∃ (j : Nat) (op : Int), 0 < i ∧ 4 * ((i - 1) / 4) ≤ j ∧ j < i ∧ 0 ≤ op ∧ op ≤ 3 ∧ d = dcX ((f + j) % 32768) (sq f ks i).ba op
theorem Lw.good {i : Nat} {d : Dc} (h : Lw f ks i d) : d.good = true := by
  obtain ⟨j, op, _, _, _, _, _, rfl⟩ := h.p
  have b := sq_ok (f := f) (ks := ks) i
  have := b.b0
  have := b.b1
  exact dcX_good (by omega) (by omega) (by omega)
theorem Lv.lost {i : Nat} {d : Dc} (h : Lv f ks 2 i d) (ht : 0 < (fr f ks i).te) : Lw f ks (i + 1) d := by
  obtain ⟨h1, h2, h3, h4, h5, h6, h7, h8, h9, h10, h11⟩ := fr_ok (f := f) (ks := ks) i
  have hi : i % 4 ≠ 0 := fun e => by have := h5 e; omega
  have h0 : 0 < i := by omega
  obtain ⟨j, g1, g2, g3⟩ := h.p h0
  obtain ⟨u1, u2, u3⟩ := h6 hi
  have b := sq_ok (f := f) (ks := ks) i
  have : 0 ≤ (sq f ks i).fr ∧ (sq f ks i).fr ≤ 2 := by
    rcases (show i % 4 = 1 ∨ i % 4 = 2 ∨ i % 4 = 3 by omega) with h | h | h
    · have := b.p1 h; omega
    · have := b.p2 h; omega
    · have := b.p3 h; omega
  exact ⟨j, min (sq f ks i).fr 2, by omega, by omega, by omega, by omega, by omega, by rw [g3, u2]⟩
theorem Lw.shown {i : Nat} {d : Dc} (h : Lw f ks i d) : ((fr f ks i).te = 0 → (showS d (fr f ks i)).2 = true) ∧ Lw f ks (i + 1) (showS d (fr f ks i)).1 := by
  obtain ⟨j, op, h0, g1, g2, o1, o2, g3⟩ := h.p
  obtain ⟨h1, h2, h3, h4, h5, h6, h7, h8, h9, h10, h11⟩ := fr_ok (f := f) (ks := ks) i
  have b := sq_ok (f := f) (ks := ks) i
  have bid := b.id
  have hl : 0 < lead (fr f ks i).id ((f + (j : Int)) % 32768) := by
    rw [h1, bid, lead_of (by omega) (by omega)]; omega
  cases hk : (fr f ks i).ky
  · by_cases hi : i % 4 = 0
    · obtain ⟨u1, u2⟩ := h5 hi
      rw [g3, show_base hk h2 u1 hl, if_pos (by rw [h3, u2])]
      exact ⟨fun _ => rfl, ⟨i, op, by omega, by omega, by omega, o1, o2, by rw [h1, h3, bid]⟩⟩
    · obtain ⟨u1, u2, u3⟩ := h6 hi
      rw [g3, show_up hk h2 u1 hl]
      split
      · exact ⟨fun e => by omega, ⟨i, max op (fr f ks i).te, by omega, by omega, by omega, by omega, by omega, by rw [h1, bid, u2]⟩⟩
      · exact ⟨fun e => by omega, ⟨j, op, by omega, by omega, by omega, o1, o2, by rw [u2]⟩⟩
  · rw [show_key hk h2]
    exact ⟨fun _ => rfl, ⟨i, 0, by omega, by omega, by omega, by omega, by omega, by rw [h1, h3, bid]⟩⟩
/-- A decoder behind the loss of a base frame, at a. -/
structure Ld (f : Int) (ks : List Bool) (a i : Nat) (d : Dc) : Prop where
  lt : a < i
  a4 : a % 4 = 0
  p : d = zDc ∨ (i ≤ a + 4 ∧ ∃ (j : Nat) (op : Int), j < a ∧ a ≤ j + 4 ∧ 0 ≤ op ∧ op ≤ 3 ∧ d = dcX ((f + j) % 32768) (sq f ks a).ba op ∧ (sq f ks i).ba = ((sq f ks a).ba + 1) % 256)
theorem Ld.good {a i : Nat} {d : Dc} (h : Ld f ks a i d) : d.good = true := by
  rcases h.p with rfl | ⟨_, j, op, _, _, o1, o2, rfl, _⟩
  · rfl
  · have b := sq_ok (f := f) (ks := ks) a
    have := b.b0
    have := b.b1
    exact dcX_good (by omega) (by omega) (by omega)
theorem Lv.dead {a : Nat} {d : Dc} (h : Lv f ks 2 a d) (ht : (fr f ks a).te = 0) : Ld f ks a (a + 1) d := by
  obtain ⟨h1, h2, h3, h4, h5, h6, h7, h8, h9, h10, h11⟩ := fr_ok (f := f) (ks := ks) a
  have hi : a % 4 = 0 := by
    rcases Nat.eq_zero_or_pos (a % 4) with h | h
    · exact h
    · have := h6 (by omega); omega
  refine ⟨by omega, hi, ?_⟩
  rcases Nat.eq_zero_or_pos a with h0 | h0
  · exact .inl (h.z h0)
  · obtain ⟨j, g1, g2, g3⟩ := h.p h0
    have b := sq_ok (f := f) (ks := ks) a
    have := b.pz h0 hi
    exact .inr ⟨by omega, j, min (sq f ks a).fr 2, by omega, by omega, by omega, by omega, g3, (h5 hi).2⟩
theorem Ld.shown {a i : Nat} {d : Dc} (h : Ld f ks a i d) : (showS d (fr f ks i)).2 = (fr f ks i).ky ∧ ((fr f ks i).ky = true → Lv f ks 2 (i + 1) (showS d (fr f ks i)).1) ∧ ((fr f ks i).ky = false → Ld f ks a (i + 1) (showS d (fr f ks i)).1) := by
  obtain ⟨hlt, ha, hp⟩ := h
  obtain ⟨h1, h2, h3, h4, h5, h6, h7, h8, h9, h10, h11⟩ := fr_ok (f := f) (ks := ks) i
  have b := sq_ok (f := f) (ks := ks) i
  have bid := b.id
  cases hk : (fr f ks i).ky
  · rcases hp with rfl | ⟨hi4, j, op, j1, j2, o1, o2, rfl, hba⟩
    · rw [show_dead hk h2]
      exact ⟨rfl, fun e => (by cases e), fun _ => ⟨by omega, ha, .inl rfl⟩⟩
    · have hl : 0 < lead (fr f ks i).id ((f + (j : Int)) % 32768) := by
        rw [h1, bid, lead_of (by omega) (by omega)]; omega
      have ba := sq_ok (f := f) (ks := ks) a
      have := ba.b0
      have := ba.b1
      by_cases hi : i % 4 = 0
      · obtain ⟨u1, u2⟩ := h5 hi
        rw [show_base hk h2 u1 hl, if_neg (by rw [h3, u2, hba]; omega)]
        exact ⟨rfl, fun e => (by cases e), fun _ => ⟨by omega, ha, .inl rfl⟩⟩
      · obtain ⟨u1, u2, u3⟩ := h6 hi
        rw [show_up hk h2 u1 hl, if_neg (by rw [h3, u2, hba]; omega)]
        exact ⟨rfl, fun e => (by cases e), fun _ => ⟨by omega, ha, .inr ⟨by omega, j, op, j1, j2, o1, o2, rfl, by rw [u2, hba]⟩⟩⟩
  · rw [show_key hk h2]
    have := h8 hk
    refine ⟨rfl, fun _ => ⟨fun e => by omega, fun _ => ⟨i, by omega, by omega, ?_⟩⟩, fun e => (by cases e)⟩
    rw [h1, h3, bid, this.2]
    rfl
end
end Go.Proofs.Pic
