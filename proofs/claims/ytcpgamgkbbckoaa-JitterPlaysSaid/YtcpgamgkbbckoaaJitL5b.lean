/- JitterPlays: the walk, second part: the puts. -/
import Derived.Test.YtcpgamgkbbckoaaJitL5
import Derived.Test.YtcpgamgkbbckoaaJitL6
namespace Go.Proofs.Jit
open Go.Ab
set_option maxRecDepth 100000
set_option maxHeartbeats 4000000
set_option linter.unusedSimpArgs false
set_option linter.unusedVariables false
theorem plOK_ok {ck sq tm : Int} {L T : List Md} {g : Nat → Nat} {k : Nat} {b : Bf} (hb : PlOK ck sq tm L T g k b) (hf : ∀ p ∈ L, p.fin = true) : decide (b.l.length ≤ 9223372036854775807) = true ∧ finB b.l = true ∧ b.rg = true := by
 by_cases h0 : k = 0
 · have := hb.zero h0
   subst this
   exact ⟨decide_eq_true (Nat.zero_le _), rfl, rfl⟩
 · obtain ⟨S0, hI⟩ := hb.inv (by omega)
   exact (invC_ok (hI.toC (Nat.zero_le _)) hf).1
theorem puts5 (h20 : SoundAt Try.prog 20 k20) (ck0 ck sq tm : Int) (fr : List Int) (ev : List Ev) (P T : List Md) (g : Nat → Nat)
 (hc : 1 ≤ ck ∧ ck ≤ 96) (hP : PkL ck sq tm P g) (hT : TurnOK P T) (hPf : ∀ p ∈ P, p.fin = true) (hev : ∀ e ∈ ev, inI 0 65535 e.wt = true ∧ inI 0 255 e.pk = true) {K : Kont} {e : Env} {h : Hp} {n : Nat}
 (he : EnvIn 3 e [(2, .p 0 0), (6, .fz (rows Md.l P) P.length), (7, .p 1 0), (84, .sg 2 0 T.length), (85, .i .i64 (T.length : Int)), (86, .i .i64 ((0 : Nat) : Int))])
 (hh : HpIn 3 h [(2, { cells := rows Md.l T, gr := some 9 }), (0, { cells := [.i .u8 ck0, .i .u16 sq, .i .u32 tm, .fz (rows u8R fr) fr.length, .fz (rows Ev.l ev) ev.length] }), (1, { cells := (evZ ck).a })])
 (hK : ∀ e' (b : Bf), eget e' 6 = some (.fz (rows Md.l P) P.length) → eget e' 7 = some (.p 1 0) → PlOK ck sq tm P T g T.length b → K (.exit 2) e' [(2, { cells := rows Md.l T, gr := some 9 }), (0, { cells := [.i .u8 ck0, .i .u16 sq, .i .u32 tm, .fz (rows u8R fr) fr.length, .fz (rows Ev.l ev) ev.length] }), (1, { cells := b.a })] 3) :
 Ab.Loop Try.prog cts5 206 0 i5l30 K e h n := by
 have hPb : ∀ j, belL j (rows Md.l P) = true := fun j => mrB j P
 have hTb : ∀ j, belL j (rows Md.l T) = true := fun j => mrB j T
 have hlA : ∀ b : Bf, b.a.length = 11 := fun b => rfl
 have htA : ∀ b : Bf, List.take 11 b.a = b.a := fun b => List.take_of_length_le (by rw [hlA]; omega)
 have hoA : ∀ b : Bf, oneAll b.a = true := fun b => rfl
 have hdA : ∀ b : Bf, List.drop 11 b.a = [] := fun b => List.drop_of_length_le (by rw [hlA]; omega)
 have hA1 : ∀ b : Bf, b.a[1]? = some (.i .i64 b.ti) := fun b => rfl
 have hbA : ∀ (b : Bf) j, belL j b.a = true := fun b j => Bf.bel' b j
 have hPl := hP.len
 have hTl := hT.len
 refine Loop.countI (F := ⟨Try.prog, cxT T5, cts5, 206, 0⟩) (hT5 h20) mo T.length (fun k => PlOK ck sq tm P T g k (plB (evZ ck) T ev k))
  (fun k => [(2, .p 0 0), (6, .fz (rows Md.l P) P.length), (7, .p 1 0), (84, .sg 2 0 T.length), (85, .i .i64 (T.length : Int)), (86, .i .i64 (k : Int))])
  (fun k => [(2, { cells := rows Md.l T, gr := some 9 }), (0, { cells := [.i .u8 ck0, .i .u16 sq, .i .u32 tm, .fz (rows u8R fr) fr.length, .fz (rows Ev.l ev) ev.length] }), (1, { cells := (plB (evZ ck) T ev k).a })]) 3 (by decide) pl_ok0 he hh (fun k hk hok => ?_)
 dsimp only [T5]
 by_cases hlt : k < T.length
 · have c1 : decide ((k : Int) < (T.length : Int)) = true := decide_eq_true (by omega)
   have c2 : decide (0 ≤ (k : Int) ∧ (k : Int) < (T.length : Int)) = true := decide_eq_true (by omega)
   have hw : IntKind.i64.wrap ((k : Int) + 1) = ((k + 1 : Nat) : Int) := by rw [wrapL (by omega) (by omega)]; omega
   obtain ⟨p, hp⟩ : ∃ p, T[k]? = some p := ⟨_, List.getElem?_eq_getElem hlt⟩
   have hrp := md_at hp
   have hnx : plB (evZ ck) T ev (k + 1) = (putS (plB (evZ ck) T ev k) ((plB (evZ ck) T ev k).ti + wtE ev k) p).1 := by simp only [plB, hp]
   obtain ⟨j, hj⟩ := hT.mem k p hp
   have hpf := hPf p (List.mem_of_getElem? hj)
   have hwr := wtE_rng (ev := ev) (k := k)
   have hst := pl_step hc hP hT hok hp hwr
   obtain ⟨q1, q2, q3⟩ := plOK_ok hok hPf
   have hti := hok.ti
   rw [hnx]
   have hwE : ∀ x, ev[k]? = some x → wtE ev k = x.wt % 200 := fun x hx => by simp only [wtE, hx]
   have hw0 : ev[k]? = none → wtE ev k = 0 := fun hx => by simp only [wtE, hx]
   generalize plB (evZ ck) T ev k = b at *
   generalize wtE ev k = W at *
   obtain ⟨z1, z2, z3⟩ := hst
   obtain ⟨y1, y2, y3⟩ := plOK_ok z2 hPf
   have m4 : IntKind.i64.wrap (b.ti + W) = b.ti + W := wrapL (by omega) (by omega)
   have h15 : ∀ (h : Hp) n, k15 [.agg b.a, .i .i64 (b.ti + W), .agg p.l] h n = some (true, { v := .tup [.agg (putS b (b.ti + W) p).1.a, .i .i64 0], n := n }) := fun h n => by
    simp only [k15, bfA_a, md9_l, Option.bind_some, q1, q2, q3, hpf, bfV, Bool.and_self, z1]
   have h12 : ∀ (h : Hp) n, k12 [.agg (putS b (b.ti + W) p).1.a] h n = some (true, { v := .i .i64 0, n := n }) := fun h n => by
    simp only [k12, bfA_a, Option.bind_some, y1, y2, y3, Bool.and_self, z3, if_true]
   generalize (putS b (b.ti + W) p).1 = b' at *
   have hlM : p.l.length = 9 := rfl
   have htM : p.l.take 9 = p.l := rfl
   have hpb : ∀ j, belL j p.l = true := fun j => belL_mono0 _ (Md.bel p)
   have hpo : oneAll p.l = true := rfl
   have hdM : List.drop 9 p.l = [] := rfl
   by_cases he : k < ev.length
   · have d1 : decide ((k : Int) < (ev.length : Int)) = true := decide_eq_true (by omega)
     have d2 : decide (0 ≤ (k : Int) ∧ (k : Int) < (ev.length : Int)) = true := decide_eq_true (by omega)
     obtain ⟨x, hx⟩ : ∃ x, ev[k]? = some x := ⟨_, List.getElem?_eq_getElem he⟩
     have r0 : (rows Ev.l ev)[k * 3]? = some (.i .u16 x.wt) := rows_get (f := Ev.l) (z := 3) (j := 0) (v := .i .u16 x.wt) Ev.len hx rfl
     have hxr := hev x (List.mem_of_getElem? hx)
     have hx1 := inI_t hxr.1
     have hWx := hwE x hx
     have m1 : x.wt.tmod 200 = W := by rw [hWx]; exact Int.tmod_eq_emod_of_nonneg (by omega)
     have m2 : IntKind.u16.wrap W = W := by rw [wrapU16]; omega
     have m3 : IntKind.i64.wrap W = W := wrapL (by omega) (by omega)
     simp (maxSteps := 400000) only [go_sem, c1, c2, d1, d2, hw, hrp, r0, m1, m2, m3, m4, h15, h12, hlM, htM, hpb, hpo, hdM, hlA, htA, hoA, hdA, hA1, hbA, hPb, hTb, hlt, List.drop_zero, List.take_zero, List.nil_append, u8B, evB, AV.bel, belL, nblt, simprocAttr]
     exact z2
   · have d1 : decide ((k : Int) < (ev.length : Int)) = false := decide_eq_false (by omega)
     have hW0 := hw0 (List.getElem?_eq_none (by omega))
     subst hW0
     simp (maxSteps := 400000) only [go_sem, c1, c2, d1, hw, hrp, m4, h15, h12, hlM, htM, hpb, hpo, hdM, hlA, htA, hoA, hdA, hA1, hbA, hPb, hTb, hlt, List.drop_zero, List.take_zero, List.nil_append, u8B, evB, AV.bel, belL, nblt, simprocAttr]
     exact z2
 · obtain rfl : k = T.length := by omega
   have c1 : decide ((T.length : Int) < (T.length : Int)) = false := decide_eq_false (by omega)
   simp (maxSteps := 400000) only [go_sem, c1, simprocAttr]
   exact hK _ _ rfl rfl hok
def tkN (b0 : Bf) (n : Nat) : Nat → Nat × Bf
 | 0 => (0, b0)
 | j + 1 => if (tkN b0 n j).1 < n then ((tkN b0 n j).1 + (tkS (tkN b0 n j).2 (max (dueE (tkN b0 n j).2).1 (tkN b0 n j).2.ti)).2.1.length, (tkS (tkN b0 n j).2 (max (dueE (tkN b0 n j).2).1 (tkN b0 n j).2.ti)).1) else tkN b0 n j
structure TkOK5 (ck sq tm : Int) (L : List Md) (g : Nat → Nat) (j at_ : Nat) (b : Bf) : Prop where
 inv : at_ = L.length ∧ L.length = 0 ∧ b = evZ ck ∨ ∃ S0, InvP ck sq tm L g S0 at_ b
 map : b.l.map (·.p) = L.drop at_
 le : at_ ≤ L.length
 ge : j ≤ at_
 ti : 0 ≤ b.ti ∧ b.ti ≤ 2000000
theorem TkOK5.lo {ck sq tm : Int} {L : List Md} {g : Nat → Nat} {j at_ : Nat} {b : Bf} (h : TkOK5 ck sq tm L g j at_ b) : b.lo = 0 := by
 rcases h.inv with ⟨_, _, e⟩ | ⟨S0, hI⟩
 · rw [e]; rfl
 · exact hI.lo
theorem TkOK5.good {ck sq tm : Int} {L : List Md} {g : Nat → Nat} {j at_ : Nat} {b : Bf} (hc : 1 ≤ ck ∧ ck ≤ 96) (h : TkOK5 ck sq tm L g j at_ b) : goodB b = true := by
 rcases h.inv with ⟨_, _, e⟩ | ⟨S0, hI⟩
 · rw [e]; exact evZ_good hc
 · exact hI.good
theorem TkOK5.ok {ck sq tm : Int} {L : List Md} {g : Nat → Nat} {j at_ : Nat} {b : Bf} (h : TkOK5 ck sq tm L g j at_ b) (hf : ∀ p ∈ L, p.fin = true) : decide (b.l.length ≤ 9223372036854775807) = true ∧ finB b.l = true ∧ b.rg = true := by
 rcases h.inv with ⟨_, _, e⟩ | ⟨S0, hI⟩
 · rw [e]; exact ⟨decide_eq_true (Nat.zero_le _), rfl, rfl⟩
 · exact (invC_ok (hI.toC h.le) hf).1
theorem takes5 (h20 : SoundAt Try.prog 20 k20) (ck0 ck sq tm : Int) (fr : List Int) (ev : List Ev) (P : List Md) (g : Nat → Nat) (b0 : Bf)
 (hc : 1 ≤ ck ∧ ck ≤ 96) (hP : PkL ck sq tm P g) (hPf : ∀ p ∈ P, p.fin = true) (hb0 : TkOK5 ck sq tm P g 0 0 b0) {K : Kont} {e : Env} {h : Hp} {n : Nat}
 (he : EnvIn 3 e [(6, .fz (rows Md.l P) P.length), (7, .p 1 0), (16, .i .i64 ((0 : Nat) : Int)), (124, .i .i64 ((P.length + 1 : Nat) : Int)), (125, .i .i64 ((0 : Nat) : Int))])
 (hh : HpIn 3 h [(1, { cells := b0.a })])
 (hK : ∀ e' h' n' (b : Bf), eget e' 6 = some (.fz (rows Md.l P) P.length) → eget e' 7 = some (.p 1 0) → eget e' 16 = some (.i .i64 (P.length : Int)) → hget h' 1 = some { cells := b.a } → b.lo = 0 → b.l.length = 0 → K (.exit 4) e' h' n') :
 Ab.Loop Try.prog cts5 206 0 i5l43 K e h n := by
 have hPb : ∀ j, belL j (rows Md.l P) = true := fun j => mrB j P
 have hlA : ∀ b : Bf, b.a.length = 11 := fun b => rfl
 have htA : ∀ b : Bf, List.take 11 b.a = b.a := fun b => List.take_of_length_le (by rw [hlA]; omega)
 have hoA : ∀ b : Bf, oneAll b.a = true := fun b => rfl
 have hdA : ∀ b : Bf, List.drop 11 b.a = [] := fun b => List.drop_of_length_le (by rw [hlA]; omega)
 have hA1 : ∀ b : Bf, b.a[1]? = some (.i .i64 b.ti) := fun b => rfl
 have hbA : ∀ (b : Bf) j, belL j b.a = true := fun b j => Bf.bel' b j
 have hPl := hP.len
 refine Loop.countI (F := ⟨Try.prog, cxT T5, cts5, 206, 0⟩) (hT5 h20) mo (P.length + 1) (fun k => TkOK5 ck sq tm P g k (tkN b0 P.length k).1 (tkN b0 P.length k).2)
  (fun k => [(6, .fz (rows Md.l P) P.length), (7, .p 1 0), (16, .i .i64 (((tkN b0 P.length k).1 : Nat) : Int)), (124, .i .i64 ((P.length + 1 : Nat) : Int)), (125, .i .i64 (k : Int))])
  (fun k => [(1, { cells := (tkN b0 P.length k).2.a })]) 3 (by decide) hb0 he hh (fun k hk hok => ?_)
 dsimp only [T5]
 have hk1 : k ≤ P.length := by have := hok.ge; have := hok.le; omega
 have c1 : decide ((k : Int) < ((P.length + 1 : Nat) : Int)) = true := decide_eq_true (by omega)
 have hnx : tkN b0 P.length (k + 1) = if (tkN b0 P.length k).1 < P.length then ((tkN b0 P.length k).1 + (tkS (tkN b0 P.length k).2 (max (dueE (tkN b0 P.length k).2).1 (tkN b0 P.length k).2.ti)).2.1.length, (tkS (tkN b0 P.length k).2 (max (dueE (tkN b0 P.length k).2).1 (tkN b0 P.length k).2.ti)).1) else tkN b0 P.length k := rfl
 obtain ⟨q1, q2, q3⟩ := hok.ok hPf
 have hgd := hok.good hc
 have hlo := hok.lo
 have hti := hok.ti
 by_cases hlt : (tkN b0 P.length k).1 < P.length
 · rw [if_pos hlt] at hnx
   rw [hnx]
   dsimp only
   generalize (tkN b0 P.length k).2 = b at *
   generalize (tkN b0 P.length k).1 = A at *
   clear hnx
   obtain ⟨S0, hI⟩ : ∃ S0, InvP ck sq tm P g S0 A b := by
    rcases hok.inv with ⟨e1, e2, _⟩ | h
    · omega
    · exact h
   obtain ⟨D, hD, hDr, c, F, N, ht, n1, n2, n3, hF, ⟨y, y1, y2⟩, hI2, hm2, ht2⟩ := pl_take hc hP hI hok.map hlt hti
   subst n2
   rw [hD]
   dsimp only
   rw [ht]
   dsimp only
   have hge := hok.ge
   have hok2 : TkOK5 ck sq tm P g (k + 1) (A + F.length) c := ⟨.inr ⟨S0, hI2⟩, hm2, n3, by omega, by rw [ht2]; omega⟩
   obtain ⟨y3, y4, y5⟩ := hok2.ok hPf
   have hw : IntKind.i64.wrap ((k : Int) + 1) = ((k + 1 : Nat) : Int) := by rw [wrapL (by omega) (by omega)]; omega
   have h21 : ∀ (h : Hp) n, k21 [.agg b.a] h n = some (true, { v := .tup [.i .i64 D, .i .i64 0], n := n }) := fun h n => by
    simp only [k21, bfA_a, Option.bind_some, q1, q2, q3, Bool.and_self, hD]
   have h23 : ∀ (h : Hp) n, k23 [.agg b.a, .i .i64 (max D b.ti)] h n = some (true, { v := .tup [.agg c.a, .fz (rows Md.l F) F.length, .i .i64 0], n := n }) := fun h n => by
    simp only [k23, bfA_a, Option.bind_some, q1, q2, q3, Bool.and_self, ht, tkA]
   have h12 : ∀ (h : Hp) n, k12 [.agg c.a] h n = some (true, { v := .i .i64 0, n := n }) := fun h n => by
    simp only [k12, bfA_a, Option.bind_some, y3, y4, y5, Bool.and_self, hI2.good, if_true]
   have hFl : ∀ p ∈ F, p.fin = true := fun p hp => hPf p (by rw [hF] at hp; exact List.mem_of_mem_drop (List.mem_of_mem_take hp))
   have hun : unrows 9 md9 F.length (rows Md.l F) = some F := unrows_rows Md.len md9_l F
   have hsB : smB F = true := List.all_eq_true.2 fun x hx => by
    have := hFl x hx
    simp only [Md.fin, Bool.and_eq_true] at this
    simp only [this.1.1.1, this.1.1.2, Bool.and_self]
   have hpre : List.take (F.length * 9) (List.drop (A * 9) (rows Md.l P)) = rows Md.l F := by rw [rows_drop Md.len, rows_take Md.len, ← hF]
   have hFll : decide (F.length ≤ 9223372036854775807) = true := decide_eq_true (by omega)
   have hdb : ∀ j, belL j (List.drop (A * 9) (rows Md.l P)) = true := fun j => by rw [rows_drop Md.len]; exact mrB j _
   have h25 : ∀ (h : Hp) n, k25p [.fz (rows Md.l F) F.length, .fz (List.drop (A * 9) (rows Md.l P)) F.length] h n = some (true, { v := .b true, n := n }) := fun h n => by
    simp only [k25p, hun, Option.bind_some, hpre, and_self, if_true, hdb, hFll, hsB, Bool.and_self]
   have hFb : ∀ j, belL j (rows Md.l F) = true := fun j => mrB j F
   have e1 : ((F.length : Int) == 0) = false := beq_eq_false_iff_ne.2 (by omega)
   have e2 : IntKind.i64.wrap ((P.length : Int) - (A : Int)) = (P.length : Int) - (A : Int) := wrapL (by omega) (by omega)
   have e3 : decide ((F.length : Int) > (P.length : Int) - (A : Int)) = false := decide_eq_false (by omega)
   have e4 : IntKind.i64.wrap ((A : Int) + (F.length : Int)) = ((A + F.length : Nat) : Int) := by rw [wrapL (by omega) (by omega)]; omega
   have e5 : decide (0 ≤ (A : Int) ∧ (A : Int) ≤ ((A + F.length : Nat) : Int) ∧ 0 ≤ ((A + F.length : Nat) : Int) ∧ ((A + F.length : Nat) : Int) ≤ (P.length : Int) ∧ 0 ≤ (P.length : Int)) = true := decide_eq_true (by omega)
   have e6 : IntKind.i64.wrap ((F.length : Int) - 1) = ((F.length - 1 : Nat) : Int) := by rw [wrapL (by omega) (by omega)]; omega
   have e7 : decide (0 ≤ ((F.length - 1 : Nat) : Int) ∧ ((F.length - 1 : Nat) : Int) < (F.length : Int)) = true := decide_eq_true (by omega)
   have r0 : (rows Md.l F)[(F.length - 1) * 9]? = some (.b true) := rows_get (f := Md.l) (z := 9) (k := F.length - 1) (j := 0) (v := .b true) Md.len y1 (by rw [← y2]; rfl)
   have e8 : A + F.length - A = F.length := by omega
   have hk' : k < P.length + 1 := by omega
   simp (maxSteps := 400000) only [go_sem, c1, hw, h21, h23, h12, h25, e1, e2, e3, e4, e5, e6, e7, e8, r0, hlA, htA, hoA, hdA, hA1, hbA, hPb, hFb, List.drop_zero, List.take_zero, List.nil_append, AV.bel, belL, nblt, simprocAttr]
   exact ⟨hk', hok2⟩
 · have hA : (tkN b0 P.length k).1 = P.length := by have := hok.le; omega
   have hl0 : (tkN b0 P.length k).2.l.length = 0 := by
    have := congrArg List.length hok.map
    rw [List.length_map, List.length_drop, hA] at this
    omega
   rw [hA]
   generalize (tkN b0 P.length k).2 = b at *
   have hdu : dueE b = (0, 4) := by
    unfold dueE
    rw [hgd]
    have : (b.l.length == 0) = true := beq_iff_eq.2 hl0
    rw [this]; rfl
   have h21 : ∀ (h : Hp) n, k21 [.agg b.a] h n = some (true, { v := .tup [.i .i64 0, .i .i64 4], n := n }) := fun h n => by
    simp only [k21, bfA_a, Option.bind_some, q1, q2, q3, Bool.and_self, hdu]
   simp (maxSteps := 400000) only [go_sem, c1, h21, hlA, htA, hoA, hdA, hA1, hbA, hPb, List.drop_zero, List.take_zero, List.nil_append, AV.bel, belL, nblt, simprocAttr]
   exact hK _ _ _ b rfl rfl rfl rfl hlo hl0
end Go.Proofs.Jit
