/- JitterPlays: the walk, first part: the packets in another order. -/
import Derived.Test.YtcpgamgkbbckoaaJitKa
import Derived.Test.YtcpgamgkbbckoaaJitP6
import Derived.Test.YtcpgamgkbbckoaaJitI5
namespace Go.Proofs.Jit
open Go.Ab
set_option maxRecDepth 100000
set_option maxHeartbeats 4000000
set_option linter.unusedSimpArgs false
set_option linter.unusedVariables false
noncomputable def k25p : Ct
 | [.fz L m, .fz L' m'], _, n => (unrows 9 md9 m L).bind fun l => open Classical in if List.take (m * 9) L' = L ∧ m = m' then some (belL 0 L' && (decide (l.length ≤ 9223372036854775807) && smB l), { v := .b true, n }) else none
 | _, _, _ => none
theorem s25p : SoundAt Try.prog 25 k25p := fun args h n c E hc ht => by
 unfold k25p at hc
 split at hc
 · rename_i L m L' m'
   simp only [Option.bind_eq_some_iff] at hc
   obtain ⟨l, hl, hc⟩ := hc
   split at hc
   rotate_left
   · cases hc
   rename_i he
   obtain ⟨h1, h2⟩ := he
   cases hc
   simp only [Bool.and_eq_true, decide_eq_true_eq] at ht
   subst h2
   obtain ⟨rfl, hm⟩ := unrows_eq (f := Md.l) md9_eq' hl
   subst hm
   have hk : Wka (.fz L' l.length) (.fz (rows Md.l l) l.length) := by rw [← h1]; exact Wka.take _ _ _
   exact CallOK.pure (by kernel_rfl) (by simp only [belL, AV.bel, ht.1, mrB, Bool.and_self]) rfl (FTL.wka (xs := [.fz (rows Md.l l) l.length, .fz L' l.length]) (ys := [.fz (rows Md.l l) l.length, .fz (rows Md.l l) l.length]) ⟨Wka.refl _, hk, trivial⟩ (w25 l ht.2.1 ht.2.2)) _ _
 · cases hc
noncomputable def T5 : List (Nat × Ct) := [(9, k9), (10, k10), (12, k12), (15, k15), (18, k18), (20, k20), (21, k21), (23, k23), (25, k25p)]
theorem hT5 (h20 : SoundAt Try.prog 20 k20) : Sound Try.prog (cxT T5) := Sound.cons s9 (Sound.cons s10 (Sound.cons s12 (Sound.cons s15 (Sound.cons s18 (Sound.cons h20 (Sound.cons s21 (Sound.cons s23 (Sound.cons s25p Sound.nil))))))))
abbrev cts5 : List Nat := [23, 36, 40, 53, 87, 95, 120, 126, 133, 164, 184]
theorem gQ_ne {α : Type} {f : α → List AV} {z : Nat} {l : List α} (h : l.length ≠ 0) : gQ f z l = .sg { cells := rows f l, gr := some z } 0 l.length := by
 unfold gQ; rw [if_neg h]
theorem turn5 (h20 : SoundAt Try.prog 20 k20) (ck0 ck sq tm : Int) (fr : List Int) (ev : List Ev) (P : List Md) (ord : List Int) (b0 : Bf) (e0 : Int)
 (hPl : P.length ≤ 48) (hord : ∀ x ∈ ord, 0 ≤ x ∧ x ≤ 255) {K : Kont} {e : Env} {h : Hp} {n : Nat}
 (he : EnvR 3 [] e [(1, .fz (rows u8R ord) ord.length), (2, .p 0 0), (5, .i .i64 ck), (6, .fz (rows Md.l P) P.length), (7, .p 1 0), (8, .i .i64 e0), (9, (gQ Md.l 9 (turnN P ord 0)).v 2), (37, .fz (rows Md.l P) P.length), (38, .i .i64 (P.length : Int)), (39, .i .i64 ((0 : Nat) : Int))])
 (hh : HpR 3 [] h ((gQ Md.l 9 (turnN P ord 0)).h 2 ++ [(0, { cells := [.i .u8 ck0, .i .u16 sq, .i .u32 tm, .fz (rows u8R fr) fr.length, .fz (rows Ev.l ev) ev.length] }), (1, { cells := b0.a })]))
 (hK : ∀ e', eget e' 2 = some (.p 0 0) → eget e' 6 = some (.fz (rows Md.l P) P.length) → eget e' 7 = some (.p 1 0) → eget e' 9 = some ((gQ Md.l 9 (turnN P ord P.length)).v 2) → K (.exit 0) e' ((gQ Md.l 9 (turnN P ord P.length)).h 2 ++ [(0, { cells := [.i .u8 ck0, .i .u16 sq, .i .u32 tm, .fz (rows u8R fr) fr.length, .fz (rows Ev.l ev) ev.length] }), (1, { cells := b0.a })]) 3) :
 Ab.Loop Try.prog cts5 206 0 i5l19 K e h n := by
 have hPb : ∀ j, belL j (rows Md.l P) = true := fun j => mrB j P
 have hOb : ∀ j, belL j (rows u8R ord) = true := fun j => u8B j ord
 have hOr : ∀ ψ, renL ψ (rows u8R ord) = rows u8R ord := fun ψ => renL_fix0 _ (rows_bel u8R_bel)
 have hFr : ∀ ψ, renL ψ (rows u8R fr) = rows u8R fr := fun ψ => renL_fix0 _ (rows_bel u8R_bel)
 have hEr : ∀ ψ, renL ψ (rows Ev.l ev) = rows Ev.l ev := fun ψ => renL_fix0 _ (rows_bel Ev.bel)
 have hBr : ∀ ψ, renL ψ b0.a = b0.a := fun ψ => renL_fix0 _ (Bf.bel b0)
 have hBb : ∀ j, belL j b0.a = true := fun j => Bf.bel' b0 j
 have hren : ∀ ψ (l : List Md), renL ψ (rows Md.l l) = rows Md.l l := fun ψ l => renL_fix0 _ (rows_bel Md.bel)
 refine Loop.stepR (F := ⟨Try.prog, cxT T5, cts5, 206, 0⟩) (hT5 h20) mo (X := Nat) (fun k => k ≤ P.length) (fun k => P.length - k)
  (fun k => [(1, .fz (rows u8R ord) ord.length), (2, .p 0 0), (5, .i .i64 ck), (6, .fz (rows Md.l P) P.length), (7, .p 1 0), (8, .i .i64 e0), (9, (gQ Md.l 9 (turnN P ord k)).v 2), (37, .fz (rows Md.l P) P.length), (38, .i .i64 (P.length : Int)), (39, .i .i64 (k : Int))])
  (fun k => (gQ Md.l 9 (turnN P ord k)).h 2 ++ [(0, { cells := [.i .u8 ck0, .i .u16 sq, .i .u32 tm, .fz (rows u8R fr) fr.length, .fz (rows Ev.l ev) ev.length] }), (1, { cells := b0.a })]) 3 0 (fun k => k + 1) []
  (fun k => [(2, 5)]) (by decide) (by decide) (fun k => by decide) (Nat.zero_le _) he hh (fun k hk => ?_)
 dsimp only [T5]
 by_cases hlt : k < P.length
 · have c1 : decide ((k : Int) < (P.length : Int)) = true := decide_eq_true (by omega)
   have c2 : decide (0 ≤ (k : Int) ∧ (k : Int) < (P.length : Int)) = true := decide_eq_true (by omega)
   have hw : IntKind.i64.wrap ((k : Int) + 1) = ((k + 1 : Nat) : Int) := by rw [wrapL (by omega) (by omega)]; omega
   obtain ⟨p, hp⟩ : ∃ p, P[k]? = some p := ⟨_, List.getElem?_eq_getElem hlt⟩
   have hrp := md_at hp
   have hTl := turnN_len (L := P) (ord := ord) (i := k) (by omega)
   have hsk : P.length - (k + 1) < P.length - k := by omega
   have hnx : turnN P ord (k + 1) = insT (turnN P ord k) (atT ord k (turnN P ord k).length) p := by simp only [turnN, hp]
   have hat := atT_le (ord := ord) (i := k) (len := (turnN P ord k).length) (by omega)
   have hlM : p.l.length = 9 := rfl
   have htM : p.l.take 9 = p.l := rfl
   have hpb : ∀ j, belL j p.l = true := fun j => belL_mono0 _ (Md.bel p)
   have hpo : oneAll p.l = true := rfl
   have hpr : ∀ ψ, renL ψ p.l = p.l := fun ψ => renL_fix0 _ (Md.bel p)
   have hdM : List.drop 9 p.l = [] := rfl
   rw [hnx]
   generalize turnN P ord k = T at *
   by_cases h0 : k = 0
   · subst h0
     have hT0 : T = [] := List.eq_nil_of_length_eq_zero hTl
     subst hT0
     have ha : atT ord 0 0 = 0 := rfl
     have hr1 : rows Md.l [p] = p.l := by simp [rows]
     have hi : insT [] (atT ord 0 ([] : List Md).length) p = [p] := rfl
     have hrp0 : List.take 9 (rows Md.l P) = p.l := by simpa using hrp
     have d1 : decide ((0 : Int) < (P.length : Int)) = true := decide_eq_true (by omega)
     rw [hi, gQ_nil, gQ_ne (l := [p]) (by simp), hr1]
     simp (maxSteps := 400000) only [go_sem, c1, c2, d1, hw, hrp, hrp0, hlM, htM, hpb, hpo, hpr, hdM, hsk, Sh.v, Sh.h, growMax, Nat.sub_self, or_self, true_or, or_true, false_or, or_false, decide_true, decide_false, Bool.and_true, Bool.true_and, Blk.ren, renL,  AV.ren, hren, hOr, hFr, hEr, hBr, hBb,  List.drop_zero, List.take_zero, List.length_nil, if_true, Nat.add_zero, hPb, hOb, AV.bel, belL, nblt, u8B, evB, simprocAttr]
     exact ⟨by omega, by omega⟩
   · have hz : T.length ≠ 0 := by omega
     have hzi : (insT T (atT ord k T.length) p).length ≠ 0 := by rw [insT_len]; omega
     have hil : (insT T (atT ord k T.length) p).length = k + 1 := by rw [insT_len, hTl]
     have hRl : (rows Md.l T).length = k * 9 := by rw [← hTl]; exact rows_len Md.len
     have d1 : decide ((k : Int) > 0) = true := decide_eq_true (by omega)
     have g1 : decide (112 * (k + 1) ≤ growMax) = true := decide_eq_true (by simp only [growMax]; omega)
     rw [gQ_ne hz, gQ_ne hzi, hil, hTl]
     rw [hTl] at hat
     have hTb : ∀ j, belL j (rows Md.l T) = true := fun j => mrB j T
     have f1 : decide (k + 1 < k + 1) = false := decide_eq_false (by omega)
     have f2 : decide ((0 : Int) ≤ ((k + 1 : Nat) : Int)) = true := decide_eq_true (by omega)
     have f3 : IntKind.i64.wrap (((k + 1 : Nat) : Int) - 1) = (k : Int) := by rw [wrapL (by omega) (by omega)]; omega
     have f4 : decide (k = 0 ∨ k < k + 1) = true := decide_eq_true (by omega)
     have f5 : decide (0 ≤ (k : Int) ∧ (k : Int) ≤ ((k + 1 : Nat) : Int) ∧ 0 ≤ ((k + 1 : Nat) : Int)) = true := decide_eq_true (by omega)
     have f6 : decide (0 ≤ (k : Int) ∧ 0 ≤ (k : Int) ∧ (k : Int) ≤ ((k + 1 : Nat) : Int) ∧ 0 ≤ ((k + 1 : Nat) : Int)) = true := decide_eq_true (by omega)
     have f7 : decide (0 ≤ (k : Int) ∧ (k : Int) < ((k + 1 : Nat) : Int)) = true := decide_eq_true (by omega)
     have t1 : List.take (k * 9) (rows Md.l T ++ p.l) = rows Md.l T := by rw [← hRl]; exact List.take_left
     have t2 : List.drop (k * 9 + 9) (rows Md.l T ++ p.l) = [] := List.drop_of_length_le (by rw [List.length_append, hRl, hlM]; omega)
     have t3 : rows Md.l (insT T k p) = rows Md.l T ++ p.l := by
      have e1 : T.take k = T := List.take_of_length_le (by omega)
      have e2 : T.drop k = [] := List.drop_of_length_le (by omega)
      simp [insT, e1, e2, rows]
     have hXr : ∀ ψ, renL ψ (rows Md.l T ++ p.l) = rows Md.l T ++ p.l := fun ψ => by rw [← t3]; exact hren ψ _
     by_cases ho : k < ord.length
     · have d2 : decide ((k : Int) < (ord.length : Int)) = true := decide_eq_true (by omega)
       have d3 : decide (0 ≤ (k : Int) ∧ (k : Int) < (ord.length : Int)) = true := decide_eq_true (by omega)
       obtain ⟨x, hx⟩ : ∃ x, ord[k]? = some x := ⟨_, List.getElem?_eq_getElem ho⟩
       have hxr := hord x (List.mem_of_getElem? hx)
       have r1 : (rows u8R ord)[k * 1]? = some (.i .u8 x) := rows_get (f := u8R) (z := 1) (j := 0) (v := .i .u8 x) u8R_len hx rfl
       have r2 : (rows u8R ord)[k]? = some (.i .u8 x) := by simpa using r1
       have m0 : max (1 : Int) (k : Int) = (k : Int) := by omega
       have m1 : x.tmod (k : Int) = x % (k : Int) := Int.tmod_eq_emod_of_nonneg hxr.1
       have m2 : IntKind.i64.wrap x = x := wrapL (by omega) (by omega)
       have q1 := Int.emod_nonneg x (b := (k : Int)) (by omega)
       have q2 := Int.emod_lt_of_pos x (b := (k : Int)) (by omega)
       have m3 : IntKind.i64.wrap (x % (k : Int)) = x % (k : Int) := wrapL (by omega) (by omega)
       have hne : ((k : Int) != 0) = true := bne_iff_ne.2 (by omega)
       obtain ⟨A, hA0⟩ : ∃ A : Nat, (A : Int) = 1 + x % (k : Int) := ⟨(1 + x % (k : Int)).toNat, by omega⟩
       have m4 : IntKind.i64.wrap (1 + x % (k : Int)) = (A : Int) := by rw [hA0]; exact wrapL (by omega) (by omega)
       have hA : atT ord k k = A := by
        unfold atT
        rw [if_neg h0, hx]
        dsimp only
        rw [m0]; omega
       rw [hA]
       by_cases hAk : A = k
       · subst hAk
         simp (maxSteps := 400000) only [go_sem, c1, c2, d1, d2, d3, r1, r2, m0, m1, m2, m3, m4, hne, hw, hrp, hlM, htM, hpb, hpo, hpr, hdM, hsk, hRl, g1, f1, f2, f3, f4, f5, f6, f7, t1, t2, hXr, Nat.zero_mul, Nat.le_refl, List.append_nil, hlt, belL_append, Sh.v, Sh.h, List.length_append, List.drop_zero, List.take_zero, List.length_nil, if_true, Nat.add_zero, Nat.sub_self, or_self, true_or, or_true, false_or, or_false, decide_true, decide_false, Bool.and_true, Bool.true_and, Blk.ren, renL, AV.ren, hren, hOr, hFr, hEr, hBr, hBb, hPb, hOb, hTb, AV.bel, belL, nblt, u8B, evB, simprocAttr]
         exact ⟨by omega, by rw [t3], mrB 3 _⟩
       · have b1 : IntKind.i64.wrap ((A : Int) + 1) = ((A + 1 : Nat) : Int) := by rw [wrapL (by omega) (by omega)]; omega
         have b2 : decide (A + 1 < k + 1) = true := decide_eq_true (by omega)
         have b3 : decide (0 ≤ (A : Int) ∧ (A : Int) ≤ (k : Int) ∧ 0 ≤ (k : Int) ∧ (k : Int) ≤ ((k + 1 : Nat) : Int) ∧ 0 ≤ ((k + 1 : Nat) : Int)) = true := decide_eq_true (by omega)
         have b4 : decide (A = 0 ∨ A < k + 1) = true := decide_eq_true (by omega)
         have b5 : decide (0 ≤ (A : Int) ∧ (A : Int) < ((k + 1 : Nat) : Int)) = true := decide_eq_true (by omega)
         have b6 : decide (0 ≤ ((A + 1 : Nat) : Int) ∧ ((A + 1 : Nat) : Int) ≤ ((k + 1 : Nat) : Int) ∧ 0 ≤ ((k + 1 : Nat) : Int)) = true := decide_eq_true (by omega)
         have b7 : k + 1 - (A + 1) = k - A := by omega
         have hDl : (rows Md.l (T.drop A)).length = (k - A) * 9 := by rw [rows_len Md.len, List.length_drop, hTl]
         have s0 : List.take ((k - A) * 9) (List.drop (A * 9) (rows Md.l T ++ p.l)) = rows Md.l (T.drop A) := by
          rw [List.drop_append_of_le_length (by rw [hRl]; omega), rows_drop Md.len, ← hDl]
          exact List.take_left
         have s1 : List.take ((k - A) * 9) (rows Md.l (T.drop A)) = rows Md.l (T.drop A) := List.take_of_length_le (by omega)
         have s2 : oneAll (rows Md.l (T.drop A)) = true := rows_one1 (fun _ => rfl) _
         have s3 : (List.take ((A + 1) * 9) (rows Md.l T ++ p.l)).length = (A + 1) * 9 := by rw [List.length_take, List.length_append, hRl, hlM]; omega
         have s4 : List.drop ((A + 1) * 9 + (k - A) * 9) (rows Md.l T ++ p.l) = [] := List.drop_of_length_le (by rw [List.length_append, hRl, hlM]; omega)
         have s5 : List.take (A * 9) (List.take ((A + 1) * 9) (rows Md.l T ++ p.l) ++ rows Md.l (T.drop A)) = rows Md.l (T.take A) := by
          rw [List.take_append_of_le_length (by rw [s3]; omega), List.take_take, show min (A * 9) ((A + 1) * 9) = A * 9 by omega, List.take_append_of_le_length (by rw [hRl]; omega), rows_take Md.len]
         have s6 : List.drop (A * 9 + 9) (List.take ((A + 1) * 9) (rows Md.l T ++ p.l) ++ rows Md.l (T.drop A)) = rows Md.l (T.drop A) := by
          rw [show A * 9 + 9 = (A + 1) * 9 by omega, List.drop_append_of_le_length (by omega), List.drop_of_length_le (by omega)]
          rfl
         have s7 : rows Md.l (T.take A) ++ p.l ++ rows Md.l (T.drop A) = rows Md.l (insT T A p) := by
          simp only [insT, rows_append, List.append_assoc]
          rfl
         have u1 : decide ((A + 1) * 9 + (k - A) * 9 ≤ k * 9 + 9) = true := decide_eq_true (by omega)
         have u2 : decide (A * 9 + 9 ≤ (A + 1) * 9 + (k - A) * 9) = true := decide_eq_true (by omega)
         have hTd : ∀ j, belL j (rows Md.l (T.drop A)) = true := fun j => mrB j _
         simp (maxSteps := 400000) only [go_sem, c1, c2, d1, d2, d3, r1, r2, m0, m1, m2, m3, m4, hne, hw, hrp, hlM, htM, hpb, hpo, hpr, hdM, hsk, hRl, g1, f2, f3, b1, b2, b3, b4, b5, b6, b7, hDl, s0, s1, s2, s3, s4, s5, s6, s7, u1, u2, Bool.true_or, hXr, Nat.zero_mul, Nat.le_refl, List.append_nil, hlt, belL_append, Sh.v, Sh.h, List.length_append, List.drop_zero, List.take_zero, List.length_nil, if_true, Nat.add_zero, Nat.sub_self, or_self, true_or, or_true, false_or, or_false, decide_true, decide_false, Bool.and_true, Bool.true_and, Blk.ren, renL, AV.ren, hren, hOr, hFr, hEr, hBr, hBb, hPb, hOb, hTb, AV.bel, belL, nblt, u8B, evB, simprocAttr]
         exact ⟨by omega, mrB 3 _⟩
     · have d2 : decide ((k : Int) < (ord.length : Int)) = false := decide_eq_false (by omega)
       have hA : atT ord k k = k := by
        unfold atT
        rw [if_neg h0, List.getElem?_eq_none (by omega)]
       rw [hA]
       simp (maxSteps := 400000) only [go_sem, c1, c2, d1, d2, hw, hrp, hlM, htM, hpb, hpo, hpr, hdM, hsk, hRl, g1, f1, f2, f3, f4, f5, f6, f7, t1, t2, hXr, Nat.zero_mul, Nat.le_refl, List.append_nil, hlt, belL_append, Sh.v, Sh.h, List.length_append, List.drop_zero, List.take_zero, List.length_nil, if_true, Nat.add_zero, Nat.sub_self, or_self, true_or, or_true, false_or, or_false, decide_true, decide_false, Bool.and_true, Bool.true_and, Blk.ren, renL, AV.ren, hren, hOr, hFr, hEr, hBr, hBb, hPb, hOb, hTb, AV.bel, belL, nblt, u8B, evB, simprocAttr]
       exact ⟨by omega, by rw [t3], mrB 3 _⟩
 · obtain rfl : k = P.length := by omega
   have c1 : decide ((P.length : Int) < (P.length : Int)) = false := decide_eq_false (by omega)
   simp (maxSteps := 400000) only [go_sem, c1, simprocAttr]
   exact hK _ rfl rfl rfl rfl
end Go.Proofs.Jit
