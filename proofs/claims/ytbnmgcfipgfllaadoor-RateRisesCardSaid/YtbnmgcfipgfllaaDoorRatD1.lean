/- Contracts of chapter 30: drafts. -/
import Derived.Test.YtbnmgcfipgfllaaDoorRatC9
namespace Go.Proofs.Rate
open Go.Ab
set_option maxRecDepth 100000
set_option maxHeartbeats 4000000
set_option linter.unusedSimpArgs false
set_option linter.unusedVariables false

theorem wrap_u8 {n : Int} (h : 0 ≤ n) (h' : n ≤ 255) : IntKind.u8.wrap n = n := by rw [wrapU8]; omega
theorem wrap_u16 {n : Int} (h : 0 ≤ n) (h' : n ≤ 65535) : IntKind.u16.wrap n = n := by rw [wrapU16]; omega
theorem wrap_u32 {n : Int} (h : 0 ≤ n) (h' : n ≤ 4294967295) : IntKind.u32.wrap n = n := by rw [wrapU32]; omega
def u32B (a : Int) : Bool := decide (0 ≤ a ∧ a ≤ 4294967295)
def stN (a : Int) : Int := 1000 + a % 1000000
def stL (a b : Int) : Int := max 1000 (stN a - b % 1000000)
def stM (a c : Int) : Int := stN a + c % 1000000
theorem w15 (a b c : Int) (s : AV) (hs : s.bel 1 = true) (ha : u32B a = true) (hb : u32B b = true) (hc : u32B c = true) (kk : Blk) (hkk : belL 1 kk.cells = true): FTL Tryd.prog 15 [.agg [.i .u32 a, .i .u32 b, .i .u32 c, s]] [(0, kk)] 1 (.tup [.i .i64 (stN a), .i .i64 (stL a b), .i .i64 (stM a c)]) [(0, kk)] 1 := by
  refine FTL.of_iw Sound.nil mo' Tryd.func15 i15_eq (by simp [i15]) (iw_of_jw ?_)
  dsimp only [i15]
  simp only [u32B, decide_eq_true_eq] at ha hb hc
  have q1 : a.tmod 1000000 = a % 1000000 := Int.tmod_eq_emod_of_nonneg (by omega)
  have q2 : IntKind.u32.wrap (a % 1000000) = a % 1000000 := wrap_u32 (by omega) (by omega)
  have q3 : IntKind.i64.wrap (a % 1000000) = a % 1000000 := wrapL (by omega) (by omega)
  have q4 : b.tmod 1000000 = b % 1000000 := Int.tmod_eq_emod_of_nonneg (by omega)
  have q5 : IntKind.u32.wrap (b % 1000000) = b % 1000000 := wrap_u32 (by omega) (by omega)
  have q6 : IntKind.i64.wrap (b % 1000000) = b % 1000000 := wrapL (by omega) (by omega)
  have q7 : c.tmod 1000000 = c % 1000000 := Int.tmod_eq_emod_of_nonneg (by omega)
  have q8 : IntKind.u32.wrap (c % 1000000) = c % 1000000 := wrap_u32 (by omega) (by omega)
  have q9 : IntKind.i64.wrap (c % 1000000) = c % 1000000 := wrapL (by omega) (by omega)
  have q10 : IntKind.i64.wrap (1000 + a % 1000000) = 1000 + a % 1000000 := wrapL (by omega) (by omega)
  have q11 : IntKind.i64.wrap (1000 + a % 1000000 - b % 1000000) = 1000 + a % 1000000 - b % 1000000 := wrapL (by omega) (by omega)
  have q12 : IntKind.i64.wrap (1000 + a % 1000000 + c % 1000000) = 1000 + a % 1000000 + c % 1000000 := wrapL (by omega) (by omega)
  simp (config := { maxSteps := 400000 }) only [go_sem, stN, stL, stM, q1, q2, q3, q4, q5, q6, q7, q8, q9, q10, q11, q12, ↓reduceIte, beq_self_eq_true, bne_self_eq_false, Int.reduceAdd, Int.reduceSub, Int.reduceMul, Int.reduceNeg, Int.reduceEq, Int.reduceNe, Int.cast_ofNat_Int, Int.lt_irrefl, Int.le_refl, Nat.reduceEqDiff, Nat.reduceLeDiff, Nat.reduceLT, Int.reducePow, IntKind.bits, Nat.reduceAdd, Nat.reduceMul, Nat.reduceSub, Int.reduceBNe, Int.reduceBEq, Int.reduceLE, Int.reduceLT, Int.reduceToNat, reduceCtorEq, Nat.zero_ne_one, Nat.one_ne_zero, and_self, and_true, true_and, Option.getD_some, Option.isSome_some, wrapL, gt_iff_lt, ge_iff_le, Int.toNat_natCast, Nat.sub_zero, ite_self, spB_TT, Nat.zero_add, Nat.add_zero]
  exact Ends.keep1 rfl rfl hkk rfl rfl
structure Ev where
  what : Int
  small : Int
  wait : Int
  a : Int
  b : Int
def Ev.l (x : Ev) : List AV := [.i .u8 x.what, .i .u8 x.small, .i .u16 x.wait, .i .u32 x.a, .i .u32 x.b]
def Ev.ok (x : Ev) : Bool := decide ((0 ≤ x.what ∧ x.what ≤ 255) ∧ (0 ≤ x.small ∧ x.small ≤ 255) ∧ (0 ≤ x.wait ∧ x.wait ≤ 65535) ∧ (0 ≤ x.a ∧ x.a ≤ 4294967295) ∧ (0 ≤ x.b ∧ x.b ≤ 4294967295))
def evV (l : List AV) : Option Ev := match l with
  | [.i .u8 a, .i .u8 b, .i .u16 c, .i .u32 d, .i .u32 e] => some ⟨a, b, c, d, e⟩
  | _ => none
theorem evV_eq (l : List AV) (x : Ev) (h : evV l = some x) : l = x.l := by
  unfold evV at h
  split at h
  · cases h; rfl
  · cases h
def evA (x : Ev) : Int := 1000 + x.a % 2000000
def evB (x : Ev) : Int := 1000 + x.b % 2000000
def evT (r : Rt) (x : Ev) : Int := IntKind.i64.wrap (r.att + x.wait % 2000)
def stepS (r : Rt) (x : Ev) : Rt :=
  if x.what % 8 = 0 then (lossyS r (evT r x) x.small).1
  else if x.what % 8 = 1 then (probeS r (evT r x) (evA x) (evB x)).1
  else if x.what % 8 = 2 then (boundS r (evT r x) (min (evA x) (evB x)) (max (evA x) (evB x))).1
  else if x.what % 8 = 3 then (reportS r (evT r x) (x.small % 3) 0).1
  else (reportS r (evT r x) (x.small % 3) (evA x)).1
def T14 : List (Nat × Ct) := [(22, k21), (24, k23), (14, k13), (20, k20)]
theorem hT14 : Sound Tryd.prog (cxT T14) := Sound.cons s22 <| Sound.cons s24 <| Sound.cons s14 <| Sound.cons s20 Sound.nil
theorem w38 (r : Rt) (x : Ev) (hx : x.ok = true) : FTL Tryd.prog 38 [.agg r.l, .agg x.l] [] 0 (.agg (stepS r x).l) [] 0 := by
  refine FTL.of_iw hT14 mo' Tryd.func38 i38_eq (by simp [i38]) (iw_of_jw ?_)
  dsimp only [i38, T14]
  simp only [Ev.ok, decide_eq_true_eq] at hx
  obtain ⟨g1, g2, g3, g4, g5⟩ := hx
  generalize hR : stepS r x = R
  have q1 : x.wait.tmod 2000 = x.wait % 2000 := Int.tmod_eq_emod_of_nonneg (by omega)
  have q2 : IntKind.u16.wrap (x.wait % 2000) = x.wait % 2000 := wrap_u16 (by omega) (by omega)
  have q3 : IntKind.i64.wrap (x.wait % 2000) = x.wait % 2000 := wrapL (by omega) (by omega)
  have q4 : x.a.tmod 2000000 = x.a % 2000000 := Int.tmod_eq_emod_of_nonneg (by omega)
  have q5 : IntKind.u32.wrap (x.a % 2000000) = x.a % 2000000 := wrap_u32 (by omega) (by omega)
  have q6 : IntKind.i64.wrap (x.a % 2000000) = x.a % 2000000 := wrapL (by omega) (by omega)
  have q7 : IntKind.i64.wrap (1000 + x.a % 2000000) = evA x := wrapL (by omega) (by omega)
  have p4 : x.b.tmod 2000000 = x.b % 2000000 := Int.tmod_eq_emod_of_nonneg (by omega)
  have p5 : IntKind.u32.wrap (x.b % 2000000) = x.b % 2000000 := wrap_u32 (by omega) (by omega)
  have p6 : IntKind.i64.wrap (x.b % 2000000) = x.b % 2000000 := wrapL (by omega) (by omega)
  have p7 : IntKind.i64.wrap (1000 + x.b % 2000000) = evB x := wrapL (by omega) (by omega)
  have z1 : x.what.tmod 8 = x.what % 8 := Int.tmod_eq_emod_of_nonneg (by omega)
  have z2 : IntKind.u8.wrap (x.what % 8) = x.what % 8 := wrap_u8 (by omega) (by omega)
  have z3 : x.small.tmod 3 = x.small % 3 := Int.tmod_eq_emod_of_nonneg (by omega)
  have z4 : IntKind.u8.wrap (x.small % 3) = x.small % 3 := wrap_u8 (by omega) (by omega)
  have z5 : IntKind.i64.wrap (x.small % 3) = x.small % 3 := wrapL (by omega) (by omega)
  have z6 : IntKind.i64.wrap x.small = x.small := wrapL (by omega) (by omega)
  have z7 : IntKind.i64.wrap (r.att + x.wait % 2000) = evT r x := rfl
  simp (config := { maxSteps := 400000 }) only [go_sem, Rt.l, Ev.l, k21, k23, k13, k20, rtV, Rt.eta, q1, q2, q3, q4, q5, q6, q7, p4, p5, p6, p7, z1, z2, z3, z4, z5, z6, z7, ↓reduceIte, beq_self_eq_true, bne_self_eq_false, Int.reduceAdd, Int.reduceSub, Int.reduceMul, Int.reduceNeg, Int.reduceEq, Int.reduceNe, Int.cast_ofNat_Int, Int.lt_irrefl, Int.le_refl, Nat.reduceEqDiff, Nat.reduceLeDiff, Nat.reduceLT, Int.reducePow, IntKind.bits, Nat.reduceAdd, Nat.reduceMul, Nat.reduceSub, Int.reduceBNe, Int.reduceBEq, Int.reduceLE, Int.reduceLT, Int.reduceToNat, reduceCtorEq, Nat.zero_ne_one, Nat.one_ne_zero, and_self, and_true, true_and, Option.getD_some, Option.isSome_some, wrapL, gt_iff_lt, ge_iff_le, Int.toNat_natCast, Nat.sub_zero, ite_self, spB_TT, Nat.zero_add, Nat.add_zero]
  repeat' (first | refine spB_i (fun _ => ?_) (fun _ => ?_) | refine andB_i ?_ ?_)
  all_goals (refine Ends.pureE rfl ?_; rw [← hR]; simp only [beq_iff_eq, beq_eq_false_iff_ne] at *; simp only [stepS, *, if_true, if_false]; try rfl)
def k38 : Ct
  | [.agg l, .agg m], _, n => (rtV l).bind fun r => (evV m).bind fun x => some (x.ok, { v := .agg (stepS r x).l, n })
  | _, _, _ => none
theorem s38 : SoundAt Tryd.prog 38 k38 := fun args h n c E hc ht => by
  unfold k38 at hc
  split at hc
  · simp only [Option.bind_eq_some_iff] at hc
    obtain ⟨r, hr, x, hx, he⟩ := hc
    cases he
    rw [rtV_eq hr, evV_eq _ _ hx]
    exact CallOK.pure (by kernel_rfl) rfl rfl (w38 r x ht) _ _
  · cases hc
structure Bd where
  what : Int
  n : Int
def Bd.l (x : Bd) : List AV := [.i .u8 x.what, .i .i64 x.n]
def bdV (l : List AV) : Option Bd := match l with
  | [.i .u8 a, .i .i64 b] => some ⟨a, b⟩
  | _ => none
theorem bdV_eq (l : List AV) (x : Bd) (h : bdV l = some x) : l = x.l := by
  unfold bdV at h
  split at h
  · cases h; rfl
  · cases h
def Bd.ok (x : Bd) : Bool := decide (0 ≤ x.what ∧ x.what ≤ 255)
def bendS (b : Bd) (r : Rt) : Rt :=
  if b.what % 8 = 0 then { r with now := b.n } else if b.what % 8 = 1 then { r with least := b.n } else if b.what % 8 = 2 then { r with most := b.n }
  else if b.what % 8 = 3 then { r with phase := b.n } else if b.what % 8 = 4 then { r with mean := b.n } else if b.what % 8 = 5 then { r with att := b.n }
  else if b.what % 8 = 6 then { r with low := b.n } else { r with rai := b.n }
theorem w29 (b : Bd) (r : Rt) (hb : b.ok = true) : FTL Tryd.prog 29 [.agg b.l, .agg r.l] [] 0 (.agg (bendS b r).l) [] 0 := by
  refine FTL.of_iw Sound.nil mo' Tryd.func29 i29_eq (by simp [i29]) (iw_of_jw ?_)
  dsimp only [i29]
  simp only [Bd.ok, decide_eq_true_eq] at hb
  generalize hR : bendS b r = R
  have z1 : b.what.tmod 8 = b.what % 8 := Int.tmod_eq_emod_of_nonneg (by omega)
  have z2 : IntKind.u8.wrap (b.what % 8) = b.what % 8 := wrap_u8 (by omega) (by omega)
  simp (config := { maxSteps := 400000 }) only [go_sem, Rt.l, Bd.l, z1, z2, ↓reduceIte, beq_self_eq_true, bne_self_eq_false, Int.reduceAdd, Int.reduceSub, Int.reduceMul, Int.reduceNeg, Int.reduceEq, Int.reduceNe, Int.cast_ofNat_Int, Int.lt_irrefl, Int.le_refl, Nat.reduceEqDiff, Nat.reduceLeDiff, Nat.reduceLT, Int.reducePow, IntKind.bits, Nat.reduceAdd, Nat.reduceMul, Nat.reduceSub, Int.reduceBNe, Int.reduceBEq, Int.reduceLE, Int.reduceLT, Int.reduceToNat, reduceCtorEq, Nat.zero_ne_one, Nat.one_ne_zero, and_self, and_true, true_and, Option.getD_some, Option.isSome_some, wrapL, gt_iff_lt, ge_iff_le, Int.toNat_natCast, Nat.sub_zero, ite_self, spB_TT, Nat.zero_add, Nat.add_zero]
  repeat' (first | refine spB_i (fun _ => ?_) (fun _ => ?_) | refine andB_i ?_ ?_)
  all_goals (refine Ends.pureE rfl ?_; rw [← hR]; simp only [beq_iff_eq, beq_eq_false_iff_ne] at *; simp only [bendS, *, if_true, if_false]; try rfl)
def k29 : Ct
  | [.agg l, .agg m], _, n => (bdV l).bind fun b => (rtV m).bind fun r => some (b.ok, { v := .agg (bendS b r).l, n })
  | _, _, _ => none
theorem s29 : SoundAt Tryd.prog 29 k29 := fun args h n c E hc ht => by
  unfold k29 at hc
  split at hc
  · simp only [Option.bind_eq_some_iff] at hc
    obtain ⟨b, hb, r, hr, he⟩ := hc
    cases he
    rw [rtV_eq hr, bdV_eq _ _ hb]
    exact CallOK.pure (by kernel_rfl) rfl rfl (w29 b r ht) _ _
  · cases hc
theorem w15n (a b c : Int) (ha : u32B a = true) (hb : u32B b = true) (hc : u32B c = true) : FTL Tryd.prog 15 [.agg [.i .u32 a, .i .u32 b, .i .u32 c, .ns]] [] 0 (.tup [.i .i64 (stN a), .i .i64 (stL a b), .i .i64 (stM a c)]) [] 0 := by
  refine FTL.of_iw Sound.nil mo' Tryd.func15 i15_eq (by simp [i15]) (iw_of_jw ?_)
  dsimp only [i15]
  simp only [u32B, decide_eq_true_eq] at ha hb hc
  have q1 : a.tmod 1000000 = a % 1000000 := Int.tmod_eq_emod_of_nonneg (by omega)
  have q2 : IntKind.u32.wrap (a % 1000000) = a % 1000000 := wrap_u32 (by omega) (by omega)
  have q3 : IntKind.i64.wrap (a % 1000000) = a % 1000000 := wrapL (by omega) (by omega)
  have q4 : b.tmod 1000000 = b % 1000000 := Int.tmod_eq_emod_of_nonneg (by omega)
  have q5 : IntKind.u32.wrap (b % 1000000) = b % 1000000 := wrap_u32 (by omega) (by omega)
  have q6 : IntKind.i64.wrap (b % 1000000) = b % 1000000 := wrapL (by omega) (by omega)
  have q7 : c.tmod 1000000 = c % 1000000 := Int.tmod_eq_emod_of_nonneg (by omega)
  have q8 : IntKind.u32.wrap (c % 1000000) = c % 1000000 := wrap_u32 (by omega) (by omega)
  have q9 : IntKind.i64.wrap (c % 1000000) = c % 1000000 := wrapL (by omega) (by omega)
  have q10 : IntKind.i64.wrap (1000 + a % 1000000) = 1000 + a % 1000000 := wrapL (by omega) (by omega)
  have q11 : IntKind.i64.wrap (1000 + a % 1000000 - b % 1000000) = 1000 + a % 1000000 - b % 1000000 := wrapL (by omega) (by omega)
  have q12 : IntKind.i64.wrap (1000 + a % 1000000 + c % 1000000) = 1000 + a % 1000000 + c % 1000000 := wrapL (by omega) (by omega)
  simp (config := { maxSteps := 400000 }) only [go_sem, stN, stL, stM, q1, q2, q3, q4, q5, q6, q7, q8, q9, q10, q11, q12, ↓reduceIte, beq_self_eq_true, bne_self_eq_false, Int.reduceAdd, Int.reduceSub, Int.reduceMul, Int.reduceNeg, Int.reduceEq, Int.reduceNe, Int.cast_ofNat_Int, Int.lt_irrefl, Int.le_refl, Nat.reduceEqDiff, Nat.reduceLeDiff, Nat.reduceLT, Int.reducePow, IntKind.bits, Nat.reduceAdd, Nat.reduceMul, Nat.reduceSub, Int.reduceBNe, Int.reduceBEq, Int.reduceLE, Int.reduceLT, Int.reduceToNat, reduceCtorEq, Nat.zero_ne_one, Nat.one_ne_zero, and_self, and_true, true_and, Option.getD_some, Option.isSome_some, wrapL, gt_iff_lt, ge_iff_le, Int.toNat_natCast, Nat.sub_zero, ite_self, spB_TT, Nat.zero_add, Nat.add_zero]
  exact Ends.pureE rfl rfl
/-- Events in a row. -/
def evsB (len : Nat) : Blk → Option (List Ev)
  | ⟨c, _, none, none⟩ => unrows 5 evV len c
  | _ => none
theorem Ev.l_len (x : Ev) : x.l.length = 5 := rfl
theorem Ev.l_bel (x : Ev) : belL 0 x.l = true := rfl
theorem evsB_eq {len : Nat} {k : Blk} {l : List Ev} (h : evsB len k = some l) : k = { cells := rows Ev.l l, ro := k.ro } ∧ l.length = len := by
  unfold evsB at h
  split at h
  · obtain ⟨h1, h2⟩ := unrows_eq (f := Ev.l) evV_eq h
    subst h1
    exact ⟨rfl, h2⟩
  · cases h
theorem evsB_rows (l : List Ev) (ro : Bool) : evsB l.length { cells := rows Ev.l l, ro := ro } = some l := unrows_rows Ev.l_len (fun _ => rfl) l
def k15 : Ct
  | [.agg [.i .u32 a, .i .u32 b, .i .u32 c, .ns]], _, n => some (u32B a && u32B b && u32B c, { v := .tup [.i .i64 (stN a), .i .i64 (stL a b), .i .i64 (stM a c)], n })
  | [.agg [.i .u32 a, .i .u32 b, .i .u32 c, .sl d 0 len cap]], h, n => (hget h d).bind fun k => (evsB len k).bind fun _ => some (u32B a && u32B b && u32B c, { v := .tup [.i .i64 (stN a), .i .i64 (stL a b), .i .i64 (stM a c)], n, rd := [d] })
  | _, _, _ => none
theorem s15 : SoundAt Tryd.prog 15 k15 := fun args h n c E hc ht => by
  unfold k15 at hc
  split at hc
  · cases hc
    simp only [Bool.and_eq_true] at ht
    exact CallOK.pure (by kernel_rfl) rfl rfl (w15n _ _ _ ht.1.1 ht.1.2 ht.2) _ _
  · rename_i a b c' d len cap
    simp only [Option.bind_eq_some_iff] at hc
    obtain ⟨k, hk, l, hl, he⟩ := hc
    cases he
    simp only [Bool.and_eq_true] at ht
    obtain ⟨e1, rfl⟩ := evsB_eq hl
    rw [e1] at hk
    exact CallOK.read1 (argsL := [.agg [.i .u32 a, .i .u32 b, .i .u32 c', .sl 0 0 l.length cap]]) (by kernel_rfl) rfl (rows_bel Ev.l_bel) rfl hk (w15 _ _ _ _ rfl ht.1.1 ht.1.2 ht.2 _ (belL_mono0 _ (rows_bel Ev.l_bel)))
  · cases hc
end Go.Proofs.Rate
