/- Contracts of chapter 30, as they are used. -/
import Derived.Test.YtbnmgcfipgfllaaDoorRatC8
import Derived.Test.YtbnmgcfipgfllaaDoorRatK
namespace Go.Proofs.Rate
open Go.Ab
set_option maxRecDepth 100000
set_option maxHeartbeats 4000000
set_option linter.unusedSimpArgs false
set_option linter.unusedVariables false

def k13 : Ct
  | [.agg l, .i .i64 now, .i .i64 a, .i .i64 b], _, n => (rtV l).bind fun r => some (true, { v := .tup [.agg (boundS r now a b).1.l, .i .i64 (boundS r now a b).2], n })
  | _, _, _ => none
theorem s13 : SoundAt Tryd.prog 13 k13 := fun args h n c E hc ht => by
  unfold k13 at hc
  split at hc
  · simp only [Option.bind_eq_some_iff] at hc
    obtain ⟨r, hr, he⟩ := hc
    cases he
    rw [rtV_eq hr]
    exact CallOK.pure (by kernel_rfl) rfl rfl (w13 r _ _ _) _ _
  · cases hc
theorem s14 : SoundAt Tryd.prog 14 k13 := fun args h n c E hc ht => by
  unfold k13 at hc
  split at hc
  · simp only [Option.bind_eq_some_iff] at hc
    obtain ⟨r, hr, he⟩ := hc
    cases he
    rw [rtV_eq hr]
    exact CallOK.pure (by kernel_rfl) rfl rfl (w14 r _ _ _) _ _
  · cases hc
def k21 : Ct
  | [.agg l, .i .i64 now, .i .i64 a], _, n => (rtV l).bind fun r => some (true, { v := .tup [.agg (lossyS r now a).1.l, .i .i64 (lossyS r now a).2], n })
  | _, _, _ => none
theorem s21 : SoundAt Tryd.prog 21 k21 := fun args h n c E hc ht => by
  unfold k21 at hc
  split at hc
  · simp only [Option.bind_eq_some_iff] at hc
    obtain ⟨r, hr, he⟩ := hc
    cases he
    rw [rtV_eq hr]
    exact CallOK.pure (by kernel_rfl) rfl rfl (w21 r _ _) _ _
  · cases hc
theorem s22 : SoundAt Tryd.prog 22 k21 := fun args h n c E hc ht => by
  unfold k21 at hc
  split at hc
  · simp only [Option.bind_eq_some_iff] at hc
    obtain ⟨r, hr, he⟩ := hc
    cases he
    rw [rtV_eq hr]
    exact CallOK.pure (by kernel_rfl) rfl rfl (w22 r _ _) _ _
  · cases hc
def k23 : Ct
  | [.agg l, .i .i64 now, .i .i64 a, .i .i64 b], _, n => (rtV l).bind fun r => some (true, { v := .tup [.agg (probeS r now a b).1.l, .i .i64 (probeS r now a b).2], n })
  | _, _, _ => none
theorem s23 : SoundAt Tryd.prog 23 k23 := fun args h n c E hc ht => by
  unfold k23 at hc
  split at hc
  · simp only [Option.bind_eq_some_iff] at hc
    obtain ⟨r, hr, he⟩ := hc
    cases he
    rw [rtV_eq hr]
    exact CallOK.pure (by kernel_rfl) rfl rfl (w23 r _ _ _) _ _
  · cases hc
theorem s24 : SoundAt Tryd.prog 24 k23 := fun args h n c E hc ht => by
  unfold k23 at hc
  split at hc
  · simp only [Option.bind_eq_some_iff] at hc
    obtain ⟨r, hr, he⟩ := hc
    cases he
    rw [rtV_eq hr]
    exact CallOK.pure (by kernel_rfl) rfl rfl (w24 r _ _ _) _ _
  · cases hc
def k20 : Ct
  | [.agg l, .i .i64 now, .i .i64 a, .i .i64 b], _, n => (rtV l).bind fun r => some (true, { v := .tup [.agg (reportS r now a b).1.l, .i .i64 (reportS r now a b).2], n })
  | _, _, _ => none
theorem s20 : SoundAt Tryd.prog 20 k20 := fun args h n c E hc ht => by
  unfold k20 at hc
  split at hc
  · simp only [Option.bind_eq_some_iff] at hc
    obtain ⟨r, hr, he⟩ := hc
    cases he
    rw [rtV_eq hr]
    exact CallOK.pure (by kernel_rfl) rfl rfl (w20 r _ _ _) _ _
  · cases hc
/-- The variable's block. -/
def gIs (k : Blk) (c : Nat) : Option Nat := match k with
  | ⟨[.fn 60 [], .fn 62 [], .fn 63 []], true, none, some 0⟩ => some c
  | _ => none
theorem gIs_eq {k : Blk} {c d : Nat} (h : gIs k c = some d) : k = gBlk ∧ c = d := by
  unfold gIs at h
  split at h
  · cases h; exact ⟨rfl, rfl⟩
  · cases h
def gAt (h : Hp) : Option Nat := (hglobC h 0).bind fun v => match v with
  | .p c _ => (hget h c).bind fun k => gIs k c
  | _ => none
theorem gAt_eq {h : Hp} {c : Nat} (hh : gAt h = some c) : hget h c = some gBlk := by
  unfold gAt at hh
  simp only [Option.bind_eq_some_iff] at hh
  obtain ⟨v, hv, hm⟩ := hh
  split at hm
  · simp only [Option.bind_eq_some_iff] at hm
    obtain ⟨k, hk, hg⟩ := hm
    obtain ⟨rfl, rfl⟩ := gIs_eq hg
    exact hk
  · cases hm
/-- A function of plain values that looks at the variable. -/
theorem CallOK.readG {f : FuncId} {args : List AV} {v : AV} {h : Hp} {n c : Nat} (hc : Go.Ab.callable Tryd.prog f = true) (ha : belL 0 args = true) (hv : v.bel 0 = true) (hg : hget h c = some gBlk) (hf : FTL Tryd.prog f args [(0, gBlk)] 1 v [(0, gBlk)] 1) : CallOK Tryd.prog f args h n { v, n, rd := [c] } := by
  have := CallOK.readL (argsL := args) (h := h) (n := n) (fun _ => c) hc (belL_mono0 _ ha) hv hf (fun b hb => by
    obtain rfl : b = 0 := by omega
    exact ⟨gBlk, rfl⟩) (fun b kk hb => by
    have := hget_mem hb
    simp only [List.mem_cons, Prod.mk.injEq, List.not_mem_nil, or_false] at this
    obtain ⟨rfl, rfl⟩ := this
    exact ⟨by omega, rfl⟩) (fun b kk hb => by
    have := hget_mem hb
    simp only [List.mem_cons, Prod.mk.injEq, List.not_mem_nil, or_false] at this
    obtain ⟨rfl, rfl⟩ := this
    exact hg) (fun b1 b2 k1 k2 h1 h2 hro _ => by
    have := hget_mem h1
    simp only [List.mem_cons, Prod.mk.injEq, List.not_mem_nil, or_false] at this
    obtain ⟨rfl, rfl⟩ := this
    cases hro) [c] rfl
  rwa [renL_fix0 _ ha] at this
def k19 : Ct
  | [.agg l, .i .i64 now, .i .i64 a, .i .i64 b], h, n => (rtV l).bind fun r => (gAt h).bind fun c => some (true, { v := .tup [.agg (reportS r now a b).1.l, .i .i64 (reportS r now a b).2], n, rd := [c] })
  | _, _, _ => none
theorem s19 : SoundAt Tryd.prog 19 k19 := fun args h n c E hc ht => by
  unfold k19 at hc
  split at hc
  · simp only [Option.bind_eq_some_iff] at hc
    obtain ⟨r, hr, g, hg, he⟩ := hc
    cases he
    rw [rtV_eq hr]
    exact CallOK.readG (by kernel_rfl) rfl rfl (gAt_eq hg) (w19 r _ _ _)
  · cases hc
theorem t18 : (xFn (xrun TK 2000) i18 [] gH 1).map (fun x => (x.1, hget x.2.1 0)) = some (.b true, some gBlk) := by kernel_rfl
theorem w18 : FTL Tryd.prog 18 [] [(0, gBlk)] 1 (.b true) [(0, gBlk)] 1 := by
  obtain ⟨⟨v', hR, k⟩, h1, h2⟩ := Option.map_eq_some_iff.1 t18
  simp only [Prod.mk.injEq] at h2
  obtain ⟨rfl, h3⟩ := h2
  refine FTL.shrink (FTL.of_run 2000 mo TK_valid Tryd.func18 i18_eq h1) rfl (fun b x hb => ?_)
  have := hget_mem hb
  simp only [List.mem_cons, Prod.mk.injEq, List.not_mem_nil, or_false] at this
  obtain ⟨rfl, rfl⟩ := this
  exact ⟨h3, by omega, rfl⟩
def k18 : Ct
  | [], h, n => (gAt h).bind fun c => some (true, { v := .b true, n, rd := [c] })
  | _, _, _ => none
theorem s18 : SoundAt Tryd.prog 18 k18 := fun args h n c E hc ht => by
  unfold k18 at hc
  split at hc
  · simp only [Option.bind_eq_some_iff] at hc
    obtain ⟨g, hg, he⟩ := hc
    cases he
    exact CallOK.readG (by kernel_rfl) rfl rfl (gAt_eq hg) w18
  · cases hc
def k25 : Ct
  | [.agg l, .i .i64 now, .i .i64 a, .i .i64 b], h, n => (rtV l).bind fun r => (gAt h).bind fun c => some (true, { v := .agg (reportS r now a b).1.l, n, rd := [c] })
  | _, _, _ => none
def T13 : List (Nat × Ct) := [(19, k19)]
theorem hT13 : Sound Tryd.prog (cxT T13) := Sound.cons s19 Sound.nil
theorem w25 (r : Rt) (now t arr : Int) : FTL Tryd.prog 25 [.agg r.l, .i .i64 now, .i .i64 t, .i .i64 arr] [(0, gBlk)] 1 (.agg (reportS r now t arr).1.l) [(0, gBlk)] 1 := by
  refine FTL.of_iw hT13 mo' Tryd.func25 i25_eq (by simp [i25]) (iw_of_jw ?_)
  dsimp only [i25, T13, gBlk]
  simp (config := { maxSteps := 400000 }) only [go_sem, evG, hglobC, hglob, Rt.l, k19, rtV, gAt, gIs, Rt.eta, ↓reduceIte, beq_self_eq_true, bne_self_eq_false, Int.reduceAdd, Int.reduceSub, Int.reduceMul, Int.reduceNeg, Int.reduceEq, Int.reduceNe, Int.cast_ofNat_Int, Int.lt_irrefl, Int.le_refl, Nat.reduceEqDiff, Nat.reduceLeDiff, Nat.reduceLT, Int.reducePow, IntKind.bits, Nat.reduceAdd, Nat.reduceMul, Nat.reduceSub, Int.reduceBNe, Int.reduceBEq, Int.reduceLE, Int.reduceLT, Int.reduceToNat, reduceCtorEq, Nat.zero_ne_one, Nat.one_ne_zero, and_self, and_true, true_and, Option.getD_some, Option.isSome_some, wrapL, gt_iff_lt, ge_iff_le, Int.toNat_natCast, Nat.sub_zero, ite_self, spB_TT, Nat.zero_add, Nat.add_zero]
  exact Ends.keep1 rfl rfl rfl rfl rfl
theorem s25 : SoundAt Tryd.prog 25 k25 := fun args h n c E hc ht => by
  unfold k25 at hc
  split at hc
  · simp only [Option.bind_eq_some_iff] at hc
    obtain ⟨r, hr, g, hg, he⟩ := hc
    cases he
    rw [rtV_eq hr]
    exact CallOK.readG (by kernel_rfl) rfl rfl (gAt_eq hg) (w25 r _ _ _)
  · cases hc
end Go.Proofs.Rate
