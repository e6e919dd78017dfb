/- JitterTakes: the walk's loops. -/
import Derived.Test.YtcpgamgkbbckoaaJitP1
import Derived.Test.YtcpgamgkbbckoaaJitI4
namespace Go.Proofs.Jit
open Go.Ab
set_option maxRecDepth 100000
set_option maxHeartbeats 4000000
set_option linter.unusedSimpArgs false
set_option linter.unusedVariables false
noncomputable def T4 : List (Nat × Ct) := [(11, k11), (17, k17), (21, k21), (22, k22), (23, k23), (24, k24), (25, k25)]
theorem hT4 : Sound Try.prog (cxT T4) := Sound.cons s11 (Sound.cons s17 (Sound.cons s21 (Sound.cons s22 (Sound.cons s23 (Sound.cons s24 (Sound.cons s25 Sound.nil))))))
def GdB (b : Bf) : Prop := FinL b.l ∧ b.rg = true ∧ b.l.length ≤ 9223372036854775807
theorem fin_sm {p : Md} (h : p.fin = true) : (decide (p.cs.length ≤ 9223372036854775807) && decide (p.xs.length ≤ 9223372036854775807)) = true := by
 simp only [Md.fin, Bool.and_eq_true] at h
 simp only [h.1.1.1, h.1.1.2, Bool.and_self]
theorem inner4 (b : Bf) (hb : GdB b) (now wait : Int) (A M : List AV) (hA : ∀ j, belL j A = true) (hMb : ∀ j, belL j M = true) (i : Nat) (hM : ∀ k, k < 5 → ∃ m, M[k]? = some (.i .i64 m)) {K : Kont} {e : Env} {h : Hp} {n : Nat}
 (he : EnvIn 4 e [(3, .i .i64 now), (4, .i .u16 wait), (12, .p 3 0), (28, .agg A), (29, .i .i64 (i : Int)), (63, .agg M), (64, .i .i64 ((0 : Nat) : Int))])
 (hh : HpIn 4 h [(3, { cells := b.a })])
 (hK : ∀ e', eget e' 3 = some (.i .i64 now) → eget e' 4 = some (.i .u16 wait) → eget e' 28 = some (.agg A) → eget e' 29 = some (.i .i64 (i : Int)) → K (.exit 2) e' [(3, { cells := b.a })] 4) :
 Ab.Loop Try.prog [30, 49, 65, 95] 99 0 i4l16 K e h n := by
 obtain ⟨hf, hg, hl⟩ := hb
 have hba := bfA_a b
 have hll : decide (b.l.length ≤ 9223372036854775807) = true := decide_eq_true hl
 have hff := finB_iff.2 hf
 have hlA : ∀ b : Bf, b.a.length = 11 := fun b => rfl
 have htA : ∀ b : Bf, List.take 11 b.a = b.a := fun b => List.take_of_length_le (by rw [hlA]; omega)
 have hoA : ∀ b : Bf, oneAll b.a = true := fun b => rfl
 have hbb : ∀ j, belL j b.a = true := fun j => Bf.bel' b j
 refine Loop.countI (F := ⟨Try.prog, cxT T4, [30, 49, 65, 95], 99, 0⟩) hT4 mo 5 (fun k => True)
  (fun k => [(3, .i .i64 now), (4, .i .u16 wait), (12, .p 3 0), (28, .agg A), (29, .i .i64 (i : Int)), (63, .agg M), (64, .i .i64 (k : Int))])
  (fun k => [(3, { cells := b.a })]) 4 (by decide) trivial he hh (fun k hk _ => ?_)
 dsimp only [T4]
 by_cases hlt : k < 5
 · obtain ⟨m, hm⟩ := hM k hlt
   have hm1 : M[k * 1]? = some (.i .i64 m) := (congrArg (fun i => M[i]?) (Nat.mul_one k)).trans hm
   have c1 : decide ((k : Int) < 5) = true := decide_eq_true (by omega)
   have c2 : decide (0 ≤ (k : Int) ∧ (k : Int) < 5) = true := decide_eq_true (by omega)
   have hw : IntKind.i64.wrap ((k : Int) + 1) = ((k + 1 : Nat) : Int) := by rw [wrapL (by omega) (by omega)]; omega
   have hk23 : ∀ (h : Hp) n, k23 [.agg b.a, .i .i64 m] h n = some (true, { v := .tup [.agg (tkS b m).1.a, .fz (rows Md.l (tkS b m).2.1) (tkS b m).2.1.length, .i .i64 (tkS b m).2.2], n }) := fun h n => by
    simp only [k23, hba, Option.bind_some, hll, hff, hg, Bool.and_self, tkA]
   have hk24 : ∀ (h : Hp) n, k24 [.agg b.a, .i .i64 m] h n = some (true, { v := .tup [.agg (tkS b m).1.a, .fz (rows Md.l (tkS b m).2.1) (tkS b m).2.1.length, .i .i64 (tkS b m).2.2], n }) := fun h n => by
    simp only [k24, hba, Option.bind_some, hll, tkA]
   obtain ⟨q1, q2, q3, q4⟩ := tkS_fin (b := b) (now := m) hf
   have hsm : smH (tkS b m).1.l = true := List.all_eq_true.2 fun x hx => fin_sm (q1 x hx)
   have hsB : smB (tkS b m).2.1 = true := List.all_eq_true.2 fun x hx => fin_sm (q2 x hx)
   have l1 : decide ((tkS b m).1.l.length ≤ 9223372036854775807) = true := decide_eq_true (by omega)
   have l2 : decide ((tkS b m).2.1.length ≤ 9223372036854775807) = true := decide_eq_true (by omega)
   have hk17 : ∀ (h : Hp) n, k17 [.agg (tkS b m).1.a, .agg (tkS b m).1.a] h n = some (true, { v := .b true, n }) := fun h n => by
    simp only [k17, bfA_a, Option.bind_some, if_true, hsm, l1, Bool.and_self]
   have hun : unrows 9 md9 (tkS b m).2.1.length (rows Md.l (tkS b m).2.1) = some (tkS b m).2.1 := unrows_rows Md.len md9_l _
   have hk25 : ∀ (h : Hp) n, k25 [.fz (rows Md.l (tkS b m).2.1) (tkS b m).2.1.length, .fz (rows Md.l (tkS b m).2.1) (tkS b m).2.1.length] h n = some (true, { v := .b true, n }) := fun h n => by
    simp only [k25, hun, Option.bind_some, and_self, if_true, hsB, l2, Bool.and_self]
   generalize (tkS b m).1 = X at *
   generalize (tkS b m).2.1 = Y at *
   generalize (tkS b m).2.2 = E at *
   have e1 : (E == E) = true := by simp
   have e2 : (E != E) = false := by simp
   simp (maxSteps := 400000) only [go_sem, c1, c2, hm1, hm, hk23, hk24, hk17, hk25, e1, e2, hw, hlA, htA, hoA, hlt, List.drop_zero, hA, hMb, hbb, AV.bel, belL, nblt, simprocAttr]
 · obtain rfl : k = 5 := by omega
   have c1 : decide (((5 : Nat) : Int) < 5) = false := rfl
   simp (maxSteps := 400000) only [go_sem, c1, simprocAttr]
   exact hK _ rfl rfl rfl rfl
theorem outer4 (now wait : Int) (A : List AV) (hA : ∀ j, belL j A = true) (hAl : A.length = 44) (hA4 : ∀ k, k < 4 → ∃ b, List.take 11 (List.drop (k * 11) A) = b.a ∧ GdB b) {K : Kont} {e : Env} {h : Hp} {n : Nat}
 (he : EnvIn 3 e [(3, .i .i64 now), (4, .i .u16 wait), (28, .agg A), (29, .i .i64 ((0 : Nat) : Int))]) (hh : HpIn 3 h [])
 (hK : ∀ e', K (.exit 0) e' [] 3) : Ab.Loop Try.prog [30, 49, 65, 95] 99 0 i4l18 K e h n := by
 have hlA : ∀ b : Bf, b.a.length = 11 := fun b => rfl
 have htA : ∀ b : Bf, List.take 11 b.a = b.a := fun b => List.take_of_length_le (by rw [hlA]; omega)
 have hoA : ∀ b : Bf, oneAll b.a = true := fun b => rfl
 have hA1 : ∀ b : Bf, b.a[1]? = some (.i .i64 b.ti) := fun b => rfl
 refine Loop.countI (F := ⟨Try.prog, cxT T4, [30, 49, 65, 95], 99, 0⟩) hT4 mo 4 (fun k => True)
  (fun k => [(3, .i .i64 now), (4, .i .u16 wait), (28, .agg A), (29, .i .i64 (k : Int))])
  (fun k => []) 3 (by decide) trivial he hh (fun k hk _ => ?_)
 dsimp only [T4]
 by_cases hlt : k < 4
 · obtain ⟨b, hr, hb⟩ := hA4 k hlt
   have c1 : decide ((k : Int) < 4) = true := decide_eq_true (by omega)
   have c2 : decide (0 ≤ (k : Int) ∧ (k : Int) < 4) = true := decide_eq_true (by omega)
   have hw : IntKind.i64.wrap ((k : Int) + 1) = ((k + 1 : Nat) : Int) := by rw [wrapL (by omega) (by omega)]; omega
   have hba := bfA_a b
   have hll : decide (b.l.length ≤ 9223372036854775807) = true := decide_eq_true hb.2.2
   have hff := finB_iff.2 hb.1
   have hg := hb.2.1
   have hk21 : ∀ (h : Hp) n, k21 [.agg b.a] h n = some (true, { v := .tup [.i .i64 (dueE b).1, .i .i64 (dueE b).2], n }) := fun h n => by simp only [k21, hba, Option.bind_some, hll, hff, hg, Bool.and_self]
   have hk22 : ∀ (h : Hp) n, k22 [.agg b.a] h n = some (true, { v := .tup [.i .i64 (dueE b).1, .i .i64 (dueE b).2], n }) := fun h n => by simp only [k22, hba, Option.bind_some, hll]
   have hbb : ∀ j, belL j b.a = true := fun j => Bf.bel' b j
   have hA1b := hA1 b
   have cA : decide (k * 11 + 11 ≤ A.length) = true := decide_eq_true (by omega)
   have inn := fun (W t1 t2 t3 t4 : Int) hM (K : Kont) (e : Env) (h : Hp) (n : Nat) => @inner4 b hb now wait A [.i .i64 W, .i .i64 t1, .i .i64 t2, .i .i64 t3, .i .i64 t4] hA (fun j => rfl) k hM K e h n
   generalize (dueE b).1 = D at *
   generalize (dueE b).2 = E at *
   have e1 : (E != E) = false := by simp
   have e2 : (D != D) = false := by simp
   simp (maxSteps := 400000) only [go_sem, c1, c2, hr, hk21, hk22, e1, e2, hlA, htA, hoA, hA1b, List.drop_zero, cA, simprocAttr]
   refine inn now (IntKind.i64.wrap (b.ti + IntKind.i64.wrap wait)) D (IntKind.i64.wrap (D - 1)) (max D b.ti) (fun j hj => ?_) _ _ _ _ ?_ ?_ (fun e' g3 g4 g28 g29 => ?_)
   · rcases (by omega : j = 0 ∨ j = 1 ∨ j = 2 ∨ j = 3 ∨ j = 4) with rfl | rfl | rfl | rfl | rfl <;> exact ⟨_, rfl⟩
   · simp (maxSteps := 400000) only [go_sem, hA, AV.bel, belL, nblt, simprocAttr]
   · simp (maxSteps := 400000) only [go_sem, hbb, AV.bel, belL, nblt, simprocAttr]
   · simp (maxSteps := 400000) only [go_sem, g3, g4, g28, g29, hw, hlt, hA, AV.bel, belL, nblt, simprocAttr]
 · obtain rfl : k = 4 := by omega
   have c1 : decide (((4 : Nat) : Int) < 4) = false := rfl
   simp (maxSteps := 400000) only [go_sem, c1, simprocAttr]
   exact hK _
end Go.Proofs.Jit
