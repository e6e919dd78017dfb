/- Texts laid as one: ResC1 ResC2 ResC3. -/
import Derived.Test.YthnmkedknannhaaResIR
import Derived.Test.YthnmkedknannhaaAbRead
import Derived.Test.YthnmkedknannhaaAbLoops
section
/- Contracts of chapter 28's small functions. -/
namespace Go.Proofs.Res
open Go.Ab
set_option maxRecDepth 100000
set_option maxHeartbeats 4000000
set_option linter.unusedSimpArgs false
set_option linter.unusedVariables false
theorem mo : Try.prog.follows .mixedOrders = true := by kernel_rfl
def inI (lo hi x : Int) : Bool := decide (lo ≤ x) && decide (x ≤ hi)
theorem w49 (lo hi x : Int) : FTL Try.prog 49 [.i .i64 lo, .i .i64 hi, .i .i64 x] [] 0 (.b (inI lo hi x)) [] 0 := by
 refine FTL.of_iw Sound.nil mo Try.func49 i49_eq (by simp [i49]) (iw_of_jw ?_)
 dsimp only [i49]
 simp (maxSteps := 400000) only [go_sem, simprocAttr]
 repeat' (first | refine spB_i (fun _ => ?_) (fun _ => ?_) | refine andB_i ?_ ?_)
 all_goals (refine Ends.pureE rfl (congrArg _ ?_); simp [inI] at *; try omega)
def k49 : Ct
 | [.i .i64 lo, .i .i64 hi, .i .i64 x], _, n => some (true, { v := .b (inI lo hi x), n })
 | _, _, _ => none
theorem s49 : SoundAt Try.prog 49 k49 := fun args h n c E hc ht => by
 unfold k49 at hc
 split at hc
 · cases hc; exact CallOK.pure (by kernel_rfl) rfl rfl (w49 _ _ _) _ _
 · cases hc
def lead (a b : Int) : Int := if (a - b) % 65536 ≥ 32768 then (a - b) % 65536 - 65536 else (a - b) % 65536
theorem lead_rng (a b : Int) : -32768 ≤ lead a b ∧ lead a b ≤ 32767 := by unfold lead; split <;> omega
theorem w89 (x y : Int) (hx : 0 ≤ x ∧ x ≤ 65535) (hy : 0 ≤ y ∧ y ≤ 65535) : FTL Try.prog 89 [.i .i64 x, .i .i64 y, .i .i64 16] [] 0 (.tup [.i .i64 (lead x y), .i .i64 0]) [] 0 := by
 refine FTL.of_iw Sound.nil mo Try.func89 i89_eq (by simp [i89]) (iw_of_jw ?_)
 dsimp only [i89]
 have f1 : x.fdiv 65536 = 0 := by rw [Int.fdiv_eq_ediv_of_nonneg _ (by omega)]; omega
 have f2 : y.fdiv 65536 = 0 := by rw [Int.fdiv_eq_ediv_of_nonneg _ (by omega)]; omega
 have c1 : decide (x < 0) = false := decide_eq_false (by omega)
 have c2 : decide (y < 0) = false := decide_eq_false (by omega)
 have g1 : IntKind.i64.wrap (x - y) = x - y := wrapL (by omega) (by omega)
 have g2 : IntKind.i64.wrap 65536 = 65536 := rfl
 have g3 : IntKind.i64.wrap 65535 = 65535 := rfl
 have g4 : ((x - y) % 65536).fdiv 32768 = (x - y) % 65536 / 32768 := Int.fdiv_eq_ediv_of_nonneg _ (by omega)
 have g5 : IntKind.i64.wrap ((x - y) % 65536 - 65536) = (x - y) % 65536 - 65536 := wrapL (by omega) (by omega)
 simp (maxSteps := 400000) only [go_sem, f1, f2, c1, c2, g1, g2, g3, and16, g4, g5, simprocAttr]
 repeat' (first | refine spB_i (fun _ => ?_) (fun _ => ?_) | refine andB_i ?_ ?_)
 all_goals first
  | (refine Ends.pureE rfl ?_
     simp only [lead]
     grind)
  | rfl
def k89 : Ct
 | [.i .i64 x, .i .i64 y, .i .i64 16], _, n => some (inI 0 65535 x && inI 0 65535 y, { v := .tup [.i .i64 (lead x y), .i .i64 0], n })
 | _, _, _ => none
theorem inI_t {lo hi x : Int} (h : inI lo hi x = true) : lo ≤ x ∧ x ≤ hi := by simpa [inI] using h
theorem inI_of {lo hi x : Int} (h : lo ≤ x ∧ x ≤ hi) : inI lo hi x = true := by simpa [inI] using h
theorem s89 : SoundAt Try.prog 89 k89 := fun args h n c E hc ht => by
 unfold k89 at hc
 split at hc
 · cases hc
   simp only [Bool.and_eq_true] at ht
   exact CallOK.pure (by kernel_rfl) rfl rfl (w89 _ _ (inI_t ht.1) (inI_t ht.2)) _ _
 · cases hc
def T1 : List (Nat × Ct) := [(89, k89)]
theorem hT1 : Sound Try.prog (cxT T1) := Sound.cons s89 Sound.nil
theorem w51 (x y : Int) (hx : inI 0 65535 x = true) (hy : inI 0 65535 y = true) : FTL Try.prog 51 [.i .i64 x, .i .i64 y] [] 0 (.i .i64 (lead x y)) [] 0 := by
 refine FTL.of_iw hT1 mo Try.func51 i51_eq (by simp [i51]) (iw_of_jw ?_)
 dsimp only [i51, T1]
 simp (maxSteps := 400000) only [go_sem, k89, hx, hy, simprocAttr]
 exact Ends.pureE rfl rfl
def k51 : Ct
 | [.i .i64 x, .i .i64 y], _, n => some (inI 0 65535 x && inI 0 65535 y, { v := .i .i64 (lead x y), n })
 | _, _, _ => none
theorem s51 : SoundAt Try.prog 51 k51 := fun args h n c E hc ht => by
 unfold k51 at hc
 split at hc
 · cases hc
   simp only [Bool.and_eq_true] at ht
   exact CallOK.pure (by kernel_rfl) rfl rfl (w51 _ _ ht.1 ht.2) _ _
 · cases hc
/-! the reference's -/
theorem w90_15 : FTL Try.prog 90 [.i .i64 15] [] 0 (.i .i64 32768) [] 0 :=
 FTL.of_val (T := []) 100 mo .nil Try.func90 i90_eq (by kernel_rfl) rfl
theorem w90_16 : FTL Try.prog 90 [.i .i64 16] [] 0 (.i .i64 65536) [] 0 :=
 FTL.of_val (T := []) 100 mo .nil Try.func90 i90_eq (by kernel_rfl) rfl
def k90 : Ct
 | [.i .i64 15], _, n => some (true, { v := .i .i64 32768, n })
 | [.i .i64 16], _, n => some (true, { v := .i .i64 65536, n })
 | _, _, _ => none
theorem s90 : SoundAt Try.prog 90 k90 := fun args h n c E hc ht => by
 unfold k90 at hc
 split at hc
 · cases hc; exact CallOK.pure (by kernel_rfl) rfl rfl w90_15 _ _
 · cases hc; exact CallOK.pure (by kernel_rfl) rfl rfl w90_16 _ _
 · cases hc
def T2 : List (Nat × Ct) := [(90, k90)]
theorem hT2 : Sound Try.prog (cxT T2) := Sound.cons s90 Sound.nil
theorem w53 (x y : Int) (hx : inI 0 65535 x = true) (hy : inI 0 65535 y = true) : FTL Try.prog 53 [.i .i64 x, .i .i64 y, .i .i64 16] [] 0 (.i .i64 (lead x y)) [] 0 := by
 refine FTL.of_iw hT2 mo Try.func53 i53_eq (by simp [i53]) (iw_of_jw ?_)
 dsimp only [i53, T2]
 have hx := inI_t hx
 have hy := inI_t hy
 have g1 : IntKind.i64.wrap (x - y) = x - y := wrapL (by omega) (by omega)
 have g2 : IntKind.i64.wrap (-32768) = -32768 := rfl
 have g3 : IntKind.i64.wrap (x - y + 65536) = x - y + 65536 := wrapL (by omega) (by omega)
 have g4 : IntKind.i64.wrap (x - y - 65536) = x - y - 65536 := wrapL (by omega) (by omega)
 have g5 : IntKind.i64.wrap (x - y + 65536 - 65536) = x - y + 65536 - 65536 := wrapL (by omega) (by omega)
 simp (maxSteps := 400000) only [go_sem, k90, g1, g2, g3, g4, g5, simprocAttr]
 repeat' (first | refine spB_i (fun _ => ?_) (fun _ => ?_) | refine andB_i ?_ ?_)
 all_goals
  refine Ends.pureE rfl ?_
  simp only [lead]
  grind
def k53 : Ct
 | [.i .i64 x, .i .i64 y, .i .i64 16], _, n => some (inI 0 65535 x && inI 0 65535 y, { v := .i .i64 (lead x y), n })
 | _, _, _ => none
theorem s53 : SoundAt Try.prog 53 k53 := fun args h n c E hc ht => by
 unfold k53 at hc
 split at hc
 · cases hc
   simp only [Bool.and_eq_true] at ht
   exact CallOK.pure (by kernel_rfl) rfl rfl (w53 _ _ ht.1 ht.2) _ _
 · cases hc
theorem w52 (x y : Int) : FTL Try.prog 52 [.i .i64 x, .i .i64 y] [] 0 (.b (inI y 1099511627776 x)) [] 0 := by
 refine FTL.of_iw Sound.nil mo Try.func52 i52_eq (by simp [i52]) (iw_of_jw ?_)
 dsimp only [i52]
 simp (maxSteps := 400000) only [go_sem, simprocAttr]
 repeat' (first | refine spB_i (fun _ => ?_) (fun _ => ?_) | refine andB_i ?_ ?_)
 all_goals (refine Ends.pureE rfl (congrArg _ ?_); simp [inI] at *; try omega)
def k52 : Ct
 | [.i .i64 x, .i .i64 y], _, n => some (true, { v := .b (inI y 1099511627776 x), n })
 | _, _, _ => none
theorem s52 : SoundAt Try.prog 52 k52 := fun args h n c E hc ht => by
 unfold k52 at hc
 split at hc
 · cases hc; exact CallOK.pure (by kernel_rfl) rfl rfl (w52 _ _) _ _
 · cases hc
/-! wants -/
structure Wt where
 sq : Int
 fd : Int
 ak : Int
 tr : Int
def Wt.l (x : Wt) : List AV := [.i .i64 x.sq, .i .i64 x.fd, .i .i64 x.ak, .i .i64 x.tr]
theorem Wt.len (x : Wt) : x.l.length = 4 := rfl
theorem Wt.bel (x : Wt) : belL 0 x.l = true := rfl
theorem Wt.one (x : Wt) : oneAll x.l = true := rfl
def wt4 : List AV → Option Wt
 | [.i .i64 a, .i .i64 b, .i .i64 c, .i .i64 d] => some ⟨a, b, c, d⟩
 | _ => none
theorem wt4_l (x : Wt) : wt4 x.l = some x := rfl
theorem wt4_eq {c : List AV} {x : Wt} (h : wt4 c = some x) : c = x.l := by
 unfold wt4 at h
 split at h
 · cases h; rfl
 · cases h
def wantB (x : Wt) (at_ : Int) : Bool := inI 0 65535 x.sq && inI 0 at_ x.fd && inI 0 6 x.tr && (if x.tr == 0 then x.ak == 0 else inI x.fd at_ x.ak)
def T3 : List (Nat × Ct) := [(49, k49)]
theorem hT3 : Sound Try.prog (cxT T3) := Sound.cons s49 Sound.nil
theorem w50 (x : Wt) (at_ : Int) : FTL Try.prog 50 [.agg x.l, .i .i64 at_] [] 0 (.b (wantB x at_)) [] 0 := by
 obtain ⟨sq, fd, ak, tr⟩ := x
 refine FTL.of_iw hT3 mo Try.func50 i50_eq (by simp [i50]) (iw_of_jw ?_)
 dsimp only [i50, T3]
 cases h1 : inI 0 65535 sq
 · simp (maxSteps := 400000) only [go_sem, k49, h1, Wt.l, simprocAttr]
   exact Ends.pureE rfl (by simp [wantB, h1])
 cases h2 : inI 0 at_ fd
 · simp (maxSteps := 400000) only [go_sem, k49, h1, h2, Wt.l, simprocAttr]
   exact Ends.pureE rfl (by simp [wantB, h1, h2])
 cases h3 : inI 0 6 tr
 · simp (maxSteps := 400000) only [go_sem, k49, h1, h2, h3, Wt.l, simprocAttr]
   exact Ends.pureE rfl (by simp [wantB, h1, h2, h3])
 have h3' := inI_t h3
 cases h4 : tr == 0
 · have h5 : decide (tr > 0) = true := decide_eq_true (by have := beq_eq_false_iff_ne.1 h4; omega)
   simp (maxSteps := 400000) only [go_sem, k49, h1, h2, h3, h4, h5, Wt.l, simprocAttr]
   exact Ends.pureE rfl (by simp [wantB, h1, h2, h3, h4])
 · have h5 : decide (tr > 0) = false := decide_eq_false (by have := beq_iff_eq.1 h4; omega)
   cases h6 : ak == 0
   · simp (maxSteps := 400000) only [go_sem, k49, h1, h2, h3, h4, h5, h6, Wt.l, simprocAttr]
     exact Ends.pureE rfl (by simp only [wantB, h1, h2, h3, h4, h6]; rfl)
   · simp (maxSteps := 400000) only [go_sem, k49, h1, h2, h3, h4, h5, h6, Wt.l, simprocAttr]
     exact Ends.pureE rfl (by simp only [wantB, h1, h2, h3, h4, h6]; rfl)
def k50 : Ct
 | [.agg x, .i .i64 at_], _, n => (wt4 x).bind fun x => some (true, { v := .b (wantB x at_), n })
 | _, _, _ => none
theorem s50 : SoundAt Try.prog 50 k50 := fun args h n c E hc ht => by
 unfold k50 at hc
 split at hc
 · simp only [Option.bind_eq_some_iff] at hc
   obtain ⟨x, hx, he⟩ := hc
   cases he
   rw [wt4_eq hx]
   exact CallOK.pure (by kernel_rfl) rfl rfl (w50 _ _) _ _
 · cases hc
end Go.Proofs.Res
end
section
/- Contracts of due and end, of Check and Right, and late. -/
namespace Go.Proofs.Res
open Go.Ab
set_option maxRecDepth 100000
set_option maxHeartbeats 4000000
set_option linter.unusedSimpArgs false
set_option linter.unusedVariables false
def TT : Int := 1099511627776
def okX (x : Wt) : Bool := inI 0 1099511627776 x.fd && inI 0 1099511627776 x.ak && inI 0 6 x.tr && (x.tr == 0 || true) && (!(x.tr == 0) || x.ak == 0)
def pw (t : Int) : Int := if t == 1 then 1 else if t == 2 then 2 else if t == 3 then 4 else if t == 4 then 8 else if t == 5 then 16 else 32
def dueS (x : Wt) (trip : Int) : Int := if x.tr == 0 then x.fd else x.ak + min 1000 (trip * pw x.tr)
def endS (x : Wt) (trip : Int) : Int := if x.tr == 6 then min (x.fd + 2000) (dueS x trip) else x.fd + 2000
theorem six {t : Int} (h : inI 0 6 t = true) : t = 0 ∨ t = 1 ∨ t = 2 ∨ t = 3 ∨ t = 4 ∨ t = 5 ∨ t = 6 := by have := inI_t h; omega
theorem due_rng {x : Wt} {trip : Int} (hx : okX x = true) (ht : 1 ≤ trip ∧ trip ≤ 2000) : 0 ≤ dueS x trip ∧ dueS x trip ≤ 1099511628776 := by
 simp only [okX, Bool.and_eq_true] at hx
 obtain ⟨⟨⟨⟨h1, h2⟩, h3⟩, _⟩, h4⟩ := hx
 have h1 := inI_t h1
 have h2 := inI_t h2
 have : 1 ≤ pw x.tr := by unfold pw; grind
 have h5 : 1 ≤ trip * pw x.tr := by
  have := Int.mul_le_mul ht.1 this (by omega) (by omega)
  simpa using this
 unfold dueS
 split <;> omega
theorem w60 (x : Wt) (trip : Int) (hx : okX x = true) (ht : 1 ≤ trip ∧ trip ≤ 2000) : FTL Try.prog 60 [.agg x.l, .i .i64 trip] [] 0 (.i .i64 (dueS x trip)) [] 0 := by
 obtain ⟨sq, fd, ak, tr⟩ := x
 simp only [okX, Bool.and_eq_true] at hx
 obtain ⟨⟨⟨⟨h1, h2⟩, h3⟩, _⟩, h4⟩ := hx
 try dsimp only at h1 h2 h3 h4
 have h1 := inI_t h1
 have h2 := inI_t h2
 refine FTL.of_iw Sound.nil mo Try.func60 i60_eq (by simp [i60]) (iw_of_jw ?_)
 dsimp only [i60]
 have m2 : IntKind.i64.wrap (trip * 1) = trip * 1 := wrapL (by omega) (by omega)
 have m3 : IntKind.i64.wrap (trip * 2) = trip * 2 := wrapL (by omega) (by omega)
 have m4 : IntKind.i64.wrap (trip * 4) = trip * 4 := wrapL (by omega) (by omega)
 have m5 : IntKind.i64.wrap (trip * 8) = trip * 8 := wrapL (by omega) (by omega)
 have m6 : IntKind.i64.wrap (trip * 16) = trip * 16 := wrapL (by omega) (by omega)
 have m7 : IntKind.i64.wrap (trip * 32) = trip * 32 := wrapL (by omega) (by omega)
 have mm : ∀ k : Int, 1 ≤ k → IntKind.i64.wrap (ak + min 1000 (trip * k)) = ak + min 1000 (trip * k) := fun k hk => by
  have h5 : 1 ≤ trip * k := by
   have := Int.mul_le_mul ht.1 hk (by omega) (by omega)
   simpa using this
  exact wrapL (by omega) (by omega)
 have n1 := mm 1 (by omega)
 have n2 := mm 2 (by omega)
 have n3 := mm 4 (by omega)
 have n4 := mm 8 (by omega)
 have n5 := mm 16 (by omega)
 have n6 := mm 32 (by omega)
 rcases six h3 with rfl | rfl | rfl | rfl | rfl | rfl | rfl
 · have h5 : ak = 0 := by simpa using h4
   subst h5
   simp (maxSteps := 400000) only [go_sem, Wt.l, simprocAttr]
   exact Ends.pureE rfl rfl
 all_goals
  simp (maxSteps := 400000) only [go_sem, Wt.l, m2, m3, m4, m5, m6, m7, n1, n2, n3, n4, n5, n6, simprocAttr]
  exact Ends.pureE rfl (by simp [dueS, pw])
def k60 : Ct
 | [.agg x, .i .i64 trip], _, n => (wt4 x).bind fun x => some (okX x && inI 1 2000 trip, { v := .i .i64 (dueS x trip), n })
 | _, _, _ => none
theorem s60 : SoundAt Try.prog 60 k60 := fun args h n c E hc ht => by
 unfold k60 at hc
 split at hc
 · simp only [Option.bind_eq_some_iff] at hc
   obtain ⟨x, hx, he⟩ := hc
   cases he
   rw [wt4_eq hx]
   simp only [Bool.and_eq_true] at ht
   exact CallOK.pure (by kernel_rfl) rfl rfl (w60 _ _ ht.1 (inI_t ht.2)) _ _
 · cases hc
theorem loop62 (x : Wt) (trip : Int) (ht : 1 ≤ trip ∧ trip ≤ 2000) (hx : okX x = true) (hn : ¬ x.tr = 0) : FTL Try.prog 62 [.agg x.l, .i .i64 trip] [] 0 (.i .i64 (dueS x trip)) [] 0 := by
 obtain ⟨sq, fd, ak, tr⟩ := x
 simp only [okX, Bool.and_eq_true] at hx
 obtain ⟨⟨⟨⟨h1, h2⟩, h3⟩, _⟩, h4⟩ := hx
 try dsimp only at h1 h2 h3 h4 hn
 have h1 := inI_t h1
 have h2 := inI_t h2
 refine FTL.of_iw Sound.nil mo Try.func62 i62_eq (by simp [i62]) (iw_of_jw ?_)
 dsimp only [i62]
 have m3 : IntKind.i64.wrap (2 * trip) = 2 * trip := wrapL (by omega) (by omega)
 have m4 : IntKind.i64.wrap (2 * (2 * trip)) = 2 * (2 * trip) := wrapL (by omega) (by omega)
 have m5 : IntKind.i64.wrap (2 * (2 * (2 * trip))) = 2 * (2 * (2 * trip)) := wrapL (by omega) (by omega)
 have m6 : IntKind.i64.wrap (2 * (2 * (2 * (2 * trip)))) = 2 * (2 * (2 * (2 * trip))) := wrapL (by omega) (by omega)
 have m7 : IntKind.i64.wrap (2 * (2 * (2 * (2 * (2 * trip))))) = 2 * (2 * (2 * (2 * (2 * trip)))) := wrapL (by omega) (by omega)
 have mm : ∀ k : Int, 1 ≤ k → IntKind.i64.wrap (ak + min 1000 k) = ak + min 1000 k := fun k hk => wrapL (by omega) (by omega)
 have n1 := mm trip (by omega)
 have n2 := mm (2 * trip) (by omega)
 have n3 := mm (2 * (2 * trip)) (by omega)
 have n4 := mm (2 * (2 * (2 * trip))) (by omega)
 have n5 := mm (2 * (2 * (2 * (2 * trip)))) (by omega)
 have n6 := mm (2 * (2 * (2 * (2 * (2 * trip))))) (by omega)
 rcases six h3 with rfl | rfl | rfl | rfl | rfl | rfl | rfl
 · exact absurd rfl hn
 all_goals
  simp (maxSteps := 400000) only [go_sem, Wt.l, simprocAttr]
  refine Loop.rounds (F := ⟨Try.prog, cxT [], [9, 16], 26, 0⟩) 7 Sound.nil mo ?_
  simp (maxSteps := 400000) only [go_sem, Wt.l, m3, m4, m5, m6, m7, n1, n2, n3, n4, n5, n6, simprocAttr]
  exact Ends.pureE rfl (by simp [dueS, pw]; try omega)
theorem w62 (x : Wt) (trip : Int) (hx : okX x = true) (ht : 1 ≤ trip ∧ trip ≤ 2000) : FTL Try.prog 62 [.agg x.l, .i .i64 trip] [] 0 (.i .i64 (dueS x trip)) [] 0 := by
 by_cases hn : x.tr = 0
 · obtain ⟨sq, fd, ak, tr⟩ := x
   dsimp only at hn
   subst hn
   refine FTL.of_iw Sound.nil mo Try.func62 i62_eq (by simp [i62]) (iw_of_jw ?_)
   dsimp only [i62]
   simp (maxSteps := 400000) only [go_sem, Wt.l, simprocAttr]
   exact Ends.pureE rfl rfl
 · exact loop62 x trip ht hx hn
def k62 : Ct
 | [.agg x, .i .i64 trip], _, n => (wt4 x).bind fun x => some (okX x && inI 1 2000 trip, { v := .i .i64 (dueS x trip), n })
 | _, _, _ => none
theorem s62 : SoundAt Try.prog 62 k62 := fun args h n c E hc ht => by
 unfold k62 at hc
 split at hc
 · simp only [Option.bind_eq_some_iff] at hc
   obtain ⟨x, hx, he⟩ := hc
   cases he
   rw [wt4_eq hx]
   simp only [Bool.and_eq_true] at ht
   exact CallOK.pure (by kernel_rfl) rfl rfl (w62 _ _ ht.1 (inI_t ht.2)) _ _
 · cases hc
def T4 : List (Nat × Ct) := [(60, k60), (62, k62)]
theorem hT4 : Sound Try.prog (cxT T4) := Sound.cons s60 (Sound.cons s62 Sound.nil)
theorem w61 (x : Wt) (trip : Int) (hx : okX x = true) (ht : 1 ≤ trip ∧ trip ≤ 2000) : FTL Try.prog 61 [.agg x.l, .i .i64 trip] [] 0 (.i .i64 (endS x trip)) [] 0 := by
 have hd := due_rng hx ht
 have hx' := hx
 have ht' := inI_of ht
 have hE : endS x trip = if x.tr == 6 then min (x.fd + 2000) (dueS x trip) else x.fd + 2000 := rfl
 generalize hD : dueS x trip = D at *
 have hk : ∀ (h : Hp) n, k60 [.agg x.l, .i .i64 trip] h n = some (true, { v := .i .i64 D, n }) := fun h n => by
  simp only [k60, wt4_l, Option.bind_some, hx, ht', hD, Bool.and_self]
 rw [hE]
 obtain ⟨sq, fd, ak, tr⟩ := x
 simp only [okX, Bool.and_eq_true] at hx
 obtain ⟨⟨⟨⟨h1, h2⟩, h3⟩, _⟩, h4⟩ := hx
 try dsimp only at h1 h2 h3 h4 ⊢
 have h1 := inI_t h1
 have h3 := inI_t h3
 simp only [Wt.l] at hk
 refine FTL.of_iw hT4 mo Try.func61 i61_eq (by simp [i61]) (iw_of_jw ?_)
 dsimp only [i61, T4]
 have m1 : IntKind.i64.wrap (fd + 2000) = fd + 2000 := wrapL (by omega) (by omega)
 cases h6 : decide (tr < 6)
 · have h7 : (tr == 6) = true := beq_iff_eq.2 (by have := of_decide_eq_false h6; omega)
   simp (maxSteps := 400000) only [go_sem, Wt.l, h6, m1, hk, h7, simprocAttr]
   exact Ends.pureE rfl rfl
 · have h7 : (tr == 6) = false := beq_eq_false_iff_ne.2 (by have := of_decide_eq_true h6; omega)
   simp (maxSteps := 400000) only [go_sem, Wt.l, h6, m1, hk, h7, simprocAttr]
   exact Ends.pureE rfl (by rfl)
def k61 : Ct
 | [.agg x, .i .i64 trip], _, n => (wt4 x).bind fun x => some (okX x && inI 1 2000 trip, { v := .i .i64 (endS x trip), n })
 | _, _, _ => none
theorem s61 : SoundAt Try.prog 61 k61 := fun args h n c E hc ht => by
 unfold k61 at hc
 split at hc
 · simp only [Option.bind_eq_some_iff] at hc
   obtain ⟨x, hx, he⟩ := hc
   cases he
   rw [wt4_eq hx]
   simp only [Bool.and_eq_true] at ht
   exact CallOK.pure (by kernel_rfl) rfl rfl (w61 _ _ ht.1 (inI_t ht.2)) _ _
 · cases hc
end Go.Proofs.Res
end
section
/- Contracts of Check and Right, and late. -/
namespace Go.Proofs.Res
open Go.Ab
set_option maxRecDepth 100000
set_option maxHeartbeats 4000000
set_option linter.unusedSimpArgs false
set_option linter.unusedVariables false
structure Ws where
 ti : Int
 st : Bool
 tp : Int
 l : List Wt
def Ws.a (w : Ws) : List AV := [.i .i64 w.ti, .b w.st, .i .i64 w.tp, .fz (rows Wt.l w.l) w.l.length]
theorem Ws.bel (w : Ws) : belL 0 w.a = true := by simp only [Ws.a, belL, AV.bel, rows_bel Wt.bel, Bool.and_self]
def headB (w : Ws) : Bool := inI 0 TT w.ti && (inI 0 65535 w.tp && (decide (w.l.length ≤ 64) && (w.st || (w.tp == 0 && w.l.length == 0))))
def chk (at_ tp : Int) : Int → List Wt → Bool
 | _, [] => true
 | last, x :: r => wantB x at_ && (inI (last + 1) (-1) (lead x.sq tp) && chk at_ tp (lead x.sq tp) r)
def goodB (w : Ws) : Bool := headB w && chk w.ti w.tp (-1001) w.l
def lst (tp : Int) (l : List Wt) : Nat → Int
 | 0 => -1001
 | k + 1 => match l[k]? with
  | some x => lead x.sq tp
  | none => 0
theorem lst_rng (tp : Int) (l : List Wt) (k : Nat) : -32768 ≤ lst tp l k ∧ lst tp l k ≤ 32767 := by
 unfold lst
 split
 · omega
 · split
   · exact lead_rng _ _
   · omega
theorem wt_at {l : List Wt} {k : Nat} {x : Wt} (h : l[k]? = some x) : List.take 4 (List.drop (k * 4) (rows Wt.l l)) = x.l := rows_at Wt.len h
theorem headB_t {w : Ws} (h : headB w = true) : (0 ≤ w.ti ∧ w.ti ≤ 1099511627776) ∧ inI 0 65535 w.tp = true ∧ w.l.length ≤ 64 := by
 simp only [headB, Bool.and_eq_true, decide_eq_true_eq] at h
 exact ⟨inI_t h.1, h.2.1, h.2.2.1⟩
theorem wantB_sq {x : Wt} {t : Int} (h : wantB x t = true) : inI 0 65535 x.sq = true := by
 simp only [wantB, Bool.and_eq_true] at h; exact h.1.1.1
theorem wantB_ok {x : Wt} {t : Int} (h : wantB x t = true) (ht : t ≤ 1099511627776) : okX x = true := by
 simp only [wantB, Bool.and_eq_true] at h
 obtain ⟨⟨⟨_, h2⟩, h3⟩, h4⟩ := h
 have h2' := inI_t h2
 simp only [okX, h3, Bool.or_true, Bool.and_true]
 rw [inI_of (by omega)]
 cases ht0 : x.tr == 0
 · rw [ht0] at h4
   simp only [Bool.false_eq_true, if_false] at h4
   have := inI_t h4
   rw [inI_of (by omega)]; rfl
 · rw [ht0] at h4
   simp only [if_true] at h4
   have := beq_iff_eq.1 h4
   rw [this]; rfl
def T5 : List (Nat × Ct) := [(49, k49), (50, k50), (51, k51)]
theorem hT5 : Sound Try.prog (cxT T5) := Sound.cons s49 (Sound.cons s50 (Sound.cons s51 Sound.nil))
theorem loop11 (w : Ws) (hl : w.l.length ≤ 1000000000000) {K : Kont} {e : Env} {h : Hp} {n : Nat}
 (he : EnvIn 1 e [(1, .p 0 0), (3, .b (headB w)), (4, .i .i64 (-1001)), (37, .fz (rows Wt.l w.l) w.l.length), (38, .i .i64 (w.l.length : Int)), (39, .i .i64 0)]) (hh : HpIn 1 h [(0, { cells := w.a })])
 (hK0 : ∀ e' h' n', eget e' 3 = some (.b (headB w)) → (headB w = true → goodB w = true) → K (.exit 0) e' h' n')
 (hKr : ∀ e' h' n', eget e' 2 = some (.i .i64 280) → goodB w = false → K .ret e' h' n') : Ab.Loop Try.prog [40, 62, 70] 71 0 i11l10 K e h n := by
 obtain ⟨ti, st, tp, l⟩ := w
 have hgd : goodB ⟨ti, st, tp, l⟩ = (headB ⟨ti, st, tp, l⟩ && chk ti tp (-1001) l) := rfl
 have hhd := headB_t (w := ⟨ti, st, tp, l⟩)
 generalize headB ⟨ti, st, tp, l⟩ = ok at he hK0 hgd hhd
 generalize goodB ⟨ti, st, tp, l⟩ = gd at hK0 hKr hgd
 have hLb : belL 1 (rows Wt.l l) = true := belL_mono0 _ (rows_bel Wt.bel)
 simp only [Ws.a] at he hh hl hhd ⊢
 refine Loop.countI (F := ⟨Try.prog, cxT T5, [40, 62, 70], 71, 0⟩) hT5 mo l.length (fun k => chk ti tp (-1001) l = chk ti tp (lst tp l k) (l.drop k))
  (fun k => [(1, .p 0 0), (3, .b ok), (4, .i .i64 (lst tp l k)), (37, .fz (rows Wt.l l) l.length), (38, .i .i64 (l.length : Int)), (39, .i .i64 (k : Int))])
  (fun k => [(0, { cells := [.i .i64 ti, .b st, .i .i64 tp, .fz (rows Wt.l l) l.length] })]) 1 (by decide) rfl he hh (fun k hk hinv => ?_)
 dsimp only [T5]
 by_cases hlt : k < l.length
 · have c1 : decide ((k : Int) < (l.length : Int)) = true := decide_eq_true (by omega)
   have c2 : decide (0 ≤ (k : Int) ∧ (k : Int) < (l.length : Int)) = true := decide_eq_true (by omega)
   have hw : IntKind.i64.wrap ((k : Int) + 1) = ((k + 1 : Nat) : Int) := by rw [wrapL (by omega) (by omega)]; omega
   obtain ⟨x, hx⟩ : ∃ x, l[k]? = some x := ⟨_, List.getElem?_eq_getElem hlt⟩
   have hr := wt_at hx
   have hdr : l.drop k = x :: l.drop (k + 1) := by
    rw [List.drop_eq_getElem_cons hlt]
    rw [List.getElem?_eq_getElem hlt] at hx
    cases hx; rfl
   have hls : lst tp l (k + 1) = lead x.sq tp := by simp only [lst, hx]
   have hrg := lst_rng tp l k
   have hw1 : IntKind.i64.wrap (lst tp l k + 1) = lst tp l k + 1 := wrapL (by omega) (by omega)
   rw [hdr] at hinv
   simp only [chk] at hinv
   cases ok
   · simp (maxSteps := 400000) only [go_sem, c1, c2, hr, Wt.l, simprocAttr]
     exact hKr _ _ _ rfl (by rw [hgd]; rfl)
   · have ht := (hhd rfl).2.1
     cases h1 : wantB x ti
     · have hf : gd = false := by rw [hgd, hinv, h1]; rfl
       obtain ⟨sq, fd, ak, tr⟩ := x
       simp (maxSteps := 400000) only [go_sem, c1, c2, hr, Wt.l, k50, wt4, h1, simprocAttr]
       exact hKr _ _ _ rfl hf
     · have hsq := wantB_sq h1
       cases h2 : inI (lst tp l k + 1) (-1) (lead x.sq tp)
       · have hf : gd = false := by rw [hgd, hinv, h1, h2]; rfl
         obtain ⟨sq, fd, ak, tr⟩ := x
         simp (maxSteps := 400000) only [go_sem, c1, c2, hr, Wt.l, k50, wt4, h1, k51, hsq, ht, k49, hw1, h2, simprocAttr]
         exact hKr _ _ _ rfl hf
       · have hn : chk ti tp (-1001) l = chk ti tp (lst tp l (k + 1)) (l.drop (k + 1)) := by rw [hinv, h1, h2, hls]; rfl
         rw [hls] at hn ⊢
         obtain ⟨sq, fd, ak, tr⟩ := x
         simp (maxSteps := 400000) only [go_sem, c1, c2, hr, Wt.l, k50, wt4, h1, k51, hsq, ht, k49, hw1, h2, hw, hlt, AV.bel, belL, nblt, hLb, simprocAttr]
         exact hn
 · have c1 : decide ((k : Int) < (l.length : Int)) = false := decide_eq_false (by omega)
   obtain rfl : k = l.length := by omega
   rw [List.drop_length] at hinv
   simp (maxSteps := 400000) only [go_sem, c1, simprocAttr]
   exact hK0 _ _ _ rfl (fun ho => by rw [hgd, ho, hinv]; rfl)
theorem w11 (w : Ws) (hl : w.l.length ≤ 1000000000000) : FTL Try.prog 11 [.agg w.a] [] 0 (.i .i64 (if goodB w then 0 else 280)) [] 0 := by
 have loop := fun {K : Kont} {e : Env} {h : Hp} {n : Nat} => loop11 w hl (K := K) (e := e) (h := h) (n := n)
 have hgf : headB w = false → goodB w = false := fun h => by simp [goodB, h]
 have hhd : headB w = (inI 0 TT w.ti && (inI 0 65535 w.tp && (decide (w.l.length ≤ 64) && (w.st || (w.tp == 0 && w.l.length == 0))))) := rfl
 generalize hg : goodB w = gd at loop hgf ⊢
 generalize headB w = hd at loop hgf hhd ⊢
 obtain ⟨ti, st, tp, l⟩ := w
 simp only [TT] at hhd
 simp only [Ws.a] at loop hhd ⊢
 have n1 : decide ((l.length : Int) ≤ 64) = decide (l.length ≤ 64) := decide_eq_decide.2 (by omega)
 have n2 : ((l.length : Int) == 0) = (l.length == 0) := by rw [Bool.eq_iff_iff]; simp
 have hLb : belL 1 (rows Wt.l l) = true := belL_mono0 _ (rows_bel Wt.bel)
 refine FTL.of_iw hT5 mo Try.func11 i11_eq (by simp [i11]) (iw_of_jw ?_)
 dsimp only [i11, T5]
 have fin : ∀ (b : Bool), hd = b → (b = true ∨ b = false) := fun b _ => by cases b <;> simp
 cases a1 : inI 0 1099511627776 ti <;> cases a2 : inI 0 65535 tp <;> cases a3 : decide (l.length ≤ 64) <;> cases st <;> cases a5 : (tp == 0) <;> cases a6 : (l.length == 0)
 all_goals
  (simp only [a1, a2, a3, a5, a6, Bool.and_true, Bool.and_false, Bool.true_and, Bool.false_and, Bool.or_true, Bool.true_or, Bool.or_false, Bool.false_or] at hhd
   subst hhd
   simp (maxSteps := 400000) only [go_sem, k49, a1, a2, a3, a5, a6, n1, n2, simprocAttr]
   refine loop ?_ ?_ (fun e' h' n' q1 q2 => ?_) (fun e' h' n' q1 q2 => ?_)
   · simp (maxSteps := 400000) only [go_sem, AV.bel, belL, nblt, hLb, simprocAttr]
   · simp (maxSteps := 400000) only [go_sem, AV.bel, belL, nblt, hLb, simprocAttr]
   · simp (maxSteps := 400000) only [go_sem, q1, simprocAttr]
     first
      | exact Ends.pureE rfl (by rw [q2 rfl]; rfl)
      | exact Ends.pureE rfl (by rw [hgf rfl]; rfl)
   · simp (maxSteps := 400000) only [go_sem, q1, simprocAttr]
     exact Ends.pureE rfl (by rw [q2]; rfl))
end Go.Proofs.Res
end
