/- Contracts of Next, the reference's Next, and slices.Equal of the same. -/
import Derived.Test.YthnmkedknannhaaResCf
namespace Go.Proofs.Res
open Go.Ab
set_option maxRecDepth 100000
set_option maxHeartbeats 4000000
set_option linter.unusedSimpArgs false
set_option linter.unusedVariables false
def bestN (trip : Int) (l : List Wt) : Nat → Int
 | 0 => 1099511627777
 | k + 1 => match l[k]? with
  | some x => min (min (bestN trip l k) (dueS x trip)) (endS x trip)
  | none => bestN trip l k
def bestS (trip : Int) (l : List Wt) : Int := bestN trip l l.length
def nextS (w : Ws) (trip : Int) : Int × Int :=
 bif goodB w then bif inI 1 2000 trip then bif decide (bestS trip w.l > 1099511627776) then (0, 4) else (max (bestS trip w.l) w.ti, 0) else (0, 2) else (0, 280)
def nextV (r : Int × Int) : AV := .tup [.i .i64 r.1, .i .i64 r.2]
def T17 : List (Nat × Ct) := [(11, k11), (49, k49), (60, k60), (61, k61)]
theorem hT17 : Sound Try.prog (cxT T17) := Sound.cons s11 (Sound.cons s49 (Sound.cons s60 (Sound.cons s61 Sound.nil)))
theorem w18 (w : Ws) (trip : Int) (hl : w.l.length ≤ 1000000000000) : FTL Try.prog 18 [.agg w.a, .i .i64 trip] [] 0 (nextV (nextS w trip)) [] 0 := by
 have hwa := wsA_a w
 have hll : decide (w.l.length ≤ 1000000000000) = true := decide_eq_true hl
 generalize hRR : nextS w trip = R
 unfold nextS bestS at hRR
 have hhd : goodB w = true → headB w = true ∧ chk w.ti w.tp (-1001) w.l = true := fun hg => by
  simp only [goodB, Bool.and_eq_true] at hg; exact hg
 have hk11 : ∀ (h : Hp) n, k11 [.agg w.a] h n = some (true, { v := .i .i64 (if goodB w then 0 else 280), n }) := fun h n => by
  simp only [k11, hwa, Option.bind_some, hll]
 generalize goodB w = g at *
 obtain ⟨ti, st, tp, l⟩ := w
 dsimp only at hRR hl hll hhd
 simp only [Ws.a] at hk11 ⊢
 refine FTL.of_iw (cx := cxT T17) hT17 mo Try.func18 i18_eq (by simp [i18]) (iw_of_jw ?_)
 dsimp only [i18, T17]
 cases g
 · simp only [Bool.false_eq_true, if_false] at hk11
   simp (maxSteps := 400000) only [go_sem, hk11, simprocAttr]
   exact Ends.pureE rfl (by rw [← hRR]; rfl)
 simp only [if_true] at hk11
 simp only [cond_true] at hRR
 cases a1 : inI 1 2000 trip
 · rw [a1] at hRR
   simp (maxSteps := 400000) only [go_sem, hk11, k49, a1, simprocAttr]
   exact Ends.pureE rfl (by rw [← hRR]; rfl)
 rw [a1] at hRR
 have hh := hhd rfl
 obtain ⟨hti, a2, hl64⟩ := headB_t hh.1
 have hok := chk_ok hh.2 hti.2
 dsimp only at hl64 hti
 simp (maxSteps := 400000) only [go_sem, hk11, k49, a1, simprocAttr]
 refine Loop.countI (F := ⟨Try.prog, cxT T17, [13, 17, 22, 35], 40, 0⟩) hT17 mo l.length (fun _ => True)
  (fun k => [(1, .i .i64 trip), (2, .p 0 0), (7, .i .i64 (bestN trip l k)), (19, .fz (rows Wt.l l) l.length), (20, .i .i64 (l.length : Int)), (21, .i .i64 (k : Int))])
  (fun k => [(0, { cells := [.i .i64 ti, .b st, .i .i64 tp, .fz (rows Wt.l l) l.length] })]) 1 (by decide) trivial ?_ ?_ (fun k hk _ => ?_)
 · simp (maxSteps := 400000) only [go_sem, bestN, wrB, AV.bel, belL, nblt, simprocAttr]
 · simp (maxSteps := 400000) only [go_sem, wrB, AV.bel, belL, nblt, simprocAttr]
 dsimp only [T17]
 by_cases hlt : k < l.length
 · have c1 : decide ((k : Int) < (l.length : Int)) = true := decide_eq_true (by omega)
   have c2 : decide (0 ≤ (k : Int) ∧ (k : Int) < (l.length : Int)) = true := decide_eq_true (by omega)
   have hw : IntKind.i64.wrap ((k : Int) + 1) = ((k + 1 : Nat) : Int) := by rw [wrapL (by omega) (by omega)]; omega
   obtain ⟨x, hx⟩ : ∃ x, l[k]? = some x := ⟨_, List.getElem?_eq_getElem hlt⟩
   have hr := wt_at hx
   have hxo := hok x (List.mem_of_getElem? hx)
   have hbs : bestN trip l (k + 1) = min (min (bestN trip l k) (dueS x trip)) (endS x trip) := by simp only [bestN, hx]
   have hk61 : ∀ (h : Hp) n, k61 [.agg x.l, .i .i64 trip] h n = some (true, { v := .i .i64 (endS x trip), n }) := fun h n => by simp only [k61, wt4_l, Option.bind_some, hxo, a1, Bool.and_self]
   have hk60 : ∀ (h : Hp) n, k60 [.agg x.l, .i .i64 trip] h n = some (true, { v := .i .i64 (dueS x trip), n }) := fun h n => by simp only [k60, wt4_l, Option.bind_some, hxo, a1, Bool.and_self]
   rw [hbs]
   generalize endS x trip = en at *
   generalize dueS x trip = du at *
   generalize bestN trip l k = be at *
   obtain ⟨sq, fd, ak, tr⟩ := x
   simp only [Wt.l] at hr hk60 hk61
   simp (maxSteps := 400000) only [go_sem, c1, c2, hr, hk60, hk61, hw, hlt, wrB, AV.bel, belL, nblt, Wt.l, simprocAttr]
 · have c1 : decide ((k : Int) < (l.length : Int)) = false := decide_eq_false (by omega)
   obtain rfl : k = l.length := by omega
   generalize bestN trip l l.length = be at *
   cases c4 : decide (be > 1099511627776)
   all_goals
    rw [c4] at hRR
    simp (maxSteps := 400000) only [go_sem, c1, c4, simprocAttr]
    exact Ends.pureE rfl (by rw [← hRR]; rfl)
def k18 : Ct
 | [.agg c, .i .i64 trip], _, n => (wsA c).bind fun w => some (decide (w.l.length ≤ 1000000000000), { v := nextV (nextS w trip), n })
 | _, _, _ => none
theorem s18 : SoundAt Try.prog 18 k18 := fun args h n c E hc ht => by
 unfold k18 at hc
 split at hc
 · simp only [Option.bind_eq_some_iff] at hc
   obtain ⟨w, hw, he⟩ := hc
   cases he
   obtain ⟨h1, h2⟩ := wsA_k hw
   exact CallOK.pure (by kernel_rfl) (by simp only [belL, AV.bel, h2, Bool.and_self]) rfl (FTL.wkaH h1 (w18 w _ (of_decide_eq_true ht))) _ _
 · cases hc
/-! slices.Equal of the same. -/
noncomputable def leq (l m : List Int) : Bool := @decide (l = m) (Classical.propDecidable _)
end Go.Proofs.Res
