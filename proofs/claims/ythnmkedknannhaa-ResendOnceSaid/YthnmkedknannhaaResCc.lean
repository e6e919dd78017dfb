/- Texts laid as one: ResC7 ResC8. -/
import Derived.Test.YthnmkedknannhaaResCb
section
/- The loop over the missing numbers. -/
namespace Go.Proofs.Res
open Go.Ab
set_option maxRecDepth 100000
set_option maxHeartbeats 4000000
set_option linter.unusedSimpArgs false
set_option linter.unusedVariables false
def missF (top now : Int) (k : Nat) : Wt := ⟨(top + ((k : Int) + 1)) % 65536, now, 0, 0⟩
abbrev hS (ti tp now top d : Int) (v : AV) (Lh : Hp) : Hp :=
 (0, { cells := [.i .i64 ti, .b true, .i .i64 tp, v] }) :: (1, { cells := int1 now }) :: (2, { cells := [.i .i64 0, .b false, .i .i64 0, .ns] }) :: (3, { cells := int1 top }) :: (4, { cells := int1 d }) :: Lh
abbrev lG (j : Nat) (l : List Wt) : Hp := [(j, { cells := rows Wt.l l, gr := some 4 })]
noncomputable abbrev F13 : Fx := ⟨Try.prog, cxT [], [17, 22, 26, 35, 40, 65], 70, 0⟩
abbrev yv (L : Nat) (r : Go.Loop) : AV := .yl L r [3, 4] [.p 0 0, .p 1 0]
theorem wt_nyl (x : Wt) : nylL x.l = true := rfl
theorem wrB (j : Nat) : ∀ l : List Wt, belL j (rows Wt.l l) = true := fun l => belL_mono0 _ (rows_bel Wt.bel)
theorem wrR (ψ : Nat → Nat) : ∀ l : List Wt, renL ψ (rows Wt.l l) = rows Wt.l l := fun l => renL_fix0 _ (rows_bel Wt.bel)
theorem yb_g (ti tp now top d x : Int) (j : Nat) (hj : j = 5 ∨ j = 6) (l : List Wt) (hl : l.length ≤ 1000000) :
 RoundW F13 [53] i13a19 i13b19 [3, 4] [.p 0 0, .p 1 0] [.i .i64 x] (hS ti tp now top d (.sg j 0 l.length) (lG j l)) 7 (hS ti tp now top d (.sg 7 0 (l.length + 1)) (lG 7 (l ++ [⟨x, now, 0, 0⟩]))) 8 := by
 refine RoundW.of_jw ?_
 have gm : decide (32 * (l.length + 1) ≤ growMax) = true := decide_eq_true (by simp only [growMax]; omega)
 have hlen : (rows Wt.l l).length = l.length * 4 := rows_len Wt.len
 have hap : rows Wt.l (l ++ [⟨x, now, 0, 0⟩]) = rows Wt.l l ++ [.i .i64 x, .i .i64 now, .i .i64 0, .i .i64 0] := by rw [rows_append]; simp [rows, Wt.l]
 have hbb : belL 8 (rows Wt.l l ++ [.i .i64 x, .i .i64 now, .i .i64 0, .i .i64 0]) = true := by rw [← hap]; exact wrB _ _
 have hrb : ∀ ψ, renL ψ (rows Wt.l l ++ [.i .i64 x, .i .i64 now, .i .i64 0, .i .i64 0]) = rows Wt.l l ++ [.i .i64 x, .i .i64 now, .i .i64 0, .i .i64 0] := fun ψ => by rw [← hap]; exact wrR _ _
 rw [lG, hap]
 rcases hj with rfl | rfl
 all_goals
  simp (maxSteps := 400000) only [go_sem, F13, zipE, asg, hS, lG, int1, gm, hlen, simprocAttr]
  refine Ends.R [(7, 8)] (by decide) (by decide) rfl rfl ?_
  simp (maxSteps := 400000) only [go_sem, hS, lG, int1, Blk.ren, AV.ren, renL, AV.bel, belL, nblt, wrB, wrR, hbb, hrb, simprocAttr]
theorem yb_z (ti tp now top d x : Int) :
 RoundW F13 [53] i13a19 i13b19 [3, 4] [.p 0 0, .p 1 0] [.i .i64 x] (hS ti tp now top d .ze []) 7 (hS ti tp now top d (.sg 7 0 1) (lG 7 [⟨x, now, 0, 0⟩])) 8 := by
 refine RoundW.of_jw ?_
 simp (maxSteps := 400000) only [go_sem, F13, zipE, asg, hS, lG, int1, growMax, simprocAttr]
 refine Ends.R [(7, 8)] (by decide) (by decide) rfl rfl ?_
 simp (maxSteps := 400000) only [go_sem, hS, lG, int1, Blk.ren, AV.ren, renL, AV.bel, belL, nblt, wrB, wrR, rows_cons, rows_nil, Wt.l, simprocAttr]
def YB13 (L : Nat) (r : Go.Loop) : Prop := ∀ cs as' h1 n1 h2 n2, [53].length = as'.length → nylL cs = true → nylL as' = true → (∀ b k, hget h1 b = some k → nylL k.cells = true) → RoundW F13 [53] i13a19 i13b19 [3, 4] cs as' h1 n1 h2 n2 → FTL Try.prog YB (.yl L r [3, 4] cs :: as') h1 n1 (.b true) h2 n2
theorem callZ {L : Nat} {r : Go.Loop} (hY : YB13 L r) (ti tp now top d x : Int) :
 CallOK Try.prog YB [yv L r, .i .i64 x] (hS ti tp now top d .ze []) 7 { v := .b true, n := 15, rd := [0, 1, 2, 3, 4], md := [(0, some { cells := [.i .i64 ti, .b true, .i .i64 tp, .sg 14 0 1] })], nw := [(14, { cells := rows Wt.l [⟨x, now, 0, 0⟩], gr := some 4 })] } := by
 have hf := hY [.p 0 0, .p 1 0] [.i .i64 x] (hS ti tp now top d .ze []) 7 _ 8 rfl rfl rfl (fun b k hb => nylH_spec rfl hb) (yb_z ti tp now top d x)
 refine (CallOK.gen (k := 7) (kR := 8) (n := 7) (h := hS ti tp now top d .ze []) (fun i => if i < 5 then i else 7 + i) (fun i => i == 0) (by kernel_rfl) (by decide) rfl hf (fun c kk hh => ?_) (fun c kk hh => ?_) (fun c hc hh => ?_) (fun c kk hh => ?_) (fun c kk hh => ?_) (fun c1 c2 k1 k2 q1 q2 _ he => ?_) (fun c kk hh hM => ?_) (fun c kk hh hM => ?_) (fun c kk hh hM => ?_) (fun c kk hh => ?_)).cast ?_ ?_
 · simp only [hS, lG, List.mem_cons, Prod.mk.injEq, List.not_mem_nil, or_false] at hh; rcases hh with ⟨rfl, rfl⟩ | ⟨rfl, rfl⟩ | ⟨rfl, rfl⟩ | ⟨rfl, rfl⟩ | ⟨rfl, rfl⟩ <;> rfl
 · simp only [hS, lG, List.mem_cons, Prod.mk.injEq, List.not_mem_nil, or_false] at hh; rcases hh with ⟨rfl, rfl⟩ | ⟨rfl, rfl⟩ | ⟨rfl, rfl⟩ | ⟨rfl, rfl⟩ | ⟨rfl, rfl⟩ | ⟨rfl, rfl⟩ <;> rfl
 · rcases (by omega : c = 0 ∨ c = 1 ∨ c = 2 ∨ c = 3 ∨ c = 4 ∨ c = 5 ∨ c = 6) with rfl | rfl | rfl | rfl | rfl | rfl | rfl <;> first | rfl | exact (Option.some_ne_none _ hh).elim
 · simp only [hS, lG, List.mem_cons, Prod.mk.injEq, List.not_mem_nil, or_false] at hh; rcases hh with ⟨rfl, rfl⟩ | ⟨rfl, rfl⟩ | ⟨rfl, rfl⟩ | ⟨rfl, rfl⟩ | ⟨rfl, rfl⟩ <;> first | exact ⟨by decide, rfl⟩ | exact ⟨by decide, wrB _ _⟩
 · simp only [hS, lG, List.mem_cons, Prod.mk.injEq, List.not_mem_nil, or_false] at hh; rcases hh with ⟨rfl, rfl⟩ | ⟨rfl, rfl⟩ | ⟨rfl, rfl⟩ | ⟨rfl, rfl⟩ | ⟨rfl, rfl⟩ <;> first | rfl | (simp only [Blk.ren, wrR]; rfl)
 · simp only [hS, lG, List.mem_cons, Prod.mk.injEq, List.not_mem_nil, or_false] at q1; rcases q1 with ⟨rfl, rfl⟩ | ⟨rfl, rfl⟩ | ⟨rfl, rfl⟩ | ⟨rfl, rfl⟩ | ⟨rfl, rfl⟩ <;> (simp only [hS, lG, List.mem_cons, Prod.mk.injEq, List.not_mem_nil, or_false] at q2; rcases q2 with ⟨rfl, rfl⟩ | ⟨rfl, rfl⟩ | ⟨rfl, rfl⟩ | ⟨rfl, rfl⟩ | ⟨rfl, rfl⟩) <;> first | rfl | (exact absurd he (by decide))
 · simp only [hS, lG, List.mem_cons, Prod.mk.injEq, List.not_mem_nil, or_false] at hh; rcases hh with ⟨rfl, rfl⟩ | ⟨rfl, rfl⟩ | ⟨rfl, rfl⟩ | ⟨rfl, rfl⟩ | ⟨rfl, rfl⟩ <;> rfl
 · simp only [hS, lG, List.mem_cons, Prod.mk.injEq, List.not_mem_nil, or_false] at hh; rcases hh with ⟨rfl, rfl⟩ | ⟨rfl, rfl⟩ | ⟨rfl, rfl⟩ | ⟨rfl, rfl⟩ | ⟨rfl, rfl⟩ | ⟨rfl, rfl⟩ <;> rfl
 · simp only [hS, lG, List.mem_cons, Prod.mk.injEq, List.not_mem_nil, or_false] at hh; rcases hh with ⟨rfl, rfl⟩ | ⟨rfl, rfl⟩ | ⟨rfl, rfl⟩ | ⟨rfl, rfl⟩ | ⟨rfl, rfl⟩ <;> first | rfl | (exact absurd hM (by decide))
 · simp only [hS, lG, List.mem_cons, Prod.mk.injEq, List.not_mem_nil, or_false] at hh; rcases hh with ⟨rfl, rfl⟩ | ⟨rfl, rfl⟩ | ⟨rfl, rfl⟩ | ⟨rfl, rfl⟩ | ⟨rfl, rfl⟩ | ⟨rfl, rfl⟩ <;> decide
 · rfl
 · simp [mdG, nwG, rdG, chiG, hget, Blk.ren, AV.ren, wrR, hS, lG]
   all_goals first | rfl | exact ⟨rfl, rfl⟩ | exact ⟨⟨rfl, rfl⟩, rfl⟩
theorem callG {L : Nat} {r : Go.Loop} (hY : YB13 L r) (ti tp now top d x : Int) (j : Nat) (hj : j = 5 ∨ j = 6) (l : List Wt) (hl : l.length ≤ 1000000) :
 CallOK Try.prog YB [yv L r, .i .i64 x] (hS ti tp now top d (.sg j 0 l.length) (lG j l)) 7 { v := .b true, n := 15, rd := [0, 1, 2, 3, 4, j], md := [(0, some { cells := [.i .i64 ti, .b true, .i .i64 tp, .sg 14 0 (l.length + 1)] }), (j, none)], nw := [(14, { cells := rows Wt.l (l ++ [⟨x, now, 0, 0⟩]), gr := some 4 })] } := by
 have hf := hY [.p 0 0, .p 1 0] [.i .i64 x] (hS ti tp now top d (.sg j 0 l.length) (lG j l)) 7 _ 8 rfl rfl rfl (fun b k hb => nylH_spec (by simp only [nylH, hS, lG, nylL, AV.nyl, int1, rows_nyl wt_nyl, Bool.and_self]) hb) (yb_g ti tp now top d x j hj l hl)
 rcases hj with rfl | rfl
 · refine (CallOK.gen (k := 7) (kR := 8) (n := 7) (h := hS ti tp now top d (.sg 5 0 l.length) (lG 5 l)) (fun i => if i = 6 then 7 + i else i) (fun i => i == 0 || i == 5) (by kernel_rfl) (by decide) rfl hf (fun c kk hh => ?_) (fun c kk hh => ?_) (fun c hc hh => ?_) (fun c kk hh => ?_) (fun c kk hh => ?_) (fun c1 c2 k1 k2 q1 q2 _ he => ?_) (fun c kk hh hM => ?_) (fun c kk hh hM => ?_) (fun c kk hh hM => ?_) (fun c kk hh => ?_)).cast ?_ ?_
   · simp only [hS, lG, List.mem_cons, Prod.mk.injEq, List.not_mem_nil, or_false] at hh; rcases hh with ⟨rfl, rfl⟩ | ⟨rfl, rfl⟩ | ⟨rfl, rfl⟩ | ⟨rfl, rfl⟩ | ⟨rfl, rfl⟩ | ⟨rfl, rfl⟩ <;> rfl
   · simp only [hS, lG, List.mem_cons, Prod.mk.injEq, List.not_mem_nil, or_false] at hh; rcases hh with ⟨rfl, rfl⟩ | ⟨rfl, rfl⟩ | ⟨rfl, rfl⟩ | ⟨rfl, rfl⟩ | ⟨rfl, rfl⟩ | ⟨rfl, rfl⟩ <;> rfl
   · rcases (by omega : c = 0 ∨ c = 1 ∨ c = 2 ∨ c = 3 ∨ c = 4 ∨ c = 5 ∨ c = 6) with rfl | rfl | rfl | rfl | rfl | rfl | rfl <;> first | rfl | exact (Option.some_ne_none _ hh).elim
   · simp only [hS, lG, List.mem_cons, Prod.mk.injEq, List.not_mem_nil, or_false] at hh; rcases hh with ⟨rfl, rfl⟩ | ⟨rfl, rfl⟩ | ⟨rfl, rfl⟩ | ⟨rfl, rfl⟩ | ⟨rfl, rfl⟩ | ⟨rfl, rfl⟩ <;> first | exact ⟨by decide, rfl⟩ | exact ⟨by decide, wrB _ _⟩
   · simp only [hS, lG, List.mem_cons, Prod.mk.injEq, List.not_mem_nil, or_false] at hh; rcases hh with ⟨rfl, rfl⟩ | ⟨rfl, rfl⟩ | ⟨rfl, rfl⟩ | ⟨rfl, rfl⟩ | ⟨rfl, rfl⟩ | ⟨rfl, rfl⟩ <;> first | rfl | (simp only [Blk.ren, wrR]; rfl)
   · simp only [hS, lG, List.mem_cons, Prod.mk.injEq, List.not_mem_nil, or_false] at q1; rcases q1 with ⟨rfl, rfl⟩ | ⟨rfl, rfl⟩ | ⟨rfl, rfl⟩ | ⟨rfl, rfl⟩ | ⟨rfl, rfl⟩ | ⟨rfl, rfl⟩ <;> (simp only [hS, lG, List.mem_cons, Prod.mk.injEq, List.not_mem_nil, or_false] at q2; rcases q2 with ⟨rfl, rfl⟩ | ⟨rfl, rfl⟩ | ⟨rfl, rfl⟩ | ⟨rfl, rfl⟩ | ⟨rfl, rfl⟩ | ⟨rfl, rfl⟩) <;> first | rfl | (exact absurd he (by decide))
   · simp only [hS, lG, List.mem_cons, Prod.mk.injEq, List.not_mem_nil, or_false] at hh; rcases hh with ⟨rfl, rfl⟩ | ⟨rfl, rfl⟩ | ⟨rfl, rfl⟩ | ⟨rfl, rfl⟩ | ⟨rfl, rfl⟩ | ⟨rfl, rfl⟩ <;> rfl
   · simp only [hS, lG, List.mem_cons, Prod.mk.injEq, List.not_mem_nil, or_false] at hh; rcases hh with ⟨rfl, rfl⟩ | ⟨rfl, rfl⟩ | ⟨rfl, rfl⟩ | ⟨rfl, rfl⟩ | ⟨rfl, rfl⟩ | ⟨rfl, rfl⟩ <;> rfl
   · simp only [hS, lG, List.mem_cons, Prod.mk.injEq, List.not_mem_nil, or_false] at hh; rcases hh with ⟨rfl, rfl⟩ | ⟨rfl, rfl⟩ | ⟨rfl, rfl⟩ | ⟨rfl, rfl⟩ | ⟨rfl, rfl⟩ | ⟨rfl, rfl⟩ <;> first | rfl | (exact absurd hM (by decide))
   · simp only [hS, lG, List.mem_cons, Prod.mk.injEq, List.not_mem_nil, or_false] at hh; rcases hh with ⟨rfl, rfl⟩ | ⟨rfl, rfl⟩ | ⟨rfl, rfl⟩ | ⟨rfl, rfl⟩ | ⟨rfl, rfl⟩ | ⟨rfl, rfl⟩ <;> decide
   · rfl
   · simp [mdG, nwG, rdG, chiG, hget, Blk.ren, AV.ren, wrR, hS, lG]
     all_goals first | rfl | exact ⟨rfl, rfl⟩ | exact ⟨⟨rfl, rfl⟩, rfl⟩
 · refine (CallOK.gen (k := 7) (kR := 8) (n := 7) (h := hS ti tp now top d (.sg 6 0 l.length) (lG 6 l)) (fun i => if i = 5 then 7 + i else i) (fun i => i == 0 || i == 6) (by kernel_rfl) (by decide) rfl hf (fun c kk hh => ?_) (fun c kk hh => ?_) (fun c hc hh => ?_) (fun c kk hh => ?_) (fun c kk hh => ?_) (fun c1 c2 k1 k2 q1 q2 _ he => ?_) (fun c kk hh hM => ?_) (fun c kk hh hM => ?_) (fun c kk hh hM => ?_) (fun c kk hh => ?_)).cast ?_ ?_
   · simp only [hS, lG, List.mem_cons, Prod.mk.injEq, List.not_mem_nil, or_false] at hh; rcases hh with ⟨rfl, rfl⟩ | ⟨rfl, rfl⟩ | ⟨rfl, rfl⟩ | ⟨rfl, rfl⟩ | ⟨rfl, rfl⟩ | ⟨rfl, rfl⟩ <;> rfl
   · simp only [hS, lG, List.mem_cons, Prod.mk.injEq, List.not_mem_nil, or_false] at hh; rcases hh with ⟨rfl, rfl⟩ | ⟨rfl, rfl⟩ | ⟨rfl, rfl⟩ | ⟨rfl, rfl⟩ | ⟨rfl, rfl⟩ | ⟨rfl, rfl⟩ <;> rfl
   · rcases (by omega : c = 0 ∨ c = 1 ∨ c = 2 ∨ c = 3 ∨ c = 4 ∨ c = 5 ∨ c = 6) with rfl | rfl | rfl | rfl | rfl | rfl | rfl <;> first | rfl | exact (Option.some_ne_none _ hh).elim
   · simp only [hS, lG, List.mem_cons, Prod.mk.injEq, List.not_mem_nil, or_false] at hh; rcases hh with ⟨rfl, rfl⟩ | ⟨rfl, rfl⟩ | ⟨rfl, rfl⟩ | ⟨rfl, rfl⟩ | ⟨rfl, rfl⟩ | ⟨rfl, rfl⟩ <;> first | exact ⟨by decide, rfl⟩ | exact ⟨by decide, wrB _ _⟩
   · simp only [hS, lG, List.mem_cons, Prod.mk.injEq, List.not_mem_nil, or_false] at hh; rcases hh with ⟨rfl, rfl⟩ | ⟨rfl, rfl⟩ | ⟨rfl, rfl⟩ | ⟨rfl, rfl⟩ | ⟨rfl, rfl⟩ | ⟨rfl, rfl⟩ <;> first | rfl | (simp only [Blk.ren, wrR]; rfl)
   · simp only [hS, lG, List.mem_cons, Prod.mk.injEq, List.not_mem_nil, or_false] at q1; rcases q1 with ⟨rfl, rfl⟩ | ⟨rfl, rfl⟩ | ⟨rfl, rfl⟩ | ⟨rfl, rfl⟩ | ⟨rfl, rfl⟩ | ⟨rfl, rfl⟩ <;> (simp only [hS, lG, List.mem_cons, Prod.mk.injEq, List.not_mem_nil, or_false] at q2; rcases q2 with ⟨rfl, rfl⟩ | ⟨rfl, rfl⟩ | ⟨rfl, rfl⟩ | ⟨rfl, rfl⟩ | ⟨rfl, rfl⟩ | ⟨rfl, rfl⟩) <;> first | rfl | (exact absurd he (by decide))
   · simp only [hS, lG, List.mem_cons, Prod.mk.injEq, List.not_mem_nil, or_false] at hh; rcases hh with ⟨rfl, rfl⟩ | ⟨rfl, rfl⟩ | ⟨rfl, rfl⟩ | ⟨rfl, rfl⟩ | ⟨rfl, rfl⟩ | ⟨rfl, rfl⟩ <;> rfl
   · simp only [hS, lG, List.mem_cons, Prod.mk.injEq, List.not_mem_nil, or_false] at hh; rcases hh with ⟨rfl, rfl⟩ | ⟨rfl, rfl⟩ | ⟨rfl, rfl⟩ | ⟨rfl, rfl⟩ | ⟨rfl, rfl⟩ | ⟨rfl, rfl⟩ <;> rfl
   · simp only [hS, lG, List.mem_cons, Prod.mk.injEq, List.not_mem_nil, or_false] at hh; rcases hh with ⟨rfl, rfl⟩ | ⟨rfl, rfl⟩ | ⟨rfl, rfl⟩ | ⟨rfl, rfl⟩ | ⟨rfl, rfl⟩ | ⟨rfl, rfl⟩ <;> first | rfl | (exact absurd hM (by decide))
   · simp only [hS, lG, List.mem_cons, Prod.mk.injEq, List.not_mem_nil, or_false] at hh; rcases hh with ⟨rfl, rfl⟩ | ⟨rfl, rfl⟩ | ⟨rfl, rfl⟩ | ⟨rfl, rfl⟩ | ⟨rfl, rfl⟩ | ⟨rfl, rfl⟩ <;> decide
   · rfl
   · simp [mdG, nwG, rdG, chiG, hget, Blk.ren, AV.ren, wrR, hS, lG]
     all_goals first | rfl | exact ⟨rfl, rfl⟩ | exact ⟨⟨rfl, rfl⟩, rfl⟩
def hK (ti tp now top d : Int) (v0 : AV) (L0 : Hp) (l : List Wt) (k : Nat) : Hp := if k = 0 then hS ti tp now top d v0 L0 else hS ti tp now top d (.sg 6 0 (l.length + k)) (lG 6 (l ++ mapN (missF top now) k))
theorem w91 {L : Nat} {r : Go.Loop} (hY : YB13 L r) (ti tp now top d : Int) (v0 : AV) (L0 : Hp) (l : List Wt) (hl : l.length ≤ 100000) (hd : d ≤ 64) (hd0 : -40000 ≤ d) (ht : inI 0 65535 top = true)
 (hv : (v0 = .ze ∧ L0 = [] ∧ l = []) ∨ (v0 = .sg 5 0 l.length ∧ L0 = lG 5 l)) :
 FTL Try.prog 91 [yv L r, .p 4 0, .p 3 0] (hS ti tp now top d v0 L0) 6 (.tup []) (hK ti tp now top d v0 L0 l (d - 1).toNat) 7 := by
 have ht := inI_t ht
 refine FTL.of_iw (cx := cxT []) Sound.nil mo Try.func91 i91_eq (by simp [i91]) (iw_of_jw ?_)
 dsimp only [i91]
 have g3 : ∀ k, hget (hK ti tp now top d v0 L0 l k) 3 = some { cells := int1 top } := fun k => by unfold hK; split <;> rfl
 have g4 : ∀ k, hget (hK ti tp now top d v0 L0 l k) 4 = some { cells := int1 d } := fun k => by unfold hK; split <;> rfl
 have hK0 : hS ti tp now top d v0 L0 = hK ti tp now top d v0 L0 l 0 := rfl
 -- what holds of each state
 have hR : ∀ k, HpR 7 [] (hK ti tp now top d v0 L0 l k) (hK ti tp now top d v0 L0 l k) := fun k => by
  unfold hK
  split
  · rcases hv with ⟨rfl, rfl, rfl⟩ | ⟨rfl, rfl⟩
    · simp (maxSteps := 400000) only [go_sem, hS, lG, int1, Blk.ren, AV.ren, renL, AV.bel, belL, nblt, wrB, wrR, simprocAttr]
    · simp (maxSteps := 400000) only [go_sem, hS, lG, int1, Blk.ren, AV.ren, renL, AV.bel, belL, nblt, wrB, wrR, simprocAttr]
  · simp (maxSteps := 400000) only [go_sem, hS, lG, int1, Blk.ren, AV.ren, renL, AV.bel, belL, nblt, wrB, wrR, simprocAttr]
 rw [hK0]
 simp (maxSteps := 400000) only [go_sem, simprocAttr]
 refine Loop.stepX (F := ⟨Try.prog, cxT [], [7, 16], 17, 6⟩) mo (X := Nat) (fun k => k ≤ (d - 1).toNat) (fun k => (d - 1).toNat - k)
  (fun k => [(0, yv L r), (1, .p 4 0), (2, .p 3 0), (4, .i .i64 ((k : Int) + 1))]) (fun k => hK ti tp now top d v0 L0 l k) 7 0 (fun k => k + 1) [] (fun _ => [(6, 14)]) (by decide) (by decide) (fun _ => by decide) (Nat.zero_le _) ?_ (hR 0) (fun k hk => ?_)
 · simp (maxSteps := 400000) only [go_sem, yv, AV.ren, renL, AV.bel, belL, nblt, simprocAttr]
 · by_cases hlt : k < (d - 1).toNat
   · have c1 : decide ((k : Int) + 1 < d) = true := decide_eq_true (by omega)
     have w1 : IntKind.i64.wrap ((k : Int) + 1 + 1) = ((k + 1 : Nat) : Int) + 1 := by rw [wrapL (by omega) (by omega)]; omega
     have w2 : IntKind.i64.wrap (top + ((k : Int) + 1)) = top + ((k : Int) + 1) := wrapL (by omega) (by omega)
     have hms : mapN (missF top now) (k + 1) = mapN (missF top now) k ++ [⟨(top + ((k : Int) + 1)) % 65536, now, 0, 0⟩] := rfl
     have hn1 : hK ti tp now top d v0 L0 l (k + 1) = hS ti tp now top d (.sg 6 0 (l.length + (k + 1))) (lG 6 (l ++ (mapN (missF top now) k ++ [⟨(top + ((k : Int) + 1)) % 65536, now, 0, 0⟩]))) := by
      unfold hK; rw [if_neg (by omega), hms]
     have hsk : (d - 1).toNat - (k + 1) < (d - 1).toNat - k := by omega
     have hk1 : k + 1 ≤ (d - 1).toNat := hlt
     rw [hn1]
     by_cases hk0 : k = 0
     · subst hk0
       have c1z : decide (1 < d) = true := decide_eq_true (by omega)
       have w2z : IntKind.i64.wrap (top + 1) = top + 1 := wrapL (by omega) (by omega)
       have skz : (d - 1).toNat - 1 < (d - 1).toNat := by omega
       rcases hv with ⟨rfl, rfl, rfl⟩ | ⟨rfl, rfl⟩
       · have hc := callZ hY ti tp now top d ((top + (((0 : Nat) : Int) + 1)) % 65536)
         refine ⟨_, cx1_sound hc, ?_⟩
         rw [hK0.symm]
         simp (maxSteps := 400000) only [go_sem, cx1_at, hS, lG, int1, yv, c1, w1, w2, c1z, w2z, skz, and16, hsk, hk1, Blk.ren, AV.ren, renL, AV.bel, belL, nblt, wrB, wrR, mapN_z, List.length_nil, simprocAttr]
         exact ⟨rfl, rfl, rfl, rfl, rfl, rfl⟩
       · have hc := callG hY ti tp now top d ((top + (((0 : Nat) : Int) + 1)) % 65536) 5 (.inl rfl) l (by omega)
         refine ⟨_, cx1_sound hc, ?_⟩
         rw [hK0.symm]
         simp (maxSteps := 400000) only [go_sem, cx1_at, hS, lG, int1, yv, c1, w1, w2, c1z, w2z, skz, and16, hsk, hk1, Blk.ren, AV.ren, renL, AV.bel, belL, nblt, wrB, wrR, mapN_z, simprocAttr]
         exact ⟨rfl, rfl, rfl, rfl, rfl, rfl⟩
     · have hk' : hK ti tp now top d v0 L0 l k = hS ti tp now top d (.sg 6 0 (l.length + k)) (lG 6 (l ++ mapN (missF top now) k)) := if_neg hk0
       have hlen : (l ++ mapN (missF top now) k).length = l.length + k := by rw [List.length_append, mapN_len]
       have hc := callG hY ti tp now top d ((top + ((k : Int) + 1)) % 65536) 6 (.inr rfl) (l ++ mapN (missF top now) k) (by omega)
       rw [hlen, List.append_assoc] at hc
       refine ⟨_, cx1_sound hc, ?_⟩
       rw [hk']
       generalize l ++ mapN (missF top now) k = q
       generalize l ++ (mapN (missF top now) k ++ [⟨(top + ((k : Int) + 1)) % 65536, now, 0, 0⟩]) = q'
       simp (maxSteps := 400000) only [go_sem, cx1_at, hS, lG, int1, yv, c1, w1, w2, and16, hsk, hk1, Blk.ren, AV.ren, renL, AV.bel, belL, nblt, wrB, wrR, Nat.add_assoc, simprocAttr]
       exact ⟨rfl, rfl, rfl, rfl, rfl, rfl⟩
   · have c1 : decide ((k : Int) + 1 < d) = false := decide_eq_false (by omega)
     obtain rfl : k = (d - 1).toNat := by omega
     have g4' := g4 (d - 1).toNat
     refine ⟨cxT [], Sound.nil, ?_⟩
     have hRe := hR (d - 1).toNat
     generalize hK ti tp now top d v0 L0 l (d - 1).toNat = HH at g4' hRe ⊢
     simp (maxSteps := 400000) only [go_sem, g4', c1, int1, simprocAttr]
     exact Ends.R [] (by decide) (by decide) rfl rfl hRe
end Go.Proofs.Res
end
section
/- The contract of Saw. -/
namespace Go.Proofs.Res
open Go.Ab
set_option maxRecDepth 100000
set_option maxHeartbeats 4000000
set_option linter.unusedSimpArgs false
set_option linter.unusedVariables false
def zW : Ws := ⟨0, false, 0, []⟩
def missS (top d now : Int) : List Wt := mapN (missF top now) (d - 1).toNat
def sawL (w : Ws) (now seq : Int) : List Wt := keepL seq w.tp (lead seq w.tp) w.l ++ missS w.tp (lead seq w.tp) now
def sawS (w : Ws) (now seq : Int) : Ws × Int :=
 if lateS w now = 0 then
  bif inI 0 65535 seq then
   bif w.st then
    bif decide (lead seq w.tp > 64) then (zW, 6)
    else bif decide (64 < (sawL w now seq).length) then (zW, 3)
    else (⟨now, true, if lead seq w.tp > 0 then seq else w.tp, sawL w now seq⟩, 0)
   else (⟨now, true, seq, []⟩, 0)
  else (zW, 2)
 else (zW, lateS w now)
def rsV (r : Ws × Int) : AV := .tup [.agg r.1.a, .i .i64 r.2]
theorem cov_n {ti tp e : Int} {st : Bool} {h : Hp} {n : Nat} : CovS 0 (.tup [.agg [.i .i64 ti, .b st, .i .i64 tp, .ns], .i .i64 e]) h n (rsV (⟨ti, st, tp, []⟩, e)) [] 0 := by
 refine CovS.frzN (l := []) (v' := rsV (⟨ti, st, tp, []⟩, e)) (FzV.tup ⟨FzV.agg ⟨FzV.refl, FzV.refl, FzV.refl, FzV.hit, trivial⟩, FzV.refl, trivial⟩) ?_
 exact CovS.ends (Ends.pureE rfl rfl)
theorem cov_z {ti tp e : Int} {st : Bool} {h : Hp} {n : Nat} : CovS 0 (.tup [.agg [.i .i64 ti, .b st, .i .i64 tp, .ze], .i .i64 e]) h n (rsV (⟨ti, st, tp, []⟩, e)) [] 0 := by
 refine CovS.frzZ (l := []) (v' := rsV (⟨ti, st, tp, []⟩, e)) (FzV.tup ⟨FzV.agg ⟨FzV.refl, FzV.refl, FzV.refl, FzV.hit, trivial⟩, FzV.refl, trivial⟩) ?_
 exact CovS.ends (Ends.pureE rfl rfl)
theorem cov_g {ti tp e : Int} {st : Bool} {h : Hp} {n j : Nat} {l : List Wt} (hk : hget h j = some { cells := rows Wt.l l, gr := some 4 }) : CovS 0 (.tup [.agg [.i .i64 ti, .b st, .i .i64 tp, .sg j 0 l.length], .i .i64 e]) h n (rsV (⟨ti, st, tp, l⟩, e)) [] 0 := by
 refine CovS.frz (b := j) (k := { cells := rows Wt.l l, gr := some 4 }) (h' := []) (o := 0) (m := l.length) (cs := rows Wt.l l) (v' := rsV (⟨ti, st, tp, l⟩, e)) hk rfl (.inr rfl) (.inl rfl) (FzV.tup ⟨FzV.agg ⟨FzV.refl, FzV.refl, FzV.refl, FzV.hit, trivial⟩, FzV.refl, trivial⟩) (fun c kk hc => by simp [hget] at hc) ?_
 exact CovS.ends (Ends.pureE (by simp only [rsV, AV.bel, belL, Ws.bel, Bool.and_self]) rfl)
def T10 : List (Nat × Ct) := [(49, k49), (51, k51), (54, k54), (56, k56), (57, k57), (58, k58)]
theorem hT10 : Sound Try.prog (cxT T10) := Sound.cons s49 (Sound.cons s51 (Sound.cons s54 (Sound.cons s56 (Sound.cons s57 (Sound.cons s58 Sound.nil)))))
noncomputable abbrev FS : Fx := ⟨Try.prog, cxT T10, [17, 22, 26, 35, 40, 65], 70, 0⟩
abbrev i13t : ICode := (.seq (.seq (.reg i13r21) (.cond (.t 65) (.seq (.reg i13r22) .ret) .skip)) (.seq (.reg i13r23) (.seq (.reg i13r24) .ret)))
theorem tail13 (ti tp now top d : Int) (v : AV) (Lh : Hp) (l : List Wt) (hv : (v = .ze ∧ Lh = [] ∧ l = []) ∨ ∃ j, (j = 5 ∨ j = 6) ∧ v = .sg j 0 l.length ∧ Lh = lG j l) (n : Nat) (R : Ws × Int)
 (hR : R = bif decide (64 < l.length) then (zW, 3) else (⟨now, true, tp, l⟩, 0)) (e : Env) (he3 : eget e 3 = some (.p 0 0)) (he4 : eget e 4 = some (.p 1 0)) (he6 : eget e 6 = some (.p 2 0)) :
 Seam FS i13t (retK [.c 6 true 4, .t 7] fun v h' n' => CovS 0 v h' n' (rsV R) [] 0) e (hS ti tp now top d v Lh) n := by
 refine Seam.run hT10 mo ?_
 dsimp only [FS]
 have n1 : decide ((l.length : Int) > 64) = decide (64 < l.length) := decide_eq_decide.2 (by omega)
 rcases hv with ⟨rfl, rfl, rfl⟩ | ⟨j, rfl | rfl, rfl, rfl⟩
 · simp (maxSteps := 400000) only [go_sem, hS, he3, he4, he6, int1, simprocAttr]
   rw [hR]
   exact cov_z
 all_goals
  cases hc : decide (64 < l.length)
  · rw [hc] at hR
    simp (maxSteps := 400000) only [go_sem, hS, lG, he3, he4, he6, int1, n1, hc, simprocAttr]
    rw [hR]
    exact cov_g rfl
  · rw [hc] at hR
    simp (maxSteps := 400000) only [go_sem, hS, lG, he3, he4, he6, int1, n1, hc, simprocAttr]
    rw [hR]
    exact cov_n
theorem rf13 (ti tp now top d : Int) (v0 : AV) (L0 : Hp) (l : List Wt) (hl : l.length ≤ 100000) (hd : d ≤ 64) (hd0 : -40000 ≤ d) (ht : inI 0 65535 top = true) (hv : (v0 = .ze ∧ L0 = [] ∧ l = []) ∨ (v0 = .sg 5 0 l.length ∧ L0 = lG 5 l)) (R : Ws × Int)
 (hR : R = bif decide (64 < (l ++ missS top d now).length) then (zW, 3) else (⟨now, true, tp, l ++ missS top d now⟩, 0)) :
 Seam FS (.block 0 (.rfunc (.t 52) [53] i13a19 i13b19)) (thenK (retK [.c 6 true 4, .t 7] fun v h' n' => CovS 0 v h' n' (rsV R) [] 0) (Seam FS i13t (retK [.c 6 true 4, .t 7] fun v h' n' => CovS 0 v h' n' (rsV R) [] 0)))
  [(3, .p 0 0), (4, .p 1 0), (6, .p 2 0), (52, .fn 91 [.p 4 0, .p 3 0])] (hS ti tp now top d v0 L0) 6 := by
 refine Seam.block ?_
 have hml : (l ++ missS top d now).length = l.length + (d - 1).toNat := by rw [List.length_append, missS, mapN_len]
 refine RFunc.intro (F := FS) (n' := 7) (v' := .tup []) (h' := hK ti tp now top d v0 L0 l (d - 1).toNat) hT10 mo [3, 4] [.p 0 0, .p 1 0] rfl (by kernel_rfl) rfl rfl rfl (fun i t a h1 h2 => ?_) (fun L r hY => ?_) (fun b k hb => ?_) (by decide) ?_
 · match i with
   | 0 => simp at h1 h2; subst h1; subst h2; rfl
   | 1 => simp at h1 h2; subst h1; subst h2; rfl
   | i + 2 => simp at h1
 · exact w91 (fun cs as' h1 n1 h2 n2 q1 q2 q3 q4 q5 => hY cs as' h1 n1 h2 n2 q1 q2 q3 q4 (by exact q5)) ti tp now top d v0 L0 l hl hd hd0 ht hv
 · refine nylH_spec ?_ hb
   unfold hK
   split
   · rcases hv with ⟨rfl, rfl, rfl⟩ | ⟨rfl, rfl⟩
     · rfl
     · simp only [nylH, hS, lG, nylL, AV.nyl, int1, rows_nyl wt_nyl, Bool.and_self]
   · simp only [nylH, hS, lG, nylL, AV.nyl, int1, rows_nyl wt_nyl, Bool.and_self]
 · show Seam FS i13t _ _ _ _
   unfold hK
   split
   · rename_i h0
     have hm0 : missS top d now = [] := by rw [missS, h0]; rfl
     rw [hm0, List.append_nil] at hR
     refine tail13 ti tp now top d v0 L0 l ?_ _ R hR _ rfl rfl rfl
     rcases hv with h | h
     · exact .inl h
     · exact .inr ⟨5, .inl rfl, h⟩
   · refine tail13 ti tp now top d _ _ (l ++ missS top d now) (.inr ⟨6, .inr rfl, by rw [hml], rfl⟩) _ R hR _ rfl rfl rfl
end Go.Proofs.Res
end
