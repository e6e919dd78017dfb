/- Texts laid as one: JitC7 JitC8. -/
import Derived.Test.YtcpgamgkbbckoaaJitCb
import Derived.Test.YtcpgamgkbbckoaaAbRfs
section
/- The loop over the first frame's packets. -/
namespace Go.Proofs.Jit
open Go.Ab
set_option maxRecDepth 100000
set_option maxHeartbeats 4000000
set_option linter.unusedSimpArgs false
set_option linter.unusedVariables false
def zBf : Bf := ⟨0, 0, false, false, 0, 0, 0, 0, 0, 0, []⟩
theorem Bf.bel' (b : Bf) (j : Nat) : belL j b.a = true := belL_mono0 _ b.bel
theorem bfR (ψ : Nat → Nat) (b : Bf) : renL ψ b.a = b.a := renL_fix0 _ b.bel
theorem mrB (j : Nat) (l : List Md) : belL j (rows Md.l l) = true := belL_mono0 _ (rows_bel Md.bel)
theorem mrR (ψ : Nat → Nat) (l : List Md) : renL ψ (rows Md.l l) = rows Md.l l := renL_fix0 _ (rows_bel Md.bel)
theorem csR (ψ : Nat → Nat) (l : List Int) : renL ψ (rows int1 l) = rows int1 l := renL_fix0 _ (rows_bel int1_bel)
theorem xsR (ψ : Nat → Nat) (l : List Xt) : renL ψ (rows xtR l) = rows xtR l := renL_fix0 _ (rows_bel xtR_bel)
theorem md_nyl (x : Md) : nylL x.l = true := by
 simp only [Md.l, nylL, AV.nyl, rows_nyl (f := int1) (fun _ => rfl), rows_nyl (f := xtR) (fun _ => rfl), Bool.and_self]
theorem hd_nyl (x : Hd) : nylL x.l = true := by
 simp only [Hd.l, nylL, AV.nyl, rows_nyl (f := int1) (fun _ => rfl), rows_nyl (f := xtR) (fun _ => rfl), Bool.and_self]
theorem bf_nyl (b : Bf) : nylL b.a = true := by
 simp only [Bf.a, nylL, AV.nyl, rows_nyl hd_nyl, Bool.and_self]
abbrev hT (c : Bf) (l : List Hd) (v : AV) (Lh : Hp) : Hp :=
 (0, { cells := [.i .i64 0, .i .i64 0, .b false, .b false, .i .i64 0, .i .i64 0, .i .i64 0, .i .i64 0, .i .i64 0, .i .i64 0, .ns] }) :: (1, { cells := [v] }) :: (2, { cells := c.a }) :: (3, { cells := [.fz (rows Hd.l l) l.length] }) :: Lh
abbrev fL (j : Nat) (l : List Md) : Hp := [(j, { cells := rows Md.l l, gr := some 9 })]
noncomputable abbrev F23 : Fx := ⟨Try.prog, cxT [], [18, 36, 81, 110], 146, 0⟩
abbrev yv (L : Nat) (r : Go.Loop) : AV := .yl L r [5] [.p 1 0]
theorem yb_g (c : Bf) (hl : List Hd) (x : Md) (l : List Md) (hll : l.length ≤ 1000000) :
 RoundW F23 [44] i23a9 i23b9 [5] [.p 1 0] [.agg x.l] (hT c hl (.sg 4 0 l.length) (fL 4 l)) 6 (hT c hl (.sg 6 0 (l.length + 1)) (fL 6 (l ++ [x]))) 7 := by
 refine RoundW.of_jw ?_
 have gm : decide (112 * (l.length + 1) ≤ growMax) = true := decide_eq_true (by simp only [growMax]; omega)
 have hlen : (rows Md.l l).length = l.length * 9 := rows_len Md.len
 have hap : rows Md.l (l ++ [x]) = rows Md.l l ++ x.l := by rw [rows_append]; simp [rows]
 have hbb : belL 8 (rows Md.l l ++ x.l) = true := by rw [← hap]; exact mrB _ _
 have hbb7 : belL 7 (rows Md.l l ++ x.l) = true := by rw [← hap]; exact mrB _ _
 have hrb : ∀ ψ, renL ψ (rows Md.l l ++ x.l) = rows Md.l l ++ x.l := fun ψ => by rw [← hap]; exact mrR _ _
 rw [fL, hap]
 obtain ⟨ma, pty, sq, tm, pss, cs, xs, pd, pl⟩ := x
 have hB1 := csB 1 cs
 have hB2 := xsB 1 xs
 simp only [Md.l] at hbb hbb7 hrb ⊢
 simp (maxSteps := 400000) only [go_sem, F23, zipE, asg, hT, fL, int1, gm, hlen, simprocAttr]
 refine Ends.R [(6, 8)] (by decide) (by decide) rfl rfl ?_
 simp (maxSteps := 400000) only [go_sem, hT, fL, int1, Blk.ren, AV.ren, renL, AV.bel, belL, nblt, mrB, mrR, hrB, hrR, Bf.bel', bfR, hbb, hbb7, hrb, csR, xsR, csB, xsB, simprocAttr]
theorem yb_z (c : Bf) (hl : List Hd) (x : Md) :
 RoundW F23 [44] i23a9 i23b9 [5] [.p 1 0] [.agg x.l] (hT c hl .ns []) 6 (hT c hl (.sg 6 0 1) (fL 6 [x])) 7 := by
 refine RoundW.of_jw ?_
 have hap : rows Md.l [x] = x.l := by simp [rows]
 have hbb : ∀ j, belL j x.l = true := fun j => belL_mono0 _ (Md.bel x)
 have hrb : ∀ ψ, renL ψ x.l = x.l := fun ψ => md_ren _
 rw [fL, hap]
 obtain ⟨ma, pty, sq, tm, pss, cs, xs, pd, pl⟩ := x
 simp only [Md.l] at hbb hrb ⊢
 simp (maxSteps := 400000) only [go_sem, F23, zipE, asg, hT, fL, int1, growMax, simprocAttr]
 refine Ends.R [(6, 8)] (by decide) (by decide) rfl rfl ?_
 simp (maxSteps := 400000) only [go_sem, hT, fL, int1, Blk.ren, AV.ren, renL, AV.bel, belL, nblt, mrB, mrR, hrB, hrR, Bf.bel', bfR, hbb, hrb, csR, xsR, csB, xsB, simprocAttr]
def YB23 (L : Nat) (r : Go.Loop) : Prop := ∀ cs as' h1 n1 h2 n2, [44].length = as'.length → nylL cs = true → nylL as' = true → (∀ b k, hget h1 b = some k → nylL k.cells = true) → RoundW F23 [44] i23a9 i23b9 [5] cs as' h1 n1 h2 n2 → FTL Try.prog YB (.yl L r [5] cs :: as') h1 n1 (.b true) h2 n2
theorem mdlB (j : Nat) (x : Md) : belL j x.l = true := belL_mono0 _ (Md.bel x)
theorem nyl1 (x : Md) : nylL [AV.agg x.l] = true := by simp only [nylL, AV.nyl, md_nyl, Bool.and_self]
theorem callZ {L : Nat} {r : Go.Loop} (hY : YB23 L r) (c : Bf) (hl : List Hd) (x : Md) (B : Blk) :
 CallOK Try.prog YB [yv L r, .agg x.l] ((5, B) :: hT c hl .ns []) 6 { v := .b true, n := 13, rd := [0, 1, 2, 3], md := [(1, some { cells := [.sg 12 0 1] })], nw := [(12, { cells := rows Md.l [x], gr := some 9 })] } := by
 have hf := hY [.p 1 0] [.agg x.l] (hT c hl .ns []) 6 _ 7 rfl rfl (nyl1 x) (fun b k hb => nylH_spec (by simp only [nylH, hT, nylL, AV.nyl, rows_nyl hd_nyl, bf_nyl, Bool.and_self]) hb) (yb_z c hl x)
 refine (CallOK.gen (k := 6) (kR := 7) (n := 6) (h := (5, B) :: hT c hl .ns []) (fun i => if i < 4 then i else 6 + i) (fun i => i == 1) (by kernel_rfl) ?_ ?_ hf (fun c kk hh => ?_) (fun c kk hh => ?_) (fun c hc hh => ?_) (fun c kk hh => ?_) (fun c kk hh => ?_) (fun c1 c2 k1 k2 q1 q2 _ he => ?_) (fun c kk hh hM => ?_) (fun c kk hh hM => ?_) (fun c kk hh hM => ?_) (fun c kk hh => ?_)).cast ?_ ?_
 · decide
 · simp only [belL, AV.bel, mdlB]; rfl
 · simp only [hT, fL, List.mem_cons, Prod.mk.injEq, List.not_mem_nil, or_false] at hh; rcases hh with ⟨rfl, rfl⟩ | ⟨rfl, rfl⟩ | ⟨rfl, rfl⟩ | ⟨rfl, rfl⟩ <;> rfl
 · simp only [hT, fL, List.mem_cons, Prod.mk.injEq, List.not_mem_nil, or_false] at hh; rcases hh with ⟨rfl, rfl⟩ | ⟨rfl, rfl⟩ | ⟨rfl, rfl⟩ | ⟨rfl, rfl⟩ | ⟨rfl, rfl⟩ <;> rfl
 · rcases (by omega : c = 0 ∨ c = 1 ∨ c = 2 ∨ c = 3 ∨ c = 4 ∨ c = 5) with rfl | rfl | rfl | rfl | rfl | rfl <;> first | rfl | exact (Option.some_ne_none _ hh).elim
 · simp only [hT, fL, List.mem_cons, Prod.mk.injEq, List.not_mem_nil, or_false] at hh; rcases hh with ⟨rfl, rfl⟩ | ⟨rfl, rfl⟩ | ⟨rfl, rfl⟩ | ⟨rfl, rfl⟩ <;> first | exact ⟨by decide, rfl⟩ | exact ⟨by decide, by simp only [belL, AV.bel, Bf.bel, Bf.bel', hrB, mrB, Bool.and_self]⟩
 · simp only [hT, fL, List.mem_cons, Prod.mk.injEq, List.not_mem_nil, or_false] at hh; rcases hh with ⟨rfl, rfl⟩ | ⟨rfl, rfl⟩ | ⟨rfl, rfl⟩ | ⟨rfl, rfl⟩ <;> first | rfl | (simp only [Blk.ren, mrR, hrR, bfR, renL, AV.ren]; rfl) | simp only [Blk.ren, mrR, hrR, bfR, renL, AV.ren]
 · simp only [hT, fL, List.mem_cons, Prod.mk.injEq, List.not_mem_nil, or_false] at q1; rcases q1 with ⟨rfl, rfl⟩ | ⟨rfl, rfl⟩ | ⟨rfl, rfl⟩ | ⟨rfl, rfl⟩ <;> (simp only [hT, fL, List.mem_cons, Prod.mk.injEq, List.not_mem_nil, or_false] at q2; rcases q2 with ⟨rfl, rfl⟩ | ⟨rfl, rfl⟩ | ⟨rfl, rfl⟩ | ⟨rfl, rfl⟩) <;> first | rfl | (exact absurd he (by decide))
 · simp only [hT, fL, List.mem_cons, Prod.mk.injEq, List.not_mem_nil, or_false] at hh; rcases hh with ⟨rfl, rfl⟩ | ⟨rfl, rfl⟩ | ⟨rfl, rfl⟩ | ⟨rfl, rfl⟩ <;> rfl
 · simp only [hT, fL, List.mem_cons, Prod.mk.injEq, List.not_mem_nil, or_false] at hh; rcases hh with ⟨rfl, rfl⟩ | ⟨rfl, rfl⟩ | ⟨rfl, rfl⟩ | ⟨rfl, rfl⟩ | ⟨rfl, rfl⟩ <;> rfl
 · simp only [hT, fL, List.mem_cons, Prod.mk.injEq, List.not_mem_nil, or_false] at hh; rcases hh with ⟨rfl, rfl⟩ | ⟨rfl, rfl⟩ | ⟨rfl, rfl⟩ | ⟨rfl, rfl⟩ <;> first | rfl | (exact absurd hM (by decide))
 · simp only [hT, fL, List.mem_cons, Prod.mk.injEq, List.not_mem_nil, or_false] at hh; rcases hh with ⟨rfl, rfl⟩ | ⟨rfl, rfl⟩ | ⟨rfl, rfl⟩ | ⟨rfl, rfl⟩ | ⟨rfl, rfl⟩ <;> decide
 · simp only [renL, AV.ren, md_ren]; rfl
 · simp [mdG, nwG, rdG, chiG, hget, Blk.ren, AV.ren, mrR, hT, fL]
   all_goals first | rfl | exact ⟨rfl, rfl⟩ | exact ⟨⟨rfl, rfl⟩, rfl⟩ | exact ⟨⟨_, rfl, rfl, rfl, rfl, rfl⟩, rfl⟩ | exact ⟨⟨⟨_, rfl, rfl, rfl, rfl, rfl⟩, rfl⟩, rfl⟩ | trace_state
theorem callG {L : Nat} {r : Go.Loop} (hY : YB23 L r) (c : Bf) (hl : List Hd) (x : Md) (l : List Md) (hll : l.length ≤ 1000000) (B : Blk) :
 CallOK Try.prog YB [yv L r, .agg x.l] ((5, B) :: hT c hl (.sg 4 0 l.length) (fL 4 l)) 6 { v := .b true, n := 13, rd := [0, 1, 2, 3, 4], md := [(1, some { cells := [.sg 12 0 (l.length + 1)] }), (4, none)], nw := [(12, { cells := rows Md.l (l ++ [x]), gr := some 9 })] } := by
 have hf := hY [.p 1 0] [.agg x.l] (hT c hl (.sg 4 0 l.length) (fL 4 l)) 6 _ 7 rfl rfl (nyl1 x) (fun b k hb => nylH_spec (by simp only [nylH, hT, fL, nylL, AV.nyl, rows_nyl hd_nyl, rows_nyl md_nyl, bf_nyl, Bool.and_self]) hb) (yb_g c hl x l hll)
 refine (CallOK.gen (k := 6) (kR := 7) (n := 6) (h := (5, B) :: hT c hl (.sg 4 0 l.length) (fL 4 l)) (fun i => if i = 5 then 6 + i else i) (fun i => i == 1 || i == 4) (by kernel_rfl) ?_ ?_ hf (fun c kk hh => ?_) (fun c kk hh => ?_) (fun c hc hh => ?_) (fun c kk hh => ?_) (fun c kk hh => ?_) (fun c1 c2 k1 k2 q1 q2 _ he => ?_) (fun c kk hh hM => ?_) (fun c kk hh hM => ?_) (fun c kk hh hM => ?_) (fun c kk hh => ?_)).cast ?_ ?_
 · decide
 · simp only [belL, AV.bel, mdlB]; rfl
 · simp only [hT, fL, List.mem_cons, Prod.mk.injEq, List.not_mem_nil, or_false] at hh; rcases hh with ⟨rfl, rfl⟩ | ⟨rfl, rfl⟩ | ⟨rfl, rfl⟩ | ⟨rfl, rfl⟩ | ⟨rfl, rfl⟩ <;> rfl
 · simp only [hT, fL, List.mem_cons, Prod.mk.injEq, List.not_mem_nil, or_false] at hh; rcases hh with ⟨rfl, rfl⟩ | ⟨rfl, rfl⟩ | ⟨rfl, rfl⟩ | ⟨rfl, rfl⟩ | ⟨rfl, rfl⟩ <;> rfl
 · rcases (by omega : c = 0 ∨ c = 1 ∨ c = 2 ∨ c = 3 ∨ c = 4 ∨ c = 5) with rfl | rfl | rfl | rfl | rfl | rfl <;> first | rfl | exact (Option.some_ne_none _ hh).elim
 · simp only [hT, fL, List.mem_cons, Prod.mk.injEq, List.not_mem_nil, or_false] at hh; rcases hh with ⟨rfl, rfl⟩ | ⟨rfl, rfl⟩ | ⟨rfl, rfl⟩ | ⟨rfl, rfl⟩ | ⟨rfl, rfl⟩ <;> first | exact ⟨by decide, rfl⟩ | exact ⟨by decide, by simp only [belL, AV.bel, Bf.bel, Bf.bel', hrB, mrB, Bool.and_self]⟩
 · simp only [hT, fL, List.mem_cons, Prod.mk.injEq, List.not_mem_nil, or_false] at hh; rcases hh with ⟨rfl, rfl⟩ | ⟨rfl, rfl⟩ | ⟨rfl, rfl⟩ | ⟨rfl, rfl⟩ | ⟨rfl, rfl⟩ <;> first | rfl | (simp only [Blk.ren, mrR, hrR, bfR, renL, AV.ren]; rfl) | simp only [Blk.ren, mrR, hrR, bfR, renL, AV.ren]
 · simp only [hT, fL, List.mem_cons, Prod.mk.injEq, List.not_mem_nil, or_false] at q1; rcases q1 with ⟨rfl, rfl⟩ | ⟨rfl, rfl⟩ | ⟨rfl, rfl⟩ | ⟨rfl, rfl⟩ | ⟨rfl, rfl⟩ <;> (simp only [hT, fL, List.mem_cons, Prod.mk.injEq, List.not_mem_nil, or_false] at q2; rcases q2 with ⟨rfl, rfl⟩ | ⟨rfl, rfl⟩ | ⟨rfl, rfl⟩ | ⟨rfl, rfl⟩ | ⟨rfl, rfl⟩) <;> first | rfl | (exact absurd he (by decide))
 · simp only [hT, fL, List.mem_cons, Prod.mk.injEq, List.not_mem_nil, or_false] at hh; rcases hh with ⟨rfl, rfl⟩ | ⟨rfl, rfl⟩ | ⟨rfl, rfl⟩ | ⟨rfl, rfl⟩ | ⟨rfl, rfl⟩ <;> rfl
 · simp only [hT, fL, List.mem_cons, Prod.mk.injEq, List.not_mem_nil, or_false] at hh; rcases hh with ⟨rfl, rfl⟩ | ⟨rfl, rfl⟩ | ⟨rfl, rfl⟩ | ⟨rfl, rfl⟩ | ⟨rfl, rfl⟩ <;> rfl
 · simp only [hT, fL, List.mem_cons, Prod.mk.injEq, List.not_mem_nil, or_false] at hh; rcases hh with ⟨rfl, rfl⟩ | ⟨rfl, rfl⟩ | ⟨rfl, rfl⟩ | ⟨rfl, rfl⟩ | ⟨rfl, rfl⟩ <;> first | rfl | (exact absurd hM (by decide))
 · simp only [hT, fL, List.mem_cons, Prod.mk.injEq, List.not_mem_nil, or_false] at hh; rcases hh with ⟨rfl, rfl⟩ | ⟨rfl, rfl⟩ | ⟨rfl, rfl⟩ | ⟨rfl, rfl⟩ | ⟨rfl, rfl⟩ <;> decide
 · simp only [renL, AV.ren, md_ren]; rfl
 · simp [mdG, nwG, rdG, chiG, hget, Blk.ren, AV.ren, mrR, hT, fL]
   all_goals first | rfl | exact ⟨rfl, rfl⟩ | exact ⟨⟨rfl, rfl⟩, rfl⟩ | exact ⟨⟨_, rfl, rfl, rfl, rfl, rfl⟩, rfl⟩ | exact ⟨⟨⟨_, rfl, rfl, rfl, rfl, rfl⟩, rfl⟩, rfl⟩ | trace_state
end Go.Proofs.Jit
end
section
/- The iterator over the first frame. -/
namespace Go.Proofs.Jit
open Go.Ab
set_option maxRecDepth 100000
set_option maxHeartbeats 4000000
set_option linter.unusedSimpArgs false
set_option linter.unusedVariables false
def frT (l : List Hd) (k : Nat) : List Md := (l.take k).map (·.p)
theorem frT_len {l : List Hd} {k : Nat} (h : k ≤ l.length) : (frT l k).length = k := by simp [frT]; omega
theorem frT_s {l : List Hd} {k : Nat} {x : Hd} (h : l[k]? = some x) : frT l (k + 1) = frT l k ++ [x.p] := by
 have hlt : k < l.length := (List.getElem?_eq_some_iff.1 h).1
 simp only [frT]
 rw [← List.take_append_getElem hlt, List.map_append]
 rw [List.getElem?_eq_getElem hlt] at h
 cases h
 rfl
def hK (c : Bf) (l : List Hd) (k : Nat) : Hp := if k = 0 then hT c l .ns [] else hT c l (.sg 4 0 k) (fL 4 (frT l k))
theorem frG_s {t0 : Int} {v : Md} {x : Hd} {l : List Hd} : frG t0 v (x :: l) = bif !v.ma && ((x.p.tm == t0) && (x.p.sq == (v.sq + 1) % 65536)) then frG t0 x.p l + 1 else 0 := rfl
theorem drop_s {l : List Hd} {k : Nat} {x : Hd} (h : l[k]? = some x) : l.drop k = x :: l.drop (k + 1) := by
 have hlt : k < l.length := (List.getElem?_eq_some_iff.1 h).1
 rw [List.drop_eq_getElem_cons hlt]
 rw [List.getElem?_eq_getElem hlt] at h
 cases h; rfl
def PK (x0 : Hd) (l : List Hd) (N k : Nat) : Prop := k ≤ l.length ∧ ((k = 0) ∨ ∃ v, l[k - 1]? = some v ∧ N = k + frG x0.p.tm v.p (l.drop k))
theorem w62 {L : Nat} {r : Go.Loop} (hY : YB23 L r) (c : Bf) (x0 : Hd) (l : List Hd) (N : Nat) (h00 : l[0]? = some x0) (hl : l.length ≤ 1000) (hsq : sqOK l = true) (hN : frN l = N) :
 FTL Try.prog 62 [yv L r, .p 3 0] (hT c l .ns []) 4 (.tup []) (hK c l N) 5 := by
 refine FTL.of_iw (cx := cxT []) Sound.nil mo Try.func62 i62_eq (by simp [i62]) (iw_of_jw ?_)
 dsimp only [i62]
 simp only [sqOK, List.all_eq_true] at hsq
 have h0t := hd_ix h00 (j := 3) (by decide)
 have hN1 : N = 1 + frG x0.p.tm x0.p (l.drop 1) := by
  rw [← hN]
  cases l with
  | nil => cases h00
  | cons a l => cases h00; simp only [frN, List.drop_one, List.tail_cons]; omega
 have hlp : 1 ≤ l.length := by
  have := (List.getElem?_eq_some_iff.1 h00).1
  omega
 clear hN
 have g3 : ∀ k, hget (hK c l k) 3 = some { cells := [.fz (rows Hd.l l) l.length] } := fun k => by unfold hK; split <;> rfl
 have hK0 : hT c l .ns [] = hK c l 0 := rfl
 have hLb : ∀ j, belL j (rows Hd.l l) = true := fun j => hrB j l
 have hLr : ∀ ψ, renL ψ (rows Hd.l l) = rows Hd.l l := fun ψ => hrR ψ l
 have hR : ∀ k, HpR 5 [] (hK c l k) (hK c l k) := fun k => by
  unfold hK
  split
  · simp (maxSteps := 400000) only [go_sem, hT, fL, int1, Blk.ren, AV.ren, renL, AV.bel, belL, nblt, mrB, mrR, hLb, hLr, Bf.bel', bfR, simprocAttr]
  · simp (maxSteps := 400000) only [go_sem, hT, fL, int1, Blk.ren, AV.ren, renL, AV.bel, belL, nblt, mrB, mrR, hLb, hLr, Bf.bel', bfR, simprocAttr]
 rw [hK0]
 have g30 := g3 0
 simp (maxSteps := 400000) only [go_sem, g30, simprocAttr]
 refine Loop.stepX (F := ⟨Try.prog, cxT [], [8, 12, 15, 53], 55, 4⟩) mo (X := Nat) (fun k => PK x0 l N k) (fun k => l.length + 1 - k)
  (fun k => [(0, yv L r), (1, .p 3 0), (5, .fz (rows Hd.l l) l.length), (6, .i .i64 (l.length : Int)), (7, .i .i64 (k : Int))]) (fun k => hK c l k) 5 0 (fun k => k + 1) [] (fun _ => [(4, 12)]) (by decide) (by decide) (fun _ => by decide) ⟨by omega, .inl rfl⟩ ?_ (hR 0) (fun k hk => ?_)
 · simp (maxSteps := 400000) only [go_sem, yv, AV.ren, renL, AV.bel, belL, nblt, hLb, hLr, simprocAttr]
 obtain ⟨hkl, hk⟩ := hk
 by_cases hlt : k < l.length
 · obtain ⟨x, hx⟩ : ∃ x, l[k]? = some x := ⟨_, List.getElem?_eq_getElem hlt⟩
   have hr := hd_at hx
   have c1 : decide ((k : Int) < (l.length : Int)) = true := decide_eq_true (by omega)
   have c2 : decide (0 ≤ (k : Int) ∧ (k : Int) < (l.length : Int)) = true := decide_eq_true (by omega)
   have w1 : IntKind.i64.wrap ((k : Int) + 1) = ((k + 1 : Nat) : Int) := by rw [wrapL (by omega) (by omega)]; omega
   have hsk : l.length + 1 - (k + 1) < l.length + 1 - k := by omega
   have hn1 : hK c l (k + 1) = hT c l (.sg 4 0 (k + 1)) (fL 4 (frT l (k + 1))) := rfl
   have hdr := drop_s hx
   by_cases hk0 : k = 0
   · subst hk0
     rw [h00] at hx
     cases hx
     have hp1 : PK x0 l N 1 := ⟨by omega, .inr ⟨x0, h00, hN1⟩⟩
     have w1z : IntKind.i64.wrap 1 = 1 := rfl
     have c1z : decide ((0 : Int) < (l.length : Int)) = true := decide_eq_true (by omega)
     have skz : l.length + 1 - 1 < l.length + 1 := by omega
     have hc := callZ hY c l x0.p { cells := x0.l }
     have hf1 : frT l 1 = [x0.p] := by rw [show (1 : Nat) = 0 + 1 from rfl, frT_s h00]; rfl
     rw [hn1, hf1]
     refine ⟨_, cx1_sound hc, ?_⟩
     rw [hK0.symm]
     obtain ⟨⟨ma, pty, sq, tm, pss, cs, xs, pd, pl⟩, xt⟩ := x0
     have hB1 := csB 1 cs
     have hB2 := xsB 1 xs
     simp only [Hd.l, Md.l] at hr ⊢
     simp (maxSteps := 400000) only [go_sem, cx1_at, hT, fL, yv, c1, c1z, w1, w1z, c2, hr, skz, hp1, hB1, hB2, Blk.ren, AV.ren, renL, AV.bel, belL, nblt, mrB, mrR, hLb, hLr, Bf.bel', bfR, csB, xsB, csR, xsR, simprocAttr]
     refine ⟨by omega, ?_⟩
     first | exact ⟨rfl, rfl, rfl, rfl⟩ | exact ⟨rfl, rfl, rfl, rfl, rfl⟩ | exact ⟨rfl, rfl, rfl, rfl, rfl, rfl⟩ | trace_state
   · obtain ⟨v, hv, hkN⟩ := hk.resolve_left hk0
     rw [hdr, frG_s] at hkN
     have hk1 : k - 1 < l.length := by omega
     have hsv := inI_t (hsq v (List.mem_of_getElem? hv))
     have hke : ((k : Int) == 0) = false := by simp; omega
     have w4 : IntKind.i64.wrap ((k : Int) - 1) = ((k - 1 : Nat) : Int) := by rw [wrapL (by omega) (by omega)]; omega
     have c3 : decide (0 ≤ ((k - 1 : Nat) : Int) ∧ ((k - 1 : Nat) : Int) < (l.length : Int)) = true := decide_eq_true (by omega)
     have d0 : decide ((0 : Int) < (l.length : Int)) = true := decide_eq_true (by omega)
     have f0 := hd_ix hv (j := 0) (by decide)
     rw [Nat.add_zero] at f0
     have f2 := hd_ix hv (j := 2) (by decide)
     have w5 : IntKind.i64.wrap (v.p.sq + 1) = v.p.sq + 1 := wrapL (by omega) (by omega)
     have hk' : hK c l k = hT c l (.sg 4 0 k) (fL 4 (frT l k)) := if_neg hk0
     have hlen := frT_len (l := l) (k := k) (by omega)
     have hc := callG hY c l x.p (frT l k) (by rw [hlen]; omega) { cells := x.l }
     rw [hlen, ← frT_s hx] at hc
     have hRk := hR k
     have hp1 : N = k + (frG x0.p.tm x.p (List.drop (k + 1) l) + 1) → PK x0 l N (k + 1) := fun e => ⟨by omega, .inr ⟨x, by simpa using hx, by rw [e]; omega⟩⟩
     have h3 : (rows Hd.l l)[3]? = some (.i .i64 x0.p.tm) := by
      rw [Nat.zero_mul, Nat.zero_add] at h0t
      exact h0t
     refine ⟨_, cx1_sound hc, ?_⟩
     rw [hn1]
     rw [hk'] at hRk ⊢
     generalize frG x0.p.tm x.p (List.drop (k + 1) l) = G at *
     generalize frT l k = q at *
     generalize frT l (k + 1) = q' at *
     generalize PK x0 l N (k + 1) = PP at *
     obtain ⟨⟨ma, pty, sq, tm, pss, cs, xs, pd, pl⟩, xt⟩ := x
     obtain ⟨⟨ma2, pty2, sq2, tm2, pss2, cs2, xs2, pd2, pl2⟩, xt2⟩ := v
     have hB1 := csB 1 cs
     have hB2 := xsB 1 xs
     simp only [Hd.l, Md.l] at hr f0 f2 ⊢
     dsimp only at hkN w5
     generalize x0.p.tm = t0 at *
     have n1 : (tm != t0) = !(tm == t0) := rfl
     have n2 : (sq != (sq2 + 1) % 65536) = !(sq == (sq2 + 1) % 65536) := rfl
     cases e1 : (tm == t0)
     · have hNk : N = k := by rw [hkN, e1]; cases ma2 <;> rfl
       rw [hNk, hk']
       simp (maxSteps := 400000) only [go_sem, hT, fL, c1, c2, w1, hr, hke, d0, h3, w4, c3, f0, f2, w5, and16, n1, e1, simprocAttr]
       refine Ends.R [] (by decide) (by decide) rfl rfl ?_
       simp (maxSteps := 400000) only [go_sem, hT, fL, Blk.ren, AV.ren, renL, AV.bel, belL, nblt, mrB, mrR, hLb, hLr, Bf.bel', bfR, csB, xsB, csR, xsR, simprocAttr]
     cases e2 : (sq == (sq2 + 1) % 65536)
     · have hNk : N = k := by rw [hkN, e1, e2]; cases ma2 <;> rfl
       rw [hNk, hk']
       simp (maxSteps := 400000) only [go_sem, hT, fL, c1, c2, w1, hr, hke, d0, h3, w4, c3, f0, f2, w5, and16, n1, n2, e1, e2, simprocAttr]
       refine Ends.R [] (by decide) (by decide) rfl rfl ?_
       simp (maxSteps := 400000) only [go_sem, hT, fL, Blk.ren, AV.ren, renL, AV.bel, belL, nblt, mrB, mrR, hLb, hLr, Bf.bel', bfR, csB, xsB, csR, xsR, simprocAttr]
     cases ma2
     rotate_left
     · have hNk : N = k := by rw [hkN]; rfl
       rw [hNk, hk']
       simp (maxSteps := 400000) only [go_sem, hT, fL, c1, c2, w1, hr, hke, d0, h3, w4, c3, f0, f2, w5, and16, n1, n2, e1, e2, simprocAttr]
       refine Ends.R [] (by decide) (by decide) rfl rfl ?_
       simp (maxSteps := 400000) only [go_sem, hT, fL, Blk.ren, AV.ren, renL, AV.bel, belL, nblt, mrB, mrR, hLb, hLr, Bf.bel', bfR, csB, xsB, csR, xsR, simprocAttr]
     have hPP : PP := hp1 (by rw [hkN, e1, e2]; rfl)
     simp (maxSteps := 400000) only [go_sem, hT, fL, c1, c2, w1, hr, hke, d0, h3, w4, c3, f0, f2, w5, and16, n1, n2, e1, e2, cx1_at, yv, hsk, hPP, Blk.ren, AV.ren, renL, AV.bel, belL, nblt, mrB, mrR, hLb, hLr, Bf.bel', bfR, csB, xsB, csR, xsR, simprocAttr]
     refine ⟨by omega, ?_⟩
     first | exact ⟨rfl, rfl, rfl, rfl⟩ | exact ⟨rfl, rfl, rfl, rfl, rfl⟩ | exact ⟨rfl, rfl, rfl, rfl, rfl, rfl⟩ | trace_state
 · obtain rfl : k = l.length := by omega
   have c1 : decide ((l.length : Int) < (l.length : Int)) = false := decide_eq_false (by omega)
   have hNl : N = l.length := by
    rcases hk with hk | ⟨v, hv, hk⟩
    · omega
    · rw [hk, List.drop_length]; simp [frG]
   refine ⟨cxT [], Sound.nil, ?_⟩
   rw [hNl]
   have hRe := hR l.length
   generalize hK c l l.length = HH at hRe ⊢
   simp (maxSteps := 400000) only [go_sem, c1, simprocAttr]
   exact Ends.R [] (by decide) (by decide) rfl rfl hRe
end Go.Proofs.Jit
end
