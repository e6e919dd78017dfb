/- Texts laid as one: FlzC21 FlzC22. -/
import Derived.Test.YtlokbfkdgnopeaaGreatDoorFlzCg
import Derived.Test.YtlokbfkdgnopeaaGreatDoorFlzCa
section
/- Take, last part: the messages that are complete are given. -/
namespace Go.Proofs.Flz
open Go.Ab Go.Proofs.Flt
set_option maxRecDepth 100000
set_option maxHeartbeats 4000000
set_option linter.unusedSimpArgs false
set_option linter.unusedVariables false
def tkR (r : Jn × List Nt × Int) : AV := .tup [.agg r.1.a, .fz (rows Nt.l r.2.1) r.2.1.length, .i .i64 r.2.2]
theorem nrB (j : Nat) (l : List Nt) : belL j (rows Nt.l l) = true := belL_mono0 _ (rows_bel Nt.bel)
theorem nrR (ψ : Nat → Nat) (l : List Nt) : renL ψ (rows Nt.l l) = rows Nt.l l := renL_fix0 _ (rows_bel Nt.bel)
theorem hrR (ψ : Nat → Nat) (l : List Flt.Hf) : renL ψ (rows Flt.Hf.l l) = rows Flt.Hf.l l := renL_fix0 _ (rows_bel Flt.Hf.bel)
theorem tkR_bel (r : Jn × List Nt × Int) : (tkR r).bel 0 = true := by simp only [tkR, AV.bel, belL, Jn.bel, nrB, Bool.and_self]
def TC21 : List (Nat × Ct) := [(59, k59), (21, k21), (50, k50), (60, k60), (61, k61), (36, k36), (64, k64), (65, k65), (56, k56)]
theorem hTC21 : Sound Tryz.prog (cxT TC21) := Sound.cons s59 <| Sound.cons s21 <| Sound.cons s50 <| Sound.cons s60 <| Sound.cons s61 <| Sound.cons s36 <| Sound.cons s64 <| Sound.cons s65 <| Sound.cons s56 Sound.nil
noncomputable abbrev F21 : Fx := ⟨Tryz.prog, cxT TC21, [28, 46, 64, 116], 141, 0⟩
abbrev KT (g0 g1 g2 : Nat) (R : Jn × List Nt × Int) : Kont := retDK i23.res i58.code [g0, g1, g2] (fun p v h' n' => p = none ∧ CovS 0 v h' n' (tkR R) [] 0)
theorem ends_z {e : Int} {h : Hp} {n : Nat} : CovS 0 (.tup [.agg [.i .i64 0, .ns], .ns, .i .i64 e]) h n (tkR (zJn, [], e)) [] 0 := by
 refine CovS.frzN (v' := tkR (zJn, [], e)) (l := []) (FzV.tup ⟨FzV.agg ⟨FzV.refl, FzV.hit, trivial⟩, FzV.hit, FzV.refl, trivial⟩) ?_
 exact CovS.ends (Ends.pureE (tkR_bel _) rfl)
theorem ends_n {nx : Int} {hs : List Flt.Hf} {h : Hp} {n : Nat} : CovS 0 (.tup [.agg [.i .i64 nx, .fz (rows Flt.Hf.l hs) hs.length], .ns, .i .i64 0]) h n (tkR (⟨nx, hs⟩, [], 0)) [] 0 := by
 refine CovS.frzN (v' := tkR (⟨nx, hs⟩, [], 0)) (l := []) (FzV.tup ⟨FzV.refl, FzV.hit, FzV.refl, trivial⟩) ?_
 exact CovS.ends (Ends.pureE (tkR_bel _) rfl)
theorem gids {g0 g1 g2 : Nat} (h : [g0, g1, g2].Nodup) : Nat.beq g0 g1 = false ∧ Nat.beq g0 g2 = false ∧ Nat.beq g1 g0 = false ∧ Nat.beq g1 g2 = false ∧ Nat.beq g2 g0 = false ∧ Nat.beq g2 g1 = false ∧ Nat.beq g0 g0 = true ∧ Nat.beq g1 g1 = true ∧ Nat.beq g2 g2 = true := by
 simp only [List.nodup_cons, List.mem_cons, List.not_mem_nil, or_false, not_or, not_false_eq_true, List.nodup_nil, and_true] at h
 obtain ⟨⟨h1, h2⟩, h3⟩ := h
 exact ⟨beq_ne fun e => h1 e.symm, beq_ne fun e => h2 e.symm, beq_ne h1, beq_ne fun e => h3 e.symm, beq_ne h2, beq_ne h3, beq_self', beq_self', beq_self'⟩
def ntH (h : Flt.Hf) : Nt := ⟨h.kd, h.sq, h.bd⟩
theorem tk_give {g0 g1 g2 : Nat} (hG : [g0, g1, g2].Nodup) (nx : Int) (hn0 : 0 ≤ nx) (hn1 : nx ≤ 65536) (hs : List Flt.Hf) (h0 : 0 < hs.length) (hlen : hs.length ≤ 5) (hgl : ∀ x ∈ hs, x.got.length ≤ 1000000) :
 Seam F21 (.seq (.block 2 (.loop i23l26)) (.seq (.dreg i23r27) .ret)) (KT g0 g1 g2 ((giveS nx hs).1, (giveS nx hs).2, 0)) [(4, .p 1 0), (5, .p 2 0), (6, .p 3 0)]
  [(5, { cells := rows Flt.Hf.l hs, gr := some 5 }), (1, { cells := [.i .i64 nx, .sg 5 0 hs.length], gid := some g0 }), (2, { cells := [.ns], gid := some g1 }), (3, { cells := [.i .i64 0], gid := some g2 })] 6 := by
 obtain ⟨b01, b02, b10, b12, b20, b21, b00, b11, b22⟩ := gids hG
 obtain ⟨N, hN⟩ : ∃ N : Nat → List Nt, N = fun d => (hs.take d).map ntH := ⟨_, rfl⟩
 have hN0 : N 0 = [] := by rw [hN]; rfl
 have hNs : ∀ d x, hs[d]? = some x → N (d + 1) = N d ++ [ntH x] := fun d x hx => by
  have hlt := (List.getElem?_eq_some_iff.1 hx).1
  rw [List.getElem?_eq_getElem hlt] at hx
  rw [hN]
  show (hs.take (d + 1)).map ntH = (hs.take d).map ntH ++ [ntH x]
  rw [List.take_succ_eq_append_getElem hlt, List.map_append, List.map_singleton, Option.some.inj hx]
 have hNl : ∀ d, (N d).length ≤ 5 := fun d => by
  rw [hN]
  show ((hs.take d).map ntH).length ≤ 5
  rw [List.length_map, List.length_take]; omega
 obtain ⟨R, hR⟩ : ∃ R : Jn × List Nt × Int, R = ((giveS nx hs).1, (giveS nx hs).2, 0) := ⟨_, rfl⟩
 rw [← hR]
 have hL : ∀ (k : Nat) x, hs[k]? = some x → List.take 5 (List.drop (k * 5) (rows Flt.Hf.l hs)) = x.l := fun k x hk => rows_at Flt.Hf.len hk
 have hL2 : ∀ (k : Nat) x, hs[k]? = some x → (rows Flt.Hf.l hs)[k * 5 + 2]? = some (.i .i64 x.sq) := fun k x hk => by
  have h1 := hL k x hk
  have h2 : (List.take 5 (List.drop (k * 5) (rows Flt.Hf.l hs)))[2]? = some (.i .i64 x.sq) := by rw [h1]; rfl
  rw [List.getElem?_take, if_pos (by decide), List.getElem?_drop] at h2
  exact h2
 have hLl : (rows Flt.Hf.l hs).length = hs.length * 5 := rows_len Flt.Hf.len
 have hb := fun j => hrB j hs
 have hbr := fun ψ => hrR ψ hs
 have gqN : gQ Nt.l 3 ([] : List Nt) = .nil := rfl
 have gqC : ∀ l : List Nt, l ≠ [] → gQ Nt.l 3 l = .sg { cells := rows Nt.l l, gr := some 3 } 0 l.length := fun l h => by unfold gQ; rw [if_neg (by simpa using h)]
 refine Seam.seq ?_
 refine Seam.block ?_
 refine Seam.run (F := F21) hTC21 mo ?_
 dsimp only [F21, TC21]
 simp (maxSteps := 400000) only [go_sem, simprocAttr]
 refine Loop.stepS (F := F21) (X := Nat) (fun d => d ≤ hs.length ∧ R = ((giveS (nx + d) (hs.drop d)).1, N d ++ (giveS (nx + d) (hs.drop d)).2, 0)) (fun d => hs.length - d)
  (fun d => [(4, .p 1 0), (5, .p 2 0), (6, .p 3 0)])
  (fun d => (gQ Nt.l 3 (N d)).h 6 ++ [(5, { cells := rows Flt.Hf.l hs, gr := some 5 }), (1, { cells := [.i .i64 (nx + (d : Int)), if d < hs.length then .sg 5 (d * 5) (hs.length - d) else .fz [] 0], gid := some g0 }), (2, { cells := [(gQ Nt.l 3 (N d)).v 6], gid := some g1 }), (3, { cells := [.i .i64 0], gid := some g2 })]) 7 0 (fun d => d + 1) [] (fun d => [(6, 9)]) (by decide) (by decide) (fun d => by decide) ⟨Nat.zero_le _, by rw [hR, hN0]; simp⟩ ?_ ?_ (fun d hd => ?_)
 · simp (maxSteps := 400000) only [go_sem, AV.ren, renL, AV.bel, belL, nblt, simprocAttr]
 · rw [hN0, gqN, if_pos h0]
   simp only [Int.natCast_zero, Int.add_zero, Nat.zero_mul, Nat.sub_zero]
   simp (maxSteps := 400000) only [go_sem, AV.ren, renL, AV.bel, belL, nblt, Blk.ren, hb, hbr, simprocAttr]
 obtain ⟨hdl, hRd⟩ := hd
 have gm : decide (32 * ((N d).length + 1) ≤ growMax) = true := decide_eq_true (by have := hNl d; simp only [growMax]; omega)
 have gm1 : decide (32 ≤ growMax) = true := by decide
 have hNb := fun j => nrB j (N d)
 have hNr := fun ψ => nrR ψ (N d)
 have hNz : (rows Nt.l (N d)).length = (N d).length * 3 := rows_len Nt.len
 -- the end
 have fin : giveS (nx + d) (hs.drop d) = (⟨nx + d, hs.drop d⟩, []) → ∀ (h : Hp) n, (N d ≠ [] → hget h 6 = some { cells := rows Nt.l (N d), gr := some 3 }) →
  CovS 0 (.tup [.agg [.i .i64 (nx + (d : Int)), .fz (rows Flt.Hf.l (hs.drop d)) (hs.length - d)], (gQ Nt.l 3 (N d)).v 6, .i .i64 0]) h n (tkR R) [] 0 := fun hg h n hN6 => by
  have hRR : R = (⟨nx + d, hs.drop d⟩, N d, 0) := by rw [hRd, hg, List.append_nil]
  have hld : hs.length - d = (hs.drop d).length := by rw [List.length_drop]
  rw [hRR, hld]
  by_cases hnd : N d = []
  · rw [hnd, gqN]
    exact ends_n
  · rw [gqC _ hnd]
    refine CovS.frz (b := 6) (k := { cells := rows Nt.l (N d), gr := some 3 }) (h' := []) (o := 0) (m := (N d).length) (x := .sg 6 0 (N d).length) (cs := rows Nt.l (N d)) (v' := tkR (⟨nx + d, hs.drop d⟩, N d, 0)) (hN6 hnd) rfl (.inr rfl) (.inl (List.drop_zero).symm) (FzV.tup ⟨FzV.refl, FzV.hit, FzV.refl, trivial⟩) (fun c kk hc => by simp [hget] at hc) ?_
    exact CovS.ends (Ends.pureE (tkR_bel _) rfl)
 have h6 : ∀ r : Hp, N d ≠ [] → hget ((gQ Nt.l 3 (N d)).h 6 ++ r) 6 = some { cells := rows Nt.l (N d), gr := some 3 } := fun r hn => by rw [gqC _ hn]; rfl
 have rdr : rows Flt.Hf.l (hs.drop d) = List.drop (d * 5) (rows Flt.Hf.l hs) := by
  have h1 : rows Flt.Hf.l hs = rows Flt.Hf.l (hs.take d) ++ rows Flt.Hf.l (hs.drop d) := by rw [← rows_append, List.take_append_drop]
  have h2 : (rows Flt.Hf.l (hs.take d)).length = d * 5 := by rw [rows_len Flt.Hf.len, List.length_take, Nat.min_eq_left hdl]
  rw [h1, ← h2, List.drop_left]
 have stop : giveS (nx + d) (hs.drop d) = (⟨nx + d, hs.drop d⟩, []) → Seam F21 (.seq (.dreg i23r27) .ret) (KT g0 g1 g2 R) [(4, .p 1 0), (5, .p 2 0), (6, .p 3 0)]
  ((gQ Nt.l 3 (N d)).h 6 ++ [(5, { cells := rows Flt.Hf.l hs, gr := some 5 }), (1, { cells := [.i .i64 (nx + (d : Int)), if d < hs.length then .sg 5 (d * 5) (hs.length - d) else .fz [] 0], gid := some g0 }), (2, { cells := [(gQ Nt.l 3 (N d)).v 6], gid := some g1 }), (3, { cells := [.i .i64 0], gid := some g2 })]) 7 := fun hg => by
  have fin := fin hg
  refine Seam.run (F := F21) hTC21 mo ?_
  dsimp only [F21, TC21, KT, i23]
  by_cases hlt : d < hs.length
  · rw [if_pos hlt]
    by_cases hnd : N d = []
    · rw [hnd, gqN] at fin ⊢
      simp (maxSteps := 400000) only [go_sem, hglobC, hglob, b01, b02, b10, b12, b20, b21, b00, b11, b22, cond_true, cond_false, i58, simprocAttr]
      refine CovS.frz (b := 5) (k := { cells := rows Flt.Hf.l hs, gr := some 5 }) (h' := []) (o := d * 5) (m := hs.length - d) (x := .sg 5 (d * 5) (hs.length - d)) (cs := rows Flt.Hf.l (hs.drop d)) (v' := .tup [.agg [.i .i64 (nx + (d : Int)), .fz (rows Flt.Hf.l (hs.drop d)) (hs.length - d)], .ns, .i .i64 0]) rfl rfl (.inr rfl) (.inl rdr) (FzV.tup ⟨FzV.agg ⟨FzV.refl, FzV.hit, trivial⟩, FzV.refl, FzV.refl, trivial⟩) (fun c kk hc => by simp [hget] at hc) (fin _ _ (fun h => absurd rfl h))
    · rw [gqC _ hnd] at fin ⊢
      simp (maxSteps := 400000) only [go_sem, hglobC, hglob, b01, b02, b10, b12, b20, b21, b00, b11, b22, cond_true, cond_false, i58, simprocAttr]
      refine CovS.frz (b := 5) (k := { cells := rows Flt.Hf.l hs, gr := some 5 }) (h' := [(6, { cells := rows Nt.l (N d), gr := some 3 })]) (o := d * 5) (m := hs.length - d) (x := .sg 5 (d * 5) (hs.length - d)) (cs := rows Flt.Hf.l (hs.drop d)) (v' := .tup [.agg [.i .i64 (nx + (d : Int)), .fz (rows Flt.Hf.l (hs.drop d)) (hs.length - d)], .sg 6 0 (N d).length, .i .i64 0]) rfl rfl (.inr rfl) (.inl rdr) (FzV.tup ⟨FzV.agg ⟨FzV.refl, FzV.hit, trivial⟩, FzV.refl, FzV.refl, trivial⟩) (fun c kk hc => ?_) (fin _ _ (fun _ => rfl))
      have hm := hget_mem hc
      simp only [List.mem_cons, Prod.mk.injEq, List.not_mem_nil, or_false] at hm
      obtain ⟨rfl, rfl⟩ := hm
      exact ⟨by decide, rfl⟩
  · have hdn : d = hs.length := by omega
    have fz0 : (AV.fz (rows Flt.Hf.l (hs.drop d)) (hs.length - d)) = .fz [] 0 := by rw [hdn, List.drop_length, Nat.sub_self]; rfl
    rw [fz0] at fin
    rw [if_neg hlt]
    by_cases hnd : N d = []
    · rw [hnd, gqN] at fin ⊢
      simp (maxSteps := 400000) only [go_sem, hglobC, hglob, b01, b02, b10, b12, b20, b21, b00, b11, b22, cond_true, cond_false, i58, simprocAttr]
      exact fin _ _ (fun h => absurd rfl h)
    · rw [gqC _ hnd] at fin ⊢
      simp (maxSteps := 400000) only [go_sem, hglobC, hglob, b01, b02, b10, b12, b20, b21, b00, b11, b22, cond_true, cond_false, i58, simprocAttr]
      exact fin _ _ (fun _ => rfl)
 rcases Nat.lt_or_ge d hs.length with hlt | hge
 rotate_left
 · -- nothing is left
   have hdn : d = hs.length := by omega
   have stop := stop (giveS_stop fun x hx => by rw [hdn, List.getElem?_eq_none (Nat.le_refl _)] at hx; cases hx)
   rw [if_neg (Nat.not_lt.2 hge)] at stop ⊢
   refine Seam.part (F := F21) hTC21 mo ?_
   dsimp only [F21, TC21]
   by_cases hnd : N d = []
   · rw [hnd, gqN] at stop ⊢
     simp (maxSteps := 400000) only [go_sem, simprocAttr]
     exact Seam.ren [] stop (by decide) (by decide) (by simp (maxSteps := 400000) only [go_sem, AV.bel, belL, nblt, AV.ren, renL, simprocAttr]) (by simp (maxSteps := 400000) only [go_sem, AV.bel, belL, nblt, AV.ren, renL, Blk.ren, hb, hbr, simprocAttr])
   · rw [gqC _ hnd] at stop ⊢
     simp (maxSteps := 400000) only [go_sem, simprocAttr]
     exact Seam.ren [] stop (by decide) (by decide) (by simp (maxSteps := 400000) only [go_sem, AV.bel, belL, nblt, AV.ren, renL, simprocAttr]) (by simp (maxSteps := 400000) only [go_sem, AV.bel, belL, nblt, AV.ren, renL, Blk.ren, hb, hbr, hNb, hNr, simprocAttr])
 obtain ⟨x, hx⟩ : ∃ x, hs[d]? = some x := ⟨_, List.getElem?_eq_getElem hlt⟩
 have hxx := hL d x hx
 have hx2 := hL2 d x hx
 have c1 : decide (((hs.length - d : Nat) : Int) > 0) = true := decide_eq_true (by omega)
 have c2 : decide (0 ≤ (0 : Int) ∧ (0 : Int) < ((hs.length - d : Nat) : Int)) = true := decide_eq_true (by omega)
 have hcm : ∀ (h : Hp) n, k56 [.agg x.l] h n = some (true, { v := .b (doneB x), n }) := fun h n => by
  have : x.got.length ≤ 1000000 := hgl x (List.mem_of_getElem? hx)
  simp only [k56, hf5_l, Option.bind_some]
  congr 2
  exact decide_eq_true (by omega)
 have stop := fun h => stop (giveS_stop fun y hy => by rw [hx] at hy; cases hy; exact h)
 rw [if_pos hlt] at stop ⊢
 obtain ⟨xk, xl, xs, xb, xg⟩ := x
 have hD : ∃ D, D = doneB ⟨xk, xl, xs, xb, xg⟩ := ⟨_, rfl⟩
 obtain ⟨D, hD⟩ := hD
 rw [← hD] at stop hcm
 simp only [Flt.Hf.l] at hxx hcm
 dsimp only at hx2 stop
 have hgb := fun j => grB j xg
 have hgr := fun ψ => grR ψ xg
 refine Seam.cut (fun KK hKK => ?_)
 refine Seam.part (F := F21) hTC21 mo ?_
 dsimp only [F21, TC21]
 cases q : (xs == nx + (d : Int))
 · subst hKK
   have stop := stop (by rw [q]; rfl)
   by_cases hnd : N d = []
   · rw [hnd, gqN] at stop ⊢
     simp (maxSteps := 400000) only [go_sem, c1, c2, hx2, q, simprocAttr]
     exact Seam.ren [] stop (by decide) (by decide) (by simp (maxSteps := 400000) only [go_sem, AV.bel, belL, nblt, AV.ren, renL, simprocAttr]) (by simp (maxSteps := 400000) only [go_sem, AV.bel, belL, nblt, AV.ren, renL, Blk.ren, hb, hbr, simprocAttr])
   · rw [gqC _ hnd] at stop ⊢
     simp (maxSteps := 400000) only [go_sem, c1, c2, hx2, q, simprocAttr]
     exact Seam.ren [] stop (by decide) (by decide) (by simp (maxSteps := 400000) only [go_sem, AV.bel, belL, nblt, AV.ren, renL, simprocAttr]) (by simp (maxSteps := 400000) only [go_sem, AV.bel, belL, nblt, AV.ren, renL, Blk.ren, hb, hbr, hNb, hNr, simprocAttr])
 cases D
 · subst hKK
   have stop := stop (by rw [q]; rfl)
   by_cases hnd : N d = []
   · rw [hnd, gqN] at stop ⊢
     simp (maxSteps := 400000) only [go_sem, c1, c2, hx2, q, hxx, hcm, simprocAttr]
     exact Seam.ren [] stop (by decide) (by decide) (by simp (maxSteps := 400000) only [go_sem, AV.bel, belL, nblt, AV.ren, renL, simprocAttr]) (by simp (maxSteps := 400000) only [go_sem, AV.bel, belL, nblt, AV.ren, renL, Blk.ren, hb, hbr, simprocAttr])
   · rw [gqC _ hnd] at stop ⊢
     simp (maxSteps := 400000) only [go_sem, c1, c2, hx2, q, hxx, hcm, simprocAttr]
     exact Seam.ren [] stop (by decide) (by decide) (by simp (maxSteps := 400000) only [go_sem, AV.bel, belL, nblt, AV.ren, renL, simprocAttr]) (by simp (maxSteps := 400000) only [go_sem, AV.bel, belL, nblt, AV.ren, renL, Blk.ren, hb, hbr, hNb, hNr, simprocAttr])
 clear stop fin
 have hq : xs = nx + (d : Int) := by simpa using q
 have hgd := giveS_drop hx hq hD.symm
 have hns := hNs d _ hx
 have hRn : R = ((giveS (nx + ((d + 1 : Nat) : Int)) (hs.drop (d + 1))).1, N (d + 1) ++ (giveS (nx + ((d + 1 : Nat) : Int)) (hs.drop (d + 1))).2, 0) := by
  rw [hRd, hgd, hns]
  simp only [List.append_assoc, List.singleton_append]
  rfl
 have wn : IntKind.i64.wrap (nx + (d : Int) + 1) = nx + ((d + 1 : Nat) : Int) := by rw [wrapL (by omega) (by omega)]; omega
 have hstep : (d + 1 ≤ hs.length ∧ R = ((giveS (nx + ((d + 1 : Nat) : Int)) (hs.drop (d + 1))).1, N (d + 1) ++ (giveS (nx + ((d + 1 : Nat) : Int)) (hs.drop (d + 1))).2, 0)) ∧ hs.length - (d + 1) < hs.length - d := ⟨⟨by omega, hRn⟩, by omega⟩
 have hnl : N (d + 1) ≠ [] := by rw [hns]; simp
 have lap : rows Nt.l (N (d + 1)) = rows Nt.l (N d) ++ [.i .i64 xk, .i .i64 xs, .s xb] := by rw [hns, rows_append]; rfl
 have lal : (N (d + 1)).length = (N d).length + 1 := by rw [hns]; simp
 clear hRd hRn hgd hns hD hNs hN0 hR
 have hMb := fun j => nrB j (N (d + 1))
 have hMr := fun ψ => nrR ψ (N (d + 1))
 -- the last of the round
 have tl : ∀ K : Kont, K = (blockK 3 (thenK (blockK 2 (thenK (KT g0 g1 g2 R) (Seam F21 (.seq (.dreg i23r27) .ret) (KT g0 g1 g2 R)))) fun e' h' n' => ((d + 1 ≤ hs.length ∧ R = ((giveS (nx + ((d + 1 : Nat) : Int)) (hs.drop (d + 1))).1, N (d + 1) ++ (giveS (nx + ((d + 1 : Nat) : Int)) (hs.drop (d + 1))).2, 0)) ∧ hs.length - (d + 1) < hs.length - d) ∧ EnvR 7 [(6, 9)] e' [(4, .p 1 0), (5, .p 2 0), (6, .p 3 0)] ∧
  HpR 7 [(6, 9)] h' ((gQ Nt.l 3 (N (d + 1))).h 6 ++ [(5, { cells := rows Flt.Hf.l hs, gr := some 5 }), (1, { cells := [.i .i64 (nx + ((d + 1 : Nat) : Int)), if d + 1 < hs.length then .sg 5 ((d + 1) * 5) (hs.length - (d + 1)) else .fz [] 0], gid := some g0 }), (2, { cells := [(gQ Nt.l 3 (N (d + 1))).v 6], gid := some g1 }), (3, { cells := [.i .i64 0], gid := some g2 })]))) →
  Seam F21 (.seq (.reg i23r24) (.reg i23r25)) K [(4, .p 1 0), (5, .p 2 0), (6, .p 3 0)]
  [(9, { cells := rows Nt.l (N (d + 1)), gr := some 3 }), (5, { cells := rows Flt.Hf.l hs, gr := some 5 }), (1, { cells := [.i .i64 (nx + (d : Int)), .sg 5 (d * 5) (hs.length - d)], gid := some g0 }), (2, { cells := [.sg 9 0 (N (d + 1)).length], gid := some g1 }), (3, { cells := [.i .i64 0], gid := some g2 })] 10 := fun K hK => by
  subst hK
  refine Seam.part (F := F21) hTC21 mo ?_
  dsimp only [F21, TC21]
  have c3 : decide ((1 : Int) ≤ ((hs.length - d : Nat) : Int) ∧ (0 : Int) ≤ ((hs.length - d : Nat) : Int)) = true := decide_eq_true (by omega)
  have hM := fun r : List Nt => gqC r
  rw [gqC _ hnl]
  by_cases hl : d + 1 < hs.length
  · rw [if_pos hl]
    have c4 : decide (False ∨ 1 < hs.length - d) = true := decide_eq_true (.inr (by omega))
    have e5 : (d + 1) * 5 = d * 5 + 5 := by omega
    have e6 : hs.length - (d + 1) = hs.length - d - 1 := by omega
    rw [e6] at hstep ⊢
    rw [e5]
    simp (maxSteps := 400000) only [go_sem, c3, c4, simprocAttr]
    refine Seam.run (F := F21) hTC21 mo ?_
    dsimp only [F21, TC21]
    simp (maxSteps := 400000) only [go_sem, wn, hstep, AV.ren, renL, AV.bel, belL, nblt, Blk.ren, hb, hbr, hMb, hMr, simprocAttr]
  · rw [if_neg hl]
    have c4 : decide (False ∨ 1 < hs.length - d) = false := decide_eq_false (fun h => h.elim _root_.id (by omega))
    simp (maxSteps := 400000) only [go_sem, c3, c4, simprocAttr]
    refine Seam.wk (e2 := [(4, .p 1 0), (5, .p 2 0), (6, .p 3 0)]) (h2 := [(9, { cells := rows Nt.l (N (d + 1)), gr := some 3 }), (5, { cells := rows Flt.Hf.l hs, gr := some 5 }), (1, { cells := [.i .i64 (nx + (d : Int)), .fz [] 0], gid := some g0 }), (2, { cells := [.sg 9 0 (N (d + 1)).length], gid := some g1 }), (3, { cells := [.i .i64 0], gid := some g2 })]) ?_
     ⟨⟨_, rfl, Wka.refl _⟩, ⟨_, rfl, Wka.refl _⟩, ⟨_, rfl, Wka.refl _⟩, trivial⟩ ⟨⟨_, rfl, rfl, rfl, rfl, WkaL.refl _⟩, ⟨_, rfl, rfl, rfl, rfl, WkaL.refl _⟩, ⟨_, rfl, rfl, rfl, rfl, Wka.refl _, Wka.en, trivial⟩, ⟨_, rfl, rfl, rfl, rfl, WkaL.refl _⟩, ⟨_, rfl, rfl, rfl, rfl, WkaL.refl _⟩, trivial⟩
    refine Seam.run (F := F21) hTC21 mo ?_
    dsimp only [F21, TC21]
    simp (maxSteps := 400000) only [go_sem, wn, hstep, AV.ren, renL, AV.bel, belL, nblt, Blk.ren, hb, hbr, hMb, hMr, simprocAttr]
 clear hstep
 have big : Seam F21 (.block 3 (.seq (.reg i23r22) (.seq (.reg i23r23) (.seq (.reg i23r24) (.reg i23r25))))) KK [(4, .p 1 0), (5, .p 2 0), (6, .p 3 0)]
  ((gQ Nt.l 3 (N d)).h 6 ++ [(5, { cells := rows Flt.Hf.l hs, gr := some 5 }), (1, { cells := [.i .i64 (nx + (d : Int)), .sg 5 (d * 5) (hs.length - d)], gid := some g0 }), (2, { cells := [(gQ Nt.l 3 (N d)).v 6], gid := some g1 }), (3, { cells := [.i .i64 0], gid := some g2 })]) 7 := by
  subst hKK
  refine Seam.block ?_
  refine Seam.cut (fun K3 hK3 => ?_)
  have tl := tl K3 hK3
  clear hK3
  by_cases hnd : N d = []
  · rw [hnd, gqN]
    rw [hnd] at lap
    simp only [rows_nil, List.nil_append] at lap
    have lal1 : (N (d + 1)).length = 1 := by rw [lal, hnd]; rfl
    refine Seam.part (F := F21) hTC21 mo ?_
    dsimp only [F21, TC21]
    simp (maxSteps := 400000) only [go_sem, c1, c2, hx2, q, hxx, hcm, AV.bel, belL, nblt, hgb, simprocAttr]
    refine Seam.part (F := F21) hTC21 mo ?_
    dsimp only [F21, TC21]
    simp (maxSteps := 400000) only [go_sem, gm1, AV.bel, belL, nblt, simprocAttr]
    exact Seam.ren [] tl (by decide) (by decide) (by simp (maxSteps := 400000) only [go_sem, AV.bel, belL, nblt, AV.ren, renL, simprocAttr]) (by rw [lap, lal1]; simp (maxSteps := 400000) only [go_sem, AV.bel, belL, nblt, AV.ren, renL, Blk.ren, hb, hbr, simprocAttr])
  · rw [gqC _ hnd]
    refine Seam.part (F := F21) hTC21 mo ?_
    dsimp only [F21, TC21]
    simp (maxSteps := 400000) only [go_sem, c1, c2, hx2, q, hxx, hcm, AV.bel, belL, nblt, hgb, simprocAttr]
    refine Seam.part (F := F21) hTC21 mo ?_
    dsimp only [F21, TC21]
    simp (maxSteps := 400000) only [go_sem, gm, hNz, AV.bel, belL, nblt, simprocAttr]
    have lbx : ∀ j, belL j (rows Nt.l (N d) ++ [.i .i64 xk, .i .i64 xs, .s xb]) = true := fun j => by rw [← lap]; exact nrB j _
    have lrx : ∀ ψ, renL ψ (rows Nt.l (N d) ++ [.i .i64 xk, .i .i64 xs, .s xb]) = rows Nt.l (N d) ++ [.i .i64 xk, .i .i64 xs, .s xb] := fun ψ => by rw [← lap]; exact nrR ψ _
    exact Seam.ren [] tl (by decide) (by decide) (by simp (maxSteps := 400000) only [go_sem, AV.bel, belL, nblt, AV.ren, renL, simprocAttr]) (by rw [lap, lal]; simp (maxSteps := 400000) only [go_sem, AV.bel, belL, nblt, AV.ren, renL, Blk.ren, hb, hbr, lbx, lrx, simprocAttr])
 clear tl hKK
 by_cases hnd : N d = []
 · rw [hnd, gqN] at big ⊢
   simp (maxSteps := 400000) only [go_sem, c1, c2, hx2, q, hxx, hcm, simprocAttr]
   exact Seam.ren [] big (by decide) (by decide) (by simp (maxSteps := 400000) only [go_sem, AV.bel, belL, nblt, AV.ren, renL, simprocAttr]) (by simp (maxSteps := 400000) only [go_sem, AV.bel, belL, nblt, AV.ren, renL, Blk.ren, hb, hbr, simprocAttr])
 · rw [gqC _ hnd] at big ⊢
   simp (maxSteps := 400000) only [go_sem, c1, c2, hx2, q, hxx, hcm, simprocAttr]
   exact Seam.ren [] big (by decide) (by decide) (by simp (maxSteps := 400000) only [go_sem, AV.bel, belL, nblt, AV.ren, renL, simprocAttr]) (by simp (maxSteps := 400000) only [go_sem, AV.bel, belL, nblt, AV.ren, renL, Blk.ren, hb, hbr, hNb, hNr, simprocAttr])
end Go.Proofs.Flz
end
section
/- Take, from the half on. -/
namespace Go.Proofs.Flz
open Go.Ab Go.Proofs.Flt
set_option maxRecDepth 100000
set_option maxHeartbeats 4000000
set_option linter.unusedSimpArgs false
set_option linter.unusedVariables false
def putR (nx : Int) (hs : List Flt.Hf) (i : Nat) (r : Option Flt.Hf) : Jn × List Nt × Int := match r with
 | some h => ((giveS nx (hs.set i h)).1, (giveS nx (hs.set i h)).2, 0)
 | none => (zJn, [], 5)
theorem tk_fill {g0 g1 g2 : Nat} (hG : [g0, g1, g2].Nodup) (nx : Int) (hn0 : 0 ≤ nx) (hn1 : nx ≤ 65536) (hs : List Flt.Hf) (hlen : hs.length ≤ 5) (hgl : ∀ x ∈ hs, x.got.length ≤ 100000) (i : Nat) (x : Flt.Hf) (hx : hs[i]? = some x) (p : Pc) (hfb : filB x p = true) :
 Seam F21 (.seq (.reg i23r18) (.seq (.reg i23r19) (.seq (.reg i23r20) (.seq (.block 2 (.loop i23l26)) (.seq (.dreg i23r27) .ret))))) (KT g0 g1 g2 (putR nx hs i (fillS x p))) [(10, .i .i64 (i : Int)), (7, .p 4 0), (4, .p 1 0), (5, .p 2 0), (6, .p 3 0)]
  [(5, { cells := rows Flt.Hf.l hs, gr := some 5 }), (4, { cells := p.l }), (1, { cells := [.i .i64 nx, .sg 5 0 hs.length], gid := some g0 }), (2, { cells := [.ns], gid := some g1 }), (3, { cells := [.i .i64 0], gid := some g2 })] 6 := by
 obtain ⟨b01, b02, b10, b12, b20, b21, b00, b11, b22⟩ := gids hG
 have hlt := (List.getElem?_eq_some_iff.1 hx).1
 have hxx : List.take 5 (List.drop (i * 5) (rows Flt.Hf.l hs)) = x.l := rows_at Flt.Hf.len hx
 have hLl : (rows Flt.Hf.l hs).length = hs.length * 5 := rows_len Flt.Hf.len
 have hb := fun j => hrB j hs
 have hbr := fun ψ => hrR ψ hs
 have c1 : decide (0 ≤ (i : Int) ∧ (i : Int) < (hs.length : Int)) = true := decide_eq_true (by omega)
 have c2 : decide (i * 5 + 5 ≤ hs.length * 5) = true := decide_eq_true (by omega)
 have hfl : ∀ h n, hget h 6 = some { cells := x.l } → k65 [.p 6 0, .agg p.l] h n = some (true, { v := .tup [], n, rd := [6], md := [(6, some { cells := ((fillS x p).getD x).l })], pn := filP (fillS x p) }) := fun h n h6 => by
  simp only [k65, pc5_l, Option.bind_some, h6, hf5_l, hfb]
  rfl
 have hfn : ∀ h, fillS x p = some h → h.got.length ≤ 1000000 := fun h hh => by
  have := (fill_len hh).1
  have := hgl x (List.mem_of_getElem? hx)
  omega
 have hset : ∀ h : Flt.Hf, List.take (i * 5) (rows Flt.Hf.l hs) ++ h.l ++ List.drop (i * 5 + 5) (rows Flt.Hf.l hs) = rows Flt.Hf.l (hs.set i h) := fun h => splice_set Flt.Hf.len hlt
 have give := fun h (hh : fillS x p = some h) => tk_give hG nx hn0 hn1 (hs.set i h) (by rw [List.length_set]; omega) (by rw [List.length_set]; exact hlen) (fun y hy => by
  rcases List.mem_or_eq_of_mem_set hy with h1 | rfl
  · have := hgl y h1; omega
  · exact hfn _ hh)
 generalize hR : fillS x p = r at *
 obtain ⟨xk, xl, xs, xb, xg⟩ := x
 obtain ⟨pk, pl, ps, po, pt⟩ := p
 simp only [Flt.Hf.l, Pc.l] at hxx hfl ⊢
 have hgb := fun j => grB j xg
 refine Seam.part (F := F21) hTC21 mo ?_
 dsimp only [F21, TC21]
 simp (maxSteps := 400000) only [go_sem, c1, hxx, AV.bel, belL, nblt, hgb, simprocAttr]
 cases r with
 | none =>
  refine Seam.part (F := F21) hTC21 mo ?_
  dsimp only [F21, TC21, KT, filP, Option.getD_none] at hfl ⊢
  dsimp only [i23]
  simp (maxSteps := 400000) only [go_sem, hfl, hglobC, hglob, b01, b02, b10, b12, b20, b21, b00, b11, b22, cond_true, cond_false, i58, refV, Option.map_some, getT, simprocAttr]
  exact ends_z
 | some h =>
  have give := give h rfl
  rw [List.length_set] at give
  have hset := hset h
  have hb2 := fun j => hrB j (hs.set i h)
  have hbr2 := fun ψ => hrR ψ (hs.set i h)
  obtain ⟨yk, yl, ys, yb, yg⟩ := h
  refine Seam.part (F := F21) hTC21 mo ?_
  dsimp only [F21, TC21, filP, Option.getD_some] at hfl ⊢
  have hyb := fun j => grB j yg
  have hyr := fun ψ => grR ψ yg
  simp only [Flt.Hf.l] at hset
  generalize rows Flt.Hf.l (hs.set i ⟨yk, yl, ys, yb, yg⟩) = L2 at *
  simp (maxSteps := 400000) only [go_sem, hfl, AV.bel, belL, nblt, hyb, simprocAttr]
  refine Seam.part (F := F21) hTC21 mo ?_
  dsimp only [F21, TC21]
  simp (maxSteps := 400000) only [go_sem, c1, c2, hLl, hset, AV.bel, belL, nblt, hyb, simprocAttr]
  exact Seam.ren [] give (by decide) (by decide) (by simp (maxSteps := 400000) only [go_sem, AV.bel, belL, nblt, AV.ren, renL, simprocAttr]) (by simp (maxSteps := 400000) only [go_sem, AV.bel, belL, nblt, AV.ren, renL, Blk.ren, hset, hb2, hbr2, simprocAttr])
end Go.Proofs.Flz
end
