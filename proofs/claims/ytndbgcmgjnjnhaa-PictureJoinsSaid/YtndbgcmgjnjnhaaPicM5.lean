/- The contract of a draft's Media. -/
import Derived.Test.YtndbgcmgjnjnhaaPicM4
namespace Go.Proofs.Pic
open Go.Ab
set_option maxRecDepth 100000
set_option maxHeartbeats 8000000
set_option linter.unusedSimpArgs false
set_option linter.unusedVariables false
theorem tk20 (l : List UInt8) : l.take (min (l.length : Int) 20).toNat = l.take 20 := by
 rcases Nat.le_total l.length 20 with h | h
 · rw [show (min (l.length : Int) 20).toNat = l.length by omega, List.take_length, List.take_of_length_le h]
 · rw [show (min (l.length : Int) 20).toNat = 20 by omega]
theorem tk60 (l : List UInt8) : l.take (min (l.length : Int) 60).toNat = l.take 60 := by
 rcases Nat.le_total l.length 60 with h | h
 · rw [show (min (l.length : Int) 60).toNat = l.length by omega, List.take_length, List.take_of_length_le h]
 · rw [show (min (l.length : Int) 60).toNat = 60 by omega]
theorem ck20 (l : List UInt8) : decide (0 ≤ min (l.length : Int) 20 ∧ min (l.length : Int) 20 ≤ (l.length : Int)) = true := decide_eq_true (by omega)
theorem ck60 (l : List UInt8) : decide (0 ≤ min (l.length : Int) 60 ∧ min (l.length : Int) 60 ≤ (l.length : Int)) = true := decide_eq_true (by omega)
abbrev iD2 : ICode := (.seq (.reg i32r7) (.seq (.seq (.reg i32r8) (.block 2 (.loop i32l13))) (.seq (.reg i32r14) .ret)))
noncomputable abbrev FD : Fx := ⟨Try.prog, cxT [], [41, 63], 100, 0⟩
theorem covN32 {ma : Bool} {ty sq tm ss pd : Int} {pl : List UInt8} {C : Go.Ab.Sh} {cl : List Int} {h : Hp} {n : Nat} (hC : C.is int1 1 cl) (hfr : C.fresh = true) (hcap : C.capOK) (hh : hasS h C 3) :
 CovS 0 (.agg [.b ma, .i .i64 ty, .i .i64 sq, .i .i64 tm, .i .i64 ss, C.v 3, .ns, .i .i64 pd, .s pl]) h n (.agg [.b ma, .i .i64 ty, .i .i64 sq, .i .i64 tm, .i .i64 ss, .fz (rows int1 cl) cl.length, .fz [] 0, .i .i64 pd, .s pl]) [] 0 := by
 refine CovS.frzS (h' := []) (v' := .agg [.b ma, .i .i64 ty, .i .i64 sq, .i .i64 tm, .i .i64 ss, .fz (rows int1 cl) cl.length, .ns, .i .i64 pd, .s pl]) hC hfr hcap hh (FzV.agg ⟨FzV.refl, FzV.refl, FzV.refl, FzV.refl, FzV.refl, FzV.hit, FzV.refl, FzV.refl, FzV.refl, trivial⟩) (fun c kk hc => by simp [hget] at hc) ?_
 refine CovS.frzN (l := []) (v' := .agg [.b ma, .i .i64 ty, .i .i64 sq, .i .i64 tm, .i .i64 ss, .fz (rows int1 cl) cl.length, .fz [] 0, .i .i64 pd, .s pl]) (FzV.agg ⟨FzV.refl, FzV.refl, FzV.refl, FzV.refl, FzV.refl, FzV.refl, FzV.hit, FzV.refl, FzV.refl, trivial⟩) ?_
 exact CovS.ends (Ends.pureE (by simp only [AV.bel, belL, rows_bel int1_bel, Bool.and_self]) rfl)
theorem covS32 {ma : Bool} {ty sq tm ss pd : Int} {pl : List UInt8} {C : Go.Ab.Sh} {cl : List Int} {h : Hp} {n b m : Nat} {L : List AV} {g : Option Nat} (hC : C.is int1 1 cl) (hfr : C.fresh = true) (hcap : C.capOK) (hh : hasS h C 3) (hb : b ≠ 3) (hk : hget h b = some { cells := L, gr := g }) (hL : belL 0 L = true) :
 CovS 0 (.agg [.b ma, .i .i64 ty, .i .i64 sq, .i .i64 tm, .i .i64 ss, C.v 3, .sg b 0 m, .i .i64 pd, .s pl]) h n (.agg [.b ma, .i .i64 ty, .i .i64 sq, .i .i64 tm, .i .i64 ss, .fz (rows int1 cl) cl.length, .fz L m, .i .i64 pd, .s pl]) [] 0 := by
 refine CovS.frzS (h' := [(b, { cells := L, gr := g })]) (v' := .agg [.b ma, .i .i64 ty, .i .i64 sq, .i .i64 tm, .i .i64 ss, .fz (rows int1 cl) cl.length, .sg b 0 m, .i .i64 pd, .s pl]) hC hfr hcap hh (FzV.agg ⟨FzV.refl, FzV.refl, FzV.refl, FzV.refl, FzV.refl, FzV.hit, FzV.refl, FzV.refl, FzV.refl, trivial⟩) (fun c kk hc => ?_) ?_
 · have := hget_mem hc
   simp only [List.mem_singleton, Prod.mk.injEq] at this
   obtain ⟨rfl, rfl⟩ := this
   exact ⟨hb, hk⟩
 refine CovS.frz (b := b) (k := { cells := L, gr := g }) (h' := []) (o := 0) (m := m) (cs := L) (v' := .agg [.b ma, .i .i64 ty, .i .i64 sq, .i .i64 tm, .i .i64 ss, .fz (rows int1 cl) cl.length, .fz L m, .i .i64 pd, .s pl]) (by simp [hget]) rfl (.inr rfl) (.inl rfl) (FzV.agg ⟨FzV.refl, FzV.refl, FzV.refl, FzV.refl, FzV.refl, FzV.refl, FzV.hit, FzV.refl, FzV.refl, trivial⟩) (fun c kk hc => by simp [hget] at hc) ?_
 exact CovS.ends (Ends.pureE (by simp only [AV.bel, belL, hL, rows_bel int1_bel, Bool.and_self]) rfl)
theorem part32 (ma : Bool) (ty sq tm ss pd : Int) (pl : List UInt8) (C : Go.Ab.Sh) (cl : List Int) (xs : List Xt) (R : AV)
 (hC : C.is int1 1 cl) (hfr : C.fresh = true) (hcap : C.capOK) (h7 : ∀ x ∈ xs, 0 ≤ x.1 ∧ x.1 ≤ 255)
 (hR : R = .agg [.b ma, .i .i64 ty, .i .i64 sq, .i .i64 tm, .i .i64 ss, .fz (rows int1 cl) cl.length, .fz (rows xtR (extD 0 (xs.take 4))) (extD 0 (xs.take 4)).length, .i .i64 pd, .s pl])
 (u0 u1 u2 u3 u4 u5 u7 u8 : AV) :
 Seam FD iD2 (retK [.c 2 true 9] fun v h' n' => CovS 0 v h' n' R [] 0) [(3, .p 2 0), (2, .p 1 0), (1, .p 0 0)]
  ((2, { cells := [.b ma, .i .i64 ty, .i .i64 sq, .i .i64 tm, .i .i64 ss, C.v 3, .ns, .i .i64 pd, .s pl] }) :: (1, { cells := [.b false, .i .i64 0, .i .i64 0, .i .i64 0, .i .i64 0, .ns, .ns, .i .i64 0, .s []] }) :: (0, { cells := [u0, u1, u2, u3, u4, u5, .fz (rows pcR xs) xs.length, u7, u8] }) :: C.h 3) 4 := by
 refine Seam.run Sound.nil mo ?_
 dsimp only [FD, iD2]
 have rest : ∀ (y id : Int), 0 ≤ id ∧ id ≤ 1000 → 0 ≤ y ∧ y ≤ 255 → y.tmod 60 = y % 60 ∧ IntKind.i64.wrap (y % 60) = y % 60 ∧ IntKind.i64.wrap (id + 1) = id + 1 ∧ IntKind.i64.wrap (id + 1 + y % 60) = id + 1 + y % 60 := fun y id hi hy =>
  ⟨Int.tmod_eq_emod_of_nonneg hy.1, wrapL (by omega) (by omega), wrapL (by omega) (by omega), wrapL (by omega) (by omega)⟩
 rcases xs with _ | ⟨x0, _ | ⟨x1, _ | ⟨x2, _ | ⟨x3, r⟩⟩⟩⟩
 · simp (maxSteps := 400000) only [go_sem, simprocAttr]
   refine Loop.rounds (F := FD) 1 Sound.nil mo ?_
   dsimp only [FD]
   simp (maxSteps := 400000) only [go_sem, simprocAttr]
   rw [hR]
   exact covN32 hC hfr hcap (by simp [hasS_cons, hasS_hit0])
 · have e0 : 0 ≤ x0.1 % 60 ∧ x0.1 % 60 < 60 := by have := h7 x0 (by simp); omega
   obtain ⟨a0, b0, c0, d0⟩ := rest x0.1 0 (by omega) (h7 x0 (by simp))
   rw [Int.zero_add] at c0 d0
   simp (maxSteps := 400000) only [go_sem, simprocAttr]
   refine Loop.rounds (F := FD) 2 Sound.nil mo ?_
   dsimp only [FD]
   simp (maxSteps := 400000) only [go_sem, a0, b0, c0, d0, tk20, ck20, rows_cons, rows_nil, pcR, growMax, simprocAttr]
   rw [hR]
   have hx : extD 0 (List.take 4 ([x0])) = [(1 + x0.1 % 60, x0.2.take 20)] := by simp [extD]
   rw [hx]
   exact covS32 hC hfr hcap (by simp [hasS_cons, hasS_hit0]) (by decide) rfl rfl
 · have e0 : 0 ≤ x0.1 % 60 ∧ x0.1 % 60 < 60 := by have := h7 x0 (by simp); omega
   have e1 : 0 ≤ x1.1 % 60 ∧ x1.1 % 60 < 60 := by have := h7 x1 (by simp); omega
   obtain ⟨a0, b0, c0, d0⟩ := rest x0.1 0 (by omega) (h7 x0 (by simp))
   rw [Int.zero_add] at c0 d0
   obtain ⟨a1, b1, c1, d1⟩ := rest x1.1 (1 + x0.1 % 60) (by omega) (h7 x1 (by simp))
   simp (maxSteps := 400000) only [go_sem, simprocAttr]
   refine Loop.rounds (F := FD) 3 Sound.nil mo ?_
   dsimp only [FD]
   simp (maxSteps := 400000) only [go_sem, a0, b0, c0, d0, a1, b1, c1, d1, tk20, ck20, rows_cons, rows_nil, pcR, growMax, simprocAttr]
   rw [hR]
   have hx : extD 0 (List.take 4 ([x0, x1])) = [(1 + x0.1 % 60, x0.2.take 20), (1 + x0.1 % 60 + 1 + x1.1 % 60, x1.2.take 20)] := by simp [extD]
   rw [hx]
   exact covS32 hC hfr hcap (by simp [hasS_cons, hasS_hit0]) (by decide) rfl rfl
 · have e0 : 0 ≤ x0.1 % 60 ∧ x0.1 % 60 < 60 := by have := h7 x0 (by simp); omega
   have e1 : 0 ≤ x1.1 % 60 ∧ x1.1 % 60 < 60 := by have := h7 x1 (by simp); omega
   have e2 : 0 ≤ x2.1 % 60 ∧ x2.1 % 60 < 60 := by have := h7 x2 (by simp); omega
   obtain ⟨a0, b0, c0, d0⟩ := rest x0.1 0 (by omega) (h7 x0 (by simp))
   rw [Int.zero_add] at c0 d0
   obtain ⟨a1, b1, c1, d1⟩ := rest x1.1 (1 + x0.1 % 60) (by omega) (h7 x1 (by simp))
   obtain ⟨a2, b2, c2, d2⟩ := rest x2.1 (1 + x0.1 % 60 + 1 + x1.1 % 60) (by omega) (h7 x2 (by simp))
   simp (maxSteps := 400000) only [go_sem, simprocAttr]
   refine Loop.rounds (F := FD) 4 Sound.nil mo ?_
   dsimp only [FD]
   simp (maxSteps := 400000) only [go_sem, a0, b0, c0, d0, a1, b1, c1, d1, a2, b2, c2, d2, tk20, ck20, rows_cons, rows_nil, pcR, growMax, simprocAttr]
   rw [hR]
   have hx : extD 0 (List.take 4 ([x0, x1, x2])) = [(1 + x0.1 % 60, x0.2.take 20), (1 + x0.1 % 60 + 1 + x1.1 % 60, x1.2.take 20), (1 + x0.1 % 60 + 1 + x1.1 % 60 + 1 + x2.1 % 60, x2.2.take 20)] := by simp [extD]
   rw [hx]
   exact covS32 hC hfr hcap (by simp [hasS_cons, hasS_hit0]) (by decide) rfl rfl
 · have e0 : 0 ≤ x0.1 % 60 ∧ x0.1 % 60 < 60 := by have := h7 x0 (by simp); omega
   have e1 : 0 ≤ x1.1 % 60 ∧ x1.1 % 60 < 60 := by have := h7 x1 (by simp); omega
   have e2 : 0 ≤ x2.1 % 60 ∧ x2.1 % 60 < 60 := by have := h7 x2 (by simp); omega
   have e3 : 0 ≤ x3.1 % 60 ∧ x3.1 % 60 < 60 := by have := h7 x3 (by simp); omega
   obtain ⟨a0, b0, c0, d0⟩ := rest x0.1 0 (by omega) (h7 x0 (by simp))
   rw [Int.zero_add] at c0 d0
   obtain ⟨a1, b1, c1, d1⟩ := rest x1.1 (1 + x0.1 % 60) (by omega) (h7 x1 (by simp))
   obtain ⟨a2, b2, c2, d2⟩ := rest x2.1 (1 + x0.1 % 60 + 1 + x1.1 % 60) (by omega) (h7 x2 (by simp))
   obtain ⟨a3, b3, c3, d3⟩ := rest x3.1 (1 + x0.1 % 60 + 1 + x1.1 % 60 + 1 + x2.1 % 60) (by omega) (h7 x3 (by simp))
   have g0 : decide ((0 : Int) < (r.length : Int) + 1 + 1 + 1 + 1) = true := decide_eq_true (by omega)
   have g1 : decide ((1 : Int) < (r.length : Int) + 1 + 1 + 1 + 1) = true := decide_eq_true (by omega)
   have g2 : decide ((2 : Int) < (r.length : Int) + 1 + 1 + 1 + 1) = true := decide_eq_true (by omega)
   have g3 : decide ((3 : Int) < (r.length : Int) + 1 + 1 + 1 + 1) = true := decide_eq_true (by omega)
   have nn : ((r.length + 1 + 1 + 1 + 1 : Nat) : Int) = (r.length : Int) + 1 + 1 + 1 + 1 := by omega
   cases g4 : decide ((4 : Int) < (r.length : Int) + 1 + 1 + 1 + 1)
   all_goals
    simp (maxSteps := 400000) only [go_sem, simprocAttr]
    refine Loop.rounds (F := FD) 5 Sound.nil mo ?_
    dsimp only [FD]
    simp (maxSteps := 400000) only [go_sem, a0, b0, c0, d0, a1, b1, c1, d1, a2, b2, c2, d2, a3, b3, c3, d3, g0, g1, g2, g3, g4, nn, tk20, ck20, rows_cons, rows_nil, pcR, growMax, simprocAttr]
    rw [hR]
    have hx : extD 0 (List.take 4 (x0 :: x1 :: x2 :: x3 :: r)) = [(1 + x0.1 % 60, x0.2.take 20), (1 + x0.1 % 60 + 1 + x1.1 % 60, x1.2.take 20), (1 + x0.1 % 60 + 1 + x1.1 % 60 + 1 + x2.1 % 60, x2.2.take 20), (1 + x0.1 % 60 + 1 + x1.1 % 60 + 1 + x2.1 % 60 + 1 + x3.1 % 60, x3.2.take 20)] := by simp [extD]
    rw [hx]
    exact covS32 hC hfr hcap (by simp [hasS_cons, hasS_hit0]) (by decide) rfl rfl
theorem w32 (p : Dm) (hp : p.ok) : FTL Try.prog 32 [.agg p.l] [] 0 (.agg p.md.l) [] 0 := by
 obtain ⟨ma, ty, sq, tm, ss, cs, xs, pd, pl⟩ := p
 obtain ⟨h1, h2, h3, h4, h5, h6, h7⟩ := hp
 dsimp only at h1 h2 h3 h4 h5 h6 h7
 refine FTL.of_seamC (cx := cxT []) Try.func32 i32_eq (by simp [i32]) ?_
 dsimp only [i32, Dm.l]
 have m1 : ty.tmod 128 = ty % 128 := Int.tmod_eq_emod_of_nonneg h1.1
 have m2 : IntKind.i64.wrap (ty % 128) = ty % 128 := wrapL (by omega) (by omega)
 have m3 : IntKind.i64.wrap sq = sq := wrapL (by omega) (by omega)
 have m4 : IntKind.i64.wrap tm = tm := wrapL (by omega) (by omega)
 have m5 : IntKind.i64.wrap ss = ss := wrapL (by omega) (by omega)
 have m6 : IntKind.i64.wrap pd = pd := wrapL (by omega) (by omega)
 refine Seam.part Sound.nil mo ?_
 simp (maxSteps := 400000) only [go_sem, simprocAttr]
 refine Seam.part Sound.nil mo ?_
 simp (maxSteps := 400000) only [go_sem, m1, m2, m3, m4, m5, m6, tk60, ck60, simprocAttr]
 refine Seam.part Sound.nil mo ?_
 have go : ∀ (C : Go.Ab.Sh), C.is int1 1 (cs.take 3) → C.fresh = true → C.capOK → Seam FD iD2 (retK [.c 2 true 9] fun v h' n' => CovS 0 v h' n' (.agg (Dm.md ⟨ma, ty, sq, tm, ss, cs, xs, pd, pl⟩).l) [] 0) [(3, .p 2 0), (2, .p 1 0), (1, .p 0 0)]
  ((2, { cells := [.b ma, .i .i64 (ty % 128), .i .i64 sq, .i .i64 tm, .i .i64 ss, C.v 3, .ns, .i .i64 pd, .s (pl.take 60)] }) :: (1, { cells := [.b false, .i .i64 0, .i .i64 0, .i .i64 0, .i .i64 0, .ns, .ns, .i .i64 0, .s []] }) :: (0, { cells := [.b ma, .i .u8 ty, .i .u16 sq, .i .u32 tm, .i .u32 ss, .fz (rows u32R cs) cs.length, .fz (rows pcR xs) xs.length, .i .u8 pd, .s pl] }) :: C.h 3) 4 :=
  fun C a b c => part32 ma (ty % 128) sq tm ss pd (pl.take 60) C (cs.take 3) xs _ a b c h7 rfl _ _ _ _ _ _ _ _
 have hXb : belL 4 (rows pcR xs) = true := belL_mono0 _ (rows_bel pcR_bel)
 have hUb : ∀ l : List Int, belL 4 (rows u32R l) = true := fun l => belL_mono0 _ (rows_bel u32R_bel)
 have hXr : ∀ ψ, renL ψ (rows pcR xs) = rows pcR xs := fun ψ => renL_fix0 _ (rows_bel pcR_bel)
 have hUr : ∀ ψ (l : List Int), renL ψ (rows u32R l) = rows u32R l := fun ψ l => renL_fix0 _ (rows_bel u32R_bel)
 generalize (Dm.md ⟨ma, ty, sq, tm, ss, cs, xs, pd, pl⟩).l = R at go ⊢
 rcases cs with _ | ⟨y0, _ | ⟨y1, _ | ⟨y2, r⟩⟩⟩
 · simp (maxSteps := 400000) only [go_sem, simprocAttr]
   refine Loop.rounds (F := FD) 1 Sound.nil mo ?_
   dsimp only [FD]
   simp (maxSteps := 400000) only [go_sem, rows_cons, rows_nil, u32R, growMax, simprocAttr]
   refine Seam.ren [] (go Go.Ab.Sh.nil (by first | exact ⟨rfl, rfl, rfl⟩ | simp [Go.Ab.Sh.is]) rfl trivial) (by decide) (by decide) ?_ ?_
   · simp (maxSteps := 400000) only [go_sem, AV.ren, renL, AV.bel, belL, nblt, simprocAttr]
   · simp (maxSteps := 400000) only [go_sem, rows_cons, rows_nil, u32R, fv_n, fv_sg, fh_n, fh_sg, Blk.ren, AV.ren, renL, AV.bel, belL, nblt, hXb, hUb, hXr, hUr, simprocAttr]
 · have a0 : IntKind.i64.wrap y0 = y0 := by have := h6 y0 (by simp); exact wrapL (by omega) (by omega)
   simp (maxSteps := 400000) only [go_sem, simprocAttr]
   refine Loop.rounds (F := FD) 2 Sound.nil mo ?_
   dsimp only [FD]
   simp (maxSteps := 400000) only [go_sem, a0, rows_cons, rows_nil, u32R, growMax, simprocAttr]
   refine Seam.ren [(3, 4)] (go (Go.Ab.Sh.sg { cells := [.i .i64 y0], gr := some 1 } 0 1) (by first | exact ⟨rfl, rfl, rfl⟩ | simp [Go.Ab.Sh.is]) rfl trivial) (by decide) (by decide) ?_ ?_
   · simp (maxSteps := 400000) only [go_sem, AV.ren, renL, AV.bel, belL, nblt, simprocAttr]
   · simp (maxSteps := 400000) only [go_sem, rows_cons, rows_nil, u32R, fv_n, fv_sg, fh_n, fh_sg, Blk.ren, AV.ren, renL, AV.bel, belL, nblt, hXb, hUb, hXr, hUr, simprocAttr]
 · have a0 : IntKind.i64.wrap y0 = y0 := by have := h6 y0 (by simp); exact wrapL (by omega) (by omega)
   have a1 : IntKind.i64.wrap y1 = y1 := by have := h6 y1 (by simp); exact wrapL (by omega) (by omega)
   simp (maxSteps := 400000) only [go_sem, simprocAttr]
   refine Loop.rounds (F := FD) 3 Sound.nil mo ?_
   dsimp only [FD]
   simp (maxSteps := 400000) only [go_sem, a0, a1, rows_cons, rows_nil, u32R, growMax, simprocAttr]
   refine Seam.ren [(3, 6)] (go (Go.Ab.Sh.sg { cells := [.i .i64 y0, .i .i64 y1], gr := some 1 } 0 2) (by first | exact ⟨rfl, rfl, rfl⟩ | simp [Go.Ab.Sh.is]) rfl trivial) (by decide) (by decide) ?_ ?_
   · simp (maxSteps := 400000) only [go_sem, AV.ren, renL, AV.bel, belL, nblt, simprocAttr]
   · simp (maxSteps := 400000) only [go_sem, rows_cons, rows_nil, u32R, fv_n, fv_sg, fh_n, fh_sg, Blk.ren, AV.ren, renL, AV.bel, belL, nblt, hXb, hUb, hXr, hUr, simprocAttr]
 · have a0 : IntKind.i64.wrap y0 = y0 := by have := h6 y0 (by simp); exact wrapL (by omega) (by omega)
   have a1 : IntKind.i64.wrap y1 = y1 := by have := h6 y1 (by simp); exact wrapL (by omega) (by omega)
   have a2 : IntKind.i64.wrap y2 = y2 := by have := h6 y2 (by simp); exact wrapL (by omega) (by omega)
   have g0 : decide ((0 : Int) < (r.length : Int) + 1 + 1 + 1) = true := decide_eq_true (by omega)
   have g1 : decide ((1 : Int) < (r.length : Int) + 1 + 1 + 1) = true := decide_eq_true (by omega)
   have g2 : decide ((2 : Int) < (r.length : Int) + 1 + 1 + 1) = true := decide_eq_true (by omega)
   have nn : ((r.length + 1 + 1 + 1 : Nat) : Int) = (r.length : Int) + 1 + 1 + 1 := by omega
   cases g3 : decide ((3 : Int) < (r.length : Int) + 1 + 1 + 1)
   all_goals
    simp (maxSteps := 400000) only [go_sem, simprocAttr]
    refine Loop.rounds (F := FD) 4 Sound.nil mo ?_
    dsimp only [FD]
    simp (maxSteps := 400000) only [go_sem, a0, a1, a2, g0, g1, g2, g3, nn, rows_cons, rows_nil, u32R, growMax, simprocAttr]
    refine Seam.ren [(3, 8)] (go (Go.Ab.Sh.sg { cells := [.i .i64 y0, .i .i64 y1, .i .i64 y2], gr := some 1 } 0 3) (by first | exact ⟨rfl, rfl, rfl⟩ | simp [Go.Ab.Sh.is]) rfl trivial) (by decide) (by decide) ?_ ?_
    · simp (maxSteps := 400000) only [go_sem, AV.ren, renL, AV.bel, belL, nblt, simprocAttr]
    · simp (maxSteps := 400000) only [go_sem, rows_cons, rows_nil, u32R, fv_n, fv_sg, fh_n, fh_sg, Blk.ren, AV.ren, renL, AV.bel, belL, nblt, hXb, hUb, hXr, hUr, simprocAttr]
end Go.Proofs.Pic
