/- JitterPlays: the walk, joined. -/
import Derived.Test.YtcpgamgkbbckoaaJitL5b
namespace Go.Proofs.Jit
open Go.Ab
set_option maxRecDepth 100000
set_option maxHeartbeats 4000000
set_option linter.unusedSimpArgs false
set_option linter.unusedVariables false
theorem puts0 (h20 : SoundAt Try.prog 20 k20) (ck : Int) (P : List Md) {K : Kont} (e : Env) (h : Hp) (n : Nat)
 (he : EnvIn 3 e [(6, .fz (rows Md.l P) P.length), (7, .p 1 0), (85, .i .i64 0), (86, .i .i64 ((0 : Nat) : Int))])
 (hh : HpIn 3 h [(1, { cells := (evZ ck).a })])
 (hK : ∀ e', eget e' 6 = some (.fz (rows Md.l P) P.length) → eget e' 7 = some (.p 1 0) → K (.exit 2) e' [(1, { cells := (evZ ck).a })] 3) :
 Ab.Loop Try.prog cts5 206 0 i5l30 K e h n := by
 refine Loop.countI (F := ⟨Try.prog, cxT T5, cts5, 206, 0⟩) (hT5 h20) mo 0 (fun k => k = 0)
  (fun k => [(6, .fz (rows Md.l P) P.length), (7, .p 1 0), (85, .i .i64 0), (86, .i .i64 (k : Int))])
  (fun k => [(1, { cells := (evZ ck).a })]) 3 (by decide) rfl he hh (fun k hk hk0 => ?_)
 subst hk0
 dsimp only [T5]
 have c1 : decide (((0 : Nat) : Int) < 0) = false := rfl
 simp (maxSteps := 400000) only [go_sem, c1, simprocAttr]
 exact hK _ rfl rfl
theorem w5 (h20 : SoundAt Try.prog 20 k20) (d : Dj) (ord : List Int) (hd : DjOK d = true) (hord : ∀ x ∈ ord, 0 ≤ x ∧ x ≤ 255) : FTL Try.prog 5 [.agg d.l, .fz (rows u8R ord) ord.length] [] 0 (.b true) [] 0 := by
 have hT := hT5 h20
 have hok := hd
 simp only [DjOK, SmOK, Bool.and_eq_true, decide_eq_true_eq, List.all_eq_true] at hok
 obtain ⟨d1, ⟨d2, d3, d4, d5⟩, d6, d7⟩ := hok
 have hd1 := inI_t d1
 have hd2 := inI_t d2
 have hd3 := inI_t d3
 have h10 : ∀ (h : Hp) n, k10 [.agg d.l] h n = some (true, { v := .i .i64 (startS d), n }) := fun h n => by simp only [k10, dj5_l, Option.bind_some, d1]
 have hst : 1 ≤ startS d ∧ startS d ≤ 96 := by unfold startS; omega
 have h18 : ∀ (h : Hp) n, k18 [.i .i64 (startS d)] h n = some (true, { v := .tup [.agg (evZ (startS d)).a, .i .i64 0], n }) := fun h n => by
  have : inI 1 96 (startS d) = true := inI_of hst
  simp only [k18, newS, this, cond_true, bfV]
  rfl
 have hsm : SmOK d.s = true := by
  simp only [SmOK, Bool.and_eq_true, decide_eq_true_eq, List.all_eq_true]
  exact ⟨d2, d3, d4, d5⟩
 have h9 : ∀ (h : Hp) n, k9 [.agg d.s.l, .i .i64 (startS d)] h n = some (true, { v := .fz (rows Md.l (pksS (startS d) d.s)) (pksS (startS d) d.s).length, n }) := fun h n => by
  have : inI 1 96 (startS d) = true := inI_of hst
  simp only [k9, sm3_l, Option.bind_some, hsm, this, Bool.and_self]
 have hpf : ∀ p ∈ pksS (startS d) d.s, p.fin = true := pks_fin _ _ _
 generalize startS d = ck at *
 obtain ⟨ck0, ⟨sq, tm, fr⟩, evs⟩ := d
 obtain ⟨g, hP⟩ := pksS_L (ck := ck) (sq := sq) (tm := tm) (fr := fr)
 dsimp only at hd1 hd2 hd3 d5 d6 d7 hpf h9
 have d6' : ∀ e ∈ evs, inI 0 65535 e.wt = true ∧ inI 0 255 e.pk = true := fun e he => by
  have := d6 e he
  simpa only [Bool.and_eq_true] using this
 generalize pksS ck ⟨sq, tm, fr⟩ = P at *
 have hTo := turn_ok hP ord
 have hPl := hP.len
 have tn := fun (K : Kont) (e : Env) (h : Hp) (n : Nat) => @turn5 h20 ck0 ck sq tm fr evs P ord (evZ ck) 0 hPl hord K e h n
 have pt := fun (K : Kont) (e : Env) (h : Hp) (n : Nat) => @puts5 h20 ck0 ck sq tm fr evs P (turnN P ord P.length) g hst hP hTo hpf d6' K e h n
 have tk := fun b0 hb0 (K : Kont) (e : Env) (h : Hp) (n : Nat) => @takes5 h20 ck0 ck sq tm fr evs P g b0 hst hP hpf hb0 K e h n
 have hz : turnN P ord 0 = [] := rfl
 rw [hz] at tn
 have hTl := hTo.len
 generalize turnN P ord P.length = T at *
 simp only [Dj.l, Sm.l] at h10 h9 ⊢
 have hlA : ∀ b : Bf, b.a.length = 11 := fun b => rfl
 have htA : ∀ b : Bf, List.take 11 b.a = b.a := fun b => List.take_of_length_le (by rw [hlA]; omega)
 have hoA : ∀ b : Bf, oneAll b.a = true := fun b => rfl
 have hbA : ∀ (b : Bf) j, belL j b.a = true := fun b j => Bf.bel' b j
 have hPb : ∀ j, belL j (rows Md.l P) = true := fun j => mrB j P
 have hTb : ∀ j, belL j (rows Md.l T) = true := fun j => mrB j T
 have hOb : ∀ j, belL j (rows u8R ord) = true := fun j => u8B j ord
 have hOr : ∀ ψ, renL ψ (rows u8R ord) = rows u8R ord := fun ψ => renL_fix0 _ (rows_bel u8R_bel)
 have hFr : ∀ ψ, renL ψ (rows u8R fr) = rows u8R fr := fun ψ => renL_fix0 _ (rows_bel u8R_bel)
 have hEr : ∀ ψ, renL ψ (rows Ev.l evs) = rows Ev.l evs := fun ψ => renL_fix0 _ (rows_bel Ev.bel)
 have hBr : ∀ ψ, renL ψ (evZ ck).a = (evZ ck).a := fun ψ => renL_fix0 _ (Bf.bel _)
 have hPr : ∀ ψ, renL ψ (rows Md.l P) = rows Md.l P := fun ψ => renL_fix0 _ (rows_bel Md.bel)
 have hA9 : ∀ b : Bf, b.a[9]? = some (.i .i64 b.lo) := fun b => rfl
 have hA10 : ∀ b : Bf, b.a[10]? = some (.fz (rows Hd.l b.l) b.l.length) := fun b => rfl
 have w1 : IntKind.i64.wrap ((P.length : Int) + 1) = ((P.length + 1 : Nat) : Int) := by rw [wrapL (by omega) (by omega)]; omega
 refine FTL.of_iw hT mo Try.func5 i5_eq (by simp [i5]) (iw_of_jw ?_)
 dsimp only [i5, T5]
 simp (maxSteps := 400000) only [go_sem, k20, h10, h9, h18, hlA, htA, hoA, List.drop_zero, simprocAttr]
 refine tn _ _ _ _ ?_ ?_ (fun e' g2 g6 g7 g9 => ?_)
 · simp (maxSteps := 400000) only [go_sem, gQ_nil, fv_n, List.length_nil, hPb, hOb, hPr, hOr, AV.bel, belL, nblt, AV.ren, renL, simprocAttr]
 · simp (maxSteps := 400000) only [go_sem, gQ_nil, fh_n, hbA, hFr, hEr, hBr, u8B, evB, AV.bel, belL, nblt, Blk.ren, AV.ren, renL, simprocAttr]
 by_cases h0 : P.length = 0
 · have hT0 : T = [] := List.eq_nil_of_length_eq_zero (by omega)
   have hP0 : P = [] := List.eq_nil_of_length_eq_zero h0
   subst hT0 hP0
   rw [gQ_nil] at g9 ⊢
   simp only [fv_n, fh_n, List.nil_append] at g9 ⊢
   simp (maxSteps := 400000) only [go_sem, g2, g6, g7, g9, simprocAttr]
   refine puts0 h20 ck [] _ _ _ ?_ ?_ (fun e'' g6' g7' => ?_)
   · simp (maxSteps := 400000) only [go_sem, g2, g6, g7, g9, hPb, AV.bel, belL, nblt, simprocAttr]
   · simp (maxSteps := 400000) only [go_sem, hbA, hTb, u8B, evB, AV.bel, belL, nblt, simprocAttr]
   · simp (maxSteps := 400000) only [go_sem, g6', g7', w1, simprocAttr]
     refine tk (evZ ck) ⟨.inl ⟨rfl, rfl, rfl⟩, rfl, Nat.zero_le _, Nat.le_refl _, by show (0 : Int) ≤ 0 ∧ (0 : Int) ≤ _; omega⟩ _ _ _ _ ?_ ?_ (fun e3 h3 n3 c g6 g7 g16 hh hlo hl0 => ?_)
     · simp (maxSteps := 400000) only [go_sem, g6', g7', w1, hPb, AV.bel, belL, nblt, simprocAttr]
     · simp (maxSteps := 400000) only [go_sem, hbA, AV.bel, belL, nblt, simprocAttr]
     · simp (maxSteps := 400000) only [go_sem, g6, g7, g16, hh, hlo, hl0, hA9, hA10, simprocAttr]
       exact Ends.pureE rfl rfl
 · have hT0 : T.length ≠ 0 := by omega
   rw [gQ_ne hT0] at g9 ⊢
   simp only [Sh.v, Sh.h] at g9 ⊢
   simp (maxSteps := 400000) only [go_sem, g2, g6, g7, g9, simprocAttr]
   refine pt _ _ _ _ ?_ ?_ (fun e'' b g6' g7' hb => ?_)
   · simp (maxSteps := 400000) only [go_sem, g2, g6, g7, g9, hPb, AV.bel, belL, nblt, simprocAttr]
   · simp (maxSteps := 400000) only [go_sem, hbA, hTb, u8B, evB, AV.bel, belL, nblt, simprocAttr]
   · simp (maxSteps := 400000) only [go_sem, g6', g7', w1, simprocAttr]
     refine tk b ?_ _ _ _ _ ?_ ?_ (fun e3 h3 n3 c g6 g7 g16 hh hlo hl0 => ?_)
     · obtain ⟨S0, hI⟩ := hb.inv (by omega)
       have hti := hb.ti
       exact ⟨.inr ⟨S0, hI⟩, held_all hP hI (by rw [hb.len, hTl]), Nat.zero_le _, Nat.le_refl _, by omega⟩
     · simp (maxSteps := 400000) only [go_sem, g6', g7', w1, hPb, AV.bel, belL, nblt, simprocAttr]
     · simp (maxSteps := 400000) only [go_sem, hbA, AV.bel, belL, nblt, simprocAttr]
     · simp (maxSteps := 400000) only [go_sem, g6, g7, g16, hh, hlo, hl0, hA9, hA10, simprocAttr]
       exact Ends.pureE rfl rfl
end Go.Proofs.Jit
