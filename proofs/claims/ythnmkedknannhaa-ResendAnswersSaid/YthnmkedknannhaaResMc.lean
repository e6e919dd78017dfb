/- Texts laid as one: ResM6 ResM7 ResM8. -/
import Derived.Test.YthnmkedknannhaaResMa
section
/- Contracts of Clone, IndexFunc and DeleteFunc over what was kept. -/
namespace Go.Proofs.Res
open Go.Ab
set_option maxRecDepth 100000
set_option maxHeartbeats 4000000
set_option linter.unusedSimpArgs false
set_option linter.unusedVariables false
def goneK (now lq d : Int) (x : Kp) : Bool := decide (now - x.ti > 2000) || decide (lead x.p.sq lq - d < -16384)
def okK (x : Kp) : Bool := inI 0 65535 x.p.sq && inI 0 1099511627776 x.ti
/-! Clone and DeleteFunc -/
theorem w92_0 (L : List AV) : FTL Try.prog 92 [.fz L 0] [] 0 .ze [] 0 := cln_0 mo Try.func92 (z := 11) (bytes := 128) (zs := [.b false, .i .i64 0, .i .i64 0, .i .i64 0, .i .i64 0, .ns, .ns, .i .i64 0, .s [], .i .i64 0, .i .i64 0]) i92_eq L
theorem w92_1 (x : Kp) (l : List Kp) (hl : l.length ≤ 1000000000) : FTL Try.prog 92 [.fz (rows Kp.l (x :: l)) (l.length + 1)] [] 0 (.sg 0 0 (l.length + 1)) [(0, { cells := rows Kp.l (x :: l), gr := some 11 })] 1 :=
 cln_1 mo Try.func92 (z := 11) (bytes := 128) (zs := [.b false, .i .i64 0, .i .i64 0, .i .i64 0, .i .i64 0, .ns, .ns, .i .i64 0, .s [], .i .i64 0, .i .i64 0]) i92_eq (by rw [rows_len Kp.len]; rfl) (rows_one1 Kp.one _) (rows_bel Kp.bel) (by simp only [growMax]; omega)
def k92 : Ct
 | [.fz L m], _, n => (unrows 11 kp11 m L).bind fun l => match l with
  | [] => some (true, { v := .ze, n })
  | x :: r => some (decide (r.length ≤ 1000000000), { v := .sg n 0 (r.length + 1), n := n + 1, nw := [(n, { cells := rows Kp.l (x :: r), gr := some 11 })] })
 | [.ns], _, n => some (true, { v := .ze, n })
 | _, _, _ => none
theorem s92 : SoundAt Try.prog 92 k92 := fun args h n c E hc ht => by
 unfold k92 at hc
 split at hc
 · rename_i L m
   simp only [Option.bind_eq_some_iff] at hc
   obtain ⟨l, hl, hc⟩ := hc
   obtain ⟨rfl, hm⟩ := unrows_eq (f := Kp.l) (fun c a h => kp11_eq h) hl
   subst hm
   split at hc
   · cases hc
     exact CallOK.pure (by kernel_rfl) rfl rfl (w92_0 _) _ _
   · rename_i x r
     cases hc
     have := CallOK.new1 (h := h) (n := n) (by kernel_rfl) (by simp only [belL, AV.bel, rows_bel Kp.bel, Bool.and_self]) (rows_bel Kp.bel) rfl (w92_1 x r (of_decide_eq_true ht))
     simpa [AV.ren] using this
 · cases hc
   exact CallOK.pure (by kernel_rfl) rfl rfl (FTL.wkaH Wka.ns (w92_0 [])) _ _
 · cases hc
def keepK (now lq d : Int) (l : List Kp) : List Kp := l.filter fun x => !goneK now lq d x
end Go.Proofs.Res
end
section
/- Contracts of start, old and Keep. -/
namespace Go.Proofs.Res
open Go.Ab
set_option maxRecDepth 100000
set_option maxHeartbeats 4000000
set_option linter.unusedSimpArgs false
set_option linter.unusedVariables false
def finH (h : Hs) : Bool := h.l.all (fun x => x.p.fin)
def lateH (h : Hs) (now : Int) : Int := bif goodH h then (bif inI h.ti 1099511627776 now then 0 else 2) else 281
theorem lateH_0 {h : Hs} {now : Int} (e : lateH h now = 0) : goodH h = true ∧ inI h.ti 1099511627776 now = true := by
 unfold lateH at e
 cases hg : goodH h
 · rw [hg] at e; simp at e
 · cases hi : inI h.ti 1099511627776 now
   · rw [hg, hi] at e; simp at e
   · exact ⟨rfl, rfl⟩
theorem goodH_len {h : Hs} (e : goodH h = true) : h.l.length ≤ 64 := by
 simp only [goodH, headH, Bool.and_eq_true, decide_eq_true_eq] at e
 exact e.1.2.2
/-! start -/
def TM67 : List (Nat × Ct) := [(35, k35), (49, k49), (92, k92)]
theorem hTM67 : Sound Try.prog (cxT TM67) := Sound.cons s35 (Sound.cons s49 (Sound.cons s92 Sound.nil))
theorem w67e (h : Hs) (now : Int) (hl : h.l.length ≤ 1000000000000) (hf : finH h = true) (he : lateH h now ≠ 0) : FTL Try.prog 67 [.agg h.a, .i .i64 now] [] 0 (.tup [.np, .i .i64 (lateH h now)]) [] 0 := by
 have hha := hsA_a h
 have hll : decide (h.l.length ≤ 1000000000000) = true := decide_eq_true hl
 unfold finH at hf
 have hk : ∀ (hp : Hp) n, k35 [.agg h.a] hp n = some (true, { v := .i .i64 (if goodH h then 0 else 281), n }) := fun hp n => by simp only [k35, hha, Option.bind_some, hll, hf, Bool.and_self]
 have hR : lateH h now = bif goodH h then (bif inI h.ti 1099511627776 now then 0 else 2) else 281 := rfl
 generalize lateH h now = R at *
 generalize goodH h = g at *
 obtain ⟨ti, ss, ty, nx, l⟩ := h
 dsimp only at hR
 simp only [Hs.a] at hk ⊢
 refine FTL.of_iw hTM67 mo Try.func67 i67_eq (by simp [i67]) (iw_of_jw ?_)
 dsimp only [i67, TM67]
 cases g
 · simp only [Bool.false_eq_true, if_false] at hk
   simp (maxSteps := 400000) only [go_sem, hk, simprocAttr]
   exact Ends.pureE rfl (by rw [hR]; rfl)
 · simp only [if_true] at hk
   cases a1 : inI ti 1099511627776 now
   · rw [a1] at hR
     simp (maxSteps := 400000) only [go_sem, hk, k49, a1, simprocAttr]
     exact Ends.pureE rfl (by rw [hR]; rfl)
   · exact absurd (by rw [hR, a1]; rfl) he
def stC0 (h : Hs) (now : Int) (v : AV) : List AV := [.i .i64 now, .i .i64 h.ss, .i .i64 h.ty, .i .i64 h.nx, v]
theorem w67n (h : Hs) (now : Int) (h0 : h.l = []) (he : lateH h now = 0) : FTL Try.prog 67 [.agg h.a, .i .i64 now] [] 0 (.tup [.p 0 0, .i .i64 0]) [(0, { cells := stC0 h now .ze })] 1 := by
 have hha := hsA_a h
 obtain ⟨hg, a1⟩ := lateH_0 he
 have hk : ∀ (hp : Hp) n, k35 [.agg h.a] hp n = some (true, { v := .i .i64 0, n }) := fun hp n => by simp only [k35, hha, Option.bind_some, hg, h0, List.length_nil, List.all_nil, if_true]; rfl
 obtain ⟨ti, ss, ty, nx, l⟩ := h
 dsimp only at h0 a1
 subst h0
 simp only [Hs.a, stC0, List.length_nil] at hk ⊢
 refine FTL.of_iw hTM67 mo Try.func67 i67_eq (by simp [i67]) (iw_of_jw ?_)
 dsimp only [i67, TM67]
 have h92 : ∀ (h : Hp) n, k92 [.fz (rows Kp.l []) 0] h n = some (true, { v := .ze, n }) := fun _ _ => rfl
 simp (maxSteps := 400000) only [go_sem, hk, k49, a1, h92, simprocAttr]
 refine Ends.R [(0, 1)] ?_ ?_ ?_ ?_ ?_
 · decide
 · decide
 · simp (maxSteps := 400000) only [go_sem, AV.ren, renL, AV.bel, belL, nblt, simprocAttr]
 · simp (maxSteps := 400000) only [go_sem, AV.ren, renL, AV.bel, belL, nblt, simprocAttr]
 · simp (maxSteps := 400000) only [go_sem, AV.ren, renL, AV.bel, belL, nblt, Blk.ren, simprocAttr]
theorem w67s (h : Hs) (now : Int) (hf : finH h = true) (x : Kp) (r : List Kp) (h0 : h.l = x :: r) (he : lateH h now = 0) : FTL Try.prog 67 [.agg h.a, .i .i64 now] [] 0 (.tup [.p 0 0, .i .i64 0]) [(0, { cells := stC0 h now (.sg 1 0 h.l.length) }), (1, { cells := rows Kp.l h.l, gr := some 11 })] 2 := by
 have hha := hsA_a h
 obtain ⟨hg, a1⟩ := lateH_0 he
 have hl64 := goodH_len hg
 have hll : decide (h.l.length ≤ 1000000000000) = true := decide_eq_true (by omega)
 unfold finH at hf
 have hk : ∀ (hp : Hp) n, k35 [.agg h.a] hp n = some (true, { v := .i .i64 0, n }) := fun hp n => by simp only [k35, hha, Option.bind_some, hg, hll, hf, if_true, Bool.and_self]
 have hu := kp_un h.l
 obtain ⟨ti, ss, ty, nx, l⟩ := h
 dsimp only at h0 a1 hl64 hu
 subst h0
 simp only [Hs.a, stC0] at hk ⊢
 have hrl : decide (r.length ≤ 1000000000) = true := decide_eq_true (by simp at hl64; omega)
 have h92 : ∀ (h : Hp) n, k92 [.fz (rows Kp.l (x :: r)) (x :: r).length] h n = some (true, { v := .sg n 0 (x :: r).length, n := n + 1, nw := [(n, { cells := rows Kp.l (x :: r), gr := some 11 })] }) := fun h n => by
  simp only [k92, hu, Option.bind_some, hrl]; rfl
 generalize x :: r = l at *
 refine FTL.of_iw hTM67 mo Try.func67 i67_eq (by simp [i67]) (iw_of_jw ?_)
 dsimp only [i67, TM67]
 simp (maxSteps := 400000) only [go_sem, hk, k49, a1, h92, simprocAttr]
 refine Ends.R [(0, 1), (1, 2)] ?_ ?_ ?_ ?_ ?_
 · decide
 · decide
 · simp (maxSteps := 400000) only [go_sem, AV.ren, renL, AV.bel, belL, nblt, simprocAttr]
 · simp (maxSteps := 400000) only [go_sem, AV.ren, renL, AV.bel, belL, nblt, simprocAttr]
 · simp (maxSteps := 400000) only [go_sem, AV.ren, renL, AV.bel, belL, nblt, Blk.ren, krB, krR, simprocAttr]
mutual
theorem inR_of {R : List Nat} : ∀ v : AV, v.bel 0 = true → v.inR R = true
 | .p b _, h => absurd (blt_lt h) (Nat.not_lt_zero _)
 | .sl b _ _ _, h => absurd (blt_lt h) (Nat.not_lt_zero _)
 | .sg b _ _, h => absurd (blt_lt h) (Nat.not_lt_zero _)
 | .fn _ l, h => inRL_of l h
 | .agg l, h => inRL_of l h
 | .tup l, h => inRL_of l h
 | .b _, _ => rfl
 | .i _ _, _ => rfl
 | .s _, _ => rfl
 | .np, _ => rfl
 | .ns, _ => rfl
 | .nf, _ => rfl
 | .ni, _ => rfl
 | .fz l _, h => inRL_of l h
 | .fp l _, h => inRL_of l h
 | .ze, _ => rfl
 | .en, _ => rfl
 | .yl _ _ _ l, h => inRL_of l h
theorem inRL_of {R : List Nat} : ∀ l : List AV, belL 0 l = true → inRL R l = true
 | [], _ => rfl
 | a :: l, h => by
  simp only [belL, Bool.and_eq_true] at h
  simp only [inRL, inR_of a h.1, inRL_of l h.2, Bool.and_self]
end
def k67 : Ct
 | [.agg c, .i .i64 now], _, n => (hsA c).bind fun h => if lateH h now = 0 then (match h.l with
  | [] => some (true, { v := .tup [.p n 0, .i .i64 0], n := n + 1, nw := [(n, { cells := stC0 h now .ze })] })
  | x :: r => some (finH h, { v := .tup [.p n 0, .i .i64 0], n := n + 2, nw := [(n, { cells := stC0 h now (.sg (n + 1) 0 h.l.length) }), (n + 1, { cells := rows Kp.l h.l, gr := some 11 })] }))
  else some (decide (h.l.length ≤ 1000000000000) && finH h, { v := .tup [.np, .i .i64 (lateH h now)], n })
 | _, _, _ => none
theorem s67 : SoundAt Try.prog 67 k67 := fun args h n c E hc ht => by
 unfold k67 at hc
 split at hc
 · rename_i cc now
   simp only [Option.bind_eq_some_iff] at hc
   obtain ⟨hs, hd, hc⟩ := hc
   rw [hsA_eq hd]
   have hb : belL 0 [AV.agg hs.a, AV.i .i64 now] = true := by simp only [belL, AV.bel, Hs.bel, Bool.and_self]
   split at hc
   · rename_i h0
     split at hc
     · rename_i hl
       cases hc
       have := CallOK.new1 (h := h) (n := n) (by kernel_rfl) hb rfl rfl (w67n hs _ hl h0)
       simpa [AV.ren, renL] using this
     · rename_i x r hl
       cases hc
       have hft := w67s hs now ht x r hl h0
       have ha : renL (idx []) [AV.agg hs.a, AV.i .i64 now] = [AV.agg hs.a, AV.i .i64 now] := renL_fix0 _ hb
       rw [← ha] at hft
       refine CallOK.cast (call_sound (args := [AV.agg hs.a, AV.i .i64 now]) (h := h) (n := n) (R := []) (hL := []) (by kernel_rfl) rfl ?_ rfl hft (by decide) ?_) rfl ?_
       · exact inRL_of _ hb
       · simp only [hOK, stC0, belL, AV.bel, krB, roSame, nblt, Bool.and_self, Bool.and_true]
         rfl
       · simp [chi, nwOf, mdOf, stC0, AV.ren, renL, Blk.ren, krR, Nat.blt]
         rfl
   · rename_i h0
     cases hc
     simp only [Bool.and_eq_true, decide_eq_true_eq] at ht
     exact CallOK.pure (by kernel_rfl) hb rfl (w67e hs _ ht.1 ht.2 h0) _ _
 · cases hc
end Go.Proofs.Res
end
section
/- The contract of Keep. -/
namespace Go.Proofs.Res
open Go.Ab
set_option maxRecDepth 100000
set_option maxHeartbeats 4000000
set_option linter.unusedSimpArgs false
set_option linter.unusedVariables false
def zH : Hs := ⟨0, 0, 0, 0, []⟩
def stepK (h : Hs) (p : Md) : Int := bif decide (0 < h.l.length) then lead p.sq (lastQ h.l) else 0
def cut64 (q : List Kp) : List Kp := bif q.length == 64 then q.drop 1 else q
def keptL (h : Hs) (now : Int) (p : Md) : List Kp := cut64 (keepK now (lastQ h.l) (stepK h p) h.l) ++ [⟨p, now, -1⟩]
def keepS (h : Hs) (now : Int) (p : Md) : Hs × Int :=
 if lateH h now = 0 then
  bif mdB p then bif decide (0 < h.l.length) && decide (lead p.sq (lastQ h.l) ≤ 0) then (zH, 10) else (⟨now, h.ss, h.ty, h.nx, keptL h now p⟩, 0)
  else (zH, 230)
 else (zH, lateH h now)
def rsH (r : Hs × Int) : AV := .tup [.agg r.1.a, .i .i64 r.2]
theorem rsH_bel (r : Hs × Int) : (rsH r).bel 0 = true := by simp only [rsH, AV.bel, belL, Hs.bel, Bool.and_self]
theorem covH_n {ti ss ty nx e : Int} {h : Hp} {n : Nat} : CovS 0 (.tup [.agg [.i .i64 ti, .i .i64 ss, .i .i64 ty, .i .i64 nx, .ns], .i .i64 e]) h n (rsH (⟨ti, ss, ty, nx, []⟩, e)) [] 0 := by
 refine CovS.frzN (l := []) (v' := rsH (⟨ti, ss, ty, nx, []⟩, e)) (FzV.tup ⟨FzV.agg ⟨FzV.refl, FzV.refl, FzV.refl, FzV.refl, FzV.hit, trivial⟩, FzV.refl, trivial⟩) ?_
 exact CovS.ends (Ends.pureE rfl rfl)
theorem covH_g {ti ss ty nx e : Int} {h : Hp} {n j m : Nat} {C : List AV} {l : List Kp} (hk : hget h j = some { cells := C, gr := some 11 }) (hC : C = rows Kp.l l) (hm : m = l.length) : CovS 0 (.tup [.agg [.i .i64 ti, .i .i64 ss, .i .i64 ty, .i .i64 nx, .sg j 0 m], .i .i64 e]) h n (rsH (⟨ti, ss, ty, nx, l⟩, e)) [] 0 := by
 subst hC hm
 refine CovS.frz (b := j) (k := { cells := rows Kp.l l, gr := some 11 }) (h' := []) (o := 0) (m := l.length) (cs := rows Kp.l l) (v' := rsH (⟨ti, ss, ty, nx, l⟩, e)) hk rfl (.inr rfl) (.inl rfl) (FzV.tup ⟨FzV.agg ⟨FzV.refl, FzV.refl, FzV.refl, FzV.refl, FzV.hit, trivial⟩, FzV.refl, trivial⟩) (fun c kk hc => by simp [hget] at hc) ?_
 exact CovS.ends (Ends.pureE (rsH_bel _) rfl)
theorem rows_drop {α : Type} {f : α → List AV} {z : Nat} (hf : ∀ a, (f a).length = z) : ∀ (l : List α) (m : Nat), (rows f l).drop (m * z) = rows f (l.drop m)
 | [], m => by simp [rows]
 | a :: l, 0 => by simp [rows]
 | a :: l, m + 1 => by
  have e : rows f (a :: l) = f a ++ rows f l := rfl
  rw [List.drop_succ_cons, e, ← rows_drop hf l m, List.drop_append]
  have h1 : List.drop ((m + 1) * z) (f a) = [] := List.drop_of_length_le (by rw [hf, Nat.succ_mul]; omega)
  have h2 : (m + 1) * z - (f a).length = m * z := by rw [hf, Nat.succ_mul]; omega
  rw [h1, h2, List.nil_append]
theorem goodH_k {h : Hs} {now : Int} (e : lateH h now = 0) : h.l.all okK = true ∧ inI 0 1099511627776 now = true ∧ inI 0 65535 (lastQ h.l) = true := by
 obtain ⟨hg, hn⟩ := lateH_0 e
 simp only [goodH, headH, Bool.and_eq_true] at hg
 obtain ⟨⟨h1, h2, h3⟩, h4, h5⟩ := hg
 have hn := inI_t hn
 have h1 := inI_t h1
 simp only [TT] at h1
 rw [List.all_eq_true] at h4
 have key : ∀ (l : List Kp) (f ld lq : Int), 0 ≤ f → chH h.ti lq f ld l = true → ∀ x ∈ l, 0 ≤ x.ti ∧ x.ti ≤ h.ti := by
  intro l
  induction l with
  | nil => intro f ld lq hf hc x hx; cases hx
  | cons y r ih =>
   intro f ld lq hf hc x hx
   simp only [chH, Bool.and_eq_true] at hc
   have := inI_t hc.1
   rcases List.mem_cons.1 hx with rfl | hx
   · omega
   · exact ih _ _ _ (by omega) hc.2.2.2 x hx
 refine ⟨List.all_eq_true.2 (fun x hx => ?_), inI_of (by omega), ?_⟩
 · have := key _ _ _ _ (Int.le_refl _) h5 x hx
   simp only [okK, mdB_sq (h4 x hx), Bool.true_and]
   exact inI_of (by omega)
 · unfold lastQ
   split
   · rename_i x hx
     exact mdB_sq (h4 x (List.mem_of_getElem? hx))
   · rfl
end Go.Proofs.Res
end
