/- The contract of the reference's Bend.Of (a packet with a field changed). -/
import Derived.Test.YtndbgcmgjnjnhaaPicN2
import Derived.Test.YtndbgcmgjnjnhaaAbShs
import Derived.Test.YtndbgcmgjnjnhaaAbFzs
namespace Go.Proofs.Pic
open Go.Ab
set_option maxRecDepth 100000
set_option maxHeartbeats 16000000
set_option linter.unusedSimpArgs false
set_option linter.unusedVariables false
/-! numbers in octets -/
def oct4 (n : Nat) : List UInt8 := [0, 0, UInt8.ofNat (n / 256), UInt8.ofNat (n % 256)]
theorem w62_1 (q : Int) (hq : 0 ≤ q ∧ q ≤ 255) : FTL Try.prog 62 [.i .i64 1, .i .i64 q] [] 0 (.s [UInt8.ofNat q.toNat]) [] 0 := by
 refine FTL.of_iw Sound.nil mo Try.func62 i62_eq (by simp [i62]) (iw_of_jw ?_)
 dsimp only [i62]
 have e1 : q.tmod 256 = q := by rw [Int.tmod_eq_emod_of_nonneg hq.1]; omega
 have e2 : q.tdiv 256 = 0 := by rw [Int.tdiv_eq_ediv_of_nonneg hq.1]; omega
 have e5 : IntKind.u8.wrap q = q := by rw [wrapU8]; omega
 have e7 : IntKind.i64.wrap q = q := wrapL (by omega) (by omega)
 simp (maxSteps := 400000) only [go_sem, simprocAttr]
 refine Loop.rounds (F := ⟨Try.prog, cxT [], [9], 22, 0⟩) 2 Sound.nil mo ?_
 simp (maxSteps := 400000) only [go_sem, e1, e2, e5, e7, simprocAttr]
 exact Ends.pureE rfl rfl
theorem w62_4 (q : Int) (hq : 0 ≤ q ∧ q ≤ 65535) : FTL Try.prog 62 [.i .i64 4, .i .i64 q] [] 0 (.s (oct4 q.toNat)) [] 0 := by
 refine FTL.of_iw Sound.nil mo Try.func62 i62_eq (by simp [i62]) (iw_of_jw ?_)
 dsimp only [i62]
 have e1 : q.tmod 256 = q % 256 := Int.tmod_eq_emod_of_nonneg hq.1
 have e2 : q.tdiv 256 = q / 256 := Int.tdiv_eq_ediv_of_nonneg hq.1
 have e3 : (q / 256).tmod 256 = q / 256 := by rw [Int.tmod_eq_emod_of_nonneg (by omega)]; omega
 have e4 : (q / 256).tdiv 256 = 0 := by rw [Int.tdiv_eq_ediv_of_nonneg (by omega)]; omega
 have e5 : IntKind.u8.wrap (q % 256) = q % 256 := by rw [wrapU8]; omega
 have e6 : IntKind.u8.wrap (q / 256) = q / 256 := by rw [wrapU8]; omega
 have e7 : IntKind.i64.wrap (q % 256) = q % 256 := wrapL (by omega) (by omega)
 have e8 : IntKind.i64.wrap (q / 256) = q / 256 := wrapL (by omega) (by omega)
 simp (maxSteps := 400000) only [go_sem, simprocAttr]
 refine Loop.rounds (F := ⟨Try.prog, cxT [], [9], 22, 0⟩) 5 Sound.nil mo ?_
 simp (maxSteps := 400000) only [go_sem, e1, e2, e3, e4, e5, e6, e7, e8, simprocAttr]
 refine Ends.pureE rfl ?_
 have t1 : (q / 256).toNat = q.toNat / 256 := by omega
 have t2 : (q % 256).toNat = q.toNat % 256 := by omega
 simp only [oct4, t1, t2]
 rfl
def k62 : Ct
 | [.i .i64 1, .i .i64 q], _, n => some (inI 0 255 q, { v := .s [UInt8.ofNat q.toNat], n })
 | [.i .i64 4, .i .i64 q], _, n => some (inI 0 65535 q, { v := .s (oct4 q.toNat), n })
 | _, _, _ => none
theorem s62 : SoundAt Try.prog 62 k62 := fun args h n c E hc ht => by
 unfold k62 at hc
 split at hc
 · cases hc
   exact CallOK.pure (by kernel_rfl) rfl rfl (w62_1 _ (inI_t ht)) _ _
 · cases hc
   exact CallOK.pure (by kernel_rfl) rfl rfl (w62_4 _ (inI_t ht)) _ _
 · cases hc
/-! what is changed -/
structure Bm where
 wh : Int
 at_ : Int
 n : Int
def Bm.a (b : Bm) : List AV := [.i .u8 b.wh, .i .u8 b.at_, .i .i64 b.n]
def Bm.okB (b : Bm) : Bool := inI 0 255 b.wh && inI 0 255 b.at_
def fillD (l : List UInt8) : List UInt8 := if l.length < 256 then fillD (l ++ [UInt8.ofNat l.length]) else l
termination_by 256 - l.length
decreasing_by simp; omega
def fillP (top : Nat) (l : List UInt8) : List UInt8 := if l.length < top then fillP top (l ++ oct4 l.length) else l
termination_by top - l.length
decreasing_by simp [oct4]; omega
theorem fillD_len (l : List UInt8) : (fillD l).length ≤ max l.length 256 := by
 fun_induction fillD l
 · simp only [List.length_append, List.length_singleton] at *; omega
 · omega
theorem fillP_len (top : Nat) (l : List UInt8) : (fillP top l).length ≤ max l.length (top + 3) := by
 fun_induction fillP top l
 · simp only [List.length_append, oct4, List.length_cons, List.length_nil] at *; omega
 · omega
def mIx (b : Bm) (l : List Xt) : Nat := b.at_.toNat % l.length
def bmX (b : Bm) (xs : List Xt) : List Xt :=
 if b.wh % 10 = 6 then xs ++ [(b.n, [])] else if xs.length = 0 then xs
 else if b.wh % 10 = 7 then xs.set (mIx b xs) (b.n, (xs.getD (mIx b xs) (0, [])).2)
 else if b.wh % 10 = 8 then xs.set (mIx b xs) ((xs.getD (mIx b xs) (0, [])).1, fillD (xs.getD (mIx b xs) (0, [])).2) else xs
def bmM (b : Bm) (p : Md) : Md := ⟨p.ma, if b.wh % 10 = 0 then b.n else p.ty, if b.wh % 10 = 1 then b.n else p.sq, if b.wh % 10 = 2 then b.n else p.tm, if b.wh % 10 = 3 then b.n else p.ss,
 if b.wh % 10 = 5 then p.cs ++ [b.n] else p.cs, bmX b p.xs, if b.wh % 10 = 4 then b.n else p.pd, if b.wh % 10 = 9 then fillP (1188 + (b.at_ % 4).toNat) p.pl else p.pl⟩
/-! the end -/
def FzO (z : Nat) (h : Hp) (v : AV) (j : Nat) (L : List AV) (m : Nat) : Prop := (v = .sl j 0 0 0 ∧ hget h j = some { cells := [] } ∧ L = [] ∧ m = 0) ∨ (v = .sg j 0 m ∧ hget h j = some { cells := L, gr := some z })
theorem hdel_iff {j : Nat} : ∀ {h : Hp} (c : Nat) (kk : Blk), hget (hdel h j) c = some kk ↔ c ≠ j ∧ hget h c = some kk
 | [], c, kk => by simp [hdel_nil, hget]
 | (b, k) :: r, c, kk => by
  rw [hdel_cons]
  by_cases hb : b = j
  · rw [if_pos hb, hdel_iff c kk, hget_cons]
    by_cases hcb : b = c
    · subst hb; subst hcb; simp
    · rw [if_neg hcb]
  · rw [if_neg hb, hget_cons, hget_cons]
    by_cases hcb : b = c
    · subst hcb; simp [hb]
    · rw [if_neg hcb, if_neg hcb]; exact hdel_iff c kk
theorem CovS.fzO {z n0 n n2 m j : Nat} {v v' v2 x : AV} {h h2 : Hp} {L : List AV} (hx : FzO z h x j L m) (hf : FzV x (.fz L m) v v') (hc : ∀ h', (∀ c kk, hget h' c = some kk ↔ c ≠ j ∧ hget h c = some kk) → CovS n0 v' h' n v2 h2 n2) : CovS n0 v h n v2 h2 n2 := by
 have hd := fun c kk => hdel_iff (h := h) (j := j) c kk
 rcases hx with ⟨rfl, hk, rfl, rfl⟩ | ⟨rfl, hk⟩
 · exact CovS.frz (b := j) (k := { cells := [] }) (o := 0) (m := 0) (cs := []) hk rfl (.inl ⟨0, rfl, Nat.le_refl _⟩) (.inl rfl) hf (fun c kk h => (hd c kk).1 h) (hc _ hd)
 · exact CovS.frz (b := j) (k := { cells := L, gr := some z }) (o := 0) (m := m) (cs := L) hk rfl (.inr rfl) (.inl rfl) hf (fun c kk h => (hd c kk).1 h) (hc _ hd)
theorem covM39 {ma : Bool} {ty sq tm ss pd : Int} {cs : List Int} {xs : List Xt} {pl : List UInt8} {cv xv : AV} {jc jx mc mx : Nat} {h : Hp} {n : Nat} (hc : FzO 1 h cv jc (rows int1 cs) mc) (hmc : mc = cs.length) (hx : FzO 2 h xv jx (rows xtR xs) mx) (hmx : mx = xs.length) (hj : jx ≠ jc) :
 CovS 0 (.agg [.b ma, .i .i64 ty, .i .i64 sq, .i .i64 tm, .i .i64 ss, cv, xv, .i .i64 pd, .s pl]) h n (.agg (Md.l ⟨ma, ty, sq, tm, ss, cs, xs, pd, pl⟩)) [] 0 := by
 subst hmc hmx
 refine CovS.fzO (v' := .agg [.b ma, .i .i64 ty, .i .i64 sq, .i .i64 tm, .i .i64 ss, .fz (rows int1 cs) cs.length, xv, .i .i64 pd, .s pl]) hc (FzV.agg ⟨FzV.refl, FzV.refl, FzV.refl, FzV.refl, FzV.refl, FzV.hit, FzV.refl, FzV.refl, FzV.refl, trivial⟩) (fun h' hh => ?_)
 have hx' : FzO 2 h' xv jx (rows xtR xs) xs.length := by
  rcases hx with ⟨a, b, c⟩ | ⟨a, b⟩
  · exact .inl ⟨a, (hh _ _).2 ⟨hj, b⟩, c⟩
  · exact .inr ⟨a, (hh _ _).2 ⟨hj, b⟩⟩
 refine CovS.fzO (v' := .agg (Md.l ⟨ma, ty, sq, tm, ss, cs, xs, pd, pl⟩)) hx' (FzV.agg ⟨FzV.refl, FzV.refl, FzV.refl, FzV.refl, FzV.refl, FzV.refl, FzV.hit, FzV.refl, FzV.refl, trivial⟩) (fun h'' hh2 => ?_)
 have e : CovS 0 (.agg (Md.l ⟨ma, ty, sq, tm, ss, cs, xs, pd, pl⟩)) [] n (.agg (Md.l ⟨ma, ty, sq, tm, ss, cs, xs, pd, pl⟩)) [] 0 := CovS.ends (Ends.pureE (by simp only [AV.bel, Md.bel]) rfl)
 intro D φ w D0 φ0 H0 w0 u hD0 hD hv hH hS
 have hs : ∀ c kk, hget ([] : Hp) c = some kk → hget h'' c = some kk := fun c kk hc => by simp [hget] at hc
 exact e D φ w D0 φ0 H0 w0 u hD0 hD hv (hH.sub hs) ⟨hS.sub, hS.agree, hH.sub hs, hS.frm, fun c kk hc hr => hS.img c kk (hs c kk hc) hr, hS.fnew⟩
/-! the loops -/
noncomputable abbrev FB39 : Fx := ⟨Try.prog, cxT [(62, k62)], [36, 41, 46, 51, 56, 61, 70, 80, 85, 99, 104, 120, 27], 136, 0⟩
theorem hFB39 : Sound Try.prog (cxT [(62, k62)]) := Sound.cons s62 Sound.nil
abbrev hB39 (b : Bm) (p : Md) (C X : Go.Ab.Sh) (pl : List UInt8) : Hp := [(1, { cells := [.b p.ma, .i .i64 p.ty, .i .i64 p.sq, .i .i64 p.tm, .i .i64 p.ss, C.v 3, X.v 4, .i .i64 p.pd, .s pl] }), (0, { cells := [.i .u8 b.wh, .i .u8 b.at_, .i .i64 b.n] }), (2, { cells := [.b false, .i .i64 0, .i .i64 0, .i .i64 0, .i .i64 0, .ns, .ns, .i .i64 0, .s []] })] ++ (C.h 3 ++ X.h 4)
theorem loopP39 (b : Bm) (p : Md) (hb : b.okB = true) (C X : Go.Ab.Sh) (hC : C.plain = true) (hX : X.plain = true) (hpl : p.pl.length ≤ 1000000000000) {K : Kont} {e : Env} {h : Hp} {n : Nat}
 (he : EnvR 5 [] e [(2, .p 0 0), (3, .p 1 0), (4, .p 2 0)]) (hh : HpR 5 [] h (hB39 b p C X p.pl))
 (hK : ∀ e', eget e' 3 = some (.p 1 0) → eget e' 4 = some (.p 2 0) → K (.exit 1) e' (hB39 b p C X (fillP (1188 + (b.at_ % 4).toNat) p.pl)) 5) :
 Ab.Loop Try.prog [36, 41, 46, 51, 56, 61, 70, 80, 85, 99, 104, 120, 27] 136 0 i39l29 K e h n := by
 simp only [Bm.okB, Bool.and_eq_true] at hb
 have ha := inI_t hb.2
 have m1 : b.at_.tmod 4 = b.at_ % 4 := Int.tmod_eq_emod_of_nonneg (by omega)
 have m2 : IntKind.u8.wrap (b.at_ % 4) = b.at_ % 4 := by rw [wrapU8]; omega
 have m3 : IntKind.i64.wrap (b.at_ % 4) = b.at_ % 4 := wrapL (by omega) (by omega)
 have m4 : IntKind.i64.wrap (1188 + b.at_ % 4) = 1188 + b.at_ % 4 := wrapL (by omega) (by omega)
 have ht : ((1188 + (b.at_ % 4).toNat : Nat) : Int) = 1188 + b.at_ % 4 := by omega
 generalize htop : 1188 + (b.at_ % 4).toNat = top at *
 have ht2 : top ≤ 1191 := by omega
 generalize hR : fillP top p.pl = R at hK
 obtain ⟨ma, pty, sq, tm, pss, cs, xs, pd, pl⟩ := p
 obtain ⟨wh, at_, N⟩ := b
 dsimp only [hB39] at *
 refine Loop.stepR (F := FB39) hFB39 mo (X := List UInt8) (fun l => fillP top l = R ∧ l.length ≤ 1000000002000) (fun l => top - l.length)
  (fun l => [(2, .p 0 0), (3, .p 1 0), (4, .p 2 0)])
  (fun l => [(1, { cells := [.b ma, .i .i64 pty, .i .i64 sq, .i .i64 tm, .i .i64 pss, C.v 3, X.v 4, .i .i64 pd, .s l] }), (0, { cells := [.i .u8 wh, .i .u8 at_, .i .i64 N] }), (2, { cells := [.b false, .i .i64 0, .i .i64 0, .i .i64 0, .i .i64 0, .ns, .ns, .i .i64 0, .s []] })] ++ (C.h 3 ++ X.h 4)) 5 pl (fun l => l ++ oct4 l.length) [] (fun _ => []) (by decide) (by decide) (fun _ => by decide) ⟨hR, by omega⟩ he hh (fun l hl => ?_)
 dsimp only [FB39]
 obtain ⟨hl1, hl2⟩ := hl
 by_cases hlt : l.length < top
 · have c1 : decide ((l.length : Int) < 1188 + at_ % 4) = true := decide_eq_true (by omega)
   have hk : ∀ (h : Hp) n, k62 [.i .i64 4, .i .i64 (l.length : Int)] h n = some (true, { v := .s (oct4 l.length), n }) := fun h n => by
    have : inI 0 65535 (l.length : Int) = true := inI_of (by omega)
    simp only [k62, this, Int.toNat_natCast]
   have c2 : decide (l.length + (oct4 l.length).length ≤ 9223372036854775807) = true := decide_eq_true (by simp only [oct4, List.length_cons, List.length_nil]; omega)
   have n1 : fillP top (l ++ oct4 l.length) = R ∧ (l ++ oct4 l.length).length ≤ 1000000002000 := by
    rw [fillP, if_pos hlt] at hl1
    exact ⟨hl1, by simp only [List.length_append, oct4, List.length_cons, List.length_nil]; omega⟩
   have n2 : top - (l ++ oct4 l.length).length < top - l.length := by simp only [List.length_append, oct4, List.length_cons, List.length_nil]; omega
   generalize hgo : oct4 l.length = o at *
   generalize hgl : l ++ o = l' at *
   simp (maxSteps := 400000) only [go_sem, m1, m2, m3, m4, c1, c2, hk, hgl, n1, n2, AV.bel, belL, nblt, AV.ren, renL, Blk.ren, hC, hX, simprocAttr]
 · have c1 : decide ((l.length : Int) < 1188 + at_ % 4) = false := decide_eq_false (by omega)
   rw [fillP, if_neg hlt] at hl1
   subst hl1
   simp (maxSteps := 400000) only [go_sem, m1, m2, m3, m4, c1, AV.bel, belL, nblt, AV.ren, renL, Blk.ren, hC, hX, simprocAttr]
   exact hK _ rfl rfl
abbrev hD39 (b : Bm) (p : Md) (C : Go.Ab.Sh) (xs : List Xt) (m : Nat) : Hp := [(1, { cells := [.b p.ma, .i .i64 p.ty, .i .i64 p.sq, .i .i64 p.tm, .i .i64 p.ss, C.v 3, .sg 4 0 m, .i .i64 p.pd, .s p.pl] }), (0, { cells := [.i .u8 b.wh, .i .u8 b.at_, .i .i64 b.n] }), (2, { cells := [.b false, .i .i64 0, .i .i64 0, .i .i64 0, .i .i64 0, .ns, .ns, .i .i64 0, .s []] }), (4, { cells := rows xtR xs, gr := some 2 })] ++ C.h 3
theorem loopD39 (b : Bm) (p : Md) (C : Go.Ab.Sh) (hC : C.plain = true) (xs : List Xt) (i m : Nat) (hm : m = xs.length) (x : Xt) (hx : xs[i]? = some x) (hxl : x.2.length ≤ 1000000000000) {K : Kont} {e : Env} {h : Hp} {n : Nat}
 (he : EnvR 5 [] e [(3, .p 1 0), (4, .p 2 0), (5, .p 4 (i * 2))]) (hh : HpR 5 [] h (hD39 b p C xs m))
 (hK : ∀ e', eget e' 3 = some (.p 1 0) → eget e' 4 = some (.p 2 0) → K (.exit 3) e' (hD39 b p C (xs.set i (x.1, fillD x.2)) m) 5) :
 Ab.Loop Try.prog [36, 41, 46, 51, 56, 61, 70, 80, 85, 99, 104, 120, 27] 136 0 i39l26 K e h n := by
 have hil : i < xs.length := by
  rcases Nat.lt_or_ge i xs.length with h' | h'
  · exact h'
  · rw [List.getElem?_eq_none h'] at hx; cases hx
 have hself : ∀ l : List UInt8, (xs.set i (x.1, l))[i]? = some (x.1, l) := fun l => by rw [List.getElem?_set_self hil]
 have hset : ∀ (l l' : List UInt8), (xs.set i (x.1, l)).set i (x.1, l') = xs.set i (x.1, l') := fun l l' => by rw [List.set_set]
 have h0 : xs = xs.set i (x.1, x.2) := by
  rw [List.getElem?_eq_getElem hil] at hx
  cases hx
  exact (List.set_getElem_self hil).symm
 generalize hR : fillD x.2 = R at hK
 obtain ⟨ma, pty, sq, tm, pss, cs, pxs, pd, pl⟩ := p
 obtain ⟨wh, at_, N⟩ := b
 dsimp only [hD39] at *
 rw [h0] at hh
 have hXb : ∀ j (l : List Xt), belL j (rows xtR l) = true := fun j l => belL_mono0 _ (rows_bel xtR_bel)
 have hXr : ∀ g (l : List Xt), renL g (rows xtR l) = rows xtR l := fun g l => renL_fix0 _ (rows_bel xtR_bel)
 refine Loop.stepR (F := FB39) hFB39 mo (X := List UInt8) (fun l => fillD l = R ∧ l.length ≤ 1000000002000) (fun l => 256 - l.length)
  (fun l => [(3, .p 1 0), (4, .p 2 0), (5, .p 4 (i * 2))])
  (fun l => [(1, { cells := [.b ma, .i .i64 pty, .i .i64 sq, .i .i64 tm, .i .i64 pss, C.v 3, .sg 4 0 m, .i .i64 pd, .s pl] }), (0, { cells := [.i .u8 wh, .i .u8 at_, .i .i64 N] }), (2, { cells := [.b false, .i .i64 0, .i .i64 0, .i .i64 0, .i .i64 0, .ns, .ns, .i .i64 0, .s []] }), (4, { cells := rows xtR (xs.set i (x.1, l)), gr := some 2 })] ++ C.h 3) 5 x.2 (fun l => l ++ [UInt8.ofNat l.length]) [] (fun _ => []) (by decide) (by decide) (fun _ => by decide) ⟨hR, by omega⟩ he hh (fun l hl => ?_)
 dsimp only [FB39]
 obtain ⟨hl1, hl2⟩ := hl
 have hr1 : (rows xtR (xs.set i (x.1, l)))[i * 2 + 1]? = some (.s l) := rows_get (f := xtR) (z := 2) (j := 1) (v := .s l) xtR_len (hself l) rfl
 by_cases hlt : l.length < 256
 · have c1 : decide ((l.length : Int) < 256) = true := decide_eq_true (by omega)
   have hk : ∀ (h : Hp) n, k62 [.i .i64 1, .i .i64 (l.length : Int)] h n = some (true, { v := .s [UInt8.ofNat l.length], n }) := fun h n => by
    have : inI 0 255 (l.length : Int) = true := inI_of (by omega)
    simp only [k62, this, Int.toNat_natCast]
   have c2 : decide (l.length ≤ 9223372036854775806) = true := decide_eq_true (by omega)
   have n1 : fillD (l ++ [UInt8.ofNat l.length]) = R ∧ (l ++ [UInt8.ofNat l.length]).length ≤ 1000000002000 := by
    rw [fillD, if_pos hlt] at hl1
    exact ⟨hl1, by simp only [List.length_append, List.length_cons, List.length_nil]; omega⟩
   have n2 : 256 - (l ++ [UInt8.ofNat l.length]).length < 256 - l.length := by simp only [List.length_append, List.length_cons, List.length_nil]; omega
   have hsp : List.take (i * 2 + 1) (rows xtR (xs.set i (x.1, l))) ++ [AV.s (l ++ [UInt8.ofNat l.length])] ++ List.drop (i * 2 + 1 + 1) (rows xtR (xs.set i (x.1, l))) = rows xtR (xs.set i (x.1, l ++ [UInt8.ofNat l.length])) := by
    have := splice_row (f := xtR) (z := 2) (j := 1) (a' := (x.1, l ++ [UInt8.ofNat l.length])) xtR_len (hself l) (by decide) (v := .s (l ++ [UInt8.ofNat l.length])) rfl
    rw [hset] at this
    exact this
   have zl : (rows xtR (xs.set i (x.1, l))).length = xs.length * 2 := by rw [rows_len xtR_len, List.length_set]
   have c3 : decide (i * 2 + 1 + 1 ≤ xs.length * 2) = true := decide_eq_true (by omega)
   simp (maxSteps := 400000) only [go_sem, c1, c2, c3, hk, hr1, hsp, zl, n1, n2, AV.bel, belL, nblt, AV.ren, renL, Blk.ren, hC, hXb, hXr, simprocAttr]
 · have c1 : decide ((l.length : Int) < 256) = false := decide_eq_false (by omega)
   rw [fillD, if_neg hlt] at hl1
   subst hl1
   simp (maxSteps := 400000) only [go_sem, hr1, c1, AV.bel, belL, nblt, AV.ren, renL, Blk.ren, hC, hXb, hXr, simprocAttr]
   exact hK _ rfl rfl
/-! the rest of the body -/
abbrev iBR39 : ICode := (.seq (.seq (.reg i39r3) (.block 0 (.seq (.reg i39r4) (.cond (.t 36) (.reg i39r5) (.seq (.reg i39r6) (.cond (.t 41) (.reg i39r7) (.seq (.reg i39r8) (.cond (.t 46) (.reg i39r9) (.seq (.reg i39r10) (.cond (.t 51) (.reg i39r11) (.seq (.reg i39r12) (.cond (.t 56) (.reg i39r13) (.seq (.reg i39r14) (.cond (.t 61) (.reg i39r15) (.seq (.reg i39r16) (.cond (.t 70) (.reg i39r17) (.seq (.reg i39r18) (.cond (.t 80) (.seq (.reg i39r19) (.cond (.t 85) (.dreg i39r20) .skip)) (.seq (.reg i39r21) (.cond (.t 99) (.seq (.reg i39r22) (.cond (.t 104) (.seq (.dreg i39r23) (.block 3 (.loop i39l26))) .skip)) (.block 1 (.loop i39l29)))))))))))))))))))))) (.seq (.reg i39r30) .ret))
def CpO {α : Type} (f : α → List AV) (z : Nat) (l : List α) (C : Go.Ab.Sh) : Prop := (l = [] ∧ C = .sl { cells := [] } 0 0 0) ∨ (l ≠ [] ∧ C = .sg { cells := rows f l, gr := some z } 0 l.length)
theorem part39 (b : Bm) (hb : b.okB = true) (p : Md) (hcl : p.cs.length ≤ 1000000) (hxl : p.xs.length ≤ 1000000) (hxd : ∀ x ∈ p.xs, x.2.length ≤ 1000000000000) (hpl : p.pl.length ≤ 1000000000000) (C X : Go.Ab.Sh) (hC : CpO int1 1 p.cs C) (hX : CpO xtR 2 p.xs X) :
 Seam FB39 iBR39 (retK [.c 4 true 9] fun v h' n' => CovS 0 v h' n' (.agg (bmM b p).l) [] 0) [(4, .p 2 0), (3, .p 1 0), (2, .p 0 0)] (hB39 b p C X p.pl) 5 := by
 refine Seam.run hFB39 mo ?_
 have hb' := hb
 simp only [Bm.okB, Bool.and_eq_true] at hb'
 have hw := inI_t hb'.1
 have ha := inI_t hb'.2
 have hCp : C.plain = true := by
  rcases hC with ⟨_, rfl⟩ | ⟨_, rfl⟩
  · rfl
  · exact rows_bel int1_bel
 have hXp : X.plain = true := by
  rcases hX with ⟨_, rfl⟩ | ⟨_, rfl⟩
  · rfl
  · exact rows_bel xtR_bel
 have lpP := fun (K : Kont) (e : Env) (h : Hp) (n : Nat) => loopP39 b p hb C X hCp hXp hpl (K := K) (e := e) (h := h) (n := n)
 have lpD := fun (K : Kont) (e : Env) (h : Hp) (n : Nat) (hx0 : p.xs.length ≠ 0) => loopD39 b p C hCp p.xs (mIx b p.xs) p.xs.length rfl (p.xs.getD (mIx b p.xs) (0, [])) (by
  have hmod : mIx b p.xs < p.xs.length := Nat.mod_lt _ (by omega)
  rw [List.getD_eq_getElem?_getD, List.getElem?_eq_getElem hmod]; rfl) (by
  have hmod : mIx b p.xs < p.xs.length := Nat.mod_lt _ (by omega)
  rw [List.getD_eq_getElem?_getD, List.getElem?_eq_getElem hmod]
  exact hxd _ (List.getElem_mem hmod)) (K := K) (e := e) (h := h) (n := n)
 have hS : ∀ R, bmM b p = R → R = ⟨p.ma, if b.wh % 10 = 0 then b.n else p.ty, if b.wh % 10 = 1 then b.n else p.sq, if b.wh % 10 = 2 then b.n else p.tm, if b.wh % 10 = 3 then b.n else p.ss,
 if b.wh % 10 = 5 then p.cs ++ [b.n] else p.cs, bmX b p.xs, if b.wh % 10 = 4 then b.n else p.pd, if b.wh % 10 = 9 then fillP (1188 + (b.at_ % 4).toNat) p.pl else p.pl⟩ := fun R h => h.symm
 generalize hRR : bmM b p = R
 have hS := hS R hRR
 clear hRR
 subst hS
 have hXe : bmX b p.xs = if b.wh % 10 = 6 then p.xs ++ [(b.n, [])] else if p.xs.length = 0 then p.xs
 else if b.wh % 10 = 7 then p.xs.set (mIx b p.xs) (b.n, (p.xs.getD (mIx b p.xs) (0, [])).2)
 else if b.wh % 10 = 8 then p.xs.set (mIx b p.xs) ((p.xs.getD (mIx b p.xs) (0, [])).1, fillD (p.xs.getD (mIx b p.xs) (0, [])).2) else p.xs := rfl
 generalize bmX b p.xs = BX at *
 generalize fillP (1188 + (b.at_ % 4).toNat) p.pl = FP at *
 have m1 : b.wh.tmod 10 = b.wh % 10 := Int.tmod_eq_emod_of_nonneg (by omega)
 have m2 : IntKind.u8.wrap (b.wh % 10) = b.wh % 10 := by rw [wrapU8]; omega
 have w1 : IntKind.i64.wrap b.at_ = b.at_ := wrapL (by omega) (by omega)
 obtain ⟨ma, pty, sq, tm, pss, cs, xs, pd, pl⟩ := p
 obtain ⟨wh, at_, N⟩ := b
 dsimp only [hB39, hD39, FB39, iBR39] at *
 obtain ⟨r, hr⟩ : ∃ r, wh % 10 = r := ⟨_, rfl⟩
 rw [hr] at m1 m2 hXe ⊢
 have hr' : r = 0 ∨ r = 1 ∨ r = 2 ∨ r = 3 ∨ r = 4 ∨ r = 5 ∨ r = 6 ∨ r = 7 ∨ r = 8 ∨ r = 9 := by omega
 have hcB : ∀ j, belL j (rows int1 cs) = true := fun j => belL_mono0 _ (rows_bel int1_bel)
 have hxB : ∀ j (l : List Xt), belL j (rows xtR l) = true := fun j l => belL_mono0 _ (rows_bel xtR_bel)
 have hcR : ∀ g, renL g (rows int1 cs) = rows int1 cs := fun g => renL_fix0 _ (rows_bel int1_bel)
 have hxR : ∀ g (l : List Xt), renL g (rows xtR l) = rows xtR l := fun g l => renL_fix0 _ (rows_bel xtR_bel)
 have zC : (rows int1 cs).length = cs.length * 1 := rows_len int1_len
 have zX : (rows xtR xs).length = xs.length * 2 := rows_len xtR_len
 have g1 : decide (8 * (cs.length + 1) ≤ growMax) = true := decide_eq_true (by simp only [growMax]; omega)
 have g2 : decide (24 * (xs.length + 1) ≤ growMax) = true := decide_eq_true (by simp only [growMax]; omega)
 have g3 : decide (8 ≤ growMax) = true := rfl
 have g4 : decide (24 ≤ growMax) = true := rfl
 have key : ∀ (Q : Prop), (r = 0 → Q) → (r = 1 → Q) → (r = 2 → Q) → (r = 3 → Q) → (r = 4 → Q) → (r = 5 → Q) → (r = 6 → Q) → (r = 7 → Q) → (r = 8 → Q) → (r = 9 → Q) → Q := fun Q a b c d e f g h i j => by
  rcases hr' with h0 | h0 | h0 | h0 | h0 | h0 | h0 | h0 | h0 | h0
  · exact a h0
  · exact b h0
  · exact c h0
  · exact d h0
  · exact e h0
  · exact f h0
  · exact g h0
  · exact h h0
  · exact i h0
  · exact j h0
 rcases hC with ⟨hc0, rfl⟩ | ⟨hc0, rfl⟩ <;> rcases hX with ⟨hx0, rfl⟩ | ⟨hx0, rfl⟩
 · subst hc0
   subst hx0
   have hx1 : decide ((([] : List Xt).length : Int) > 0) = false := rfl
   simp only [fv_sl, fv_sg, fh_sl, fh_sg] at lpP ⊢
   refine key _ (fun h => ?_) (fun h => ?_) (fun h => ?_) (fun h => ?_) (fun h => ?_) (fun h => ?_) (fun h => ?_) (fun h => ?_) (fun h => ?_) (fun h => ?_)
   · subst h
     simp only [reduceIte, Int.reduceEq, List.length_nil] at hXe ⊢
     subst hXe
     simp (maxSteps := 400000) only [go_sem, m1, m2, w1, zC, zX, g1, g2, g3, g4, hx1, simprocAttr]
     refine covM39 (by first | exact .inl ⟨rfl, rfl, rfl, rfl⟩ | exact .inr ⟨rfl, rfl⟩ | exact .inr ⟨rfl, by rw [rows_append]; rfl⟩) (by first | rfl | simp) (by first | exact .inl ⟨rfl, rfl, rfl, rfl⟩ | exact .inr ⟨rfl, rfl⟩ | exact .inr ⟨rfl, by rw [rows_append]; rfl⟩) (by first | rfl | simp) (by decide)
   · subst h
     simp only [reduceIte, Int.reduceEq, List.length_nil] at hXe ⊢
     subst hXe
     simp (maxSteps := 400000) only [go_sem, m1, m2, w1, zC, zX, g1, g2, g3, g4, hx1, simprocAttr]
     refine covM39 (by first | exact .inl ⟨rfl, rfl, rfl, rfl⟩ | exact .inr ⟨rfl, rfl⟩ | exact .inr ⟨rfl, by rw [rows_append]; rfl⟩) (by first | rfl | simp) (by first | exact .inl ⟨rfl, rfl, rfl, rfl⟩ | exact .inr ⟨rfl, rfl⟩ | exact .inr ⟨rfl, by rw [rows_append]; rfl⟩) (by first | rfl | simp) (by decide)
   · subst h
     simp only [reduceIte, Int.reduceEq, List.length_nil] at hXe ⊢
     subst hXe
     simp (maxSteps := 400000) only [go_sem, m1, m2, w1, zC, zX, g1, g2, g3, g4, hx1, simprocAttr]
     refine covM39 (by first | exact .inl ⟨rfl, rfl, rfl, rfl⟩ | exact .inr ⟨rfl, rfl⟩ | exact .inr ⟨rfl, by rw [rows_append]; rfl⟩) (by first | rfl | simp) (by first | exact .inl ⟨rfl, rfl, rfl, rfl⟩ | exact .inr ⟨rfl, rfl⟩ | exact .inr ⟨rfl, by rw [rows_append]; rfl⟩) (by first | rfl | simp) (by decide)
   · subst h
     simp only [reduceIte, Int.reduceEq, List.length_nil] at hXe ⊢
     subst hXe
     simp (maxSteps := 400000) only [go_sem, m1, m2, w1, zC, zX, g1, g2, g3, g4, hx1, simprocAttr]
     refine covM39 (by first | exact .inl ⟨rfl, rfl, rfl, rfl⟩ | exact .inr ⟨rfl, rfl⟩ | exact .inr ⟨rfl, by rw [rows_append]; rfl⟩) (by first | rfl | simp) (by first | exact .inl ⟨rfl, rfl, rfl, rfl⟩ | exact .inr ⟨rfl, rfl⟩ | exact .inr ⟨rfl, by rw [rows_append]; rfl⟩) (by first | rfl | simp) (by decide)
   · subst h
     simp only [reduceIte, Int.reduceEq, List.length_nil] at hXe ⊢
     subst hXe
     simp (maxSteps := 400000) only [go_sem, m1, m2, w1, zC, zX, g1, g2, g3, g4, hx1, simprocAttr]
     refine covM39 (by first | exact .inl ⟨rfl, rfl, rfl, rfl⟩ | exact .inr ⟨rfl, rfl⟩ | exact .inr ⟨rfl, by rw [rows_append]; rfl⟩) (by first | rfl | simp) (by first | exact .inl ⟨rfl, rfl, rfl, rfl⟩ | exact .inr ⟨rfl, rfl⟩ | exact .inr ⟨rfl, by rw [rows_append]; rfl⟩) (by first | rfl | simp) (by decide)
   · subst h
     simp only [reduceIte, Int.reduceEq, List.length_nil] at hXe ⊢
     subst hXe
     simp (maxSteps := 400000) only [go_sem, m1, m2, w1, zC, zX, g1, g2, g3, g4, hx1, simprocAttr]
     refine covM39 (by first | exact .inl ⟨rfl, rfl, rfl, rfl⟩ | exact .inr ⟨rfl, rfl⟩ | exact .inr ⟨rfl, by rw [rows_append]; rfl⟩) (by first | rfl | simp) (by first | exact .inl ⟨rfl, rfl, rfl, rfl⟩ | exact .inr ⟨rfl, rfl⟩ | exact .inr ⟨rfl, by rw [rows_append]; rfl⟩) (by first | rfl | simp) (by decide)
   · subst h
     simp only [reduceIte, Int.reduceEq, List.length_nil] at hXe ⊢
     subst hXe
     simp (maxSteps := 400000) only [go_sem, m1, m2, w1, zC, zX, g1, g2, g3, g4, hx1, simprocAttr]
     refine covM39 (by first | exact .inl ⟨rfl, rfl, rfl, rfl⟩ | exact .inr ⟨rfl, rfl⟩ | exact .inr ⟨rfl, by rw [rows_append]; rfl⟩) (by first | rfl | simp) (by first | exact .inl ⟨rfl, rfl, rfl, rfl⟩ | exact .inr ⟨rfl, rfl⟩ | exact .inr ⟨rfl, by rw [rows_append]; rfl⟩) (by first | rfl | simp) (by decide)
   · subst h
     simp only [reduceIte, Int.reduceEq, List.length_nil] at hXe ⊢
     subst hXe
     simp (maxSteps := 400000) only [go_sem, m1, m2, w1, zC, zX, g1, g2, g3, g4, hx1, simprocAttr]
     refine covM39 (by first | exact .inl ⟨rfl, rfl, rfl, rfl⟩ | exact .inr ⟨rfl, rfl⟩ | exact .inr ⟨rfl, by rw [rows_append]; rfl⟩) (by first | rfl | simp) (by first | exact .inl ⟨rfl, rfl, rfl, rfl⟩ | exact .inr ⟨rfl, rfl⟩ | exact .inr ⟨rfl, by rw [rows_append]; rfl⟩) (by first | rfl | simp) (by decide)
   · subst h
     simp only [reduceIte, Int.reduceEq, List.length_nil] at hXe ⊢
     subst hXe
     simp (maxSteps := 400000) only [go_sem, m1, m2, w1, zC, zX, g1, g2, g3, g4, hx1, simprocAttr]
     refine covM39 (by first | exact .inl ⟨rfl, rfl, rfl, rfl⟩ | exact .inr ⟨rfl, rfl⟩ | exact .inr ⟨rfl, by rw [rows_append]; rfl⟩) (by first | rfl | simp) (by first | exact .inl ⟨rfl, rfl, rfl, rfl⟩ | exact .inr ⟨rfl, rfl⟩ | exact .inr ⟨rfl, by rw [rows_append]; rfl⟩) (by first | rfl | simp) (by decide)
   · subst h
     simp only [reduceIte, Int.reduceEq, List.length_nil] at hXe ⊢
     subst hXe
     simp (maxSteps := 400000) only [go_sem, m1, m2, w1, zC, zX, g1, g2, g3, g4, hx1, simprocAttr]
     refine lpP _ _ _ _ ?_ ?_ (fun e' g3' g4' => ?_)
     · simp (maxSteps := 400000) only [go_sem, AV.bel, belL, nblt, AV.ren, renL, simprocAttr]
     · simp (maxSteps := 400000) only [go_sem, AV.bel, belL, nblt, Blk.ren, AV.ren, renL, hcB, hxB, hcR, hxR, simprocAttr]
     · simp (maxSteps := 400000) only [go_sem, g3', g4', simprocAttr]
       refine covM39 (by first | exact .inl ⟨rfl, rfl, rfl, rfl⟩ | exact .inr ⟨rfl, rfl⟩ | exact .inr ⟨rfl, by rw [rows_append]; rfl⟩) (by first | rfl | simp) (by first | exact .inl ⟨rfl, rfl, rfl, rfl⟩ | exact .inr ⟨rfl, rfl⟩ | exact .inr ⟨rfl, by rw [rows_append]; rfl⟩) (by first | rfl | simp) (by decide)
 · subst hc0
   have hx1 : decide ((xs.length : Int) > 0) = true := decide_eq_true (by have := List.length_pos_iff.2 hx0; omega)
   have hxn : ¬ xs.length = 0 := by have := List.length_pos_iff.2 hx0; omega
   have hne : ((xs.length : Int) == 0) = false := beq_eq_false_iff_ne.2 (by omega)
   have hnn : ((xs.length : Int) != 0) = true := bne_iff_ne.2 (by omega)
   have q1 : at_.tmod (xs.length : Int) = ((at_.toNat % xs.length : Nat) : Int) := by rw [Int.tmod_eq_emod_of_nonneg (by omega), Int.natCast_emod, Int.toNat_of_nonneg ha.1]
   have hmod : at_.toNat % xs.length < xs.length := Nat.mod_lt _ (by omega)
   have q2 : IntKind.i64.wrap ((at_.toNat % xs.length : Nat) : Int) = ((at_.toNat % xs.length : Nat) : Int) := wrapL (by omega) (by omega)
   have c5 : decide (0 ≤ ((at_.toNat % xs.length : Nat) : Int) ∧ ((at_.toNat % xs.length : Nat) : Int) < (xs.length : Int)) = true := decide_eq_true (by omega)
   have hgi : xs[at_.toNat % xs.length]? = some (xs.getD (at_.toNat % xs.length) (0, [])) := by rw [List.getD_eq_getElem?_getD, List.getElem?_eq_getElem hmod]; rfl
   have rm : decide (at_.toNat % xs.length * 2 + 1 ≤ xs.length * 2) = true := decide_eq_true (by omega)
   have hmx : mIx ⟨wh, at_, N⟩ xs = at_.toNat % xs.length := rfl
   rw [hmx] at hXe lpD
   have e7 := splice_row (f := xtR) (z := 2) (j := 0) (a' := (N, (xs.getD (at_.toNat % xs.length) (0, [])).2)) (v := .i .i64 N) xtR_len hgi (by decide) rfl
   rw [Nat.add_zero] at e7
   generalize xs.getD (at_.toNat % xs.length) (0, []) = y at *
   generalize at_.toNat % xs.length = ix at *
   have hlset : ∀ z, (xs.set ix z).length = xs.length := fun z => List.length_set
   simp only [fv_sl, fv_sg, fh_sl, fh_sg] at lpP lpD ⊢
   refine key _ (fun h => ?_) (fun h => ?_) (fun h => ?_) (fun h => ?_) (fun h => ?_) (fun h => ?_) (fun h => ?_) (fun h => ?_) (fun h => ?_) (fun h => ?_)
   · subst h
     simp only [reduceIte, Int.reduceEq, hxn] at hXe ⊢
     subst hXe
     simp (maxSteps := 400000) only [go_sem, m1, m2, w1, zC, zX, g1, g2, g3, g4, hx1, q1, q2, c5, rm, hne, hnn, simprocAttr]
     refine covM39 (by first | exact .inl ⟨rfl, rfl, rfl, rfl⟩ | exact .inr ⟨rfl, rfl⟩ | exact .inr ⟨rfl, by rw [rows_append]; rfl⟩) (by first | rfl | simp) (by first | exact .inl ⟨rfl, rfl, rfl, rfl⟩ | exact .inr ⟨rfl, rfl⟩ | exact .inr ⟨rfl, by rw [rows_append]; rfl⟩) (by first | rfl | simp) (by decide)
   · subst h
     simp only [reduceIte, Int.reduceEq, hxn] at hXe ⊢
     subst hXe
     simp (maxSteps := 400000) only [go_sem, m1, m2, w1, zC, zX, g1, g2, g3, g4, hx1, q1, q2, c5, rm, hne, hnn, simprocAttr]
     refine covM39 (by first | exact .inl ⟨rfl, rfl, rfl, rfl⟩ | exact .inr ⟨rfl, rfl⟩ | exact .inr ⟨rfl, by rw [rows_append]; rfl⟩) (by first | rfl | simp) (by first | exact .inl ⟨rfl, rfl, rfl, rfl⟩ | exact .inr ⟨rfl, rfl⟩ | exact .inr ⟨rfl, by rw [rows_append]; rfl⟩) (by first | rfl | simp) (by decide)
   · subst h
     simp only [reduceIte, Int.reduceEq, hxn] at hXe ⊢
     subst hXe
     simp (maxSteps := 400000) only [go_sem, m1, m2, w1, zC, zX, g1, g2, g3, g4, hx1, q1, q2, c5, rm, hne, hnn, simprocAttr]
     refine covM39 (by first | exact .inl ⟨rfl, rfl, rfl, rfl⟩ | exact .inr ⟨rfl, rfl⟩ | exact .inr ⟨rfl, by rw [rows_append]; rfl⟩) (by first | rfl | simp) (by first | exact .inl ⟨rfl, rfl, rfl, rfl⟩ | exact .inr ⟨rfl, rfl⟩ | exact .inr ⟨rfl, by rw [rows_append]; rfl⟩) (by first | rfl | simp) (by decide)
   · subst h
     simp only [reduceIte, Int.reduceEq, hxn] at hXe ⊢
     subst hXe
     simp (maxSteps := 400000) only [go_sem, m1, m2, w1, zC, zX, g1, g2, g3, g4, hx1, q1, q2, c5, rm, hne, hnn, simprocAttr]
     refine covM39 (by first | exact .inl ⟨rfl, rfl, rfl, rfl⟩ | exact .inr ⟨rfl, rfl⟩ | exact .inr ⟨rfl, by rw [rows_append]; rfl⟩) (by first | rfl | simp) (by first | exact .inl ⟨rfl, rfl, rfl, rfl⟩ | exact .inr ⟨rfl, rfl⟩ | exact .inr ⟨rfl, by rw [rows_append]; rfl⟩) (by first | rfl | simp) (by decide)
   · subst h
     simp only [reduceIte, Int.reduceEq, hxn] at hXe ⊢
     subst hXe
     simp (maxSteps := 400000) only [go_sem, m1, m2, w1, zC, zX, g1, g2, g3, g4, hx1, q1, q2, c5, rm, hne, hnn, simprocAttr]
     refine covM39 (by first | exact .inl ⟨rfl, rfl, rfl, rfl⟩ | exact .inr ⟨rfl, rfl⟩ | exact .inr ⟨rfl, by rw [rows_append]; rfl⟩) (by first | rfl | simp) (by first | exact .inl ⟨rfl, rfl, rfl, rfl⟩ | exact .inr ⟨rfl, rfl⟩ | exact .inr ⟨rfl, by rw [rows_append]; rfl⟩) (by first | rfl | simp) (by decide)
   · subst h
     simp only [reduceIte, Int.reduceEq, hxn] at hXe ⊢
     subst hXe
     simp (maxSteps := 400000) only [go_sem, m1, m2, w1, zC, zX, g1, g2, g3, g4, hx1, q1, q2, c5, rm, hne, hnn, simprocAttr]
     refine covM39 (by first | exact .inl ⟨rfl, rfl, rfl, rfl⟩ | exact .inr ⟨rfl, rfl⟩ | exact .inr ⟨rfl, by rw [rows_append]; rfl⟩) (by first | rfl | simp) (by first | exact .inl ⟨rfl, rfl, rfl, rfl⟩ | exact .inr ⟨rfl, rfl⟩ | exact .inr ⟨rfl, by rw [rows_append]; rfl⟩) (by first | rfl | simp) (by decide)
   · subst h
     simp only [reduceIte, Int.reduceEq, hxn] at hXe ⊢
     subst hXe
     simp (maxSteps := 400000) only [go_sem, m1, m2, w1, zC, zX, g1, g2, g3, g4, hx1, q1, q2, c5, rm, hne, hnn, simprocAttr]
     refine covM39 (by first | exact .inl ⟨rfl, rfl, rfl, rfl⟩ | exact .inr ⟨rfl, rfl⟩ | exact .inr ⟨rfl, by rw [rows_append]; rfl⟩) (by first | rfl | simp) (by first | exact .inl ⟨rfl, rfl, rfl, rfl⟩ | exact .inr ⟨rfl, rfl⟩ | exact .inr ⟨rfl, by rw [rows_append]; rfl⟩) (by first | rfl | simp) (by decide)
   · subst h
     simp only [reduceIte, Int.reduceEq, hxn] at hXe ⊢
     subst hXe
     simp (maxSteps := 400000) only [go_sem, m1, m2, w1, zC, zX, g1, g2, g3, g4, hx1, q1, q2, c5, rm, hne, hnn, simprocAttr]
     refine covM39 (by first | exact .inl ⟨rfl, rfl, rfl, rfl⟩ | exact .inr ⟨rfl, rfl⟩ | exact .inr ⟨rfl, by rw [rows_append]; rfl⟩) (by first | rfl | simp) (.inr ⟨rfl, by rw [← e7]; rfl⟩) (hlset _).symm (by decide)
   · subst h
     simp only [reduceIte, Int.reduceEq, hxn] at hXe ⊢
     subst hXe
     simp (maxSteps := 400000) only [go_sem, m1, m2, w1, zC, zX, g1, g2, g3, g4, hx1, q1, q2, c5, rm, hne, hnn, simprocAttr]
     refine lpD _ _ _ _ hxn ?_ ?_ (fun e' g3' g4' => ?_)
     · simp (maxSteps := 400000) only [go_sem, AV.bel, belL, nblt, AV.ren, renL, simprocAttr]
     · simp (maxSteps := 400000) only [go_sem, AV.bel, belL, nblt, Blk.ren, AV.ren, renL, hcB, hxB, hcR, hxR, simprocAttr]
     · simp (maxSteps := 400000) only [go_sem, g3', g4', simprocAttr]
       refine covM39 (by first | exact .inl ⟨rfl, rfl, rfl, rfl⟩ | exact .inr ⟨rfl, rfl⟩ | exact .inr ⟨rfl, by rw [rows_append]; rfl⟩) (by first | rfl | simp) (.inr ⟨rfl, rfl⟩) (hlset _).symm (by decide)
   · subst h
     simp only [reduceIte, Int.reduceEq, hxn] at hXe ⊢
     subst hXe
     simp (maxSteps := 400000) only [go_sem, m1, m2, w1, zC, zX, g1, g2, g3, g4, hx1, q1, q2, c5, rm, hne, hnn, simprocAttr]
     refine lpP _ _ _ _ ?_ ?_ (fun e' g3' g4' => ?_)
     · simp (maxSteps := 400000) only [go_sem, AV.bel, belL, nblt, AV.ren, renL, simprocAttr]
     · simp (maxSteps := 400000) only [go_sem, AV.bel, belL, nblt, Blk.ren, AV.ren, renL, hcB, hxB, hcR, hxR, simprocAttr]
     · simp (maxSteps := 400000) only [go_sem, g3', g4', simprocAttr]
       refine covM39 (by first | exact .inl ⟨rfl, rfl, rfl, rfl⟩ | exact .inr ⟨rfl, rfl⟩ | exact .inr ⟨rfl, by rw [rows_append]; rfl⟩) (by first | rfl | simp) (by first | exact .inl ⟨rfl, rfl, rfl, rfl⟩ | exact .inr ⟨rfl, rfl⟩ | exact .inr ⟨rfl, by rw [rows_append]; rfl⟩) (by first | rfl | simp) (by decide)
 · subst hx0
   have hx1 : decide ((([] : List Xt).length : Int) > 0) = false := rfl
   have c0 : decide (cs.length = 0) = false := decide_eq_false (by have := List.length_pos_iff.2 hc0; omega)
   simp only [fv_sl, fv_sg, fh_sl, fh_sg] at lpP ⊢
   refine key _ (fun h => ?_) (fun h => ?_) (fun h => ?_) (fun h => ?_) (fun h => ?_) (fun h => ?_) (fun h => ?_) (fun h => ?_) (fun h => ?_) (fun h => ?_)
   · subst h
     simp only [reduceIte, Int.reduceEq, List.length_nil] at hXe ⊢
     subst hXe
     simp (maxSteps := 400000) only [go_sem, m1, m2, w1, zC, zX, g1, g2, g3, g4, hx1, c0, simprocAttr]
     refine covM39 (by first | exact .inl ⟨rfl, rfl, rfl, rfl⟩ | exact .inr ⟨rfl, rfl⟩ | exact .inr ⟨rfl, by rw [rows_append]; rfl⟩) (by first | rfl | simp) (by first | exact .inl ⟨rfl, rfl, rfl, rfl⟩ | exact .inr ⟨rfl, rfl⟩ | exact .inr ⟨rfl, by rw [rows_append]; rfl⟩) (by first | rfl | simp) (by decide)
   · subst h
     simp only [reduceIte, Int.reduceEq, List.length_nil] at hXe ⊢
     subst hXe
     simp (maxSteps := 400000) only [go_sem, m1, m2, w1, zC, zX, g1, g2, g3, g4, hx1, c0, simprocAttr]
     refine covM39 (by first | exact .inl ⟨rfl, rfl, rfl, rfl⟩ | exact .inr ⟨rfl, rfl⟩ | exact .inr ⟨rfl, by rw [rows_append]; rfl⟩) (by first | rfl | simp) (by first | exact .inl ⟨rfl, rfl, rfl, rfl⟩ | exact .inr ⟨rfl, rfl⟩ | exact .inr ⟨rfl, by rw [rows_append]; rfl⟩) (by first | rfl | simp) (by decide)
   · subst h
     simp only [reduceIte, Int.reduceEq, List.length_nil] at hXe ⊢
     subst hXe
     simp (maxSteps := 400000) only [go_sem, m1, m2, w1, zC, zX, g1, g2, g3, g4, hx1, c0, simprocAttr]
     refine covM39 (by first | exact .inl ⟨rfl, rfl, rfl, rfl⟩ | exact .inr ⟨rfl, rfl⟩ | exact .inr ⟨rfl, by rw [rows_append]; rfl⟩) (by first | rfl | simp) (by first | exact .inl ⟨rfl, rfl, rfl, rfl⟩ | exact .inr ⟨rfl, rfl⟩ | exact .inr ⟨rfl, by rw [rows_append]; rfl⟩) (by first | rfl | simp) (by decide)
   · subst h
     simp only [reduceIte, Int.reduceEq, List.length_nil] at hXe ⊢
     subst hXe
     simp (maxSteps := 400000) only [go_sem, m1, m2, w1, zC, zX, g1, g2, g3, g4, hx1, c0, simprocAttr]
     refine covM39 (by first | exact .inl ⟨rfl, rfl, rfl, rfl⟩ | exact .inr ⟨rfl, rfl⟩ | exact .inr ⟨rfl, by rw [rows_append]; rfl⟩) (by first | rfl | simp) (by first | exact .inl ⟨rfl, rfl, rfl, rfl⟩ | exact .inr ⟨rfl, rfl⟩ | exact .inr ⟨rfl, by rw [rows_append]; rfl⟩) (by first | rfl | simp) (by decide)
   · subst h
     simp only [reduceIte, Int.reduceEq, List.length_nil] at hXe ⊢
     subst hXe
     simp (maxSteps := 400000) only [go_sem, m1, m2, w1, zC, zX, g1, g2, g3, g4, hx1, c0, simprocAttr]
     refine covM39 (by first | exact .inl ⟨rfl, rfl, rfl, rfl⟩ | exact .inr ⟨rfl, rfl⟩ | exact .inr ⟨rfl, by rw [rows_append]; rfl⟩) (by first | rfl | simp) (by first | exact .inl ⟨rfl, rfl, rfl, rfl⟩ | exact .inr ⟨rfl, rfl⟩ | exact .inr ⟨rfl, by rw [rows_append]; rfl⟩) (by first | rfl | simp) (by decide)
   · subst h
     simp only [reduceIte, Int.reduceEq, List.length_nil] at hXe ⊢
     subst hXe
     simp (maxSteps := 400000) only [go_sem, m1, m2, w1, zC, zX, g1, g2, g3, g4, hx1, c0, simprocAttr]
     refine covM39 (by first | exact .inl ⟨rfl, rfl, rfl, rfl⟩ | exact .inr ⟨rfl, rfl⟩ | exact .inr ⟨rfl, by rw [rows_append]; rfl⟩) (by first | rfl | simp) (by first | exact .inl ⟨rfl, rfl, rfl, rfl⟩ | exact .inr ⟨rfl, rfl⟩ | exact .inr ⟨rfl, by rw [rows_append]; rfl⟩) (by first | rfl | simp) (by decide)
   · subst h
     simp only [reduceIte, Int.reduceEq, List.length_nil] at hXe ⊢
     subst hXe
     simp (maxSteps := 400000) only [go_sem, m1, m2, w1, zC, zX, g1, g2, g3, g4, hx1, c0, simprocAttr]
     refine covM39 (by first | exact .inl ⟨rfl, rfl, rfl, rfl⟩ | exact .inr ⟨rfl, rfl⟩ | exact .inr ⟨rfl, by rw [rows_append]; rfl⟩) (by first | rfl | simp) (by first | exact .inl ⟨rfl, rfl, rfl, rfl⟩ | exact .inr ⟨rfl, rfl⟩ | exact .inr ⟨rfl, by rw [rows_append]; rfl⟩) (by first | rfl | simp) (by decide)
   · subst h
     simp only [reduceIte, Int.reduceEq, List.length_nil] at hXe ⊢
     subst hXe
     simp (maxSteps := 400000) only [go_sem, m1, m2, w1, zC, zX, g1, g2, g3, g4, hx1, c0, simprocAttr]
     refine covM39 (by first | exact .inl ⟨rfl, rfl, rfl, rfl⟩ | exact .inr ⟨rfl, rfl⟩ | exact .inr ⟨rfl, by rw [rows_append]; rfl⟩) (by first | rfl | simp) (by first | exact .inl ⟨rfl, rfl, rfl, rfl⟩ | exact .inr ⟨rfl, rfl⟩ | exact .inr ⟨rfl, by rw [rows_append]; rfl⟩) (by first | rfl | simp) (by decide)
   · subst h
     simp only [reduceIte, Int.reduceEq, List.length_nil] at hXe ⊢
     subst hXe
     simp (maxSteps := 400000) only [go_sem, m1, m2, w1, zC, zX, g1, g2, g3, g4, hx1, c0, simprocAttr]
     refine covM39 (by first | exact .inl ⟨rfl, rfl, rfl, rfl⟩ | exact .inr ⟨rfl, rfl⟩ | exact .inr ⟨rfl, by rw [rows_append]; rfl⟩) (by first | rfl | simp) (by first | exact .inl ⟨rfl, rfl, rfl, rfl⟩ | exact .inr ⟨rfl, rfl⟩ | exact .inr ⟨rfl, by rw [rows_append]; rfl⟩) (by first | rfl | simp) (by decide)
   · subst h
     simp only [reduceIte, Int.reduceEq, List.length_nil] at hXe ⊢
     subst hXe
     simp (maxSteps := 400000) only [go_sem, m1, m2, w1, zC, zX, g1, g2, g3, g4, hx1, c0, simprocAttr]
     refine lpP _ _ _ _ ?_ ?_ (fun e' g3' g4' => ?_)
     · simp (maxSteps := 400000) only [go_sem, AV.bel, belL, nblt, AV.ren, renL, simprocAttr]
     · simp (maxSteps := 400000) only [go_sem, AV.bel, belL, nblt, Blk.ren, AV.ren, renL, hcB, hxB, hcR, hxR, simprocAttr]
     · simp (maxSteps := 400000) only [go_sem, g3', g4', simprocAttr]
       refine covM39 (by first | exact .inl ⟨rfl, rfl, rfl, rfl⟩ | exact .inr ⟨rfl, rfl⟩ | exact .inr ⟨rfl, by rw [rows_append]; rfl⟩) (by first | rfl | simp) (by first | exact .inl ⟨rfl, rfl, rfl, rfl⟩ | exact .inr ⟨rfl, rfl⟩ | exact .inr ⟨rfl, by rw [rows_append]; rfl⟩) (by first | rfl | simp) (by decide)
 · have hx1 : decide ((xs.length : Int) > 0) = true := decide_eq_true (by have := List.length_pos_iff.2 hx0; omega)
   have hxn : ¬ xs.length = 0 := by have := List.length_pos_iff.2 hx0; omega
   have hne : ((xs.length : Int) == 0) = false := beq_eq_false_iff_ne.2 (by omega)
   have hnn : ((xs.length : Int) != 0) = true := bne_iff_ne.2 (by omega)
   have q1 : at_.tmod (xs.length : Int) = ((at_.toNat % xs.length : Nat) : Int) := by rw [Int.tmod_eq_emod_of_nonneg (by omega), Int.natCast_emod, Int.toNat_of_nonneg ha.1]
   have hmod : at_.toNat % xs.length < xs.length := Nat.mod_lt _ (by omega)
   have q2 : IntKind.i64.wrap ((at_.toNat % xs.length : Nat) : Int) = ((at_.toNat % xs.length : Nat) : Int) := wrapL (by omega) (by omega)
   have c5 : decide (0 ≤ ((at_.toNat % xs.length : Nat) : Int) ∧ ((at_.toNat % xs.length : Nat) : Int) < (xs.length : Int)) = true := decide_eq_true (by omega)
   have hgi : xs[at_.toNat % xs.length]? = some (xs.getD (at_.toNat % xs.length) (0, [])) := by rw [List.getD_eq_getElem?_getD, List.getElem?_eq_getElem hmod]; rfl
   have rm : decide (at_.toNat % xs.length * 2 + 1 ≤ xs.length * 2) = true := decide_eq_true (by omega)
   have hmx : mIx ⟨wh, at_, N⟩ xs = at_.toNat % xs.length := rfl
   rw [hmx] at hXe lpD
   have e7 := splice_row (f := xtR) (z := 2) (j := 0) (a' := (N, (xs.getD (at_.toNat % xs.length) (0, [])).2)) (v := .i .i64 N) xtR_len hgi (by decide) rfl
   rw [Nat.add_zero] at e7
   generalize xs.getD (at_.toNat % xs.length) (0, []) = y at *
   generalize at_.toNat % xs.length = ix at *
   have hlset : ∀ z, (xs.set ix z).length = xs.length := fun z => List.length_set
   have c0 : decide (cs.length = 0) = false := decide_eq_false (by have := List.length_pos_iff.2 hc0; omega)
   simp only [fv_sl, fv_sg, fh_sl, fh_sg] at lpP lpD ⊢
   refine key _ (fun h => ?_) (fun h => ?_) (fun h => ?_) (fun h => ?_) (fun h => ?_) (fun h => ?_) (fun h => ?_) (fun h => ?_) (fun h => ?_) (fun h => ?_)
   · subst h
     simp only [reduceIte, Int.reduceEq, hxn] at hXe ⊢
     subst hXe
     simp (maxSteps := 400000) only [go_sem, m1, m2, w1, zC, zX, g1, g2, g3, g4, hx1, c0, q1, q2, c5, rm, hne, hnn, simprocAttr]
     refine covM39 (by first | exact .inl ⟨rfl, rfl, rfl, rfl⟩ | exact .inr ⟨rfl, rfl⟩ | exact .inr ⟨rfl, by rw [rows_append]; rfl⟩) (by first | rfl | simp) (by first | exact .inl ⟨rfl, rfl, rfl, rfl⟩ | exact .inr ⟨rfl, rfl⟩ | exact .inr ⟨rfl, by rw [rows_append]; rfl⟩) (by first | rfl | simp) (by decide)
   · subst h
     simp only [reduceIte, Int.reduceEq, hxn] at hXe ⊢
     subst hXe
     simp (maxSteps := 400000) only [go_sem, m1, m2, w1, zC, zX, g1, g2, g3, g4, hx1, c0, q1, q2, c5, rm, hne, hnn, simprocAttr]
     refine covM39 (by first | exact .inl ⟨rfl, rfl, rfl, rfl⟩ | exact .inr ⟨rfl, rfl⟩ | exact .inr ⟨rfl, by rw [rows_append]; rfl⟩) (by first | rfl | simp) (by first | exact .inl ⟨rfl, rfl, rfl, rfl⟩ | exact .inr ⟨rfl, rfl⟩ | exact .inr ⟨rfl, by rw [rows_append]; rfl⟩) (by first | rfl | simp) (by decide)
   · subst h
     simp only [reduceIte, Int.reduceEq, hxn] at hXe ⊢
     subst hXe
     simp (maxSteps := 400000) only [go_sem, m1, m2, w1, zC, zX, g1, g2, g3, g4, hx1, c0, q1, q2, c5, rm, hne, hnn, simprocAttr]
     refine covM39 (by first | exact .inl ⟨rfl, rfl, rfl, rfl⟩ | exact .inr ⟨rfl, rfl⟩ | exact .inr ⟨rfl, by rw [rows_append]; rfl⟩) (by first | rfl | simp) (by first | exact .inl ⟨rfl, rfl, rfl, rfl⟩ | exact .inr ⟨rfl, rfl⟩ | exact .inr ⟨rfl, by rw [rows_append]; rfl⟩) (by first | rfl | simp) (by decide)
   · subst h
     simp only [reduceIte, Int.reduceEq, hxn] at hXe ⊢
     subst hXe
     simp (maxSteps := 400000) only [go_sem, m1, m2, w1, zC, zX, g1, g2, g3, g4, hx1, c0, q1, q2, c5, rm, hne, hnn, simprocAttr]
     refine covM39 (by first | exact .inl ⟨rfl, rfl, rfl, rfl⟩ | exact .inr ⟨rfl, rfl⟩ | exact .inr ⟨rfl, by rw [rows_append]; rfl⟩) (by first | rfl | simp) (by first | exact .inl ⟨rfl, rfl, rfl, rfl⟩ | exact .inr ⟨rfl, rfl⟩ | exact .inr ⟨rfl, by rw [rows_append]; rfl⟩) (by first | rfl | simp) (by decide)
   · subst h
     simp only [reduceIte, Int.reduceEq, hxn] at hXe ⊢
     subst hXe
     simp (maxSteps := 400000) only [go_sem, m1, m2, w1, zC, zX, g1, g2, g3, g4, hx1, c0, q1, q2, c5, rm, hne, hnn, simprocAttr]
     refine covM39 (by first | exact .inl ⟨rfl, rfl, rfl, rfl⟩ | exact .inr ⟨rfl, rfl⟩ | exact .inr ⟨rfl, by rw [rows_append]; rfl⟩) (by first | rfl | simp) (by first | exact .inl ⟨rfl, rfl, rfl, rfl⟩ | exact .inr ⟨rfl, rfl⟩ | exact .inr ⟨rfl, by rw [rows_append]; rfl⟩) (by first | rfl | simp) (by decide)
   · subst h
     simp only [reduceIte, Int.reduceEq, hxn] at hXe ⊢
     subst hXe
     simp (maxSteps := 400000) only [go_sem, m1, m2, w1, zC, zX, g1, g2, g3, g4, hx1, c0, q1, q2, c5, rm, hne, hnn, simprocAttr]
     refine covM39 (by first | exact .inl ⟨rfl, rfl, rfl, rfl⟩ | exact .inr ⟨rfl, rfl⟩ | exact .inr ⟨rfl, by rw [rows_append]; rfl⟩) (by first | rfl | simp) (by first | exact .inl ⟨rfl, rfl, rfl, rfl⟩ | exact .inr ⟨rfl, rfl⟩ | exact .inr ⟨rfl, by rw [rows_append]; rfl⟩) (by first | rfl | simp) (by decide)
   · subst h
     simp only [reduceIte, Int.reduceEq, hxn] at hXe ⊢
     subst hXe
     simp (maxSteps := 400000) only [go_sem, m1, m2, w1, zC, zX, g1, g2, g3, g4, hx1, c0, q1, q2, c5, rm, hne, hnn, simprocAttr]
     refine covM39 (by first | exact .inl ⟨rfl, rfl, rfl, rfl⟩ | exact .inr ⟨rfl, rfl⟩ | exact .inr ⟨rfl, by rw [rows_append]; rfl⟩) (by first | rfl | simp) (by first | exact .inl ⟨rfl, rfl, rfl, rfl⟩ | exact .inr ⟨rfl, rfl⟩ | exact .inr ⟨rfl, by rw [rows_append]; rfl⟩) (by first | rfl | simp) (by decide)
   · subst h
     simp only [reduceIte, Int.reduceEq, hxn] at hXe ⊢
     subst hXe
     simp (maxSteps := 400000) only [go_sem, m1, m2, w1, zC, zX, g1, g2, g3, g4, hx1, c0, q1, q2, c5, rm, hne, hnn, simprocAttr]
     refine covM39 (by first | exact .inl ⟨rfl, rfl, rfl, rfl⟩ | exact .inr ⟨rfl, rfl⟩ | exact .inr ⟨rfl, by rw [rows_append]; rfl⟩) (by first | rfl | simp) (.inr ⟨rfl, by rw [← e7]; rfl⟩) (hlset _).symm (by decide)
   · subst h
     simp only [reduceIte, Int.reduceEq, hxn] at hXe ⊢
     subst hXe
     simp (maxSteps := 400000) only [go_sem, m1, m2, w1, zC, zX, g1, g2, g3, g4, hx1, c0, q1, q2, c5, rm, hne, hnn, simprocAttr]
     refine lpD _ _ _ _ hxn ?_ ?_ (fun e' g3' g4' => ?_)
     · simp (maxSteps := 400000) only [go_sem, AV.bel, belL, nblt, AV.ren, renL, simprocAttr]
     · simp (maxSteps := 400000) only [go_sem, AV.bel, belL, nblt, Blk.ren, AV.ren, renL, hcB, hxB, hcR, hxR, simprocAttr]
     · simp (maxSteps := 400000) only [go_sem, g3', g4', simprocAttr]
       refine covM39 (by first | exact .inl ⟨rfl, rfl, rfl, rfl⟩ | exact .inr ⟨rfl, rfl⟩ | exact .inr ⟨rfl, by rw [rows_append]; rfl⟩) (by first | rfl | simp) (.inr ⟨rfl, rfl⟩) (hlset _).symm (by decide)
   · subst h
     simp only [reduceIte, Int.reduceEq, hxn] at hXe ⊢
     subst hXe
     simp (maxSteps := 400000) only [go_sem, m1, m2, w1, zC, zX, g1, g2, g3, g4, hx1, c0, q1, q2, c5, rm, hne, hnn, simprocAttr]
     refine lpP _ _ _ _ ?_ ?_ (fun e' g3' g4' => ?_)
     · simp (maxSteps := 400000) only [go_sem, AV.bel, belL, nblt, AV.ren, renL, simprocAttr]
     · simp (maxSteps := 400000) only [go_sem, AV.bel, belL, nblt, Blk.ren, AV.ren, renL, hcB, hxB, hcR, hxR, simprocAttr]
     · simp (maxSteps := 400000) only [go_sem, g3', g4', simprocAttr]
       refine covM39 (by first | exact .inl ⟨rfl, rfl, rfl, rfl⟩ | exact .inr ⟨rfl, rfl⟩ | exact .inr ⟨rfl, by rw [rows_append]; rfl⟩) (by first | rfl | simp) (by first | exact .inl ⟨rfl, rfl, rfl, rfl⟩ | exact .inr ⟨rfl, rfl⟩ | exact .inr ⟨rfl, by rw [rows_append]; rfl⟩) (by first | rfl | simp) (by decide)
theorem w39 (b : Bm) (hb : b.okB = true) (p : Md) (hcl : p.cs.length ≤ 1000000) (hxl : p.xs.length ≤ 1000000) (hxd : ∀ x ∈ p.xs, x.2.length ≤ 1000000000000) (hpl : p.pl.length ≤ 1000000000000) :
 FTL Try.prog 39 [.agg b.a, .agg p.l] [] 0 (.agg (bmM b p).l) [] 0 := by
 refine FTL.of_seamC (cx := cxT [(62, k62)]) Try.func39 i39_eq (by simp [i39]) ?_
 have go := fun (C X : Go.Ab.Sh) (hC : CpO int1 1 p.cs C) (hX : CpO xtR 2 p.xs X) => part39 b hb p hcl hxl hxd hpl C X hC hX
 generalize (bmM b p).l = R at go ⊢
 obtain ⟨ma, pty, sq, tm, pss, cs, xs, pd, pl⟩ := p
 obtain ⟨wh, at_, N⟩ := b
 simp only [Md.l, Bm.a]
 dsimp only at *
 dsimp only [i39]
 have hcB : ∀ j, belL j (rows int1 cs) = true := fun j => belL_mono0 _ (rows_bel int1_bel)
 have hxB : ∀ j, belL j (rows xtR xs) = true := fun j => belL_mono0 _ (rows_bel xtR_bel)
 have hcR : ∀ g, renL g (rows int1 cs) = rows int1 cs := fun g => renL_fix0 _ (rows_bel int1_bel)
 have hxR : ∀ g, renL g (rows xtR xs) = rows xtR xs := fun g => renL_fix0 _ (rows_bel xtR_bel)
 by_cases hcs : cs = [] <;> by_cases hxs : xs = []
 · subst hcs
   subst hxs
   have tcs : List.take 0 (List.drop 0 (rows int1 ([] : List Int))) = [] := rfl
   have txs : List.take 0 (List.drop 0 (rows xtR ([] : List Xt))) = [] := rfl
   refine Seam.part (F := FB39) hFB39 mo ?_
   dsimp only [FB39]
   simp (maxSteps := 400000) only [go_sem, simprocAttr]
   refine Seam.part (F := FB39) hFB39 mo ?_
   dsimp only [FB39]
   simp (maxSteps := 400000) only [go_sem, tcs, List.length_nil, txs, List.length_nil, simprocAttr]
   refine Seam.part (F := FB39) hFB39 mo ?_
   dsimp only [FB39]
   simp (maxSteps := 400000) only [go_sem, tcs, List.length_nil, txs, List.length_nil, simprocAttr]
   refine Seam.ren [(3, 3), (4, 4)] (go (.sl { cells := [] } 0 0 0) (.sl { cells := [] } 0 0 0) (Or.inl ⟨rfl, rfl⟩) (Or.inl ⟨rfl, rfl⟩)) (by decide) (by decide) ?_ ?_
   · simp (maxSteps := 400000) only [go_sem, AV.ren, renL, AV.bel, belL, nblt, simprocAttr]
   · simp (maxSteps := 400000) only [go_sem, hB39, fv_sl, fv_sg, fh_sl, fh_sg, Blk.ren, AV.ren, renL, AV.bel, belL, nblt, hcB, hxB, hcR, hxR, rows_nil, simprocAttr]
 · subst hcs
   skip
   have tcs : List.take 0 (List.drop 0 (rows int1 ([] : List Int))) = [] := rfl
   have d0xs : decide (xs.length = 0) = false := decide_eq_false (by have := List.length_pos_iff.2 hxs; omega)
   have d1xs : decide (xs.length ≤ 0) = false := decide_eq_false (by have := List.length_pos_iff.2 hxs; omega)
   have gxs : decide (24 * xs.length ≤ growMax) = true := decide_eq_true (by simp only [growMax]; omega)
   have zxs : (rows xtR xs).length = xs.length * 2 := rows_len xtR_len
   have oxs : oneAll (rows xtR xs) = true := rows_one1 (fun _ => rfl) xs
   have txs : List.take (xs.length * 2) (List.drop 0 (rows xtR xs)) = rows xtR xs := by rw [List.drop_zero, ← zxs, List.take_length]
   refine Seam.part (F := FB39) hFB39 mo ?_
   dsimp only [FB39]
   simp (maxSteps := 400000) only [go_sem, simprocAttr]
   refine Seam.part (F := FB39) hFB39 mo ?_
   dsimp only [FB39]
   simp (maxSteps := 400000) only [go_sem, tcs, List.length_nil, d0xs, d1xs, gxs, zxs, oxs, txs, simprocAttr]
   refine Seam.part (F := FB39) hFB39 mo ?_
   dsimp only [FB39]
   simp (maxSteps := 400000) only [go_sem, tcs, List.length_nil, d0xs, d1xs, gxs, zxs, oxs, txs, simprocAttr]
   refine Seam.ren [(3, 3), (4, 5)] (go (.sl { cells := [] } 0 0 0) (.sg { cells := rows xtR xs, gr := some 2 } 0 xs.length) (Or.inl ⟨rfl, rfl⟩) (Or.inr ⟨hxs, rfl⟩)) (by decide) (by decide) ?_ ?_
   · simp (maxSteps := 400000) only [go_sem, AV.ren, renL, AV.bel, belL, nblt, simprocAttr]
   · simp (maxSteps := 400000) only [go_sem, hB39, fv_sl, fv_sg, fh_sl, fh_sg, Blk.ren, AV.ren, renL, AV.bel, belL, nblt, hcB, hxB, hcR, hxR, rows_nil, simprocAttr]
 · skip
   subst hxs
   have d0cs : decide (cs.length = 0) = false := decide_eq_false (by have := List.length_pos_iff.2 hcs; omega)
   have d1cs : decide (cs.length ≤ 0) = false := decide_eq_false (by have := List.length_pos_iff.2 hcs; omega)
   have gcs : decide (8 * cs.length ≤ growMax) = true := decide_eq_true (by simp only [growMax]; omega)
   have zcs : (rows int1 cs).length = cs.length * 1 := rows_len int1_len
   have ocs : oneAll (rows int1 cs) = true := rows_one1 (fun _ => rfl) cs
   have tcs : List.take (cs.length * 1) (List.drop 0 (rows int1 cs)) = rows int1 cs := by rw [List.drop_zero, ← zcs, List.take_length]
   have txs : List.take 0 (List.drop 0 (rows xtR ([] : List Xt))) = [] := rfl
   refine Seam.part (F := FB39) hFB39 mo ?_
   dsimp only [FB39]
   simp (maxSteps := 400000) only [go_sem, simprocAttr]
   refine Seam.part (F := FB39) hFB39 mo ?_
   dsimp only [FB39]
   simp (maxSteps := 400000) only [go_sem, d0cs, d1cs, gcs, zcs, ocs, tcs, txs, List.length_nil, simprocAttr]
   refine Seam.part (F := FB39) hFB39 mo ?_
   dsimp only [FB39]
   simp (maxSteps := 400000) only [go_sem, d0cs, d1cs, gcs, zcs, ocs, tcs, txs, List.length_nil, simprocAttr]
   refine Seam.ren [(3, 4), (4, 5)] (go (.sg { cells := rows int1 cs, gr := some 1 } 0 cs.length) (.sl { cells := [] } 0 0 0) (Or.inr ⟨hcs, rfl⟩) (Or.inl ⟨rfl, rfl⟩)) (by decide) (by decide) ?_ ?_
   · simp (maxSteps := 400000) only [go_sem, AV.ren, renL, AV.bel, belL, nblt, simprocAttr]
   · simp (maxSteps := 400000) only [go_sem, hB39, fv_sl, fv_sg, fh_sl, fh_sg, Blk.ren, AV.ren, renL, AV.bel, belL, nblt, hcB, hxB, hcR, hxR, rows_nil, simprocAttr]
 · skip
   skip
   have d0cs : decide (cs.length = 0) = false := decide_eq_false (by have := List.length_pos_iff.2 hcs; omega)
   have d1cs : decide (cs.length ≤ 0) = false := decide_eq_false (by have := List.length_pos_iff.2 hcs; omega)
   have gcs : decide (8 * cs.length ≤ growMax) = true := decide_eq_true (by simp only [growMax]; omega)
   have zcs : (rows int1 cs).length = cs.length * 1 := rows_len int1_len
   have ocs : oneAll (rows int1 cs) = true := rows_one1 (fun _ => rfl) cs
   have tcs : List.take (cs.length * 1) (List.drop 0 (rows int1 cs)) = rows int1 cs := by rw [List.drop_zero, ← zcs, List.take_length]
   have d0xs : decide (xs.length = 0) = false := decide_eq_false (by have := List.length_pos_iff.2 hxs; omega)
   have d1xs : decide (xs.length ≤ 0) = false := decide_eq_false (by have := List.length_pos_iff.2 hxs; omega)
   have gxs : decide (24 * xs.length ≤ growMax) = true := decide_eq_true (by simp only [growMax]; omega)
   have zxs : (rows xtR xs).length = xs.length * 2 := rows_len xtR_len
   have oxs : oneAll (rows xtR xs) = true := rows_one1 (fun _ => rfl) xs
   have txs : List.take (xs.length * 2) (List.drop 0 (rows xtR xs)) = rows xtR xs := by rw [List.drop_zero, ← zxs, List.take_length]
   refine Seam.part (F := FB39) hFB39 mo ?_
   dsimp only [FB39]
   simp (maxSteps := 400000) only [go_sem, simprocAttr]
   refine Seam.part (F := FB39) hFB39 mo ?_
   dsimp only [FB39]
   simp (maxSteps := 400000) only [go_sem, d0cs, d1cs, gcs, zcs, ocs, tcs, d0xs, d1xs, gxs, zxs, oxs, txs, simprocAttr]
   refine Seam.part (F := FB39) hFB39 mo ?_
   dsimp only [FB39]
   simp (maxSteps := 400000) only [go_sem, d0cs, d1cs, gcs, zcs, ocs, tcs, d0xs, d1xs, gxs, zxs, oxs, txs, simprocAttr]
   refine Seam.ren [(3, 4), (4, 6)] (go (.sg { cells := rows int1 cs, gr := some 1 } 0 cs.length) (.sg { cells := rows xtR xs, gr := some 2 } 0 xs.length) (Or.inr ⟨hcs, rfl⟩) (Or.inr ⟨hxs, rfl⟩)) (by decide) (by decide) ?_ ?_
   · simp (maxSteps := 400000) only [go_sem, AV.ren, renL, AV.bel, belL, nblt, simprocAttr]
   · simp (maxSteps := 400000) only [go_sem, hB39, fv_sl, fv_sg, fh_sl, fh_sg, Blk.ren, AV.ren, renL, AV.bel, belL, nblt, hcB, hxB, hcR, hxR, rows_nil, simprocAttr]
def bm3 : List AV → Option Bm
 | [.i .u8 a, .i .u8 b, .i .i64 c] => some ⟨a, b, c⟩
 | _ => none
theorem bm3_eq {c : List AV} {x : Bm} (h : bm3 c = some x) : c = x.a := by
 unfold bm3 at h
 split at h
 · cases h; rfl
 · cases h
def bmF (p : Md) : Bool := decide (p.cs.length ≤ 1000000) && (decide (p.xs.length ≤ 1000000) && ((p.xs.all fun x => decide (x.2.length ≤ 1000000000000)) && decide (p.pl.length ≤ 1000000000000)))
def k39 : Ct
 | [.agg b, .agg c], _, n => (bm3 b).bind fun b => (md9 c).bind fun p => some (b.okB && bmF p, { v := .agg (bmM b p).l, n })
 | _, _, _ => none
theorem s39 : SoundAt Try.prog 39 k39 := fun args h n c E hc ht => by
 unfold k39 at hc
 split at hc
 · simp only [Option.bind_eq_some_iff] at hc
   obtain ⟨b, hb, p, hp, he⟩ := hc
   cases he
   rw [bm3_eq hb, md9_eq hp]
   simp only [bmF, Bool.and_eq_true, decide_eq_true_eq, List.all_eq_true] at ht
   exact CallOK.pure (by kernel_rfl) (by simp only [belL, AV.bel, Md.bel, Bm.a, Bool.and_self]) (by simp only [AV.bel, Md.bel]) (w39 b ht.1 p ht.2.1 ht.2.2.1 ht.2.2.2.1 ht.2.2.2.2) _ _
 · cases hc
end Go.Proofs.Pic
