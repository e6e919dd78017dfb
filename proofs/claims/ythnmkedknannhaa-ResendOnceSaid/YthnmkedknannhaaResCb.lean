/- Texts laid as one: ResC5 ResC6. -/
import Derived.Test.YthnmkedknannhaaResC4
import Derived.Test.YthnmkedknannhaaAbRfs
section
/- Contracts of late, and of what Saw calls. -/
namespace Go.Proofs.Res
open Go.Ab
set_option maxRecDepth 100000
set_option maxHeartbeats 4000000
set_option linter.unusedSimpArgs false
set_option linter.unusedVariables false
def lateS (w : Ws) (now : Int) : Int := bif goodB w then (bif inI w.ti TT now then 0 else 2) else 280
def T7 : List (Nat × Ct) := [(11, k11), (12, k12), (49, k49), (52, k52)]
theorem hT7 : Sound Try.prog (cxT T7) := Sound.cons s11 (Sound.cons s12 (Sound.cons s49 (Sound.cons s52 Sound.nil)))
theorem w54 (w : Ws) (now : Int) (hl : w.l.length ≤ 1000000000000) : FTL Try.prog 54 [.agg w.a, .i .i64 now] [] 0 (.i .i64 (lateS w now)) [] 0 := by
 have hk := wsA_a w
 have hll : decide (w.l.length ≤ 1000000000000) = true := decide_eq_true hl
 generalize hR : lateS w now = R
 unfold lateS at hR
 generalize hg : goodB w = g at *
 obtain ⟨ti, st, tp, l⟩ := w
 simp only [Ws.a] at hk ⊢
 refine FTL.of_iw hT7 mo Try.func54 i54_eq (by simp [i54]) (iw_of_jw ?_)
 dsimp only [i54, T7]
 cases g
 · simp (maxSteps := 400000) only [go_sem, k11, hk, hg, hll, simprocAttr]
   exact Ends.pureE rfl (by rw [← hR]; rfl)
 · simp only [TT] at hR
   cases h : inI ti 1099511627776 now
   all_goals
    simp (maxSteps := 400000) only [go_sem, k11, hk, hg, hll, k49, h, simprocAttr]
    exact Ends.pureE rfl (by rw [← hR, h]; rfl)
def k54 : Ct
 | [.agg c, .i .i64 now], _, n => (wsA c).bind fun w => some (decide (w.l.length ≤ 1000000000000), { v := .i .i64 (lateS w now), n })
 | _, _, _ => none
theorem s54 : SoundAt Try.prog 54 k54 := fun args h n c E hc ht => by
 unfold k54 at hc
 split at hc
 · simp only [Option.bind_eq_some_iff] at hc
   obtain ⟨w, hw, he⟩ := hc
   cases he
   obtain ⟨h1, h2⟩ := wsA_k hw
   exact CallOK.pure (by kernel_rfl) (by simp only [belL, AV.bel, h2, Bool.and_self]) rfl (FTL.wkaH h1 (w54 w _ (of_decide_eq_true ht))) _ _
 · cases hc
def goneB (seq top d : Int) (x : Wt) : Bool := (x.sq == seq) || decide (lead x.sq top - max d 0 < -1000)
def T8 : List (Nat × Ct) := [(51, k51)]
theorem hT8 : Sound Try.prog (cxT T8) := Sound.cons s51 Sound.nil
theorem w55 (seq top d : Int) (x : Wt) (hsq : inI 0 65535 x.sq = true) (ht : inI 0 65535 top = true) (hd : inI (-40000) 40000 d = true) :
 FTL Try.prog 55 [.agg x.l, .fp [.i .i64 seq] 0, .fp [.i .i64 top] 0, .fp [.i .i64 d] 0] [] 0 (.b (goneB seq top d x)) [] 0 := by
 have hr := lead_rng x.sq top
 have hd := inI_t hd
 obtain ⟨sq, fd, ak, tr⟩ := x
 dsimp only at hsq hr
 have hw : IntKind.i64.wrap (lead sq top - max d 0) = lead sq top - max d 0 := wrapL (by omega) (by omega)
 refine FTL.of_iw hT8 mo Try.func55 i55_eq (by simp [i55]) (iw_of_jw ?_)
 dsimp only [i55, T8]
 cases h : (sq == seq)
 all_goals
  simp (maxSteps := 400000) only [go_sem, Wt.l, k51, hsq, ht, hw, h, simprocAttr]
  exact Ends.pureE rfl (by simp only [goneB, h]; rfl)
def k55 : Ct
 | [.agg c, .p a 0, .p b 0, .p e 0], h, n => (wt4 c).bind fun x => (hget h a).bind fun ka => (oneB ka).bind fun seq => (hget h b).bind fun kb => (oneB kb).bind fun top => (hget h e).bind fun ke => (oneB ke).bind fun d =>
  some (inI 0 65535 x.sq && inI 0 65535 top && inI (-40000) 40000 d, { v := .b (goneB seq top d x), n, rd := [a, b, e] })
 | _, _, _ => none
theorem s55 : SoundAt Try.prog 55 k55 := fun args h n c E hc ht => by
 unfold k55 at hc
 split at hc
 · rename_i cc a b e
   simp only [Option.bind_eq_some_iff] at hc
   obtain ⟨x, hx, ka, hka, seq, hseq, kb, hkb, top, htop, ke, hke, d, hd, he⟩ := hc
   cases he
   simp only [Bool.and_eq_true] at ht
   rw [wt4_eq hx]
   refine CallOK.viewG (by kernel_rfl) (argsF := [.agg x.l, .fp ka.cells 0, .fp kb.cells 0, .fp ke.cells 0]) ⟨VwV.same rfl, VwV.p (by simp [only, inl_cons, hka]) (by rw [oneB_eq hseq]; rfl), VwV.p (by simp [only, inl_cons, hkb]) (by rw [oneB_eq htop]; rfl), VwV.p (by simp [only, inl_cons, hke]) (by rw [oneB_eq hd]; rfl), trivial⟩ rfl ?_
   rw [oneB_eq hseq, oneB_eq htop, oneB_eq hd]
   exact w55 seq top d x ht.1.1 ht.1.2 ht.2
 · cases hc
theorem w64 (seq top d : Int) (l : List Wt) (hl : l.length ≤ 1000000000000) (hsq : ∀ x ∈ l, inI 0 65535 x.sq = true) (ht : inI 0 65535 top = true) (hd : inI (-40000) 40000 d = true) :
 FTL Try.prog 64 [.fz (rows Wt.l l) l.length, .fn 55 [.fp [.i .i64 seq] 0, .fp [.i .i64 top] 0, .fp [.i .i64 d] 0]] [] 0 (.i .i64 (ixf (goneB seq top d) l 0)) [] 0 :=
 ixf_fz (row := Wt.l) (el := fun x => .agg x.l) mo Try.func64 i64_eq (by kernel_rfl) Wt.len Wt.bel rfl (fun _ => rfl) (fun a b h => by
  obtain ⟨a1, a2, a3, a4⟩ := a
  obtain ⟨b1, b2, b3, b4⟩ := b
  simp only [Wt.l, AV.agg.injEq, List.cons.injEq, AV.i.injEq, true_and, and_true] at h
  obtain ⟨rfl, rfl, rfl, rfl⟩ := h; rfl) l (by omega) (fun x hx => w55 seq top d x (hsq x hx) ht hd)
def k64 : Ct
 | [x, .fn 55 [.p a 0, .p b 0, .p e 0]], h, n => vwK h 4 x fun rd m cs ok => (unrows 4 wt4 m cs).bind fun l => (hget h a).bind fun ka => (oneB ka).bind fun seq => (hget h b).bind fun kb => (oneB kb).bind fun top => (hget h e).bind fun ke => (oneB ke).bind fun d =>
  some (ok && decide (m ≤ 1000000000000) && l.all (fun x => inI 0 65535 x.sq) && inI 0 65535 top && inI (-40000) 40000 d, { v := .i .i64 (ixf (goneB seq top d) l 0), n, rd := a :: b :: e :: rd })
 | _, _, _ => none
theorem s64 : SoundAt Try.prog 64 k64 := fun args h n c E hc ht => by
 unfold k64 at hc
 split at hc
 · rename_i x a b e
   rw [vwK_eq] at hc
   simp only [Option.bind_eq_some_iff] at hc
   obtain ⟨⟨rd, m, cs, ok⟩, hv, l, hl, ka, hka, seq, hseq, kb, hkb, top, htop, ke, hke, d, hd, he⟩ := hc
   cases he
   simp only [Bool.and_eq_true, decide_eq_true_eq, List.all_eq_true] at ht
   obtain ⟨⟨⟨⟨rfl, hm⟩, h1⟩, h2⟩, h3⟩ := ht
   obtain ⟨rfl, hlm⟩ := unrows_eq (f := Wt.l) (fun c a h => wt4_eq h) hl
   subst hlm
   refine CallOK.viewG (by kernel_rfl) (argsF := [.fz (rows Wt.l l) l.length, .fn 55 [.fp ka.cells 0, .fp kb.cells 0, .fp ke.cells 0]]) ⟨vwK_sub hv (rows_bel Wt.bel) (fun c hc => by simp [inl_cons, hc]), VwV.fn ⟨VwV.p (by simp [only, inl_cons, hka]) (by rw [oneB_eq hseq]; rfl), VwV.p (by simp [only, inl_cons, hkb]) (by rw [oneB_eq htop]; rfl), VwV.p (by simp [only, inl_cons, hke]) (by rw [oneB_eq hd]; rfl), trivial⟩, trivial⟩ rfl ?_
   rw [oneB_eq hseq, oneB_eq htop, oneB_eq hd]
   exact w64 seq top d l hm (fun x hx => h1 x hx) h2 h3
 · cases hc
/-! Clone and DeleteFunc -/
theorem w57_0 (L : List AV) : FTL Try.prog 57 [.fz L 0] [] 0 .ze [] 0 := cln_0 mo Try.func57 (z := 4) (bytes := 32) (zs := [.i .i64 0, .i .i64 0, .i .i64 0, .i .i64 0]) i57_eq L
theorem w57_1 (x : Wt) (l : List Wt) (hl : l.length ≤ 1000000000) : FTL Try.prog 57 [.fz (rows Wt.l (x :: l)) (l.length + 1)] [] 0 (.sg 0 0 (l.length + 1)) [(0, { cells := rows Wt.l (x :: l), gr := some 4 })] 1 :=
 cln_1 mo Try.func57 (z := 4) (bytes := 32) (zs := [.i .i64 0, .i .i64 0, .i .i64 0, .i .i64 0]) i57_eq (by rw [rows_len Wt.len]; rfl) (rows_one1 Wt.one _) (rows_bel Wt.bel) (by simp only [growMax]; omega)
def k57 : Ct
 | [.fz L m], _, n => (unrows 4 wt4 m L).bind fun l => match l with
  | [] => some (true, { v := .ze, n })
  | x :: r => some (decide (r.length ≤ 1000000000), { v := .sg n 0 (r.length + 1), n := n + 1, nw := [(n, { cells := rows Wt.l (x :: r), gr := some 4 })] })
 | [.ns], _, n => some (true, { v := .ze, n })
 | _, _, _ => none
theorem s57 : SoundAt Try.prog 57 k57 := fun args h n c E hc ht => by
 unfold k57 at hc
 split at hc
 · rename_i L m
   simp only [Option.bind_eq_some_iff] at hc
   obtain ⟨l, hl, hc⟩ := hc
   obtain ⟨rfl, hm⟩ := unrows_eq (f := Wt.l) (fun c a h => wt4_eq h) hl
   subst hm
   split at hc
   · cases hc
     exact CallOK.pure (by kernel_rfl) rfl rfl (w57_0 _) _ _
   · rename_i x r
     cases hc
     have := CallOK.new1 (h := h) (n := n) (by kernel_rfl) (by simp only [belL, AV.bel, rows_bel Wt.bel, Bool.and_self]) (rows_bel Wt.bel) rfl (w57_1 x r (of_decide_eq_true ht))
     simpa [AV.ren] using this
 · cases hc
   exact CallOK.pure (by kernel_rfl) rfl rfl (FTL.wkaH Wka.ns (w57_0 [])) _ _
 · cases hc
end Go.Proofs.Res
end
section
/- Contracts of DeleteFunc, and of the numbers between two ones. -/
namespace Go.Proofs.Res
open Go.Ab
set_option maxRecDepth 100000
set_option maxHeartbeats 4000000
set_option linter.unusedSimpArgs false
set_option linter.unusedVariables false
def T9 : List (Nat × Ct) := [(55, k55), (64, k64)]
theorem hT9 : Sound Try.prog (cxT T9) := Sound.cons s55 (Sound.cons s64 Sound.nil)
def keepL (seq top d : Int) (l : List Wt) : List Wt := l.filter fun x => !goneB seq top d x
theorem w56 (seq top d : Int) (l : List Wt) (hl : l.length ≤ 1000000000) (hsq : ∀ x ∈ l, inI 0 65535 x.sq = true) (ht : inI 0 65535 top = true) (hd : inI (-40000) 40000 d = true) :
 FTL Try.prog 56 [.sg 0 0 l.length, .fn 55 [.p 1 0, .p 2 0, .p 3 0]] (dlH 4 (rows Wt.l l) seq top d) 4 (.sg 0 0 (keepL seq top d l).length) (dlH 4 (rows Wt.l (keepL seq top d l)) seq top d) 4 := by
 have h64 : ∀ (h : Hp) (k : List Nat → Nat → List AV → Bool → Option (Bool × Eff)), hget h 0 = some { cells := rows Wt.l l, gr := some 4 } → vwK h 4 (.sg 0 0 l.length) k = k [0] l.length (rows Wt.l l) true := fun h k hh => by
  have hlen : (rows Wt.l l).length = l.length * 4 := rows_len Wt.len
  simp only [vwK_g, hh, Option.bind_some, cellsAt, List.drop_zero]
  rw [List.take_of_length_le (by omega), decide_eq_true hlen]
 have hall : l.all (fun x => inI 0 65535 x.sq) = true := List.all_eq_true.2 hsq
 refine del_fz (cx := cxT T9) (row := Wt.l) (p := goneB seq top d) (z := 4) (zs := [.i .i64 0, .i .i64 0, .i .i64 0, .i .i64 0]) (ix := 64) (g := 55) (rd0 := [1, 2, 3, 0]) (rd1 := [1, 2, 3]) hT9 mo Try.func56 i56_eq (by decide) Wt.len Wt.bel Wt.one rfl rfl rfl l hl ?_ (fun x hx L k => ?_)
 · simp only [T9, cxT_cons, Nat.reduceEqDiff, if_false, if_true, k64]
   rw [h64 _ _ rfl]
   simp only [wt4_un, Option.bind_some, dlH, hget_cons, int1, oneB, Nat.reduceEqDiff, if_false, if_true, hall, ht, hd, Bool.and_true, Bool.true_and]
   rw [decide_eq_true (by omega : l.length ≤ 1000000000000)]
 · have h1 := hsq x hx
   simp only [T9, cxT_cons, k55, wt4_l, Option.bind_some, dlH, hget_cons, int1, oneB, Nat.reduceEqDiff, if_false, if_true, h1, ht, hd, Bool.and_self]
theorem w56z (seq top d : Int) (ht : inI 0 65535 top = true) (hd : inI (-40000) 40000 d = true) :
 FTL Try.prog 56 [.ze, .fn 55 [.p 0 0, .p 1 0, .p 2 0]] [(0, { cells := int1 seq }), (1, { cells := int1 top }), (2, { cells := int1 d })] 3 .ze [(0, { cells := int1 seq }), (1, { cells := int1 top }), (2, { cells := int1 d })] 3 := by
 refine FTL.of_iw hT9 mo Try.func56 i56_eq (by simp [i56]) (iw_of_jw ?_)
 dsimp only [i56, T9]
 have h64 : ∀ n, k64 [.ze, .fn 55 [.p 0 0, .p 1 0, .p 2 0]] [(0, { cells := int1 seq }), (1, { cells := int1 top }), (2, { cells := int1 d })] n = some (true, { v := .i .i64 (-1), n, rd := [0, 1, 2] }) := fun n => by
  simp only [k64, vwK_z, unrows, Option.bind_some, hget_cons, int1, oneB, Nat.reduceEqDiff, if_false, if_true, ht, hd, List.all_nil, Bool.and_true, Bool.true_and]
  rfl
 simp (maxSteps := 400000) only [go_sem, h64, simprocAttr]
 refine Ends.keepL rfl rfl ?_
 exact ⟨rfl, rfl, by decide, rfl, rfl, by decide, rfl, rfl, by decide, trivial⟩
def k56 : Ct
 | [.sg b 0 m, .fn 55 [.p a1 0, .p a2 0, .p a3 0]], h, n => (hget h b).bind fun k => (unrows 4 wt4 m k.cells).bind fun l => (hget h a1).bind fun ka => (oneB ka).bind fun seq => (hget h a2).bind fun kb => (oneB kb).bind fun top => (hget h a3).bind fun ke => (oneB ke).bind fun d =>
  (match k with
  | ⟨_, false, some 4, none⟩ => some (decide (m ≤ 1000000000) && l.all (fun x => inI 0 65535 x.sq) && inI 0 65535 top && inI (-40000) 40000 d && !(Nat.beq b a1) && !(Nat.beq b a2) && !(Nat.beq b a3) && !(Nat.beq a1 a2) && !(Nat.beq a1 a3) && !(Nat.beq a2 a3),
   { v := .sg b 0 (keepL seq top d l).length, n := n + 4, rd := [b, a1, a2, a3], md := [(b, some { cells := rows Wt.l (keepL seq top d l), gr := some 4 })] })
  | _ => none)
 | [.ze, .fn 55 [.p a1 0, .p a2 0, .p a3 0]], h, n => (hget h a1).bind fun ka => (oneB ka).bind fun seq => (hget h a2).bind fun kb => (oneB kb).bind fun top => (hget h a3).bind fun ke => (oneB ke).bind fun d =>
  some (inI 0 65535 top && inI (-40000) 40000 d && !(Nat.beq a1 a2) && !(Nat.beq a1 a3) && !(Nat.beq a2 a3), { v := .ze, n, rd := [a1, a2, a3] })
 | _, _, _ => none
theorem nbf {a b : Nat} (h : (!(Nat.beq a b)) = true) : a ≠ b := fun e => by subst e; simp at h
theorem s56 : SoundAt Try.prog 56 k56 := fun args h n c E hc ht => by
 unfold k56 at hc
 split at hc
 · rename_i b m a1 a2 a3
   simp only [Option.bind_eq_some_iff] at hc
   obtain ⟨k, hk, l, hl, ka, hka, seq, hseq, kb, hkb, top, htop, ke, hke, d, hd, he⟩ := hc
   split at he
   · rename_i cells
     cases he
     simp only [Bool.and_eq_true, decide_eq_true_eq, List.all_eq_true] at ht
     obtain ⟨⟨⟨⟨⟨⟨⟨⟨⟨hm, h1⟩, h2⟩, h3⟩, d1⟩, d2⟩, d3⟩, d4⟩, d5⟩, d6⟩ := ht
     obtain ⟨hcs, hlm⟩ := unrows_eq (f := Wt.l) (fun c a h => wt4_eq h) hl
     subst hlm
     dsimp only at hcs
     subst hcs
     rw [oneB_eq hseq] at hka
     rw [oneB_eq htop] at hkb
     rw [oneB_eq hd] at hke
     exact CallOK.del (by kernel_rfl) Wt.bel (w56 seq top d l hm (fun x hx => h1 x hx) h2 h3) hk hka hkb hke ⟨⟨nbf d1, nbf d2, nbf d3⟩, nbf d4, nbf d5, nbf d6⟩
   · cases he
 · rename_i a1 a2 a3
   simp only [Option.bind_eq_some_iff] at hc
   obtain ⟨ka, hka, seq, hseq, kb, hkb, top, htop, ke, hke, d, hd, he⟩ := hc
   cases he
   simp only [Bool.and_eq_true] at ht
   obtain ⟨⟨⟨⟨h2, h3⟩, d4⟩, d5⟩, d6⟩ := ht
   have d4 := nbf d4
   have d5 := nbf d5
   have d6 := nbf d6
   rw [oneB_eq hseq] at hka
   rw [oneB_eq htop] at hkb
   rw [oneB_eq hd] at hke
   have hm : ∀ {c : Nat} {kk : Blk}, hget [(0, ({ cells := int1 seq } : Blk)), (1, { cells := int1 top }), (2, { cells := int1 d })] c = some kk → (c = 0 ∧ kk = { cells := int1 seq }) ∨ (c = 1 ∧ kk = { cells := int1 top }) ∨ (c = 2 ∧ kk = { cells := int1 d }) := fun hh => by
    have := hget_mem hh
    simpa using this
   refine CallOK.readL (argsL := [.ze, .fn 55 [.p 0 0, .p 1 0, .p 2 0]]) (hL := [(0, { cells := int1 seq }), (1, { cells := int1 top }), (2, { cells := int1 d })]) (k := 3) (fun i => if i = 0 then a1 else if i = 1 then a2 else a3) (by kernel_rfl) rfl rfl (w56z seq top d h2 h3) (fun i hi' => ?_) (fun i kk hh => ?_) (fun i kk hh => ?_) (fun i1 i2 k1 k2 q1 q2 _ e => ?_) _ rfl
   · match i, hi' with
     | 0, _ => exact ⟨_, rfl⟩
     | 1, _ => exact ⟨_, rfl⟩
     | 2, _ => exact ⟨_, rfl⟩
   · rcases hm hh with ⟨rfl, rfl⟩ | ⟨rfl, rfl⟩ | ⟨rfl, rfl⟩ <;> exact ⟨by decide, rfl⟩
   · rcases hm hh with ⟨rfl, rfl⟩ | ⟨rfl, rfl⟩ | ⟨rfl, rfl⟩
     · exact hka
     · exact hkb
     · exact hke
   · rcases hm q1 with ⟨rfl, rfl⟩ | ⟨rfl, rfl⟩ | ⟨rfl, rfl⟩ <;> rcases hm q2 with ⟨rfl, _⟩ | ⟨rfl, _⟩ | ⟨rfl, _⟩ <;> simp at e <;> first | rfl | (subst e; simp at *)
 · cases hc
/-! the numbers between -/
theorem w58 (top d : Int) : FTL Try.prog 58 [.i .i64 top, .i .i64 d] [] 0 (.fn 91 [.p 1 0, .p 0 0]) [(0, { cells := int1 top }), (1, { cells := int1 d })] 2 := by
 refine FTL.of_iw Sound.nil mo Try.func58 i58_eq (by simp [i58]) (iw_of_jw ?_)
 dsimp only [i58]
 simp (maxSteps := 400000) only [go_sem, simprocAttr]
 exact Ends.R [] (by decide) (by decide) rfl rfl (by simp [HpR, hget, rn, Blk.ren, renL, AV.ren, belL, AV.bel, int1]; rfl)
def k58 : Ct
 | [.i .i64 top, .i .i64 d], h, n => some (true, { v := .fn 91 [.p (n + 1) 0, .p n 0], n := n + 2, nw := [(n, { cells := int1 top }), (n + 1, { cells := int1 d })] })
 | _, _, _ => none
theorem s58 : SoundAt Try.prog 58 k58 := fun args h n c E hc ht => by
 unfold k58 at hc
 split at hc
 · rename_i top d
   cases hc
   have hm : ∀ {c : Nat} {kk : Blk}, (c, kk) ∈ [(0, ({ cells := int1 top } : Blk)), (1, { cells := int1 d })] → (c = 0 ∧ kk = { cells := int1 top }) ∨ (c = 1 ∧ kk = { cells := int1 d }) := fun hh => by simpa using hh
   refine (CallOK.gen (k := 0) (kR := 2) (n := n) (h := h) (fun i => i) (fun _ => false) (by kernel_rfl) (Nat.zero_le _) rfl (w58 top d) (fun c kk hh => by cases hh) (fun c kk hh => ?_) (fun c hc => absurd hc (by omega)) (fun c kk hh => by cases hh) (fun c kk hh => by cases hh) (fun c1 c2 k1 k2 q1 => by cases q1) (fun c kk hh => by cases hh) (fun c kk hh _ => ?_) (fun c kk hh => by cases hh) (fun c kk hh => ?_)).cast rfl ?_
   · rcases hm hh with ⟨rfl, rfl⟩ | ⟨rfl, rfl⟩ <;> rfl
   · rcases hm hh with ⟨rfl, rfl⟩ | ⟨rfl, rfl⟩ <;> rfl
   · rcases hm hh with ⟨rfl, rfl⟩ | ⟨rfl, rfl⟩ <;> decide
   · simp [mdG, nwG, rdG, chiG, hget, Blk.ren, AV.ren, renL, int1]
     rfl
 · cases hc
end Go.Proofs.Res
end
