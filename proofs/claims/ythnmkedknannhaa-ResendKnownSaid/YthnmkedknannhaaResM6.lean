/- Contracts of Clone, IndexFunc and DeleteFunc over what was kept. -/
import Derived.Test.YthnmkedknannhaaResM3
namespace Go.Proofs.Res
open Go.Ab
set_option maxRecDepth 100000
set_option maxHeartbeats 4000000
set_option linter.unusedSimpArgs false
set_option linter.unusedVariables false

/-- Is a packet too old, or too far behind the one that comes? -/
def goneK (now lq d : Int) (x : Kp) : Bool := decide (now - x.ti > 2000) || decide (lead x.p.sq lq - d < -16384)
def okK (x : Kp) : Bool := inI 0 65535 x.p.sq && inI 0 1099511627776 x.ti
def okN (lq now : Int) : Bool := inI 0 65535 lq && inI 0 1099511627776 now
def TK8 : List (Nat × Ct) := [(51, k51)]
theorem hTK8 : Sound Try.prog (cxT TK8) := Sound.cons s51 Sound.nil
theorem w70 (now lq d : Int) (x : Kp) (hx : okK x = true) (ht : okN lq now = true) (hd : inI (-40000) 40000 d = true) :
    FTL Try.prog 70 [.agg x.l, .fp [.i .i64 now] 0, .fp [.i .i64 lq] 0, .fp [.i .i64 d] 0] [] 0 (.b (goneK now lq d x)) [] 0 := by
  have hr := lead_rng x.p.sq lq
  have hd := inI_t hd
  simp only [okK, okN, Bool.and_eq_true] at hx ht
  obtain ⟨hsq, hti⟩ := hx
  obtain ⟨hlq, hnow⟩ := ht
  have hti := inI_t hti
  have hnow := inI_t hnow
  have hg : goneK now lq d x = (decide (now - x.ti > 2000) || decide (lead x.p.sq lq - d < -16384)) := rfl
  have hk51 : ∀ (h : Hp) n, k51 [.i .i64 x.p.sq, .i .i64 lq] h n = some (true, { v := .i .i64 (lead x.p.sq lq), n }) := fun h n => by simp only [k51, hsq, hlq, Bool.and_self]
  generalize goneK now lq d x = G at *
  generalize lead x.p.sq lq = ld at *
  obtain ⟨⟨ma, pty, sq, tm, pss, cs, xs, pd, pl⟩, xt, xa⟩ := x
  dsimp only at hsq hr hti hg hk51
  have hw : IntKind.i64.wrap (now - xt) = now - xt := wrapL (by omega) (by omega)
  have hw2 : IntKind.i64.wrap (ld - d) = ld - d := wrapL (by omega) (by omega)
  refine FTL.of_iw hTK8 mo Try.func70 i70_eq (by simp [i70]) (iw_of_jw ?_)
  dsimp only [i70, TK8]
  cases h : decide (now - xt > 2000)
  all_goals
    simp (config := { maxSteps := 400000 }) only [go_sem, Kp.l, hk51, hw, hw2, h, simprocAttr]
    exact Ends.pureE rfl (by rw [hg, h]; rfl)
def k70 : Ct
  | [.agg c, .p a 0, .p b 0, .p e 0], h, n => (kp11 c).bind fun x => (hget h a).bind fun ka => (oneB ka).bind fun now => (hget h b).bind fun kb => (oneB kb).bind fun lq => (hget h e).bind fun ke => (oneB ke).bind fun d =>
    some (okK x && okN lq now && inI (-40000) 40000 d, { v := .b (goneK now lq d x), n, rd := [a, b, e] })
  | _, _, _ => none
theorem s70 : SoundAt Try.prog 70 k70 := fun args h n c E hc ht => by
  unfold k70 at hc
  split at hc
  · rename_i cc a b e
    simp only [Option.bind_eq_some_iff] at hc
    obtain ⟨x, hx, ka, hka, now, hnow, kb, hkb, lq, hlq, ke, hke, d, hd, he⟩ := hc
    cases he
    simp only [Bool.and_eq_true] at ht
    rw [kp11_eq hx]
    refine CallOK.viewG (by kernel_rfl) (argsF := [.agg x.l, .fp ka.cells 0, .fp kb.cells 0, .fp ke.cells 0]) ⟨VwV.same (by simp only [AV.bel, Kp.bel]), VwV.p (by simp [only, inl_cons, hka]) (by rw [oneB_eq hnow]; rfl), VwV.p (by simp [only, inl_cons, hkb]) (by rw [oneB_eq hlq]; rfl), VwV.p (by simp [only, inl_cons, hke]) (by rw [oneB_eq hd]; rfl), trivial⟩ rfl ?_
    rw [oneB_eq hnow, oneB_eq hlq, oneB_eq hd]
    exact w70 now lq d x ht.1.1 ht.1.2 ht.2
  · cases hc
theorem w74 (now lq d : Int) (l : List Kp) (hl : l.length ≤ 1000000000000) (hsq : ∀ x ∈ l, okK x = true) (ht : okN lq now = true) (hd : inI (-40000) 40000 d = true) :
    FTL Try.prog 74 [.fz (rows Kp.l l) l.length, .fn 70 [.fp [.i .i64 now] 0, .fp [.i .i64 lq] 0, .fp [.i .i64 d] 0]] [] 0 (.i .i64 (ixf (goneK now lq d) l 0)) [] 0 :=
  ixf_fz (row := Kp.l) (el := fun x => .agg x.l) mo Try.func74 i74_eq (by kernel_rfl) Kp.len Kp.bel rfl (fun _ => rfl) (fun a b h => by simp only [AV.agg.injEq] at h; rw [Kp.inj h]) l hl (fun x hx => w70 now lq d x (hsq x hx) ht hd)
def k74 : Ct
  | [x, .fn 70 [.p a 0, .p b 0, .p e 0]], h, n => vwK h 11 x fun rd m cs ok => (unrows 11 kp11 m cs).bind fun l => (hget h a).bind fun ka => (oneB ka).bind fun now => (hget h b).bind fun kb => (oneB kb).bind fun lq => (hget h e).bind fun ke => (oneB ke).bind fun d =>
    some (ok && decide (m ≤ 1000000000000) && l.all (fun x => okK x) && okN lq now && inI (-40000) 40000 d, { v := .i .i64 (ixf (goneK now lq d) l 0), n, rd := a :: b :: e :: rd })
  | _, _, _ => none
theorem s74 : SoundAt Try.prog 74 k74 := fun args h n c E hc ht => by
  unfold k74 at hc
  split at hc
  · rename_i x a b e
    rw [vwK_eq] at hc
    simp only [Option.bind_eq_some_iff] at hc
    obtain ⟨⟨rd, m, cs, ok⟩, hv, l, hl, ka, hka, now, hnow, kb, hkb, lq, hlq, ke, hke, d, hd, he⟩ := hc
    cases he
    simp only [Bool.and_eq_true, decide_eq_true_eq, List.all_eq_true] at ht
    obtain ⟨⟨⟨⟨rfl, hm⟩, h1⟩, h2⟩, h3⟩ := ht
    obtain ⟨rfl, hlm⟩ := unrows_eq (f := Kp.l) (fun c a h => kp11_eq h) hl
    subst hlm
    refine CallOK.viewG (by kernel_rfl) (argsF := [.fz (rows Kp.l l) l.length, .fn 70 [.fp ka.cells 0, .fp kb.cells 0, .fp ke.cells 0]]) ⟨vwK_sub hv (rows_bel Kp.bel) (fun c hc => by simp [inl_cons, hc]), VwV.fn ⟨VwV.p (by simp [only, inl_cons, hka]) (by rw [oneB_eq hnow]; rfl), VwV.p (by simp [only, inl_cons, hkb]) (by rw [oneB_eq hlq]; rfl), VwV.p (by simp [only, inl_cons, hke]) (by rw [oneB_eq hd]; rfl), trivial⟩, trivial⟩ rfl ?_
    rw [oneB_eq hnow, oneB_eq hlq, oneB_eq hd]
    exact w74 now lq d l hm (fun x hx => h1 x hx) h2 h3
  · cases hc

/-! Clone and DeleteFunc -/
theorem w92_0 (L : List AV) : FTL Try.prog 92 [.fz L 0] [] 0 .ze [] 0 := cln_0 mo Try.func92 (z := 11) (bytes := 128) (zs := [.b false, .i .i64 0, .i .i64 0, .i .i64 0, .i .i64 0, .ns, .ns, .i .i64 0, .s [], .i .i64 0, .i .i64 0]) i92_eq L
theorem w92_1 (x : Kp) (l : List Kp) (hl : l.length ≤ 1000000000) : FTL Try.prog 92 [.fz (rows Kp.l (x :: l)) (l.length + 1)] [] 0 (.sg 0 0 (l.length + 1)) [(0, { cells := rows Kp.l (x :: l), gr := some 11 })] 1 :=
  cln_1 mo Try.func92 (z := 11) (bytes := 128) (zs := [.b false, .i .i64 0, .i .i64 0, .i .i64 0, .i .i64 0, .ns, .ns, .i .i64 0, .s [], .i .i64 0, .i .i64 0]) i92_eq (by rw [rows_len Kp.len]; rfl) (rows_one1 Kp.one _) (rows_bel Kp.bel) (by simp only [growMax]; omega)
def k92 : Ct
  | [.fz L m], _, n => (unrows 11 kp11 m L).bind fun l => match l with
    | [] => some (true, { v := .ze, n })
    | x :: r => some (decide (r.length ≤ 1000000000), { v := .sg n 0 (r.length + 1), n := n + 1, nw := [(n, { cells := rows Kp.l (x :: r), gr := some 11 })] })
  | [.ns], _, n => some (true, { v := .ze, n })
  | _, _, _ => none
theorem s92 : SoundAt Try.prog 92 k92 := fun args h n c E hc ht => by
  unfold k92 at hc
  split at hc
  · rename_i L m
    simp only [Option.bind_eq_some_iff] at hc
    obtain ⟨l, hl, hc⟩ := hc
    obtain ⟨rfl, hm⟩ := unrows_eq (f := Kp.l) (fun c a h => kp11_eq h) hl
    subst hm
    split at hc
    · cases hc
      exact CallOK.pure (by kernel_rfl) rfl rfl (w92_0 _) _ _
    · rename_i x r
      cases hc
      have := CallOK.new1 (h := h) (n := n) (by kernel_rfl) (by simp only [belL, AV.bel, rows_bel Kp.bel, Bool.and_self]) (rows_bel Kp.bel) rfl (w92_1 x r (of_decide_eq_true ht))
      simpa [AV.ren] using this
  · cases hc
    exact CallOK.pure (by kernel_rfl) rfl rfl (FTL.wkaH Wka.ns (w92_0 [])) _ _
  · cases hc

def TK9 : List (Nat × Ct) := [(70, k70), (74, k74)]
theorem hTK9 : Sound Try.prog (cxT TK9) := Sound.cons s70 (Sound.cons s74 Sound.nil)
def keepK (now lq d : Int) (l : List Kp) : List Kp := l.filter fun x => !goneK now lq d x
theorem w69 (now lq d : Int) (l : List Kp) (hl : l.length ≤ 1000000000) (hsq : ∀ x ∈ l, okK x = true) (ht : okN lq now = true) (hd : inI (-40000) 40000 d = true) :
    FTL Try.prog 69 [.sg 0 0 l.length, .fn 70 [.p 1 0, .p 2 0, .p 3 0]] (dlH 11 (rows Kp.l l) now lq d) 4 (.sg 0 0 (keepK now lq d l).length) (dlH 11 (rows Kp.l (keepK now lq d l)) now lq d) 4 := by
  have h64 : ∀ (h : Hp) (k : List Nat → Nat → List AV → Bool → Option (Bool × Eff)), hget h 0 = some { cells := rows Kp.l l, gr := some 11 } → vwK h 11 (.sg 0 0 l.length) k = k [0] l.length (rows Kp.l l) true := fun h k hh => by
    have hlen : (rows Kp.l l).length = l.length * 11 := rows_len Kp.len
    simp only [vwK_g, hh, Option.bind_some, cellsAt, List.drop_zero]
    rw [List.take_of_length_le (by omega), decide_eq_true hlen]
  have hall : l.all (fun x => okK x) = true := List.all_eq_true.2 hsq
  refine del_fz (cx := cxT TK9) (row := Kp.l) (p := goneK now lq d) (z := 11) (zs := [.b false, .i .i64 0, .i .i64 0, .i .i64 0, .i .i64 0, .ns, .ns, .i .i64 0, .s [], .i .i64 0, .i .i64 0]) (ix := 74) (g := 70) (rd0 := [1, 2, 3, 0]) (rd1 := [1, 2, 3]) hTK9 mo Try.func69 i69_eq (by decide) Kp.len Kp.bel Kp.one rfl rfl rfl l hl ?_ (fun x hx L k => ?_)
  · simp only [TK9, cxT_cons, Nat.reduceEqDiff, if_false, if_true, k74]
    rw [h64 _ _ rfl]
    simp only [kp_un, Option.bind_some, dlH, hget_cons, int1, oneB, Nat.reduceEqDiff, if_false, if_true, hall, ht, hd, Bool.and_true, Bool.true_and]
    rw [decide_eq_true (by omega : l.length ≤ 1000000000000)]
  · have h1 := hsq x hx
    simp only [TK9, cxT_cons, k70, kp11_l, Option.bind_some, dlH, hget_cons, int1, oneB, Nat.reduceEqDiff, if_false, if_true, h1, ht, hd, Bool.and_self]
theorem w69z (now lq d : Int) (ht : okN lq now = true) (hd : inI (-40000) 40000 d = true) :
    FTL Try.prog 69 [.ze, .fn 70 [.p 0 0, .p 1 0, .p 2 0]] [(0, { cells := int1 now }), (1, { cells := int1 lq }), (2, { cells := int1 d })] 3 .ze [(0, { cells := int1 now }), (1, { cells := int1 lq }), (2, { cells := int1 d })] 3 := by
  refine FTL.of_iw hTK9 mo Try.func69 i69_eq (by simp [i69]) (iw_of_jw ?_)
  dsimp only [i69, TK9]
  have h64 : ∀ n, k74 [.ze, .fn 70 [.p 0 0, .p 1 0, .p 2 0]] [(0, { cells := int1 now }), (1, { cells := int1 lq }), (2, { cells := int1 d })] n = some (true, { v := .i .i64 (-1), n, rd := [0, 1, 2] }) := fun n => by
    simp only [k74, vwK_z, unrows, Option.bind_some, hget_cons, int1, oneB, Nat.reduceEqDiff, if_false, if_true, ht, hd, List.all_nil, Bool.and_true, Bool.true_and]
    rfl
  simp (config := { maxSteps := 400000 }) only [go_sem, h64, simprocAttr]
  refine Ends.keepL rfl rfl ?_
  exact ⟨rfl, rfl, by decide, rfl, rfl, by decide, rfl, rfl, by decide, trivial⟩
def k69 : Ct
  | [.sg b 0 m, .fn 70 [.p a1 0, .p a2 0, .p a3 0]], h, n => (hget h b).bind fun k => (unrows 11 kp11 m k.cells).bind fun l => (hget h a1).bind fun ka => (oneB ka).bind fun now => (hget h a2).bind fun kb => (oneB kb).bind fun lq => (hget h a3).bind fun ke => (oneB ke).bind fun d =>
    (match k with
    | ⟨_, false, some 11, none⟩ => some (decide (m ≤ 1000000000) && l.all (fun x => okK x) && okN lq now && inI (-40000) 40000 d && !(Nat.beq b a1) && !(Nat.beq b a2) && !(Nat.beq b a3) && !(Nat.beq a1 a2) && !(Nat.beq a1 a3) && !(Nat.beq a2 a3),
      { v := .sg b 0 (keepK now lq d l).length, n := n + 4, rd := [b, a1, a2, a3], md := [(b, some { cells := rows Kp.l (keepK now lq d l), gr := some 11 })] })
    | _ => none)
  | [.ze, .fn 70 [.p a1 0, .p a2 0, .p a3 0]], h, n => (hget h a1).bind fun ka => (oneB ka).bind fun now => (hget h a2).bind fun kb => (oneB kb).bind fun lq => (hget h a3).bind fun ke => (oneB ke).bind fun d =>
    some (okN lq now && inI (-40000) 40000 d && !(Nat.beq a1 a2) && !(Nat.beq a1 a3) && !(Nat.beq a2 a3), { v := .ze, n, rd := [a1, a2, a3] })
  | _, _, _ => none
theorem s69 : SoundAt Try.prog 69 k69 := fun args h n c E hc ht => by
  unfold k69 at hc
  split at hc
  · rename_i b m a1 a2 a3
    simp only [Option.bind_eq_some_iff] at hc
    obtain ⟨k, hk, l, hl, ka, hka, now, hnow, kb, hkb, lq, hlq, ke, hke, d, hd, he⟩ := hc
    split at he
    · rename_i cells
      cases he
      simp only [Bool.and_eq_true, decide_eq_true_eq, List.all_eq_true] at ht
      obtain ⟨⟨⟨⟨⟨⟨⟨⟨⟨hm, h1⟩, h2⟩, h3⟩, d1⟩, d2⟩, d3⟩, d4⟩, d5⟩, d6⟩ := ht
      obtain ⟨hcs, hlm⟩ := unrows_eq (f := Kp.l) (fun c a h => kp11_eq h) hl
      subst hlm
      dsimp only at hcs
      subst hcs
      rw [oneB_eq hnow] at hka
      rw [oneB_eq hlq] at hkb
      rw [oneB_eq hd] at hke
      exact CallOK.del (by kernel_rfl) Kp.bel (w69 now lq d l hm (fun x hx => h1 x hx) h2 h3) hk hka hkb hke ⟨⟨nbf d1, nbf d2, nbf d3⟩, nbf d4, nbf d5, nbf d6⟩
    · cases he
  · rename_i a1 a2 a3
    simp only [Option.bind_eq_some_iff] at hc
    obtain ⟨ka, hka, now, hnow, kb, hkb, lq, hlq, ke, hke, d, hd, he⟩ := hc
    cases he
    simp only [Bool.and_eq_true] at ht
    obtain ⟨⟨⟨⟨h2, h3⟩, d4⟩, d5⟩, d6⟩ := ht
    have d4 := nbf d4
    have d5 := nbf d5
    have d6 := nbf d6
    rw [oneB_eq hnow] at hka
    rw [oneB_eq hlq] at hkb
    rw [oneB_eq hd] at hke
    have hm : ∀ {c : Nat} {kk : Blk}, hget [(0, ({ cells := int1 now } : Blk)), (1, { cells := int1 lq }), (2, { cells := int1 d })] c = some kk → (c = 0 ∧ kk = { cells := int1 now }) ∨ (c = 1 ∧ kk = { cells := int1 lq }) ∨ (c = 2 ∧ kk = { cells := int1 d }) := fun hh => by
      have := hget_mem hh
      simpa using this
    refine CallOK.readL (argsL := [.ze, .fn 70 [.p 0 0, .p 1 0, .p 2 0]]) (hL := [(0, { cells := int1 now }), (1, { cells := int1 lq }), (2, { cells := int1 d })]) (k := 3) (fun i => if i = 0 then a1 else if i = 1 then a2 else a3) (by kernel_rfl) rfl rfl (w69z now lq d h2 h3) (fun i hi' => ?_) (fun i kk hh => ?_) (fun i kk hh => ?_) (fun i1 i2 k1 k2 q1 q2 _ e => ?_) _ rfl
    · match i, hi' with
      | 0, _ => exact ⟨_, rfl⟩
      | 1, _ => exact ⟨_, rfl⟩
      | 2, _ => exact ⟨_, rfl⟩
    · rcases hm hh with ⟨rfl, rfl⟩ | ⟨rfl, rfl⟩ | ⟨rfl, rfl⟩ <;> exact ⟨by decide, rfl⟩
    · rcases hm hh with ⟨rfl, rfl⟩ | ⟨rfl, rfl⟩ | ⟨rfl, rfl⟩
      · exact hka
      · exact hkb
      · exact hke
    · rcases hm q1 with ⟨rfl, rfl⟩ | ⟨rfl, rfl⟩ | ⟨rfl, rfl⟩ <;> rcases hm q2 with ⟨rfl, _⟩ | ⟨rfl, _⟩ | ⟨rfl, _⟩ <;> simp at e <;> first | rfl | (subst e; simp at *)
  · cases hc

end Go.Proofs.Res
