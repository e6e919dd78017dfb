/- Texts laid as one: JitD4 JitD5 JitD6. -/
import Derived.Test.YtcpgamgkbbckoaaJitDa
section
/- Buffers made by steps. -/
namespace Go.Proofs.Jit
open Go.Ab
set_option maxRecDepth 100000
set_option maxHeartbeats 4000000
set_option linter.unusedSimpArgs false
set_option linter.unusedVariables false
def zMd : Md := ⟨false, 0, 0, 0, 0, [], [], 0, []⟩
def stepB (l : List Md) (b : Bf) (e : Ev) : Bf :=
 bif e.pt && decide (0 < l.length) then
  bif (putS b (b.ti + e.wt % 200) (l.getD (e.pk % (l.length : Int)).toNat zMd)).2 == 0 then (putS b (b.ti + e.wt % 200) (l.getD (e.pk % (l.length : Int)).toNat zMd)).1 else b
 else bif (tkS b (b.ti + e.wt % 200)).2.2 == 0 then (tkS b (b.ti + e.wt % 200)).1 else b
def bufN (b0 : Bf) (l : List Md) (ev : List Ev) : Nat → Bf
 | 0 => b0
 | i + 1 => match ev[i]? with
  | some e => stepB l (bufN b0 l ev i) e
  | none => bufN b0 l ev i
def bufS (d : Dj) : Bf := bufN (newS (startS d)).1 (pksS (startS d) d.s) d.ev (min d.ev.length 40)
def InvB (b : Bf) : Prop := (0 ≤ b.ti ∧ b.ti ≤ 1099511627776) ∧ b.l.length ≤ 64
theorem lateB_1 {b : Bf} {now : Int} (h : InvB b) (e : lateB b now = 0) : 0 ≤ now ∧ now ≤ 1099511627776 := by
 have := inI_t (lateB_0 e).2
 have := h.1
 omega
theorem putAt_inv {b : Bf} {now : Int} {p : Md} {k : Nat} {st : Int} (hn : 0 ≤ now ∧ now ≤ 1099511627776) (hl : b.l.length < 64) (hk : k ≤ b.l.length) : InvB (putAt b now p k st) := by
 unfold putAt
 have h2 : (insL b.l k ⟨p, st⟩).length = b.l.length + 1 := by
  simp only [insL, List.length_append, List.length_take, List.length_drop, List.length_singleton]; omega
 cases b.sd
 · refine ⟨hn, ?_⟩
   simp only [cond_false]; omega
 · refine ⟨hn, ?_⟩
   simp only [cond_true]; omega
theorem putS_inv {b : Bf} {now : Int} {p : Md} (h : InvB b) (e : ((putS b now p).2 == 0) = true) : InvB (putS b now p).1 := by
 have e := beq_iff_eq.1 e
 revert e
 unfold putS
 by_cases h0 : lateB b now = 0
 · rw [if_pos h0]
   have hn := lateB_1 h h0
   cases mdB p
   · intro e; simp at e
   · simp only [cond_true]
     cases hs : b.sd
     · simp only [cond_false]
       intro _
       have hz := (good_zero (lateB_0 h0).1 hs).2
       exact putAt_inv hn (by omega) (Nat.zero_le _)
     · simp only [cond_true]
       cases (decide (lead p.sq b.nx < 0) || dupB b.l (pos b.nx (lead p.sq b.nx) b.l) p.sq)
       · simp only [cond_false]
         cases (decide (lead p.sq b.nx > 511) || (decide (stampS b p < 0) || decide (stampS b p > 1152921504606846976)))
         · simp only [cond_false]
           cases h64 : decide (64 ≤ b.l.length)
           · simp only [cond_false]
             intro _
             have := of_decide_eq_false h64
             exact putAt_inv hn (by omega) (pos_le _ _ _)
           · intro e; simp at e
         · intro e; simp at e
       · intro e; simp at e
 · rw [if_neg h0]
   intro e
   exact absurd e h0
theorem tkS_inv {b : Bf} {now : Int} (h : InvB b) (e : ((tkS b now).2.2 == 0) = true) : InvB (tkS b now).1 := by
 have e := beq_iff_eq.1 e
 revert e
 unfold tkS
 by_cases h0 : lateB b now = 0
 · rw [if_pos h0]
   have hn := lateB_1 h h0
   cases ((b.l.length == 0) || decide (now < dueS b))
   · simp only [cond_false]
     split
     · rename_i x0 v _ _
       unfold tkF
       dsimp only
       have hd : (b.l.drop (frN b.l)).length ≤ 64 := by rw [List.length_drop]; have := h.2; omega
       cases (b.wh && (x0.p.sq == b.nx && v.p.ma))
       · simp only [cond_false]
         cases decide (b.lo + ((v.p.sq + 1) % 65536 - b.nx) % 65536 > 1099511627776)
         · simp only [cond_false]
           intro _
           exact ⟨hn, hd⟩
         · intro e; simp at e
       · simp only [cond_true]
         intro _
         exact ⟨hn, hd⟩
     · intro e; simp at e
   · intro e; simp at e
 · rw [if_neg h0]
   intro e
   exact absurd e h0
theorem stepB_inv {l : List Md} {b : Bf} {e : Ev} (h : InvB b) : InvB (stepB l b e) := by
 unfold stepB
 cases e.pt && decide (0 < l.length)
 · simp only [cond_false]
   cases hh : ((tkS b (b.ti + e.wt % 200)).2.2 == 0)
   · exact h
   · exact tkS_inv h hh
 · simp only [cond_true]
   cases hh : ((putS b (b.ti + e.wt % 200) (l.getD (e.pk % (l.length : Int)).toNat zMd)).2 == 0)
   · exact h
   · exact putS_inv h hh
theorem bufN_inv {b0 : Bf} {l : List Md} {ev : List Ev} (h : InvB b0) : ∀ i, InvB (bufN b0 l ev i)
 | 0 => h
 | i + 1 => by
  simp only [bufN]
  split
  · exact stepB_inv (bufN_inv h i)
  · exact bufN_inv h i
theorem newS_inv {n : Int} : InvB (newS n).1 := by
 unfold newS
 cases inI 1 96 n
 · exact ⟨⟨Int.le_refl _, show (0 : Int) ≤ 1099511627776 by decide⟩, Nat.zero_le _⟩
 · exact ⟨⟨Int.le_refl _, show (0 : Int) ≤ 1099511627776 by decide⟩, Nat.zero_le _⟩
def DjOK (d : Dj) : Bool := inI 0 255 d.ck && (SmOK d.s && (d.ev.all (fun e => inI 0 65535 e.wt && inI 0 255 e.pk) && decide (d.ev.length ≤ 9223372036854775807)))
theorem startS_rng {d : Dj} (h : inI 0 255 d.ck = true) : inI 1 96 (startS d) = true := by
 have := inI_t h
 unfold startS
 exact inI_of (by omega)
def T31 : List (Nat × Ct) := [(9, k9), (10, k10), (16, k16), (19, k18), (24, k24)]
theorem hT31 : Sound Try.prog (cxT T31) := Sound.cons s9 (Sound.cons s10 (Sound.cons s16 (Sound.cons s19 (Sound.cons s24 Sound.nil))))
theorem w31 (d : Dj) (hd : DjOK d = true) : FTL Try.prog 31 [.agg d.l] [] 0 (.agg (bufS d).a) [] 0 := by
 simp only [DjOK, Bool.and_eq_true, decide_eq_true_eq, List.all_eq_true] at hd
 obtain ⟨h1, h2, h3, h4⟩ := hd
 have hdj := dj5_l d
 have hsm := sm3_l d.s
 have hst := startS_rng h1
 have hk10 : ∀ (h : Hp) n, k10 [.agg d.l] h n = some (true, { v := .i .i64 (startS d), n }) := fun h n => by simp only [k10, hdj, Option.bind_some, h1]
 have hk9 : ∀ (h : Hp) n, k9 [.agg d.s.l, .i .i64 (startS d)] h n = some (true, { v := .fz (rows Md.l (pksS (startS d) d.s)) (pksS (startS d) d.s).length, n }) := fun h n => by simp only [k9, hsm, Option.bind_some, h2, hst, Bool.and_self]
 have hinv := fun i => bufN_inv (b0 := (newS (startS d)).1) (l := pksS (startS d) d.s) (ev := d.ev) newS_inv i
 have hpl := pks_len (startS d) d.s (min d.s.fr.length 12)
 have hM : min d.ev.length 40 ≤ d.ev.length ∧ min d.ev.length 40 ≤ 40 := by omega
 have hMM : ∀ i, i < min d.ev.length 40 ↔ (i < d.ev.length ∧ i < 40) := fun i => by omega
 have hR : bufS d = bufN (newS (startS d)).1 (pksS (startS d) d.s) d.ev (min d.ev.length 40) := rfl
 have hb0 : (newS (startS d)).1 = bufN (newS (startS d)).1 (pksS (startS d) d.s) d.ev 0 := rfl
 have hpl2 : (pksS (startS d) d.s).length ≤ 48 := by unfold pksS; omega
 clear hpl
 generalize hPP : pksS (startS d) d.s = P at *
 generalize min d.ev.length 40 = M at *
 have hPb : ∀ j, belL j (rows Md.l P) = true := fun j => mrB j P
 have hEb : ∀ j, belL j (rows Ev.l d.ev) = true := fun j => evB j d.ev
 have hFb : ∀ j, belL j (rows u8R d.s.fr) = true := fun j => u8B j d.s.fr
 have hbB : ∀ i j, belL j (bufN (newS (startS d)).1 P d.ev i).a = true := fun i j => Bf.bel' _ j
 have hns : ∀ (h : Hp) n, k18 [.i .i64 (startS d)] h n = some (true, { v := .tup [.agg (newS (startS d)).1.a, .i .i64 (newS (startS d)).2], n }) := fun h n => rfl
 generalize startS d = S at *
 rw [hR]
 have hstep : ∀ i x, d.ev[i]? = some x → bufN (newS S).1 P d.ev (i + 1) = stepB P (bufN (newS S).1 P d.ev i) x := fun i x hx => by simp only [bufN, hx]
 generalize hBN : bufN (newS S).1 P d.ev = BN at *
 have hlA : ∀ b : Bf, b.a.length = 11 := fun b => rfl
 have htA : ∀ b : Bf, List.take 11 b.a = b.a := fun b => List.take_of_length_le (by rw [hlA]; omega)
 rw [hb0] at hns
 generalize (newS S).2 = e0 at *
 obtain ⟨ck, ⟨sq, tm, fr⟩, ev⟩ := d
 simp only [Dj.l, Sm.l] at hk10 hk9 ⊢
 dsimp only at *
 refine FTL.of_iw hT31 mo Try.func31 i31_eq (by simp [i31]) (iw_of_jw ?_)
 dsimp only [i31, T31]
 have hoA : ∀ b : Bf, oneAll b.a = true := fun b => rfl
 have hSp : ∀ a b : Bf, List.take 0 b.a ++ a.a ++ List.drop 11 b.a = a.a := fun a b => by rw [List.drop_of_length_le (by rw [hlA]; omega), List.take_zero, List.nil_append, List.append_nil]
 have hA1 : ∀ b : Bf, b.a[1]? = some (.i .i64 b.ti) := fun b => rfl
 simp (maxSteps := 400000) only [go_sem, hk10, hk9, hns, hlA, htA, hoA, List.drop_zero, simprocAttr]
 refine Loop.countI (F := ⟨Try.prog, cxT T31, [29, 54, 82], 85, 0⟩) hT31 mo M (fun i => True)
  (fun i => [(1, .p 0 0), (2, .p 1 0), (3, .p 2 0), (5, .fz (rows Md.l P) P.length), (6, .i .i64 (i : Int))])
  (fun i => [(0, { cells := [.i .u8 ck, .i .u16 sq, .i .u32 tm, .fz (rows u8R fr) fr.length, .fz (rows Ev.l ev) ev.length] }), (1, { cells := [.i .i64 0, .i .i64 0, .b false, .b false, .i .i64 0, .i .i64 0, .i .i64 0, .i .i64 0, .i .i64 0, .i .i64 0, .ns] }), (2, { cells := (BN i).a })]) 3 (by decide) trivial ?_ ?_ (fun i hi _ => ?_)
 · simp (maxSteps := 400000) only [go_sem, hPb, AV.bel, belL, nblt, simprocAttr]
 · simp (maxSteps := 400000) only [go_sem, hEb, hFb, hbB, AV.bel, belL, nblt, simprocAttr]
 dsimp only [T31]
 have hb := hinv i
 have hbB' := hbB (i + 1)
 by_cases hlt : i < M
 · obtain ⟨q1, q2⟩ := (hMM i).1 hlt
   have c1 : decide ((i : Int) < (ev.length : Int)) = true := decide_eq_true (by omega)
   have c2 : decide ((i : Int) < 40) = true := decide_eq_true (by omega)
   have c3 : decide (0 ≤ (i : Int) ∧ (i : Int) < (ev.length : Int)) = true := decide_eq_true (by omega)
   have hw : IntKind.i64.wrap ((i : Int) + 1) = ((i + 1 : Nat) : Int) := by rw [wrapL (by omega) (by omega)]; omega
   obtain ⟨x, hx⟩ : ∃ x, ev[i]? = some x := ⟨_, List.getElem?_eq_getElem q1⟩
   have r0 : (rows Ev.l ev)[i * 3]? = some (.i .u16 x.wt) := rows_get (f := Ev.l) (z := 3) (j := 0) (v := .i .u16 x.wt) Ev.len hx rfl
   have r1 : (rows Ev.l ev)[i * 3 + 1]? = some (.b x.pt) := rows_get (f := Ev.l) (z := 3) (j := 1) (v := .b x.pt) Ev.len hx rfl
   have r2 : (rows Ev.l ev)[i * 3 + 2]? = some (.i .u8 x.pk) := rows_get (f := Ev.l) (z := 3) (j := 2) (v := .i .u8 x.pk) Ev.len hx rfl
   have hxr := h3 x (List.mem_of_getElem? hx)
   have hx1 := inI_t hxr.1
   have hx2 := inI_t hxr.2
   have hS := hstep i x hx
   generalize BN (i + 1) = b' at *
   generalize BN i = b at *
   have hbt := hb.1
   have hbl := hb.2
   have hba := bfA_a b
   have hll : decide (b.l.length ≤ 9223372036854775807) = true := decide_eq_true (by omega)
   have m1 : x.wt.tmod 200 = x.wt % 200 := Int.tmod_eq_emod_of_nonneg (by omega)
   have m2 : IntKind.u16.wrap (x.wt % 200) = x.wt % 200 := by rw [wrapU16]; omega
   have m3 : IntKind.i64.wrap (x.wt % 200) = x.wt % 200 := wrapL (by omega) (by omega)
   have m4 : IntKind.i64.wrap (b.ti + x.wt % 200) = b.ti + x.wt % 200 := wrapL (by omega) (by omega)
   have hk24 : ∀ (h : Hp) n, k24 [.agg b.a, .i .i64 (b.ti + x.wt % 200)] h n = some (true, { v := .tup [.agg (tkS b (b.ti + x.wt % 200)).1.a, .fz (rows Md.l (tkS b (b.ti + x.wt % 200)).2.1) (tkS b (b.ti + x.wt % 200)).2.1.length, .i .i64 (tkS b (b.ti + x.wt % 200)).2.2], n }) := fun h n => by
    simp only [k24, hba, Option.bind_some, hll, tkA]
   have hk16 : ∀ (p : Md) (h : Hp) n, k16 [.agg b.a, .i .i64 (b.ti + x.wt % 200), .agg p.l] h n = some (true, { v := .tup [.agg (putS b (b.ti + x.wt % 200) p).1.a, .i .i64 (putS b (b.ti + x.wt % 200) p).2], n }) := fun p h n => by
    simp only [k16, hba, md9_l, Option.bind_some, hll, bfV]
   unfold stepB at hS
   generalize hnow : b.ti + x.wt % 200 = now at *
   have m4' : IntKind.i64.wrap (b.ti + x.wt % 200) = now := by rw [hnow]; exact m4
   obtain ⟨wt, pt, pk⟩ := x
   dsimp only at *
   have hgt : decide ((P.length : Int) > 0) = decide (0 < P.length) := decide_eq_decide.2 (by omega)
   have take_case : (pt && decide (0 < P.length)) = false → (pt = false ∨ (pt = true ∧ decide (0 < P.length) = false)) := fun h => by
    cases pt
    · exact .inl rfl
    · exact .inr ⟨rfl, by simpa using h⟩
   have hA1b := hA1 b
   have hTb : ∀ j, belL j (tkS b now).1.a = true := fun j => Bf.bel' _ j
   have hTm : ∀ j, belL j (rows Md.l (tkS b now).2.1) = true := fun j => mrB j _
   have hbb : ∀ j, belL j b.a = true := fun j => Bf.bel' _ j
   cases hc : (pt && decide (0 < P.length))
   · rw [hc] at hS
     simp only [cond_false] at hS
     cases e1 : ((tkS b now).2.2 == 0)
     all_goals
      rw [e1] at hS
      simp only [cond_false, cond_true] at hS
      rw [hS]
      rcases take_case hc with rfl | ⟨rfl, d0⟩
     · simp (maxSteps := 400000) only [go_sem, c1, c2, c3, hw, r0, r1, hA1b, m1, m2, m3, m4', hk24, htA, hlA, hoA, hSp, e1, List.drop_zero, hlt, hPb, hEb, hFb, hbb, hTb, AV.bel, belL, nblt, simprocAttr]
     · simp (maxSteps := 400000) only [go_sem, c1, c2, c3, hw, r0, r1, hA1b, m1, m2, m3, m4', hk24, htA, hlA, hoA, hSp, e1, List.drop_zero, hlt, hPb, hEb, hFb, hbb, hTb, AV.bel, belL, nblt, hgt, d0, simprocAttr]
     · simp (maxSteps := 400000) only [go_sem, c1, c2, c3, hw, r0, r1, hA1b, m1, m2, m3, m4', hk24, htA, hlA, hoA, hSp, e1, List.drop_zero, hlt, hPb, hEb, hFb, hbb, hTb, AV.bel, belL, nblt, simprocAttr]
     · simp (maxSteps := 400000) only [go_sem, c1, c2, c3, hw, r0, r1, hA1b, m1, m2, m3, m4', hk24, htA, hlA, hoA, hSp, e1, List.drop_zero, hlt, hPb, hEb, hFb, hbb, hTb, AV.bel, belL, nblt, hgt, d0, simprocAttr]
   · rw [hc] at hS
     simp only [cond_true] at hS
     simp only [Bool.and_eq_true, decide_eq_true_eq] at hc
     obtain ⟨rfl, hp0⟩ := hc
     have d0 : decide (0 < P.length) = true := decide_eq_true hp0
     have hne : ((P.length : Int) != 0) = true := bne_iff_ne.2 (by omega)
     have hm := Int.emod_nonneg pk (b := (P.length : Int)) (by omega)
     have hm2 := Int.emod_lt_of_pos pk (b := (P.length : Int)) (by omega)
     have m5 : IntKind.i64.wrap pk = pk := wrapL (by omega) (by omega)
     have m6 : pk.tmod (P.length : Int) = pk % (P.length : Int) := Int.tmod_eq_emod_of_nonneg (by omega)
     have m7 : IntKind.i64.wrap (pk % (P.length : Int)) = pk % (P.length : Int) := wrapL (by omega) (by omega)
     generalize pk % (P.length : Int) = I at *
     have c4 : decide (0 ≤ I ∧ I < (P.length : Int)) = true := decide_eq_true (by omega)
     obtain ⟨p, hp⟩ : ∃ p, P[I.toNat]? = some p := ⟨_, List.getElem?_eq_getElem (by omega)⟩
     have hgd : P.getD I.toNat zMd = p := by rw [List.getD_eq_getElem?_getD, hp]; rfl
     rw [hgd] at hS
     have hrp := md_at hp
     have hlM : p.l.length = 9 := rfl
     have hk16 := hk16 p
     have hUb : ∀ j, belL j (putS b now p).1.a = true := fun j => Bf.bel' _ j
     cases e1 : ((putS b now p).2 == 0)
     all_goals
      rw [e1] at hS
      simp only [cond_false, cond_true] at hS
      rw [hS]
     · simp (maxSteps := 400000) only [go_sem, c1, c2, c3, hw, r0, r1, hA1b, m1, m2, m3, m4', hk16, htA, hlA, hoA, hSp, e1, List.drop_zero, hlt, hPb, hEb, hFb, hbb, hTb, AV.bel, belL, nblt, hgt, d0, hne, m5, m6, m7, c4, hrp, hlM, r2, hUb, simprocAttr]
     · simp (maxSteps := 400000) only [go_sem, c1, c2, c3, hw, r0, r1, hA1b, m1, m2, m3, m4', hk16, htA, hlA, hoA, hSp, e1, List.drop_zero, hlt, hPb, hEb, hFb, hbb, hTb, AV.bel, belL, nblt, hgt, d0, hne, m5, m6, m7, c4, hrp, hlM, r2, hUb, simprocAttr]
 · obtain rfl : i = M := by omega
   have hno : ¬ (i < ev.length ∧ i < 40) := fun hh => hlt ((hMM i).2 hh)
   have hbb : ∀ j, belL j (BN i).a = true := fun j => Bf.bel' _ j
   by_cases h1' : i < ev.length
   · have c1 : decide ((i : Int) < (ev.length : Int)) = true := decide_eq_true (by omega)
     have c2 : decide ((i : Int) < 40) = false := decide_eq_false (by omega)
     simp (maxSteps := 400000) only [go_sem, c1, c2, htA, hlA, hoA, hSp, List.drop_zero, simprocAttr]
     exact Ends.pureE (by simp only [AV.bel, hbb]) rfl
   · have c1 : decide ((i : Int) < (ev.length : Int)) = false := decide_eq_false (by omega)
     simp (maxSteps := 400000) only [go_sem, c1, htA, hlA, hoA, hSp, List.drop_zero, simprocAttr]
     exact Ends.pureE (by simp only [AV.bel, hbb]) rfl
def k31 : Ct
 | [.agg c], _, n => (dj5 c).bind fun d => some (DjOK d, { v := .agg (bufS d).a, n })
 | _, _, _ => none
theorem s31 : SoundAt Try.prog 31 k31 := fun args h n c E hc ht => by
 unfold k31 at hc
 split at hc
 · simp only [Option.bind_eq_some_iff] at hc
   obtain ⟨d, hd, he⟩ := hc
   cases he
   rw [dj5_eq hd]
   exact CallOK.pure (by kernel_rfl) (by simp only [belL, AV.bel, Dj.bel, Bool.and_self]) (by simp only [AV.bel, Bf.bel]) (w31 d ht) _ _
 · cases hc
end Go.Proofs.Jit
end
section
/- Buffers with a field changed. -/
namespace Go.Proofs.Jit
open Go.Ab
set_option maxRecDepth 100000
set_option maxHeartbeats 16000000
set_option linter.unusedSimpArgs false
set_option linter.unusedVariables false
structure Bx where
 wh : Int
 at_ : Int
 n : Int
def Bx.a (b : Bx) : List AV := [.i .u8 b.wh, .i .u8 b.at_, .i .i64 b.n]
def bx3 : List AV → Option Bx
 | [.i .u8 w, .i .u8 a, .i .i64 n] => some ⟨w, a, n⟩
 | _ => none
theorem bx3_a (b : Bx) : bx3 b.a = some b := rfl
theorem bx3_eq {c : List AV} {b : Bx} (h : bx3 c = some b) : c = b.a := by
 unfold bx3 at h
 split at h
 · cases h; rfl
 · cases h
def Bx.okB (b : Bx) : Bool := inI 0 255 b.wh && inI 0 255 b.at_
def zHd : Hd := ⟨zMd, 0⟩
def bIx (b : Bx) (l : List Hd) : Nat := b.at_.toNat % l.length
def nxq (q : Int) : Int := (IntKind.i64.wrap (q + 1)).tmod 65536
def Hd.nx (x : Hd) : Hd := ⟨{ x.p with sq := nxq x.p.sq }, x.st⟩
def hdK (x : Hd) : Nat → Hd
 | 0 => x
 | k + 1 => (hdK x k).nx
def extL (x : Hd) (m : Nat) : List Hd := mapN (fun k => hdK x (k + 1)) m
theorem extL_s {x : Hd} {m : Nat} : extL x (m + 1) = extL x m ++ [hdK x (m + 1)] := rfl
theorem extL_len {x : Hd} {m : Nat} : (extL x m).length = m := mapN_len m
def bendL (b : Bx) (l : List Hd) : List Hd :=
 if b.wh % 13 < 10 then l else if l.length = 0 then l
 else if b.wh % 13 = 10 then l.set (bIx b l) ⟨(l.getD (bIx b l) zHd).p, b.n⟩
 else if b.wh % 13 = 11 then l.set (bIx b l) ⟨{ (l.getD (bIx b l) zHd).p with sq := b.n }, (l.getD (bIx b l) zHd).st⟩
 else l ++ extL (l.getD (l.length - 1) zHd) (64 + (b.at_ % 2).toNat - l.length)
def bendS (b : Bx) (w : Bf) : Bf := ⟨if b.wh % 13 = 0 then b.n else w.ck, if b.wh % 13 = 1 then b.n else w.ti, if b.wh % 13 = 2 then !w.sd else w.sd, if b.wh % 13 = 3 then !w.wh else w.wh, if b.wh % 13 = 4 then b.n else w.nx, if b.wh % 13 = 5 then b.n else w.mr, if b.wh % 13 = 6 then b.n else w.of, if b.wh % 13 = 7 then b.n else w.tr, if b.wh % 13 = 8 then b.n else w.ji, if b.wh % 13 = 9 then b.n else w.lo, bendL b w.l⟩
theorem covB_g {ck ti mr of tr ji lo nx : Int} {sd wh : Bool} {h : Hp} {n j m : Nat} {C : List AV} {l : List Hd} (hk : hget h j = some { cells := C, gr := some 10 }) (hC : C = rows Hd.l l) (hm : m = l.length) :
 CovS 0 (.agg [.i .i64 ck, .i .i64 ti, .b sd, .b wh, .i .i64 nx, .i .i64 mr, .i .i64 of, .i .i64 tr, .i .i64 ji, .i .i64 lo, .sg j 0 m]) h n (.agg (Bf.a ⟨ck, ti, sd, wh, nx, mr, of, tr, ji, lo, l⟩)) [] 0 := by
 subst hC hm
 refine CovS.frz (b := j) (k := { cells := rows Hd.l l, gr := some 10 }) (h' := []) (o := 0) (m := l.length) (cs := rows Hd.l l) (v' := .agg (Bf.a ⟨ck, ti, sd, wh, nx, mr, of, tr, ji, lo, l⟩)) hk rfl (.inr rfl) (.inl rfl) (FzV.agg ⟨FzV.refl, FzV.refl, FzV.refl, FzV.refl, FzV.refl, FzV.refl, FzV.refl, FzV.refl, FzV.refl, FzV.refl, FzV.hit, trivial⟩) (fun c kk hc => by simp [hget] at hc) ?_
 exact CovS.ends (Ends.pureE (by simp only [AV.bel, Bf.bel]) rfl)
theorem covB_l {ck ti mr of tr ji lo nx : Int} {sd wh : Bool} {h : Hp} {n j : Nat} (hk : hget h j = some { cells := [] }) :
 CovS 0 (.agg [.i .i64 ck, .i .i64 ti, .b sd, .b wh, .i .i64 nx, .i .i64 mr, .i .i64 of, .i .i64 tr, .i .i64 ji, .i .i64 lo, .sl j 0 0 0]) h n (.agg (Bf.a ⟨ck, ti, sd, wh, nx, mr, of, tr, ji, lo, []⟩)) [] 0 := by
 refine CovS.frz (b := j) (k := { cells := [] }) (h' := []) (o := 0) (m := 0) (cs := []) (v' := .agg (Bf.a ⟨ck, ti, sd, wh, nx, mr, of, tr, ji, lo, []⟩)) hk rfl (.inl ⟨0, rfl, Nat.le_refl _⟩) (.inl rfl) (FzV.agg ⟨FzV.refl, FzV.refl, FzV.refl, FzV.refl, FzV.refl, FzV.refl, FzV.refl, FzV.refl, FzV.refl, FzV.refl, FzV.hit, trivial⟩) (fun c kk hc => by simp [hget] at hc) ?_
 exact CovS.ends (Ends.pureE rfl rfl)
abbrev hD5 (wh at_ V ck ti nx mr of tr ji lo : Int) (sd whl : Bool) (x : Hd) (l : List Hd) : Hp :=
 [(5, { cells := x.l }), (4, { cells := rows Hd.l l, gr := some 10 }), (2, { cells := [.i .i64 0, .i .i64 0, .b false, .b false, .i .i64 0, .i .i64 0, .i .i64 0, .i .i64 0, .i .i64 0, .i .i64 0, .ns] }), (1, { cells := [.i .i64 ck, .i .i64 ti, .b sd, .b whl, .i .i64 nx, .i .i64 mr, .i .i64 of, .i .i64 tr, .i .i64 ji, .i .i64 lo, .sg 4 0 l.length] }), (0, { cells := [.i .u8 wh, .i .u8 at_, .i .i64 V] })]
theorem loop32 (wh at_ V ck ti nx mr of tr ji lo : Int) (sd whl : Bool) (x : Hd) (l : List Hd) (hl : l.length ≤ 1000000) (ha : 0 ≤ at_ ∧ at_ ≤ 255) {K : Kont} {e : Env} {h : Hp} {n : Nat}
 (he : EnvR 6 [] e [(2, .p 0 0), (3, .p 1 0), (4, .p 2 0), (5, .p 5 0)])
 (hh : HpR 6 [] h (hD5 wh at_ V ck ti nx mr of tr ji lo sd whl (hdK x 0) (l ++ extL x 0)))
 (hK : ∀ e', eget e' 3 = some (.p 1 0) → eget e' 4 = some (.p 2 0) → K (.exit 1) e' (hD5 wh at_ V ck ti nx mr of tr ji lo sd whl (hdK x (64 + (at_ % 2).toNat - l.length)) (l ++ extL x (64 + (at_ % 2).toNat - l.length))) 6) :
 Ab.Loop Try.prog [48, 53, 58, 64, 70, 75, 80, 85, 90, 95, 100, 105, 119, 124, 17, 34] 140 0 i32l34 K e h n := by
 refine Loop.stepR (F := ⟨Try.prog, cxT [], [48, 53, 58, 64, 70, 75, 80, 85, 90, 95, 100, 105, 119, 124, 17, 34], 140, 0⟩) Sound.nil mo (X := Nat) (fun k => k ≤ 64 + (at_ % 2).toNat - l.length) (fun k => 64 + (at_ % 2).toNat - l.length - k)
  (fun k => [(2, .p 0 0), (3, .p 1 0), (4, .p 2 0), (5, .p 5 0)])
  (fun k => hD5 wh at_ V ck ti nx mr of tr ji lo sd whl (hdK x k) (l ++ extL x k)) 6 0 (fun k => k + 1) []
  (fun k => [(4, 7)]) (by decide) (by decide) (fun k => by decide) (Nat.zero_le _) he hh (fun k hk => ?_)
 have hlen : (l ++ extL x k).length = l.length + k := by rw [List.length_append, extL_len]
 have m1 : at_.tmod 2 = at_ % 2 := Int.tmod_eq_emod_of_nonneg (by omega)
 have m2 : IntKind.u8.wrap (at_ % 2) = at_ % 2 := by rw [wrapU8]; omega
 have m3 : IntKind.i64.wrap (at_ % 2) = at_ % 2 := wrapL (by omega) (by omega)
 have m4 : IntKind.i64.wrap (64 + at_ % 2) = 64 + at_ % 2 := wrapL (by omega) (by omega)
 have hex : l ++ extL x (k + 1) = (l ++ extL x k) ++ [(hdK x k).nx] := by rw [extL_s, List.append_assoc]; rfl
 have hhk : hdK x (k + 1) = (hdK x k).nx := rfl
 rw [hex, hhk]
 generalize hM : 64 + (at_ % 2).toNat - l.length = M at *
 by_cases hlt : k < M
 · generalize hdK x k = y at *
   generalize l ++ extL x k = q at *
   have c1 : decide ((q.length : Int) < 64 + at_ % 2) = true := decide_eq_true (by omega)
   have hq : nxq y.p.sq = (IntKind.i64.wrap (y.p.sq + 1)).tmod 65536 := rfl
   have hsk : M - (k + 1) < M - k := by omega
   have gm : decide (120 * (q.length + 1) ≤ growMax) = true := decide_eq_true (by simp only [growMax]; omega)
   have zR : (rows Hd.l q).length = q.length * 10 := rows_len Hd.len
   have hap : rows Hd.l (q ++ [y.nx]) = rows Hd.l q ++ y.nx.l := by rw [rows_append]; simp [rows]
   have hbb : ∀ j, belL j (rows Hd.l q ++ y.nx.l) = true := fun j => by rw [← hap]; exact hrB _ _
   have hrb : ∀ ψ, renL ψ (rows Hd.l q ++ y.nx.l) = rows Hd.l q ++ y.nx.l := fun ψ => by rw [← hap]; exact hrR _ _
   have hql : (q ++ [y.nx]).length = q.length + 1 := by simp
   simp only [hD5, hap, hql]
   obtain ⟨⟨ma, pty, sq, tm, pss, cs, xs, pd, pl⟩, xt⟩ := y
   simp only [Hd.nx, Hd.l] at hbb hrb ⊢
   dsimp only at hq
   generalize nxq sq = sq' at *
   simp (maxSteps := 400000) only [go_sem, m1, m2, m3, m4, c1, hq.symm, gm, zR, hsk, hlt, AV.bel, belL, nblt, Blk.ren, renL, AV.ren, hrB, hrR, csB, xsB, csR, xsR, hbb, hrb, simprocAttr]
   exact hlt
 · obtain rfl : k = M := by omega
   generalize hdK x k = y at *
   generalize l ++ extL x k = q at *
   have c1 : decide ((q.length : Int) < 64 + at_ % 2) = false := decide_eq_false (by omega)
   simp only [hD5] at hK ⊢
   simp (maxSteps := 400000) only [go_sem, m1, m2, m3, m4, c1, simprocAttr]
   exact hK _ rfl rfl
theorem w32 (b : Bx) (w : Bf) (hb : b.okB = true) (hl : w.l.length ≤ 1000000) : FTL Try.prog 32 [.agg b.a, .agg w.a] [] 0 (.agg (bendS b w).a) [] 0 := by
 simp only [Bx.okB, Bool.and_eq_true] at hb
 have hw := inI_t hb.1
 have ha := inI_t hb.2
 obtain ⟨ck, ti, sd, whl, nx, mr, of, tr, ji, lo, l⟩ := w
 obtain ⟨wh, at_, V⟩ := b
 dsimp only at hw ha hl
 have hS : bendS ⟨wh, at_, V⟩ ⟨ck, ti, sd, whl, nx, mr, of, tr, ji, lo, l⟩ = ⟨if wh % 13 = 0 then V else ck, if wh % 13 = 1 then V else ti, if wh % 13 = 2 then !sd else sd, if wh % 13 = 3 then !whl else whl, if wh % 13 = 4 then V else nx, if wh % 13 = 5 then V else mr, if wh % 13 = 6 then V else of, if wh % 13 = 7 then V else tr, if wh % 13 = 8 then V else ji, if wh % 13 = 9 then V else lo, bendL ⟨wh, at_, V⟩ l⟩ := rfl
 rw [hS]
 clear hS
 have hBa : Bf.a ⟨ck, ti, sd, whl, nx, mr, of, tr, ji, lo, l⟩ = [.i .i64 ck, .i .i64 ti, .b sd, .b whl, .i .i64 nx, .i .i64 mr, .i .i64 of, .i .i64 tr, .i .i64 ji, .i .i64 lo, .fz (rows Hd.l l) l.length] := rfl
 simp only [Bx.a]
 rw [hBa]
 have m1 : wh.tmod 13 = wh % 13 := Int.tmod_eq_emod_of_nonneg (by omega)
 have m2 : IntKind.u8.wrap (wh % 13) = wh % 13 := by rw [wrapU8]; omega
 have w1 : IntKind.i64.wrap at_ = at_ := wrapL (by omega) (by omega)
 refine FTL.of_cov (cx := cxT []) Sound.nil mo Try.func32 i32_eq (by simp [i32]) (iw_of_jw ?_)
 dsimp only [i32]
 obtain ⟨L, hL⟩ : ∃ L, bendL ⟨wh, at_, V⟩ l = L := ⟨_, rfl⟩
 rw [hL]
 unfold bendL at hL
 dsimp only at hL
 obtain ⟨r, hr⟩ : ∃ r, wh % 13 = r := ⟨_, rfl⟩
 rw [hr] at hL m1 m2 ⊢
 obtain ⟨A, hA⟩ : ∃ A, (if r = 0 then V else ck) = A := ⟨_, rfl⟩
 obtain ⟨B, hB⟩ : ∃ B, (if r = 1 then V else ti) = B := ⟨_, rfl⟩
 obtain ⟨C, hC⟩ : ∃ C, (if r = 2 then !sd else sd) = C := ⟨_, rfl⟩
 obtain ⟨D, hD⟩ : ∃ D, (if r = 3 then !whl else whl) = D := ⟨_, rfl⟩
 obtain ⟨E, hE⟩ : ∃ E, (if r = 4 then V else nx) = E := ⟨_, rfl⟩
 obtain ⟨G, hG⟩ : ∃ G, (if r = 5 then V else mr) = G := ⟨_, rfl⟩
 obtain ⟨H, hH⟩ : ∃ H, (if r = 6 then V else of) = H := ⟨_, rfl⟩
 obtain ⟨I, hI⟩ : ∃ I, (if r = 7 then V else tr) = I := ⟨_, rfl⟩
 obtain ⟨J, hJ⟩ : ∃ J, (if r = 8 then V else ji) = J := ⟨_, rfl⟩
 obtain ⟨M, hM⟩ : ∃ M, (if r = 9 then V else lo) = M := ⟨_, rfl⟩
 rw [hA, hB, hC, hD, hE, hG, hH, hI, hJ, hM]
 have hr' : r = 0 ∨ r = 1 ∨ r = 2 ∨ r = 3 ∨ r = 4 ∨ r = 5 ∨ r = 6 ∨ r = 7 ∨ r = 8 ∨ r = 9 ∨ r = 10 ∨ r = 11 ∨ r = 12 := by omega
 cases l with
 | nil =>
  have rn0 : rows Hd.l ([] : List Hd) = [] := rfl
  rcases hr' with rfl | rfl | rfl | rfl | rfl | rfl | rfl | rfl | rfl | rfl | rfl | rfl | rfl
  all_goals
   simp at hL; simp only [reduceIte, Int.reduceEq] at hA hB hC hD hE hG hH hI hJ hM; subst hA hB hC hD hE hG hH hI hJ hM; subst hL
   simp (maxSteps := 400000) only [go_sem, m1, m2, w1, rn0, simprocAttr]
   refine covB_l ?_; rfl
 | cons x t =>
  have h0 : ¬ (x :: t).length = 0 := by simp
  generalize x :: t = l at *
  have c0 : decide ((l.length : Int) > 0) = true := decide_eq_true (by omega)
  have c0' : ((l.length : Int) == 0) = false := beq_eq_false_iff_ne.2 (by omega)
  have c0n : ((l.length : Int) != 0) = true := bne_iff_ne.2 (by omega)
  have d0 : decide (l.length = 0) = false := decide_eq_false h0
  have d1 : decide (l.length ≤ 0) = false := decide_eq_false (by omega)
  have gm : decide (120 * l.length ≤ growMax) = true := decide_eq_true (by simp only [growMax]; omega)
  have zR : (rows Hd.l l).length = l.length * 10 := rows_len Hd.len
  have po : oneAll (rows Hd.l l) = true := rows_one1 Hd.one l
  have q1 : at_.tmod (l.length : Int) = ((at_.toNat % l.length : Nat) : Int) := by rw [Int.tmod_eq_emod_of_nonneg (by omega), Int.natCast_emod, Int.toNat_of_nonneg ha.1]
  have hmod : at_.toNat % l.length < l.length := Nat.mod_lt _ (by omega)
  have q2 : IntKind.i64.wrap ((at_.toNat % l.length : Nat) : Int) = ((at_.toNat % l.length : Nat) : Int) := wrapL (by omega) (by omega)
  have c5 : decide (0 ≤ ((at_.toNat % l.length : Nat) : Int) ∧ ((at_.toNat % l.length : Nat) : Int) < (l.length : Int)) = true := decide_eq_true (by omega)
  have hgi : l[at_.toNat % l.length]? = some (l.getD (at_.toNat % l.length) zHd) := by rw [List.getD_eq_getElem?_getD, List.getElem?_eq_getElem hmod]; rfl
  have room : ∀ j, j < 10 → decide (at_.toNat % l.length * 10 + j + 1 ≤ l.length * 10) = true := fun j hj => decide_eq_true (by omega)
  have sr := fun (j : Nat) (hj : j < 10) (x' : Hd) (hx' : x'.l = splice (l.getD (at_.toNat % l.length) zHd).l j [.i .i64 V]) => splice_row (f := Hd.l) (z := 10) Hd.len hgi hj hx'
  have hbx : bIx ⟨wh, at_, V⟩ l = at_.toNat % l.length := rfl
  rw [hbx] at hL
  have ct : List.take (l.length * 10) (List.drop 0 (rows Hd.l l)) = rows Hd.l l := by rw [List.drop_zero, ← zR, List.take_length]
  have hsr : ∀ (h : Hp) (k : List Nat → Nat → List AV → Bool → Option (Bool × Eff)), srcK h 10 (.fz (rows Hd.l l) l.length) k = k [] l.length (rows Hd.l l) true := fun h k => by
   rw [srcK_f]
   have e : cellsAt (rows Hd.l l) 0 (l.length * 10) = rows Hd.l l := by rw [cellsAt, List.drop_zero, ← zR, List.take_length]
   rw [e, zR]; simp
  generalize l.getD (at_.toNat % l.length) zHd = y at *
  generalize at_.toNat % l.length = i at *
  rcases hr' with rfl | rfl | rfl | rfl | rfl | rfl | rfl | rfl | rfl | rfl | rfl | rfl | rfl
  · simp at hL; simp only [reduceIte, Int.reduceEq] at hA hB hC hD hE hG hH hI hJ hM; subst hA hB hC hD hE hG hH hI hJ hM; subst hL
    simp (maxSteps := 400000) only [go_sem, m1, m2, w1, c0, c0', c0n, d0, d1, gm, zR, po, q1, q2, hsr, ct, simprocAttr]
    refine covB_g (hC := rfl) ?_ ?_ <;> rfl
  · simp at hL; simp only [reduceIte, Int.reduceEq] at hA hB hC hD hE hG hH hI hJ hM; subst hA hB hC hD hE hG hH hI hJ hM; subst hL
    simp (maxSteps := 400000) only [go_sem, m1, m2, w1, c0, c0', c0n, d0, d1, gm, zR, po, q1, q2, hsr, ct, simprocAttr]
    refine covB_g (hC := rfl) ?_ ?_ <;> rfl
  · simp at hL; simp only [reduceIte, Int.reduceEq] at hA hB hC hD hE hG hH hI hJ hM; subst hA hB hC hD hE hG hH hI hJ hM; subst hL
    simp (maxSteps := 400000) only [go_sem, m1, m2, w1, c0, c0', c0n, d0, d1, gm, zR, po, q1, q2, hsr, ct, simprocAttr]
    refine covB_g (hC := rfl) ?_ ?_ <;> rfl
  · simp at hL; simp only [reduceIte, Int.reduceEq] at hA hB hC hD hE hG hH hI hJ hM; subst hA hB hC hD hE hG hH hI hJ hM; subst hL
    simp (maxSteps := 400000) only [go_sem, m1, m2, w1, c0, c0', c0n, d0, d1, gm, zR, po, q1, q2, hsr, ct, simprocAttr]
    refine covB_g (hC := rfl) ?_ ?_ <;> rfl
  · simp at hL; simp only [reduceIte, Int.reduceEq] at hA hB hC hD hE hG hH hI hJ hM; subst hA hB hC hD hE hG hH hI hJ hM; subst hL
    simp (maxSteps := 400000) only [go_sem, m1, m2, w1, c0, c0', c0n, d0, d1, gm, zR, po, q1, q2, hsr, ct, simprocAttr]
    refine covB_g (hC := rfl) ?_ ?_ <;> rfl
  · simp at hL; simp only [reduceIte, Int.reduceEq] at hA hB hC hD hE hG hH hI hJ hM; subst hA hB hC hD hE hG hH hI hJ hM; subst hL
    simp (maxSteps := 400000) only [go_sem, m1, m2, w1, c0, c0', c0n, d0, d1, gm, zR, po, q1, q2, hsr, ct, simprocAttr]
    refine covB_g (hC := rfl) ?_ ?_ <;> rfl
  · simp at hL; simp only [reduceIte, Int.reduceEq] at hA hB hC hD hE hG hH hI hJ hM; subst hA hB hC hD hE hG hH hI hJ hM; subst hL
    simp (maxSteps := 400000) only [go_sem, m1, m2, w1, c0, c0', c0n, d0, d1, gm, zR, po, q1, q2, hsr, ct, simprocAttr]
    refine covB_g (hC := rfl) ?_ ?_ <;> rfl
  · simp at hL; simp only [reduceIte, Int.reduceEq] at hA hB hC hD hE hG hH hI hJ hM; subst hA hB hC hD hE hG hH hI hJ hM; subst hL
    simp (maxSteps := 400000) only [go_sem, m1, m2, w1, c0, c0', c0n, d0, d1, gm, zR, po, q1, q2, hsr, ct, simprocAttr]
    refine covB_g (hC := rfl) ?_ ?_ <;> rfl
  · simp at hL; simp only [reduceIte, Int.reduceEq] at hA hB hC hD hE hG hH hI hJ hM; subst hA hB hC hD hE hG hH hI hJ hM; subst hL
    simp (maxSteps := 400000) only [go_sem, m1, m2, w1, c0, c0', c0n, d0, d1, gm, zR, po, q1, q2, hsr, ct, simprocAttr]
    refine covB_g (hC := rfl) ?_ ?_ <;> rfl
  · simp at hL; simp only [reduceIte, Int.reduceEq] at hA hB hC hD hE hG hH hI hJ hM; subst hA hB hC hD hE hG hH hI hJ hM; subst hL
    simp (maxSteps := 400000) only [go_sem, m1, m2, w1, c0, c0', c0n, d0, d1, gm, zR, po, q1, q2, hsr, ct, simprocAttr]
    refine covB_g (hC := rfl) ?_ ?_ <;> rfl
  · have rm := room 9 (by omega)
    rw [if_neg (by omega), if_neg h0, if_pos rfl] at hL
    simp only [reduceIte, Int.reduceEq] at hA hB hC hD hE hG hH hI hJ hM; subst hA hB hC hD hE hG hH hI hJ hM
    have e := sr 9 (by omega) ⟨y.p, V⟩ rfl
    rw [hL] at e
    simp (maxSteps := 400000) only [go_sem, m1, m2, w1, c0, c0', c0n, d0, d1, gm, zR, po, q1, q2, hsr, ct, c5, rm, simprocAttr]
    refine covB_g (hC := e) ?_ ?_
    · rfl
    · rw [← hL, List.length_set]
  · have rm := room 2 (by omega)
    rw [if_neg (by omega), if_neg h0, if_neg (by omega), if_pos rfl] at hL
    simp only [reduceIte, Int.reduceEq] at hA hB hC hD hE hG hH hI hJ hM; subst hA hB hC hD hE hG hH hI hJ hM
    have e := sr 2 (by omega) ⟨{ y.p with sq := V }, y.st⟩ rfl
    rw [hL] at e
    simp (maxSteps := 400000) only [go_sem, m1, m2, w1, c0, c0', c0n, d0, d1, gm, zR, po, q1, q2, hsr, ct, c5, rm, simprocAttr]
    refine covB_g (hC := e) ?_ ?_
    · rfl
    · rw [← hL, List.length_set]
  · rw [if_neg (by omega), if_neg h0, if_neg (by omega), if_neg (by omega)] at hL
    simp only [reduceIte, Int.reduceEq] at hA hB hC hD hE hG hH hI hJ hM; subst hA hB hC hD hE hG hH hI hJ hM
    have hl1 : l.length - 1 < l.length := by omega
    have hgl : l[l.length - 1]? = some (l.getD (l.length - 1) zHd) := by rw [List.getD_eq_getElem?_getD, List.getElem?_eq_getElem hl1]; rfl
    have hrl := hd_at hgl
    have wl : IntKind.i64.wrap ((l.length : Int) - 1) = ((l.length - 1 : Nat) : Int) := by rw [wrapL (by omega) (by omega)]; omega
    have cl : decide (0 ≤ ((l.length - 1 : Nat) : Int) ∧ ((l.length - 1 : Nat) : Int) < (l.length : Int)) = true := decide_eq_true (by omega)
    have lp := fun (K : Kont) (e : Env) (h : Hp) (n : Nat) => @loop32 wh at_ V ck ti nx mr of tr ji lo sd whl (l.getD (l.length - 1) zHd) l hl ha K e h n
    have hLl : L.length = l.length + (64 + (at_ % 2).toNat - l.length) := by rw [← hL, List.length_append, extL_len]
    rw [hL] at lp
    have e0 : l ++ extL (l.getD (l.length - 1) zHd) 0 = l := by simp [extL, mapN_z]
    rw [e0] at lp
    generalize l.getD (l.length - 1) zHd = z at *
    have hB1 := csB 1 z.p.cs
    have hB2 := xsB 1 z.p.xs
    obtain ⟨⟨ma, pty, sq, tm, pss, cs, xs, pd, pl⟩, xt⟩ := z
    simp only [Hd.l] at hrl
    simp (maxSteps := 400000) only [go_sem, m1, m2, w1, c0, c0', c0n, d0, d1, gm, zR, po, q1, q2, hsr, ct, wl, cl, hrl, simprocAttr]
    refine lp _ _ _ _ ?_ ?_ (fun e' g3 g4 => ?_)
    · simp (maxSteps := 400000) only [go_sem, AV.bel, belL, nblt, AV.ren, renL, simprocAttr]
    · simp (maxSteps := 400000) only [go_sem, hD5, hdK, Hd.l, AV.bel, belL, nblt, Blk.ren, AV.ren, renL, hrB, hrR, csB, xsB, csR, xsR, simprocAttr]
    · simp (maxSteps := 400000) only [go_sem, hD5, g3, g4, simprocAttr]
      exact covB_g (hC := rfl) rfl rfl
def k32 : Ct
 | [.agg b, .agg c], _, n => (bx3 b).bind fun b => (bfA c).bind fun w => some (b.okB && decide (w.l.length ≤ 1000000), { v := .agg (bendS b w).a, n })
 | _, _, _ => none
theorem s32 : SoundAt Try.prog 32 k32 := fun args h n c E hc ht => by
 unfold k32 at hc
 split at hc
 · simp only [Option.bind_eq_some_iff] at hc
   obtain ⟨b, hb, w, hw, he⟩ := hc
   cases he
   rw [bx3_eq hb, bfA_eq hw]
   simp only [Bool.and_eq_true, decide_eq_true_eq] at ht
   exact CallOK.pure (by kernel_rfl) (by simp only [belL, AV.bel, Bf.bel, Bx.a, Bool.and_self]) (by simp only [AV.bel, Bf.bel]) (w32 b w ht.1 ht.2) _ _
 · cases hc
end Go.Proofs.Jit
end
section
/- The law's four buffers. -/
namespace Go.Proofs.Jit
open Go.Ab
set_option maxRecDepth 100000
set_option maxHeartbeats 4000000
set_option linter.unusedSimpArgs false
set_option linter.unusedVariables false
def T11 : List (Nat × Ct) := [(31, k31), (32, k32), (33, k33)]
theorem hT11 : Sound Try.prog (cxT T11) := Sound.cons s31 (Sound.cons s32 (Sound.cons s33 Sound.nil))
theorem bufS_inv (d : Dj) : InvB (bufS d) := bufN_inv newS_inv _
theorem bendL_len (b : Bx) (l : List Hd) : (bendL b l).length ≤ max l.length 65 := by
 unfold bendL
 split
 · omega
 · split
   · omega
   · split
     · rw [List.length_set]; omega
     · split
       · rw [List.length_set]; omega
       · rw [List.length_append, extL_len]; omega
theorem w11 (d : Dj) (x0 x1 : Bx) (raw : Bf) (hd : DjOK d = true) (h0 : x0.okB = true) (h1 : x1.okB = true) (hr : raw.l.length ≤ 9223372036854775807) :
 FTL Try.prog 11 [.agg d.l, .agg (x0.a ++ x1.a), .agg raw.a] [] 0 (.agg ((bufS d).a ++ ((bendS x0 (bufS d)).a ++ ((bendS x1 (bendS x0 (bufS d))).a ++ (fewS raw).a)))) [] 0 := by
 have hdj := dj5_l d
 have hk31 : ∀ (h : Hp) n, k31 [.agg d.l] h n = some (true, { v := .agg (bufS d).a, n }) := fun h n => by simp only [k31, hdj, Option.bind_some, hd]
 have hl0 := (bufS_inv d).2
 have hl1 : (bendS x0 (bufS d)).l.length ≤ 1000000 := by
  have := bendL_len x0 (bufS d).l
  show (bendL x0 (bufS d).l).length ≤ 1000000
  omega
 have d0 : decide ((bufS d).l.length ≤ 1000000) = true := decide_eq_true (by omega)
 have d1 : decide ((bendS x0 (bufS d)).l.length ≤ 1000000) = true := decide_eq_true hl1
 have d2 : decide (raw.l.length ≤ 9223372036854775807) = true := decide_eq_true hr
 have hk32 : ∀ (h : Hp) n, k32 [.agg x0.a, .agg (bufS d).a] h n = some (true, { v := .agg (bendS x0 (bufS d)).a, n }) := fun h n => by simp only [k32, bx3_a, bfA_a, Option.bind_some, h0, d0, Bool.and_self]
 have hk32b : ∀ (h : Hp) n, k32 [.agg x1.a, .agg (bendS x0 (bufS d)).a] h n = some (true, { v := .agg (bendS x1 (bendS x0 (bufS d))).a, n }) := fun h n => by simp only [k32, bx3_a, bfA_a, Option.bind_some, h1, d1, Bool.and_self]
 have hk33 : ∀ (h : Hp) n, k33 [.agg raw.a] h n = some (true, { v := .agg (fewS raw).a, n }) := fun h n => by simp only [k33, bfA_a, Option.bind_some, d2]
 have hb3 := Bf.bel (fewS raw)
 generalize bendS x1 (bendS x0 (bufS d)) = B2 at *
 generalize bendS x0 (bufS d) = B1 at *
 generalize bufS d = B0 at *
 generalize fewS raw = B3 at *
 have hb0 := Bf.bel B0
 have hb1 := Bf.bel B1
 have hb2 := Bf.bel B2
 obtain ⟨ck, ⟨sq, tm, fr⟩, ev⟩ := d
 obtain ⟨a0, a1, a2, a3, a4, a5, a6, a7, a8, a9, a10⟩ := B0
 obtain ⟨b0, b1, b2, b3, b4, b5, b6, b7, b8, b9, b10⟩ := B1
 obtain ⟨c0, c1, c2, c3, c4, c5, c6, c7, c8, c9, c10⟩ := B2
 obtain ⟨e0, e1, e2, e3, e4, e5, e6, e7, e8, e9, e10⟩ := B3
 obtain ⟨r0, r1, r2, r3, r4, r5, r6, r7, r8, r9, r10⟩ := raw
 obtain ⟨u0, u1, u2⟩ := x0
 obtain ⟨v0, v1, v2⟩ := x1
 simp only [Bf.a, Bx.a, Dj.l, List.cons_append, List.nil_append] at *
 refine FTL.of_iw hT11 mo Try.func11 i11_eq (by simp [i11]) (iw_of_jw ?_)
 dsimp only [i11, T11]
 simp (maxSteps := 400000) only [go_sem, hk31, hk32, hk32b, hk33, simprocAttr]
 refine Ends.pureE ?_ rfl
 simp only [AV.bel, belL, hrB, Bool.and_self]
end Go.Proofs.Jit
end
