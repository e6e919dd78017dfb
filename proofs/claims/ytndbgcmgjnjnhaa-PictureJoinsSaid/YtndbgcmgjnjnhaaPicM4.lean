/- The contract of picture.Join. -/
import Derived.Test.YtndbgcmgjnjnhaaPicM3
namespace Go.Proofs.Pic
open Go.Ab
set_option maxRecDepth 100000
set_option maxHeartbeats 4000000
set_option linter.unusedSimpArgs false
set_option linter.unusedVariables false
structure Fr where
 go : Bool
 tm : Int
 sh : Sh
 da : List UInt8
def Fr.l (f : Fr) : List AV := [.i .i64 f.tm, .b f.sh.st, .b f.sh.ky, .b f.sh.sy, .b f.sh.la, .i .i64 f.sh.id, .i .i64 f.sh.ba, .i .i64 f.sh.te, .i .i64 f.sh.sp, .s f.da]
def zFr : Fr := ⟨false, 0, zSh, []⟩
def shB (a b : Sh) : Bool := (a.st == b.st) && ((a.ky == b.ky) && ((a.sy == b.sy) && ((a.la == b.la) && ((a.id == b.id) && ((a.ba == b.ba) && ((a.te == b.te) && (a.sp == b.sp)))))))
def set1 (s : Sh) : Sh := ⟨true, s.ky, s.sy, true, s.id, s.ba, s.te, s.sp⟩
def nextB (q p : Md) : Bool := (p.ss == q.ss) && ((p.ty == q.ty) && (p.sq == andI .i64 (IntKind.i64.wrap (q.sq + 1)) 65535))
def badP (x : Sh × List UInt8 × Int) (k n : Nat) : Bool := (x.2.2 != 0) || (!(x.1.st == ((k : Int) == 0)) || !(x.1.la == ((k : Int) == (n : Int) - 1)))
def roundJ (l : List Md) (k : Nat) (p : Md) (f : Fr) : Fr :=
 let x := dec p.pl
 if k = 0 then ⟨f.go, p.tm, set1 x.1, f.da ++ x.2.1⟩
 else ⟨shB (set1 x.1) f.sh && ((p.tm == f.tm) && (match l[k - 1]? with | some q => nextB q p | none => false)), f.tm, f.sh, f.da ++ x.2.1⟩
def joinK (l : List Md) : Nat → Option Fr
 | 0 => some ⟨decide (1 ≤ l.length) && decide (l.length ≤ 64), 0, zSh, []⟩
 | k + 1 => (joinK l k).bind fun f => (l[k]?).bind fun p => if !f.go || badP (dec p.pl) k l.length then none else some (roundJ l k p f)
def joinS (l : List Md) : Fr × Int :=
 if l.any (fun p => !mdB p) then (zFr, 230)
 else match joinK l l.length with
  | some f => if f.go then (f, 0) else (zFr, 401)
  | none => (zFr, 401)
theorem joinK_none {l : List Md} {k : Nat} (h : joinK l k = none) : ∀ j, k ≤ j → joinK l j = none := fun j hj => by
 obtain ⟨d, rfl⟩ := Nat.exists_eq_add_of_le hj
 clear hj
 induction d with
 | zero => exact h
 | succ d ih => rw [← Nat.add_assoc]; simp only [joinK, ih, Option.bind_none]
theorem dec_rest (l : List UInt8) : (dec l).2.1.length ≤ l.length := by
 unfold dec
 split
 · split <;> simp; omega
 · simp
def plB (p : Md) : Bool := decide (p.pl.length ≤ 1000000000000)
theorem joinK_len {l : List Md} (hf : l.all plB = true) : ∀ {k : Nat} {f : Fr}, joinK l k = some f → f.da.length ≤ k * 1000000000000
 | 0, f, h => by simp only [joinK, Option.some.injEq] at h; subst h; simp
 | k + 1, f, h => by
  simp only [joinK, Option.bind_eq_some_iff] at h
  obtain ⟨g, h1, p, h2, h3⟩ := h
  split at h3
  · cases h3
  · simp only [Option.some.injEq] at h3
    have ih := joinK_len hf h1
    have hp : plB p = true := by rw [List.all_eq_true] at hf; exact hf p (List.mem_of_getElem? h2)
    simp only [plB, decide_eq_true_eq] at hp
    have hr := dec_rest p.pl
    have : f.da = g.da ++ (dec p.pl).2.1 := by rw [← h3]; unfold roundJ; split <;> rfl
    rw [this, List.length_append]
    omega
def TM4 : List (Nat × Ct) := [(53, k53), (20, k20)]
theorem hTM4 : Sound Try.prog (cxT TM4) := Sound.cons s53 (Sound.cons s20 Sound.nil)
def joinV (r : Fr × Int) : AV := .tup [.agg r.1.l, .i .i64 r.2]
theorem loop33 (l : List Md) (hl : l.length ≤ 9223372036854775807) (hf : l.all Md.fin = true) (hp12 : l.all plB = true) {K : Kont} {e : Env} {h : Hp} {n : Nat}
 (he : EnvIn 2 e [(0, .fz (rows Md.l l) l.length), (2, .p 0 0), (4, .p 1 0), (5, .b (decide (1 ≤ l.length) && decide (l.length ≤ 64))), (23, .fz (rows Md.l l) l.length), (24, .i .i64 (l.length : Int)), (25, .i .i64 0)])
 (hh : HpIn 2 h [(1, { cells := zFr.l }), (0, { cells := zFr.l })])
 (hK : ∀ e' h' n', eget e' 2 = some (.p 0 0) → hget h' 0 = some { cells := zFr.l } → ((∃ f, joinK l l.length = some f ∧ eget e' 5 = some (.b f.go) ∧ eget e' 4 = some (.p 1 0) ∧ hget h' 1 = some { cells := f.l }) ∨ (joinK l l.length = none ∧ eget e' 5 = some (.b false))) → K (.exit 0) e' h' n') :
 Ab.Loop Try.prog [13, 26, 59, 63, 115] 118 0 i33l18 K e h n := by
 have hL : ∀ (k : Nat) x, l[k]? = some x → List.take 9 (List.drop (k * 9) (rows Md.l l)) = x.l := fun k x hk => rows_at Md.len hk
 have hLb : belL 2 (rows Md.l l) = true := belL_mono0 _ (rows_bel Md.bel)
 generalize hLL : rows Md.l l = L at hL hLb he
 refine Loop.countI (F := ⟨Try.prog, cxT TM4, [13, 26, 59, 63, 115], 118, 0⟩) hTM4 mo l.length (fun k => ∃ f, joinK l k = some f)
  (fun k => [(0, .fz L l.length), (2, .p 0 0), (4, .p 1 0), (5, .b ((joinK l k).getD zFr).go), (23, .fz L l.length), (24, .i .i64 (l.length : Int)), (25, .i .i64 (k : Int))])
  (fun k => [(1, { cells := ((joinK l k).getD zFr).l }), (0, { cells := zFr.l })]) 2 (by decide) ⟨_, rfl⟩ (by simpa [joinK] using he) (by simpa [joinK, zFr, Fr.l] using hh) (fun k hk ho => ?_)
 dsimp only [TM4]
 obtain ⟨f, hfk⟩ := ho
 have hfl := joinK_len hp12 hfk
 rw [show (joinK l k).getD zFr = f by rw [hfk]; rfl]
 by_cases hlt : k < l.length
 · have c1 : decide ((k : Int) < (l.length : Int)) = true := decide_eq_true (by omega)
   have c2 : decide (0 ≤ (k : Int) ∧ (k : Int) < (l.length : Int)) = true := decide_eq_true (by omega)
   obtain ⟨p, hp⟩ : ∃ p, l[k]? = some p := ⟨_, List.getElem?_eq_getElem hlt⟩
   have hw : IntKind.i64.wrap ((k : Int) + 1) = ((k + 1 : Nat) : Int) := by rw [wrapL (by omega) (by omega)]; omega
   have hwn : IntKind.i64.wrap ((l.length : Int) - 1) = (l.length : Int) - 1 := wrapL (by omega) (by omega)
   have hr := hL k p hp
   have hpf : p.fin = true := by rw [List.all_eq_true] at hf; exact hf p (List.mem_of_getElem? hp)
   have hpf' := hpf
   simp only [Md.fin, Bool.and_eq_true, decide_eq_true_eq] at hpf'
   have hdr := dec_rest p.pl
   have hpl : p.pl.length ≤ 1000000000000 := by rw [List.all_eq_true] at hp12; exact of_decide_eq_true (hp12 p (List.mem_of_getElem? hp))
   have hCb : belL 2 (rows int1 p.cs) = true := belL_mono0 _ (rows_bel int1_bel)
   have hXb : belL 2 (rows xtR p.xs) = true := belL_mono0 _ (rows_bel xtR_bel)
   have hnx : joinK l (k + 1) = if !f.go || badP (dec p.pl) k l.length then none else some (roundJ l k p f) := by simp only [joinK, hfk, hp, Option.bind_some]
   have hbrk : joinK l (k + 1) = none → joinK l l.length = none := fun hn => joinK_none hn _ hlt
   generalize hx : dec p.pl = x at hnx hdr
   obtain ⟨⟨st, ky, sy, la, id, ba, te, sp⟩, rest, ec⟩ := x
   obtain ⟨g, tm, ⟨s1, s2, s3, s4, s5, s6, s7, s8⟩, da⟩ := f
   simp only at hfl hdr hnx
   cases g
   · have hno := hbrk (by rw [hnx]; rfl)
     simp (maxSteps := 400000) only [go_sem, c1, c2, hr, k20, hx, decV, Sh.l, Md.l, Fr.l, zFr, zSh, simprocAttr]
     exact hK _ _ _ rfl rfl (.inr ⟨hno, rfl⟩)
   cases b1 : (ec != 0)
   · cases b2 : (st == ((k : Int) == 0))
     · have hno := hbrk (by rw [hnx]; simp only [badP, b1, b2, Bool.not_true, Bool.not_false, Bool.false_or, Bool.or_true, Bool.true_or, if_true])
       simp (maxSteps := 400000) only [go_sem, c1, c2, hr, k20, hx, decV, Sh.l, Md.l, Fr.l, zFr, zSh, b1, b2, hwn, simprocAttr]
       exact hK _ _ _ rfl rfl (.inr ⟨hno, rfl⟩)
     cases b3 : (la == ((k : Int) == (l.length : Int) - 1))
     · have hno := hbrk (by rw [hnx]; simp only [badP, b1, b2, b3, Bool.not_true, Bool.not_false, Bool.false_or, Bool.or_true, if_true])
       simp (maxSteps := 400000) only [go_sem, c1, c2, hr, k20, hx, decV, Sh.l, Md.l, Fr.l, zFr, zSh, b1, b2, b3, hwn, simprocAttr]
       exact hK _ _ _ rfl rfl (.inr ⟨hno, rfl⟩)
     have hgood : joinK l (k + 1) = some (roundJ l k p ⟨true, tm, ⟨s1, s2, s3, s4, s5, s6, s7, s8⟩, da⟩) := by
      rw [hnx]; simp only [badP, b1, b2, b3, Bool.not_true, Bool.or_self, Bool.false_eq_true, if_false]
     have c5 : decide (da.length + rest.length ≤ 9223372036854775807) = true := by
      refine decide_eq_true ?_
      have : joinK l 0 = some ⟨decide (1 ≤ l.length) && decide (l.length ≤ 64), 0, zSh, []⟩ := rfl
      have h64 : l.length ≤ 64 := by
       rcases Nat.lt_or_ge 64 l.length with h' | h'
       · exfalso
         have h1 : joinK l 1 = none := by
          simp only [joinK, Option.bind_some]
          rw [decide_eq_false (show ¬ l.length ≤ 64 by omega), Bool.and_false]
          cases l[0]? <;> simp
         rcases Nat.eq_zero_or_pos k with h0 | h0
         · subst h0
           rw [this] at hfk
           simp only [Option.some.injEq, Fr.mk.injEq] at hfk
           have := hfk.1
           rw [decide_eq_false (show ¬ l.length ≤ 64 by omega), Bool.and_false] at this
           cases this
         · rw [joinK_none h1 k h0] at hfk; cases hfk
       · exact h'
      have : k * 1000000000000 ≤ 64 * 1000000000000 := Nat.mul_le_mul_right _ (by omega)
      omega
     by_cases hk0 : k = 0
     · have d0 : ((k : Int) == 0) = true := by simp [hk0]
       have hgd : ∀ z, (joinK l (k + 1)).getD z = ⟨true, p.tm, ⟨true, ky, sy, true, id, ba, te, sp⟩, da ++ rest⟩ := fun z => by
        rw [hgood, Option.getD_some, roundJ, hx, if_pos hk0]; rfl
       rw [d0] at b2
       simp (maxSteps := 400000) only [go_sem, c1, c2, hr, k20, hx, decV, Sh.l, Md.l, Fr.l, zFr, zSh, b1, b2, b3, d0, hwn, hw, c5, hgd, hlt, AV.bel, belL, nblt, hLb, hCb, hXb, simprocAttr]
       exact ⟨_, hgood⟩
     · have d0 : ((k : Int) == 0) = false := by simp [hk0]
       obtain ⟨q, hq⟩ : ∃ q, l[k - 1]? = some q := ⟨_, List.getElem?_eq_getElem (by omega)⟩
       have hr2 := hL (k - 1) q hq
       have q2 : IntKind.i64.wrap ((k : Int) - 1) = ((k - 1 : Nat) : Int) := by rw [wrapL (by omega) (by omega)]; omega
       have c3 : decide (0 ≤ ((k - 1 : Nat) : Int) ∧ ((k - 1 : Nat) : Int) < (l.length : Int)) = true := decide_eq_true (by omega)
       rw [d0] at b2
       have hgd : ∀ z, (joinK l (k + 1)).getD z = ⟨(true == s1 && (ky == s2 && (sy == s3 && (true == s4 && (id == s5 && (ba == s6 && (te == s7 && sp == s8))))))) && ((p.tm == tm) && ((p.ss == q.ss) && ((p.ty == q.ty) && (p.sq == andI .i64 (IntKind.i64.wrap (q.sq + 1)) 65535)))), tm, ⟨s1, s2, s3, s4, s5, s6, s7, s8⟩, da ++ rest⟩ := fun z => by
        rw [hgood, Option.getD_some, roundJ, hx, if_neg hk0, hq]; rfl
       cases a1 : (true == s1 && (ky == s2 && (sy == s3 && (true == s4 && (id == s5 && (ba == s6 && (te == s7 && sp == s8)))))))
       · simp (maxSteps := 400000) only [go_sem, c1, c2, c3, hr, hr2, q2, k20, hx, decV, Sh.l, Md.l, Fr.l, zFr, zSh, b1, b2, b3, d0, hwn, hw, c5, hgd, hlt, a1, AV.bel, belL, nblt, hLb, hCb, hXb, simprocAttr]
         exact ⟨_, hgood⟩
       cases a2 : (p.tm == tm)
       · simp (maxSteps := 400000) only [go_sem, c1, c2, c3, hr, hr2, q2, k20, hx, decV, Sh.l, Md.l, Fr.l, zFr, zSh, b1, b2, b3, d0, hwn, hw, c5, hgd, hlt, a1, a2, AV.bel, belL, nblt, hLb, hCb, hXb, simprocAttr]
         exact ⟨_, hgood⟩
       cases a3 : (p.ss == q.ss)
       · simp (maxSteps := 400000) only [go_sem, c1, c2, c3, hr, hr2, q2, k20, hx, decV, Sh.l, Md.l, Fr.l, zFr, zSh, b1, b2, b3, d0, hwn, hw, c5, hgd, hlt, a1, a2, a3, AV.bel, belL, nblt, hLb, hCb, hXb, simprocAttr]
         exact ⟨_, hgood⟩
       cases a4 : (p.ty == q.ty)
       · simp (maxSteps := 400000) only [go_sem, c1, c2, c3, hr, hr2, q2, k20, hx, decV, Sh.l, Md.l, Fr.l, zFr, zSh, b1, b2, b3, d0, hwn, hw, c5, hgd, hlt, a1, a2, a3, a4, AV.bel, belL, nblt, hLb, hCb, hXb, simprocAttr]
         exact ⟨_, hgood⟩
       simp (maxSteps := 400000) only [go_sem, c1, c2, c3, hr, hr2, q2, k20, hx, decV, Sh.l, Md.l, Fr.l, zFr, zSh, b1, b2, b3, d0, hwn, hw, c5, hgd, hlt, a1, a2, a3, a4, AV.bel, belL, nblt, hLb, hCb, hXb, simprocAttr]
       exact ⟨_, hgood⟩
   · have hno := hbrk (by rw [hnx]; simp only [badP, b1, Bool.not_true, Bool.false_or, Bool.true_or, if_true])
     simp (maxSteps := 400000) only [go_sem, c1, c2, hr, k20, hx, decV, Sh.l, Md.l, Fr.l, zFr, zSh, b1, hwn, simprocAttr]
     exact hK _ _ _ rfl rfl (.inr ⟨hno, rfl⟩)
 · have c1 : decide ((k : Int) < (l.length : Int)) = false := decide_eq_false (by omega)
   obtain rfl : k = l.length := by omega
   simp (maxSteps := 400000) only [go_sem, c1, simprocAttr]
   exact hK _ _ _ rfl rfl (.inl ⟨f, hfk, rfl, rfl, rfl⟩)
theorem w33 (l : List Md) (hl : l.length ≤ 9223372036854775807) (hf : l.all Md.fin = true) (hp12 : l.all plB = true) : FTL Try.prog 33 [.fz (rows Md.l l) l.length] [] 0 (joinV (joinS l)) [] 0 := by
 refine FTL.of_iw hTM4 mo Try.func33 i33_eq (by simp [i33]) (iw_of_jw ?_)
 dsimp only [i33, TM4]
 have hu : unrows 9 md9 l.length (rows Md.l l) = some l := unrows_rows Md.len md9_l l
 have hcl : decide (l.length ≤ 9223372036854775807) = true := decide_eq_true hl
 have hvw : ∀ (h : Hp) (k : List Nat → Nat → List AV → Bool → Option (Bool × Eff)), vwK h 9 (.fz (rows Md.l l) l.length) k = k [] l.length (rows Md.l l) true := fun h k => vwK_rows Md.len
 cases hbad : l.any (fun p => !mdB p)
 · have hR0 : joinS l = match joinK l l.length with | some f => if f.go then (f, 0) else (zFr, 401) | none => (zFr, 401) := by simp only [joinS, hbad, Bool.false_eq_true, if_false]
   generalize hR : joinS l = R at hR0 ⊢
   have n1 : decide ((l.length : Int) ≥ 1) = decide (1 ≤ l.length) := decide_eq_decide.2 (by omega)
   have n2 : decide ((l.length : Int) ≤ 64) = decide (l.length ≤ 64) := decide_eq_decide.2 (by omega)
   have hLb : belL 2 (rows Md.l l) = true := belL_mono0 _ (rows_bel Md.bel)
   cases hc : decide (1 ≤ l.length)
   all_goals
    simp (maxSteps := 400000) only [go_sem, k53, hvw, hu, hcl, hf, hbad, n1, n2, hc, simprocAttr]
    refine loop33 l hl hf hp12 ?_ ?_ (fun e' h' n' h2 h0 hd => ?_)
    · simp (maxSteps := 400000) only [go_sem, hc, AV.bel, belL, nblt, hLb, simprocAttr]
    · simp (maxSteps := 400000) only [go_sem, zFr, Fr.l, zSh, AV.bel, belL, nblt, simprocAttr]
    · simp only [blockK_e, if_true, thenK_n]
      have q0 : ∀ x c, hget (hset h' 0 x) c = if 0 = c then some x else hget h' c := fun x c => hget_hs (by rw [h0]; rfl)
      rcases hd with ⟨f, h1, h3, h4, h5⟩ | ⟨h1, h3⟩
      · rw [h1] at hR0
        simp only at hR0
        cases hg : f.go
        · rw [hg] at h3 hR0
          simp (maxSteps := 400000) only [go_sem, h0, h2, h3, q0, zFr, Fr.l, zSh, simprocAttr]
          exact Ends.pureE rfl (by rw [hR0]; rfl)
        · rw [hg] at h3 hR0
          simp (maxSteps := 400000) only [go_sem, h0, h2, h3, h4, h5, q0, zFr, Fr.l, zSh, simprocAttr]
          exact Ends.pureE rfl (by rw [hR0]; rfl)
      · rw [h1] at hR0
        simp (maxSteps := 400000) only [go_sem, h0, h2, h3, q0, zFr, Fr.l, zSh, simprocAttr]
        exact Ends.pureE rfl (by rw [hR0]; rfl)
 · have hR0 : joinS l = (zFr, 230) := by simp only [joinS, hbad, if_true]
   rw [hR0]
   simp (maxSteps := 400000) only [go_sem, k53, hvw, hu, hcl, hf, hbad, simprocAttr]
   exact Ends.pureE rfl rfl
def k33 : Ct
 | [x], h, n => vwK h 9 x fun rd m cs ok => (unrows 9 md9 m cs).bind fun l => some (ok && decide (m ≤ 9223372036854775807) && l.all Md.fin && l.all plB, { v := joinV (joinS l), n, rd })
 | _, _, _ => none
theorem s33 : SoundAt Try.prog 33 k33 := fun args h n c E hc ht => by
 unfold k33 at hc
 split at hc
 · rename_i x
   rw [vwK_eq] at hc
   simp only [Option.bind_eq_some_iff] at hc
   obtain ⟨⟨rd, m, cs, ok⟩, hv, l, hl, he⟩ := hc
   cases he
   simp only [Bool.and_eq_true, decide_eq_true_eq] at ht
   obtain ⟨⟨⟨rfl, hm⟩, hf⟩, hp12⟩ := ht
   obtain ⟨rfl, hlm⟩ := unrows_eq (f := Md.l) md9_eq' hl
   subst hlm
   exact CallOK.viewG (by kernel_rfl) (argsF := [.fz (rows Md.l l) l.length]) ⟨vwK_sub hv (rows_bel Md.bel) (fun c hc => hc), trivial⟩ rfl (w33 l hm hf hp12)
 · cases hc
end Go.Proofs.Pic
