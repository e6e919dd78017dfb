/- Texts laid as one: ResM13 ResM14. -/
import Derived.Test.YthnmkedknannhaaResMe
import Derived.Test.YthnmkedknannhaaResMd
import Derived.Test.YthnmkedknannhaaAbGvs
section
/- The contract of the reference's Answer. -/
namespace Go.Proofs.Res
open Go.Ab
set_option maxRecDepth 100000
set_option maxHeartbeats 8000000
set_option linter.unusedSimpArgs false
set_option linter.unusedVariables false
theorem w83 (q : Int) (hq : 0 ≤ q ∧ q ≤ 65535) : FTL Try.prog 83 [.i .i64 2, .i .i64 q] [] 0 (.s [UInt8.ofNat (q / 256).toNat, UInt8.ofNat (q % 256).toNat]) [] 0 := by
 refine FTL.of_iw Sound.nil mo Try.func83 i83_eq (by simp [i83]) (iw_of_jw ?_)
 dsimp only [i83]
 have e1 : q.tmod 256 = q % 256 := Int.tmod_eq_emod_of_nonneg hq.1
 have e2 : q.tdiv 256 = q / 256 := Int.tdiv_eq_ediv_of_nonneg hq.1
 have e3 : (q / 256).tmod 256 = q / 256 := by rw [Int.tmod_eq_emod_of_nonneg (by omega)]; omega
 have e4 : (q / 256).tdiv 256 = 0 := by rw [Int.tdiv_eq_ediv_of_nonneg (by omega)]; omega
 have e5 : IntKind.u8.wrap (q % 256) = q % 256 := by rw [wrapU8]; omega
 have e6 : IntKind.u8.wrap (q / 256) = q / 256 := by rw [wrapU8]; omega
 have e7 : IntKind.i64.wrap (q % 256) = q % 256 := wrapL (by omega) (by omega)
 have e8 : IntKind.i64.wrap (q / 256) = q / 256 := wrapL (by omega) (by omega)
 simp (maxSteps := 400000) only [go_sem, simprocAttr]
 refine Loop.rounds (F := ⟨Try.prog, cxT [], [9], 22, 0⟩) 3 Sound.nil mo ?_
 simp (maxSteps := 400000) only [go_sem, e1, e2, e3, e4, e5, e6, e7, e8, simprocAttr]
 exact Ends.pureE rfl rfl
def k83 : Ct
 | [.i .i64 2, .i .i64 q], _, n => some (inI 0 65535 q, { v := .s [UInt8.ofNat (q / 256).toNat, UInt8.ofNat (q % 256).toNat], n })
 | _, _, _ => none
theorem s83 : SoundAt Try.prog 83 k83 := fun args h n c E hc ht => by
 unfold k83 at hc
 split at hc
 · cases hc
   exact CallOK.pure (by kernel_rfl) rfl rfl (w83 _ (inI_t ht)) _ _
 · cases hc
def Dist (l : List Kp) : Prop := ∀ (i j : Nat) (x y : Kp), l[i]? = some x → l[j]? = some y → x.p.sq = y.p.sq → i = j
theorem Dist.put {s : An} (h : Dist s.l) {i : Nat} {x : Kp} (hx : s.l[i]? = some x) (ss ty now : Int) : Dist (s.put ss ty now i x).l := by
 intro a b u v hu hv huv
 simp only [An.put, List.getElem?_set] at hu hv
 have key : ∀ (c : Nat) (w : Kp), (if i = c then if i < s.l.length then some (⟨x.p, x.ti, now⟩ : Kp) else none else s.l[c]?) = some w → ∃ w', s.l[c]? = some w' ∧ w'.p.sq = w.p.sq := by
  intro c w hw
  by_cases hic : i = c
  · subst hic
    rw [if_pos rfl] at hw
    split at hw
    · cases hw; exact ⟨x, hx, rfl⟩
    · cases hw
  · rw [if_neg hic] at hw; exact ⟨w, hw, rfl⟩
 obtain ⟨u', hu', e1⟩ := key a u hu
 obtain ⟨v', hv', e2⟩ := key b v hv
 exact h a b u' v' hu' hv' (by rw [e1, e2]; exact huv)
theorem Dist.one {s : An} (h : Dist s.l) (ss ty now trip n : Int) : Dist (ans1 ss ty now trip s n).l := by
 unfold ans1
 split
 · exact h
 · split
   · exact h
   · rename_i x hx
     cases ansF now trip x
     · exact h
     · exact h.put hx ss ty now
theorem Dist.all (ss ty now trip : Int) : ∀ (ns : List Int) {s : An}, Dist s.l → Dist (ansL ss ty now trip s ns).l
 | [], s, h => h
 | n :: r, s, h => Dist.all ss ty now trip r (h.one ss ty now trip n)
theorem goodH_d {h : Hs} (hg : goodH h = true) : Dist h.l := by
 simp only [goodH, Bool.and_eq_true] at hg
 obtain ⟨_, _, h5⟩ := hg
 have key : ∀ (l : List Kp) (f ld lq : Int), chH h.ti lq f ld l = true → (∀ x ∈ l, ld < lead x.p.sq lq) ∧ Dist l := by
  intro l
  induction l with
  | nil => intro f ld lq hc; exact ⟨fun x hx => by (cases hx), fun i j x y hx => by simp at hx⟩
  | cons y r ih =>
   intro f ld lq hc
   simp only [chH, Bool.and_eq_true] at hc
   have h1 := inI_t hc.2.2.1
   obtain ⟨g1, g2⟩ := ih _ _ _ hc.2.2.2
   refine ⟨fun x hx => ?_, fun i j a b ha hb hab => ?_⟩
   · rcases List.mem_cons.1 hx with rfl | hx
     · omega
     · have := g1 x hx; omega
   · cases i with
     | zero =>
      cases j with
      | zero => rfl
      | succ j =>
       simp at ha hb
       subst ha
       have := g1 b (List.mem_of_getElem? hb)
       rw [hab] at this; omega
     | succ i =>
      cases j with
      | zero =>
       simp at ha hb
       subst hb
       have := g1 a (List.mem_of_getElem? ha)
       rw [hab] at this; omega
      | succ j =>
       simp at ha hb
       rw [g2 i j a b ha hb hab]
 exact (key _ _ _ _ h5).2
def upTo (ss ty now trip : Int) (s : An) (n : Int) (i : Nat) : An := if ixf (fun x => x.p.sq == n) s.l 0 < (i : Int) then ans1 ss ty now trip s n else s
theorem upTo_0 {ss ty now trip : Int} {s : An} {n : Int} : upTo ss ty now trip s n 0 = s := by
 unfold upTo
 split
 · rcases ixf_some (p := fun x : Kp => x.p.sq == n) s.l 0 (Int.le_refl _) with h | ⟨j, _, h, _⟩
   · exact ans1_m h
   · omega
 · rfl
theorem upTo_e {ss ty now trip : Int} {s : An} {n : Int} {m : Nat} (hm : s.l.length = m) : upTo ss ty now trip s n m = ans1 ss ty now trip s n := by
 subst hm
 unfold upTo
 split
 · rfl
 · rcases ixf_some (p := fun x : Kp => x.p.sq == n) s.l 0 (Int.le_refl _) with h | ⟨j, hj, h, _⟩
   · omega
   · omega
theorem upTo_s {ss ty now trip : Int} {s : An} {n : Int} (hd : Dist s.l) {i : Nat} {x : Kp} (hx : (upTo ss ty now trip s n i).l[i]? = some x) :
 upTo ss ty now trip s n (i + 1) = bif (x.p.sq == n) && ansF now trip x then (upTo ss ty now trip s n i).put ss ty now i x else upTo ss ty now trip s n i := by
 rcases ixf_some (p := fun x : Kp => x.p.sq == n) s.l 0 (Int.le_refl _) with h | ⟨j, hj, h, _, y, hy, hyn⟩
 · have e1 : ∀ k : Nat, upTo ss ty now trip s n k = s := fun k => by unfold upTo; rw [ans1_m h]; split <;> rfl
   rw [e1] at hx ⊢
   rw [e1]
   have := ixf_m1 _ _ (Int.le_refl _) h x (List.mem_of_getElem? hx)
   have this : (x.p.sq == n) = false := this
   rw [this]; rfl
 · have hyn : y.p.sq = n := by simpa using hyn
   have e0 : ∀ k : Nat, k ≤ j → upTo ss ty now trip s n k = s := fun k hk => by unfold upTo; rw [if_neg (by omega)]
   have e1 : ∀ k : Nat, j < k → upTo ss ty now trip s n k = ans1 ss ty now trip s n := fun k hk => by unfold upTo; rw [if_pos (by omega)]
   rcases Nat.lt_trichotomy i j with hij | rfl | hij
   · rw [e0 i (by omega)] at hx ⊢
     rw [e0 (i + 1) (by omega)]
     have : (x.p.sq == n) = false := by
      rw [beq_eq_false_iff_ne]; intro e
      have := hd i j x y hx hy (by rw [e, hyn]); omega
     rw [this]; rfl
   · rw [e0 i (Nat.le_refl _)] at hx ⊢
     rw [hy] at hx; cases hx
     rw [e1 (i + 1) (by omega), ans1_j h hy]
     have : (x.p.sq == n) = true := by simp [hyn]
     rw [this, Bool.true_and]
   · rw [e1 i hij] at hx ⊢
     rw [e1 (i + 1) (by omega)]
     have : (x.p.sq == n) = false := by
      rw [beq_eq_false_iff_ne]; intro e
      have hx' : ∃ x', s.l[i]? = some x' ∧ x'.p.sq = x.p.sq := by
       rw [ans1_j h hy] at hx
       cases hb : ansF now trip y
       · rw [hb] at hx; exact ⟨x, hx, rfl⟩
       · rw [hb] at hx
         simp only [cond_true, An.put] at hx
         rw [List.getElem?_set_ne (by omega)] at hx
         exact ⟨x, hx, rfl⟩
      obtain ⟨x', h1, h2⟩ := hx'
      have := hd i j x' y h1 hy (by rw [h2, e, hyn]); omega
     rw [this]; rfl
theorem upTo_ok {l : List Kp} {s : An} (h : AnOK l s) (ss ty : Int) {now : Int} (trip n : Int) (hn : inI 0 1099511627776 now = true) (i : Nat) : AnOK l (upTo ss ty now trip s n i) := by
 unfold upTo; split
 · exact h.one ss ty trip n hn
 · exact h
theorem upTo_len {ss ty now trip : Int} {s : An} {n : Int} {i : Nat} : (upTo ss ty now trip s n i).o.length ≤ s.o.length + 1 := by
 have := ansL_len ss ty now trip [n] s
 unfold upTo; split
 · exact this
 · omega
def TM44 : List (Nat × Ct) := [(82, k82), (83, k83)]
theorem hTM44 : Sound Try.prog (cxT TM44) := Sound.cons s82 (Sound.cons s83 Sound.nil)
abbrev hM44 (ti ss ty : Int) (m : Nat) (s : An) : Hp := (gQ Md.l 9 s.o).h 4 ++ [(0, { cells := [.i .i64 ti, .i .i64 ss, .i .i64 ty, .i .i64 s.nx, .sg 3 0 m] }), (3, { cells := rows Kp.l s.l, gr := some 11 }), (1, { cells := [.i .i64 0, .i .i64 0, .i .i64 0, .i .i64 0, .ns] })]
theorem loop44i (ti ss ty now trip q : Int) (l : List Kp) (s : An) (ns : List Int) (k : Nat) (hq : ns[k]? = some q) (hkl : k < ns.length) (hnow : inI 0 1099511627776 now = true) (hl64 : l.length ≤ 64) (b2 : ns.length ≤ 64) (hso : s.o.length ≤ 64) (hd : Dist s.l) (hok0 : AnOK l s) {K : Kont} {e : Env} {h : Hp} {n : Nat}
 (he : EnvR 5 [] e [(1, .i .i64 now), (2, .i .i64 trip), (3, .fz (rows int1 ns) ns.length), (4, .p 0 0), (8, .p 1 0), (13, (gQ Md.l 9 s.o).v 4), (14, .i .i64 (k : Int)), (15, .i .i64 0)])
 (hh : HpR 5 [] h (hM44 ti ss ty l.length s))
 (hK : ∀ e', eget e' 1 = some (.i .i64 now) → eget e' 2 = some (.i .i64 trip) → eget e' 3 = some (.fz (rows int1 ns) ns.length) → eget e' 4 = some (.p 0 0) → eget e' 8 = some (.p 1 0) → eget e' 13 = some ((gQ Md.l 9 (ans1 ss ty now trip s q).o).v 4) → eget e' 14 = some (.i .i64 (k : Int)) → K (.exit 4) e' (hM44 ti ss ty l.length (ans1 ss ty now trip s q)) 5) :
 Ab.Loop Try.prog [22, 30, 34, 39, 53, 63, 70, 105] 143 0 i44l31 K e h n := by
 have hnB : ∀ j, belL j (rows int1 ns) = true := fun j => csB j ns
 have hnR : ∀ g, renL g (rows int1 ns) = rows int1 ns := fun g => renL_fix0 _ (rows_bel int1_bel)
 have hr : (rows int1 ns)[k * 1]? = some (.i .i64 q) := rows_get (f := int1) (z := 1) (j := 0) (v := .i .i64 q) int1_len hq rfl
 have hr' : (rows int1 ns)[k]? = some (.i .i64 q) := by rw [← hr, Nat.mul_one]
 have hkc : decide (0 ≤ (k : Int) ∧ (k : Int) < (ns.length : Int)) = true := decide_eq_true (by omega)
 refine Loop.stepR (F := ⟨Try.prog, cxT TM44, [22, 30, 34, 39, 53, 63, 70, 105], 143, 0⟩) hTM44 mo (X := Nat) (fun i => i ≤ l.length) (fun i => l.length - i)
  (fun i => [(1, .i .i64 now), (2, .i .i64 trip), (3, .fz (rows int1 ns) ns.length), (4, .p 0 0), (8, .p 1 0), (13, (gQ Md.l 9 (upTo ss ty now trip s q i).o).v 4), (14, .i .i64 (k : Int)), (15, .i .i64 (i : Int))])
  (fun i => hM44 ti ss ty l.length (upTo ss ty now trip s q i)) 5 0 (fun i => i + 1) []
  (fun i => if (upTo ss ty now trip s q (i + 1)).o.length = (upTo ss ty now trip s q i).o.length then [] else [(4, 8)]) (by decide) (by decide) (fun k => by split <;> decide) (Nat.zero_le _) (by rw [upTo_0]; exact he) (by rw [upTo_0]; exact hh) (fun i hi => ?_)
 dsimp only [TM44]
 by_cases hlt : i < l.length
 · have c1 : decide ((i : Int) < (l.length : Int)) = true := decide_eq_true (by omega)
   have c2 : decide (0 ≤ (i : Int) ∧ (i : Int) < (l.length : Int)) = true := decide_eq_true (by omega)
   have hw : IntKind.i64.wrap ((i : Int) + 1) = ((i + 1 : Nat) : Int) := by rw [wrapL (by omega) (by omega)]; omega
   have hko := upTo_ok hok0 ss ty trip q hnow i
   obtain ⟨y, hy⟩ : ∃ y, (upTo ss ty now trip s q i).l[i]? = some y := ⟨_, List.getElem?_eq_getElem (by rw [hko.len]; exact hlt)⟩
   rw [upTo_s hd hy]
   have hol := upTo_len (ss := ss) (ty := ty) (now := now) (trip := trip) (s := s) (n := q) (i := i)
   generalize upTo ss ty now trip s q i = s1 at *
   obtain ⟨sl, sn, so⟩ := s1
   have hkl := hko.len
   have hkn := hko.nx
   have hyo := hko.ok y (List.mem_of_getElem? hy)
   dsimp only at hol hkl hkn hy
   have hsk : l.length - (i + 1) < l.length - i := by omega
   have zR : (rows Kp.l sl).length = l.length * 11 := by rw [rows_len Kp.len, hkl]
   have pk := gMp so
   simp only [okA, Bool.and_eq_true, decide_eq_true_eq] at hyo
   obtain ⟨ym, yt, ya, yl⟩ := hyo
   have yq := mdB_sq ym
   have yt := inI_t yt
   have ya := inI_t ya
   have hnw := inI_t hnow
   have hry := kp_at hy
   have w1 : IntKind.i64.wrap (now - y.ti) = now - y.ti := wrapL (by omega) (by omega)
   have w2 : IntKind.i64.wrap (now - y.ak) = now - y.ak := wrapL (by omega) (by omega)
   have hF : ansF now trip y = (decide (now - y.ti ≤ 2000) && (decide (y.ak < 0) || decide (now - y.ak ≥ trip))) := rfl
   have n1 : decide (now - y.ti > 2000) = !decide (now - y.ti ≤ 2000) := by rw [Bool.eq_iff_iff]; simp
   have n2 : decide (y.ak ≥ 0) = !decide (y.ak < 0) := by rw [Bool.eq_iff_iff]; simp
   have n3 : decide (now - y.ak < trip) = !decide (now - y.ak ≥ trip) := by rw [Bool.eq_iff_iff]; simp
   have n0 : (y.p.sq != q) = !(y.p.sq == q) := rfl
   have hk83 : ∀ (h : Hp) n, k83 [.i .i64 2, .i .i64 y.p.sq] h n = some (true, { v := .s [UInt8.ofNat (y.p.sq / 256).toNat, UInt8.ofNat (y.p.sq % 256).toNat], n }) := fun h n => by simp only [k83, yq]
   have hsp : List.take (i * 11 + 10) (rows Kp.l sl) ++ [AV.i .i64 now] ++ List.drop (i * 11 + 10 + 1) (rows Kp.l sl) = rows Kp.l (sl.set i ⟨y.p, y.ti, now⟩) := splice_row Kp.len hy (by decide) rfl
   have hcB : ∀ j, belL j (rows int1 y.p.cs) = true := fun j => csB j y.p.cs
   have hxB : ∀ j, belL j (rows xtR y.p.xs) = true := fun j => xsB j y.p.xs
   have hcR : ∀ g, renL g (rows int1 y.p.cs) = rows int1 y.p.cs := fun g => renL_fix0 _ (rows_bel int1_bel)
   have hxR : ∀ g, renL g (rows xtR y.p.xs) = rows xtR y.p.xs := fun g => renL_fix0 _ (rows_bel xtR_bel)
   have hstop : ∀ (b : Bool), b = false → (bif b then An.put ⟨sl, sn, so⟩ ss ty now i y else ⟨sl, sn, so⟩) = ⟨sl, sn, so⟩ := fun b h => by rw [h]; rfl
   cases a0 : (y.p.sq == q)
   · rw [hstop _ (by simp [a0]), if_pos rfl]
     obtain ⟨⟨ma, pty, sq, tm, pss, cs, xs, pd, pl⟩, yti, yak⟩ := y
     simp only [Kp.l] at hry
     dsimp only [hM44] at *
     simp (maxSteps := 400000) only [go_sem, c1, c2, hkc, hw, hr, hr', hry, n0, a0, zR, hlt, hsk, hnB, hnR, hcB, hxB, hcR, hxR, krR, AV.bel, belL, nblt, Blk.ren, renL, AV.ren, krB, pk, simprocAttr]
     exact hlt
   cases a1 : decide (now - y.ti ≤ 2000)
   · rw [hstop _ (by rw [hF, a1]; rfl), if_pos rfl]
     obtain ⟨⟨ma, pty, sq, tm, pss, cs, xs, pd, pl⟩, yti, yak⟩ := y
     simp only [Kp.l] at hry
     dsimp only [hM44] at *
     simp (maxSteps := 400000) only [go_sem, c1, c2, hkc, hw, hr, hr', hry, n0, a0, n1, a1, w1, zR, hlt, hsk, hnB, hnR, hcB, hxB, hcR, hxR, krR, AV.bel, belL, nblt, Blk.ren, renL, AV.ren, krB, pk, simprocAttr]
     exact hlt
   rw [a1, Bool.true_and] at hF
   cases hF1 : ansF now trip y
   · rw [hstop (true && false) rfl, if_pos rfl]
     rw [hF1] at hF
     have hF := hF.symm
     rw [Bool.or_eq_false_iff] at hF
     obtain ⟨a2, a3⟩ := hF
     obtain ⟨⟨ma, pty, sq, tm, pss, cs, xs, pd, pl⟩, yti, yak⟩ := y
     simp only [Kp.l] at hry
     dsimp only [hM44] at *
     simp (maxSteps := 400000) only [go_sem, c1, c2, hkc, hw, hr, hr', hry, n0, a0, n1, a1, n2, a2, n3, a3, w1, w2, zR, hlt, hsk, hnB, hnR, hcB, hxB, hcR, hxR, krR, AV.bel, belL, nblt, Blk.ren, renL, AV.ren, krB, pk, simprocAttr]
     exact hlt
   simp only [Bool.and_self, cond_true]
   have hlen : ((An.put ⟨sl, sn, so⟩ ss ty now i y).o.length = so.length) = False := by simp [An.put]
   simp only [hlen, if_false]
   have zS : (rows Kp.l (sl.set i ⟨y.p, y.ti, now⟩)).length = l.length * 11 := by rw [rows_len Kp.len, List.length_set, hkl]
   have d3 : decide (i * 11 + 10 + 1 ≤ l.length * 11) = true := decide_eq_true (by omega)
   have pk' := gMp (so ++ [agS y.p ss ty sn])
   have hab : ∀ j, belL j (agS y.p ss ty sn).l = true := fun j => belL_mono0 _ (Md.bel _)
   have har : ∀ g, renL g (agS y.p ss ty sn).l = (agS y.p ss ty sn).l := fun g => renL_fix0 _ (Md.bel _)
   have gm : decide (112 * (so.length + 1) ≤ growMax) = true := decide_eq_true (by simp only [growMax]; omega)
   have ol : (rows Md.l so).length = so.length * 9 := rows_len Md.len
   have e1 : IntKind.i64.wrap (sn + 1) = sn + 1 := wrapL (by omega) (by omega)
   have e2 : (sn + 1).tmod 65536 = (sn + 1) % 65536 := Int.tmod_eq_emod_of_nonneg (by omega)
   have e3 : IntKind.i64.wrap ((sn + 1) % 65536) = (sn + 1) % 65536 := wrapL (by omega) (by omega)
   have e5 : decide (2 + y.p.pl.length ≤ 9223372036854775807) = true := decide_eq_true (by omega)
   dsimp only [An.put, hM44]
   rw [gQ_snoc] at pk' ⊢
   generalize sl.set i ⟨y.p, y.ti, now⟩ = S at *
   obtain ⟨⟨ma, pty, sq, tm, pss, cs, xs, pd, pl⟩, yti, yak⟩ := y
   simp only [Kp.l, agS, Md.l] at hry hab har pk' ⊢
   dsimp only at *
   rw [hF1] at hF
   cases a2 : decide (yak < 0)
   · rw [a2, Bool.false_or] at hF
     have a3 := hF.symm
     simp (maxSteps := 400000) only [go_sem, c1, c2, hkc, hw, hr, hr', hry, n0, a0, n1, a1, n2, a2, n3, a3, w1, w2, hk83, zR, zS, d3, hsp, e1, e2, e3, e5, gm, ol, hlt, hsk, hnB, hnR, hcB, hxB, hcR, hxR, krR, AV.bel, belL, nblt, Blk.ren, renL, AV.ren, krB, pk, pk', hab, har, simprocAttr]
     exact hlt
   · simp (maxSteps := 400000) only [go_sem, c1, c2, hkc, hw, hr, hr', hry, n0, a0, n1, a1, n2, a2, w1, w2, hk83, zR, zS, d3, hsp, e1, e2, e3, e5, gm, ol, hlt, hsk, hnB, hnR, hcB, hxB, hcR, hxR, krR, AV.bel, belL, nblt, Blk.ren, renL, AV.ren, krB, pk, pk', hab, har, simprocAttr]
     exact hlt
 · have c1 : decide ((i : Int) < (l.length : Int)) = false := decide_eq_false (by omega)
   obtain rfl : i = l.length := by omega
   rw [upTo_e hok0.len]
   generalize ans1 ss ty now trip s q = s1 at *
   have pk := gMp s1.o
   simp only [hM44]
   simp (maxSteps := 400000) only [go_sem, c1, pk, simprocAttr]
   exact hK _ rfl rfl rfl rfl rfl rfl rfl
theorem loop44o (ti ss ty nx now trip : Int) (l : List Kp) (ns : List Int) (hnow : inI 0 1099511627776 now = true) (hl64 : l.length ≤ 64) (b2 : ns.length ≤ 64) (hd : Dist l) (hok0 : AnOK l ⟨l, nx, []⟩) {K : Kont} {e : Env} {h : Hp} {n : Nat}
 (he : EnvR 5 [] e [(1, .i .i64 now), (2, .i .i64 trip), (3, .fz (rows int1 ns) ns.length), (4, .p 0 0), (8, .p 1 0), (13, (gQ Md.l 9 []).v 4), (14, .i .i64 0)])
 (hh : HpR 5 [] h (hM44 ti ss ty l.length ⟨l, nx, []⟩))
 (hK : ∀ e', eget e' 1 = some (.i .i64 now) → eget e' 4 = some (.p 0 0) → eget e' 8 = some (.p 1 0) → eget e' 13 = some ((gQ Md.l 9 (ansL ss ty now trip ⟨l, nx, []⟩ ns).o).v 4) → K (.exit 2) e' (hM44 ti ss ty l.length (ansL ss ty now trip ⟨l, nx, []⟩ ns)) 5) :
 Ab.Loop Try.prog [22, 30, 34, 39, 53, 63, 70, 105] 143 0 i44l33 K e h n := by
 have hnB : ∀ j, belL j (rows int1 ns) = true := fun j => csB j ns
 have hnR : ∀ g, renL g (rows int1 ns) = rows int1 ns := fun g => renL_fix0 _ (rows_bel int1_bel)
 refine Loop.stepR (F := ⟨Try.prog, cxT TM44, [22, 30, 34, 39, 53, 63, 70, 105], 143, 0⟩) hTM44 mo (X := Nat) (fun k => k ≤ ns.length) (fun k => ns.length - k)
  (fun k => [(1, .i .i64 now), (2, .i .i64 trip), (3, .fz (rows int1 ns) ns.length), (4, .p 0 0), (8, .p 1 0), (13, (gQ Md.l 9 (ansL ss ty now trip ⟨l, nx, []⟩ (ns.take k)).o).v 4), (14, .i .i64 (k : Int))])
  (fun k => hM44 ti ss ty l.length (ansL ss ty now trip ⟨l, nx, []⟩ (ns.take k))) 5 0 (fun k => k + 1) [] (fun _ => []) (by decide) (by decide) (fun k => by decide) (Nat.zero_le _) he hh (fun k hk => ?_)
 dsimp only [TM44]
 by_cases hlt : k < ns.length
 · have c1 : decide ((k : Int) < (ns.length : Int)) = true := decide_eq_true (by omega)
   have hw : IntKind.i64.wrap ((k : Int) + 1) = ((k + 1 : Nat) : Int) := by rw [wrapL (by omega) (by omega)]; omega
   obtain ⟨q, hq⟩ : ∃ q, ns[k]? = some q := ⟨_, List.getElem?_eq_getElem hlt⟩
   rw [ansL_snoc ss ty now trip _ hq]
   have hol := ansL_len ss ty now trip (ns.take k) ⟨l, nx, []⟩
   have hko : AnOK l (ansL ss ty now trip ⟨l, nx, []⟩ (ns.take k)) := ansL_ok ss ty trip hnow _ hok0
   have hdk : Dist (ansL ss ty now trip ⟨l, nx, []⟩ (ns.take k)).l := Dist.all ss ty now trip (ns.take k) hd
   have hoq := ansL_len ss ty now trip (ns.take (k + 1)) ⟨l, nx, []⟩
   rw [ansL_snoc ss ty now trip _ hq] at hoq
   have lp := fun (K : Kont) (e : Env) (h : Hp) (n : Nat) => loop44i ti ss ty now trip q l (ansL ss ty now trip ⟨l, nx, []⟩ (ns.take k)) ns k hq hlt hnow hl64 b2 (by have := List.length_take_le k ns; simp at hol; omega) hdk hko (K := K) (e := e) (h := h) (n := n)
   generalize ansL ss ty now trip ⟨l, nx, []⟩ (ns.take k) = s at *
   have hsk : ns.length - (k + 1) < ns.length - k := by omega
   have pk := gMp s.o
   have pk' := gMp (ans1 ss ty now trip s q).o
   generalize ans1 ss ty now trip s q = s1 at *
   dsimp only [hM44] at *
   simp (maxSteps := 400000) only [go_sem, c1, simprocAttr]
   refine lp _ _ _ _ ?_ ?_ (fun e' g1 g2 g3 g4 g8 g13 g14 => ?_)
   · simp (maxSteps := 400000) only [go_sem, hnB, hnR, AV.bel, belL, nblt, AV.ren, renL, simprocAttr]
   · simp (maxSteps := 400000) only [go_sem, pk, AV.bel, belL, nblt, Blk.ren, AV.ren, renL, krB, krR, simprocAttr]
   · simp (maxSteps := 400000) only [go_sem, g1, g2, g3, g4, g8, g13, g14, hw, hlt, hsk, hnB, hnR, krR, AV.bel, belL, nblt, Blk.ren, renL, AV.ren, krB, pk', simprocAttr]
     exact hlt
 · have c1 : decide ((k : Int) < (ns.length : Int)) = false := decide_eq_false (by omega)
   obtain rfl : k = ns.length := by omega
   rw [List.take_length]
   generalize ansL ss ty now trip ⟨l, nx, []⟩ ns = s at *
   have pk := gMp s.o
   simp only [hM44]
   simp (maxSteps := 400000) only [go_sem, c1, pk, simprocAttr]
   exact hK _ rfl rfl rfl rfl
theorem w44 (hs : Hs) (now trip : Int) (ns : List Int) (hl : hs.l.length ≤ 1000000000000) (hf : finH hs = true) (hnl : ns.length ≤ 1000000000000) : FTL Try.prog 44 [.agg hs.a, .i .i64 now, .i .i64 trip, .fz (rows int1 ns) ns.length] [] 0 (rsA (ansS hs now trip ns)) [] 0 := by
 have hha := hsA_a hs
 have hll : decide (hs.l.length ≤ 1000000000000) = true := decide_eq_true hl
 have hk82 : ∀ (h : Hp) n, k82 [.agg hs.a, .i .i64 now] h n = some (true, { v := .i .i64 (lateH hs now), n }) := fun h n => by simp only [k82, hha, Option.bind_some, hll]
 have hgk := goodH_k (h := hs) (now := now)
 have hg64 : lateH hs now = 0 → hs.l.length ≤ 64 := fun h => goodH_len (lateH_0 h).1
 have hgd : lateH hs now = 0 → Dist hs.l := fun h => goodH_d (lateH_0 h).1
 have hga := fun e => goodH_a (h := hs) (now := now) e hf
 generalize hRR : ansS hs now trip ns = R
 unfold ansS at hRR
 have n1 : decide ((ns.length : Int) > 64) = !decide (ns.length ≤ 64) := by rw [Bool.eq_iff_iff]; simp; omega
 have hnB : ∀ j, belL j (rows int1 ns) = true := fun j => csB j ns
 have hnR : ∀ g, renL g (rows int1 ns) = rows int1 ns := fun g => renL_fix0 _ (rows_bel int1_bel)
 generalize lateH hs now = E at *
 obtain ⟨ti, ss, ty, nx, l⟩ := hs
 dsimp only at hRR hl hg64 hgk hga hgd
 simp only [Hs.a] at hk82 ⊢
 refine FTL.of_cov (cx := cxT TM44) hTM44 mo Try.func44 i44_eq (by simp [i44]) (iw_of_jw ?_)
 dsimp only [i44, TM44]
 by_cases hE : E = 0
 rotate_left
 · have e1 : (E != 0) = true := by simp [bne, hE]
   rw [if_neg hE] at hRR
   simp (maxSteps := 400000) only [go_sem, hk82, e1, simprocAttr]
   rw [← hRR]
   exact covA_n
 subst hE
 simp only [if_true] at hRR
 obtain ⟨hok, hnow, hlq⟩ := hgk rfl
 have hl64 := hg64 rfl
 have hd := hgd rfl
 cases b0 : decide (trip < 1)
 rotate_left
 · rw [inI_no1 b0] at hRR
   simp (maxSteps := 400000) only [go_sem, hk82, b0, simprocAttr]
   rw [← hRR]
   exact covA_n
 cases b1 : decide (trip > 2000)
 rotate_left
 · rw [inI_no2 b1] at hRR
   simp (maxSteps := 400000) only [go_sem, hk82, b0, b1, simprocAttr]
   rw [← hRR]
   exact covA_n
 rw [inI_yes b0 b1] at hRR
 simp only [cond_true] at hRR
 cases b2 : decide (ns.length ≤ 64)
 · rw [b2] at hRR
   simp (maxSteps := 400000) only [go_sem, hk82, b0, b1, n1, b2, simprocAttr]
   rw [← hRR]
   exact covA_n
 rw [b2] at hRR
 simp only [cond_true] at hRR
 have b2' := of_decide_eq_true b2
 simp (maxSteps := 400000) only [go_sem, hk82, b0, b1, n1, b2, simprocAttr]
 refine Loop.countI (F := ⟨Try.prog, cxT TM44, [22, 30, 34, 39, 53, 63, 70, 105], 143, 0⟩) hTM44 mo ns.length (fun k => (ns.any fun x => !inI 0 65535 x) = ((ns.drop k).any fun x => !inI 0 65535 x))
  (fun k => [(1, .i .i64 now), (2, .i .i64 trip), (3, .fz (rows int1 ns) ns.length), (4, .p 0 0), (8, .p 1 0), (12, .i .i64 (k : Int))])
  (fun k => [(0, { cells := [.i .i64 ti, .i .i64 ss, .i .i64 ty, .i .i64 nx, .fz (rows Kp.l l) l.length] }), (1, { cells := [.i .i64 0, .i .i64 0, .i .i64 0, .i .i64 0, .ns] })]) 2 (by decide) rfl ?_ ?_ (fun k hk hinv => ?_)
 · simp (maxSteps := 400000) only [go_sem, hnB, AV.bel, belL, nblt, simprocAttr]
 · simp (maxSteps := 400000) only [go_sem, krB, hnB, AV.bel, belL, nblt, simprocAttr]
 dsimp only [TM44]
 by_cases hlt : k < ns.length
 · have c1 : decide ((k : Int) < (ns.length : Int)) = true := decide_eq_true (by omega)
   have c2 : decide (0 ≤ (k : Int) ∧ (k : Int) < (ns.length : Int)) = true := decide_eq_true (by omega)
   have hw : IntKind.i64.wrap ((k : Int) + 1) = ((k + 1 : Nat) : Int) := by rw [wrapL (by omega) (by omega)]; omega
   obtain ⟨q, hq⟩ : ∃ q, ns[k]? = some q := ⟨_, List.getElem?_eq_getElem hlt⟩
   have hr : (rows int1 ns)[k * 1]? = some (.i .i64 q) := rows_get (f := int1) (z := 1) (j := 0) (v := .i .i64 q) int1_len hq rfl
   have hr' : (rows int1 ns)[k]? = some (.i .i64 q) := by rw [← hr, Nat.mul_one]
   have hdr : ns.drop k = q :: ns.drop (k + 1) := by
    rw [List.drop_eq_getElem_cons hlt]
    rw [List.getElem?_eq_getElem hlt] at hq
    cases hq; rfl
   rw [hdr, List.any_cons] at hinv
   cases d1 : decide (q < 0)
   rotate_left
   · rw [inI_no1 d1] at hinv
     rw [hinv] at hRR
     simp (maxSteps := 400000) only [go_sem, c1, c2, hr, hr', d1, simprocAttr]
     rw [← hRR]
     exact covA_n
   cases d2 : decide (q > 65535)
   rotate_left
   · rw [inI_no2 d2] at hinv
     rw [hinv] at hRR
     simp (maxSteps := 400000) only [go_sem, c1, c2, hr, hr', d1, d2, simprocAttr]
     rw [← hRR]
     exact covA_n
   rw [inI_yes d1 d2] at hinv
   simp (maxSteps := 400000) only [go_sem, c1, c2, hw, hr, hr', d1, d2, hlt, krB, hnB, AV.bel, belL, nblt, simprocAttr]
   exact hinv
 · have c1 : decide ((k : Int) < (ns.length : Int)) = false := decide_eq_false (by omega)
   obtain rfl : k = ns.length := by omega
   rw [List.drop_length] at hinv
   rw [hinv] at hRR
   simp only [List.any_nil, cond_false] at hRR
   cases l with
   | nil =>
    rw [ansL_nil] at hRR
    have ht0 : List.take 0 (List.drop 0 (rows Kp.l ([] : List Kp))) = [] := rfl
    simp (maxSteps := 400000) only [go_sem, c1, ht0, List.length_nil, simprocAttr]
    refine Loop.countI (F := ⟨Try.prog, cxT TM44, [22, 30, 34, 39, 53, 63, 70, 105], 143, 0⟩) hTM44 mo ns.length (fun k => True)
     (fun k => [(1, .i .i64 now), (2, .i .i64 trip), (3, .fz (rows int1 ns) ns.length), (4, .p 0 0), (8, .p 1 0), (13, .ns), (14, .i .i64 (k : Int))])
     (fun k => [(0, { cells := [.i .i64 ti, .i .i64 ss, .i .i64 ty, .i .i64 nx, .sl 2 0 0 0] }), (1, { cells := [.i .i64 0, .i .i64 0, .i .i64 0, .i .i64 0, .ns] }), (2, { cells := [] })]) 3 (by decide) trivial ?_ ?_ (fun k hk _ => ?_)
    · simp (maxSteps := 400000) only [go_sem, hnB, AV.bel, belL, nblt, simprocAttr]
    · simp (maxSteps := 400000) only [go_sem, hnB, AV.bel, belL, nblt, simprocAttr]
    dsimp only [TM44]
    by_cases hlt : k < ns.length
    · have c1 : decide ((k : Int) < (ns.length : Int)) = true := decide_eq_true (by omega)
      have hw : IntKind.i64.wrap ((k : Int) + 1) = ((k + 1 : Nat) : Int) := by rw [wrapL (by omega) (by omega)]; omega
      simp (maxSteps := 400000) only [go_sem, c1, simprocAttr]
      refine Loop.rounds (F := ⟨Try.prog, cxT TM44, [22, 30, 34, 39, 53, 63, 70, 105], 143, 0⟩) 1 hTM44 mo ?_
      dsimp only [TM44]
      simp (maxSteps := 400000) only [go_sem, hw, hlt, hnB, AV.bel, belL, nblt, simprocAttr]
    · have c1 : decide ((k : Int) < (ns.length : Int)) = false := decide_eq_false (by omega)
      simp (maxSteps := 400000) only [go_sem, c1, simprocAttr]
      rw [← hRR]
      refine CovS.frz (b := 2) (k := { cells := [] }) (h' := []) (o := 0) (m := 0) (cs := []) (v' := .tup [.agg [.i .i64 now, .i .i64 ss, .i .i64 ty, .i .i64 nx, .fz [] 0], .ns, .i .i64 0]) rfl rfl (.inl ⟨0, rfl, Nat.le_refl _⟩) (.inl rfl) (FzV.tup ⟨FzV.agg ⟨FzV.refl, FzV.refl, FzV.refl, FzV.refl, FzV.hit, trivial⟩, FzV.refl, FzV.refl, trivial⟩) (fun c kk hc => by simp [hget] at hc) ?_
      refine CovS.frzN (l := []) (v' := rsA (⟨now, ss, ty, nx, []⟩, [], 0)) (FzV.tup ⟨FzV.refl, FzV.hit, FzV.refl, trivial⟩) ?_
      exact CovS.ends (Ends.pureE rfl rfl)
   | cons x r =>
    have hpos : 0 < (x :: r).length := by simp
    generalize x :: r = l at *
    have gm : decide (128 * l.length ≤ growMax) = true := decide_eq_true (by simp only [growMax]; omega)
    have zR : (rows Kp.l l).length = l.length * 11 := rows_len Kp.len
    have ho : oneAll (rows Kp.l l) = true := rows_one1 Kp.one l
    have c0 : decide (l.length ≤ 0) = false := decide_eq_false (by omega)
    have ht : List.take (l.length * 11) (List.drop 0 (rows Kp.l l)) = rows Kp.l l := by rw [List.drop_zero, ← zR, List.take_length]
    have c00 : decide (l.length = 0) = false := decide_eq_false (by omega)
    simp (maxSteps := 400000) only [go_sem, c1, c0, c00, gm, zR, ho, ht, simprocAttr]
    have hok0 : AnOK l ⟨l, nx, []⟩ := by
     obtain ⟨g1, g2⟩ := hga rfl
     exact ⟨rfl, g1, inI_t g2⟩
    refine loop44o ti ss ty nx now trip l ns hnow hl64 b2' hd hok0 ?_ ?_ (fun e' g1 g4 g8 g13 => ?_)
    · simp (maxSteps := 400000) only [go_sem, gQ_nil, fv_n, hnB, hnR, AV.bel, belL, nblt, AV.ren, renL, simprocAttr]
    · simp (maxSteps := 400000) only [go_sem, hM44, gQ_nil, fh_n, hnB, AV.bel, belL, nblt, Blk.ren, AV.ren, renL, krB, krR, simprocAttr]
    have hkl := (ansL_ok ss ty trip hnow ns hok0).len
    generalize ansL ss ty now trip ⟨l, nx, []⟩ ns = s at *
    obtain ⟨sl, sn, so⟩ := s
    dsimp only [hM44] at hRR hkl g13 ⊢
    simp (maxSteps := 400000) only [go_sem, g1, g4, g8, g13, simprocAttr]
    rw [← hRR]
    exact covA_s hkl.symm (by simp [hget_skip, hget_cons]) (by rw [hasS_hit]; trivial)
end Go.Proofs.Res
end
section
/- The contract of the reference's Same: packets with the same data are the same. -/
namespace Go.Proofs.Res
open Go.Ab
set_option maxRecDepth 100000
set_option maxHeartbeats 8000000
set_option linter.unusedSimpArgs false
set_option linter.unusedVariables false
theorem w36 (p : Md) (hl : p.cs.length ≤ 1000000000000 ∧ p.xs.length ≤ 1000000000000) : FTL Try.prog 36 [.agg p.l, .agg p.l] [] 0 (.b true) [] 0 := by
 obtain ⟨ma, pty, sq, tm, pss, cs, xs, pd, pl⟩ := p
 simp only [Md.l]
 dsimp only at hl
 obtain ⟨hl1, hl2⟩ := hl
 have hcB : ∀ j, belL j (rows int1 cs) = true := fun j => belL_mono0 _ (rows_bel int1_bel)
 have hxB : ∀ j, belL j (rows xtR xs) = true := fun j => belL_mono0 _ (rows_bel xtR_bel)
 have hrc : ∀ (k : Nat) (x : Int), cs[k]? = some x → (rows int1 cs)[k]? = some (.i .i64 x) := fun k x h => by
  have := rows_get (f := int1) (z := 1) (j := 0) (v := .i .i64 x) int1_len h rfl
  simpa using this
 have hrx : ∀ (k : Nat) (x : Xt), xs[k]? = some x → List.take 2 (List.drop (k * 2) (rows xtR xs)) = xtR x := fun k x h => rows_at xtR_len h
 refine FTL.of_iw Sound.nil mo Try.func36 i36_eq (by simp [i36]) (iw_of_jw ?_)
 dsimp only [i36]
 have b0 : (ma != ma) = false := by simp
 have b1 : (pty != pty) = false := by simp
 have b2 : (sq != sq) = false := by simp
 have b3 : (tm != tm) = false := by simp
 have b4 : (pss != pss) = false := by simp
 have b5 : (pd != pd) = false := by simp
 have b6 : (pl != pl) = false := by simp
 have b7 : ((cs.length : Int) != (cs.length : Int)) = false := by simp
 have b8 : ((xs.length : Int) != (xs.length : Int)) = false := by simp
 have e0 : (ma == ma) = true := by simp
 simp (maxSteps := 400000) only [go_sem, b0, b1, b2, b3, b4, b5, b6, b7, b8, e0, simprocAttr]
 refine Loop.countI (F := ⟨Try.prog, cxT [], [71, 76, 89, 94, 107], 108, 0⟩) Sound.nil mo cs.length (fun k => True)
  (fun k => [(2, .p 0 0), (3, .p 1 0), (5, .i .i64 (k : Int))])
  (fun k => [(0, { cells := [.b ma, .i .i64 pty, .i .i64 sq, .i .i64 tm, .i .i64 pss, .fz (rows int1 cs) cs.length, .fz (rows xtR xs) xs.length, .i .i64 pd, .s pl] }), (1, { cells := [.b ma, .i .i64 pty, .i .i64 sq, .i .i64 tm, .i .i64 pss, .fz (rows int1 cs) cs.length, .fz (rows xtR xs) xs.length, .i .i64 pd, .s pl] })]) 2 (by decide) trivial ?_ ?_ (fun k hk _ => ?_)
 · simp (maxSteps := 400000) only [go_sem, AV.bel, belL, nblt, hcB, hxB, simprocAttr]
 · simp (maxSteps := 400000) only [go_sem, AV.bel, belL, nblt, hcB, hxB, simprocAttr]
 · by_cases hlt : k < cs.length
   · have c1 : decide ((k : Int) < (cs.length : Int)) = true := decide_eq_true (by omega)
     have c2 : decide (0 ≤ (k : Int) ∧ (k : Int) < (cs.length : Int)) = true := decide_eq_true (by omega)
     have hw : IntKind.i64.wrap ((k : Int) + 1) = ((k + 1 : Nat) : Int) := by rw [wrapL (by omega) (by omega)]; omega
     have hx := hrc k cs[k] (List.getElem?_eq_getElem hlt)
     generalize cs[k] = x at hx
     have hx' : (rows int1 cs)[k * 1]? = some (.i .i64 x) := by rw [Nat.mul_one]; exact hx
     have e1 : (x != x) = false := by simp
     simp (maxSteps := 400000) only [go_sem, c1, c2, hw, hx, hx', e1, hlt, AV.bel, belL, nblt, hcB, hxB, simprocAttr]
   · have c1 : decide ((k : Int) < (cs.length : Int)) = false := decide_eq_false (by omega)
     simp (maxSteps := 400000) only [go_sem, c1, simprocAttr]
     refine Loop.countI (F := ⟨Try.prog, cxT [], [71, 76, 89, 94, 107], 108, 0⟩) Sound.nil mo xs.length (fun k => True)
      (fun k => [(2, .p 0 0), (3, .p 1 0), (6, .i .i64 (k : Int))])
      (fun k => [(0, { cells := [.b ma, .i .i64 pty, .i .i64 sq, .i .i64 tm, .i .i64 pss, .fz (rows int1 cs) cs.length, .fz (rows xtR xs) xs.length, .i .i64 pd, .s pl] }), (1, { cells := [.b ma, .i .i64 pty, .i .i64 sq, .i .i64 tm, .i .i64 pss, .fz (rows int1 cs) cs.length, .fz (rows xtR xs) xs.length, .i .i64 pd, .s pl] })]) 2 (by decide) trivial ?_ ?_ (fun k hk _ => ?_)
     · simp (maxSteps := 400000) only [go_sem, AV.bel, belL, nblt, hcB, hxB, simprocAttr]
     · simp (maxSteps := 400000) only [go_sem, AV.bel, belL, nblt, hcB, hxB, simprocAttr]
     · by_cases hlt : k < xs.length
       · have c1 : decide ((k : Int) < (xs.length : Int)) = true := decide_eq_true (by omega)
         have c2 : decide (0 ≤ (k : Int) ∧ (k : Int) < (xs.length : Int)) = true := decide_eq_true (by omega)
         have hw : IntKind.i64.wrap ((k : Int) + 1) = ((k + 1 : Nat) : Int) := by rw [wrapL (by omega) (by omega)]; omega
         have hx := hrx k xs[k] (List.getElem?_eq_getElem hlt)
         generalize xs[k] = x at hx
         have e1 : (x.1 == x.1) = true := by simp
         have e2 : (x.2 == x.2) = true := by simp
         simp (maxSteps := 400000) only [go_sem, c1, c2, hw, hx, xtR, e1, e2, hlt, AV.bel, belL, nblt, hcB, hxB, simprocAttr]
       · have c1 : decide ((k : Int) < (xs.length : Int)) = false := decide_eq_false (by omega)
         simp (maxSteps := 400000) only [go_sem, c1, simprocAttr]
         exact Ends.pureE rfl rfl
noncomputable def k36 : Ct
 | [.agg a, .agg b], _, n => (md9 a).bind fun p => open Classical in if a = b then some (decide (p.cs.length ≤ 1000000000000) && decide (p.xs.length ≤ 1000000000000), { v := .b true, n }) else none
 | _, _, _ => none
theorem s36 : SoundAt Try.prog 36 k36 := fun args h n c E hc ht => by
 unfold k36 at hc
 split at hc
 · simp only [Option.bind_eq_some_iff] at hc
   obtain ⟨p, hp, he⟩ := hc
   split at he
   · rename_i hab
     subst hab
     cases he
     rw [md9_eq hp]
     simp only [Bool.and_eq_true, decide_eq_true_eq] at ht
     exact CallOK.pure (by kernel_rfl) (by simp only [belL, AV.bel, Md.bel, Bool.and_self]) rfl (w36 p ht) _ _
   · cases he
 · cases hc
end Go.Proofs.Res
end
