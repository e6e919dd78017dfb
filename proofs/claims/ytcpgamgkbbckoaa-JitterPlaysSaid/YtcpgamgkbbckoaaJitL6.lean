/- JitterCounts: the walk. -/
import Derived.Test.YtcpgamgkbbckoaaJitKa
import Derived.Test.YtcpgamgkbbckoaaJitP4
import Derived.Test.YtcpgamgkbbckoaaJitP2
import Derived.Test.YtcpgamgkbbckoaaJitI6
namespace Go.Proofs.Jit
open Go.Ab
set_option maxRecDepth 100000
set_option maxHeartbeats 4000000
set_option linter.unusedSimpArgs false
set_option linter.unusedVariables false
def T6 : List (Nat × Ct) := [(9, k9), (10, k10), (12, k12), (15, k15), (18, k18), (20, k20), (23, k23)]
theorem hT6 (h20 : SoundAt Try.prog 20 k20) : Sound Try.prog (cxT T6) := Sound.cons s9 (Sound.cons s10 (Sound.cons s12 (Sound.cons s15 (Sound.cons s18 (Sound.cons h20 (Sound.cons s23 Sound.nil))))))
abbrev cts6 : List Nat := [17, 30, 40, 56, 73, 75, 106, 116, 118, 160, 164, 194]
theorem inner6 (h20 : SoundAt Try.prog 20 k20) (b c : Bf) (F : List Md) (v3 v37 v38 v39 : AV) (C0 : List AV) (hn : 0 ≤ b.nx ∧ b.nx ≤ 65535) (hl : F.length ≤ 64) (hf : ∀ (i : Nat) p, F[i]? = some p → p.sq = (b.nx + (i : Int)) % 65536 ∧ p.ma = decide (i + 1 = F.length)) (ht : ∀ (i : Nat) p p0, F[i]? = some p → F[0]? = some p0 → p.tm = p0.tm) {K : Kont} {e : Env} {h : Hp} {n : Nat}
 (he : EnvIn 4 e [(1, .p 0 0), (3, v3), (4, .p 1 0), (11, .p 3 0), (12, .fz (rows Md.l F) F.length), (37, v37), (38, v38), (39, v39), (161, .fz (rows Md.l F) F.length), (162, .i .i64 (F.length : Int)), (163, .i .i64 ((0 : Nat) : Int))])
 (hh : HpIn 4 h [(0, { cells := C0 }), (1, { cells := b.a }), (3, { cells := c.a })]) (hb3 : ∀ j, v3.bel j = true) (hb37 : ∀ j, v37.bel j = true) (hb38 : ∀ j, v38.bel j = true) (hb39 : ∀ j, v39.bel j = true) (hC0 : ∀ j, belL j C0 = true)
 (hK : ∀ e', eget e' 1 = some (.p 0 0) → eget e' 3 = some v3 → eget e' 4 = some (.p 1 0) → eget e' 11 = some (.p 3 0) → eget e' 37 = some v37 → eget e' 38 = some v38 → eget e' 39 = some v39 → K (.exit 2) e' [(0, { cells := C0 }), (1, { cells := b.a }), (3, { cells := c.a })] 4) :
 Ab.Loop Try.prog cts6 198 0 i6l31 K e h n := by
 have hlA : ∀ b : Bf, b.a.length = 11 := fun b => rfl
 have hbb : ∀ j, belL j b.a = true := fun j => Bf.bel' b j
 have hcb : ∀ j, belL j c.a = true := fun j => Bf.bel' c j
 have hFb : ∀ j, belL j (rows Md.l F) = true := fun j => mrB j F
 refine Loop.countI (F := ⟨Try.prog, cxT T6, cts6, 198, 0⟩) (hT6 h20) mo F.length (fun k => True)
  (fun k => [(1, .p 0 0), (3, v3), (4, .p 1 0), (11, .p 3 0), (12, .fz (rows Md.l F) F.length), (37, v37), (38, v38), (39, v39), (161, .fz (rows Md.l F) F.length), (162, .i .i64 (F.length : Int)), (163, .i .i64 (k : Int))])
  (fun k => [(0, { cells := C0 }), (1, { cells := b.a }), (3, { cells := c.a })]) 4 (by decide) trivial he hh (fun k hk _ => ?_)
 dsimp only [T6]
 by_cases hlt : k < F.length
 · have c1 : decide ((k : Int) < (F.length : Int)) = true := decide_eq_true (by omega)
   have c2 : decide (0 ≤ (k : Int) ∧ (k : Int) < (F.length : Int)) = true := decide_eq_true (by omega)
   have c3' : decide (0 < (F.length : Int)) = true := decide_eq_true (by omega)
   have hw : IntKind.i64.wrap ((k : Int) + 1) = ((k + 1 : Nat) : Int) := by rw [wrapL (by omega) (by omega)]; omega
   obtain ⟨p, hp⟩ : ∃ p, F[k]? = some p := ⟨_, List.getElem?_eq_getElem hlt⟩
   obtain ⟨p0, hp0⟩ : ∃ p0, F[0]? = some p0 := ⟨_, List.getElem?_eq_getElem (by omega)⟩
   have hrp := md_at hp
   have r3 : (rows Md.l F)[3]? = some (.i .i64 p0.tm) := rows_get (f := Md.l) (z := 9) (k := 0) (j := 3) (v := .i .i64 p0.tm) Md.len hp0 rfl
   obtain ⟨f1, f2⟩ := hf k p hp
   have f3 := ht k p p0 hp hp0
   have hA4 : b.a[4]? = some (.i .i64 b.nx) := rfl
   have w1 : IntKind.i64.wrap (b.nx + (k : Int)) = b.nx + (k : Int) := wrapL (by omega) (by omega)
   have w2 : (b.nx + (k : Int)).tmod 65536 = (b.nx + (k : Int)) % 65536 := Int.tmod_eq_emod_of_nonneg (by omega)
   have w3 : IntKind.i64.wrap ((F.length : Int) - 1) = (F.length : Int) - 1 := wrapL (by omega) (by omega)
   have e1 : ((k : Int) == (F.length : Int) - 1) = decide (k + 1 = F.length) := by
    rw [Bool.eq_iff_iff, beq_iff_eq, decide_eq_true_iff]; omega
   obtain ⟨ma, ty, sq, tm, ss, cs, xs, pd, pl⟩ := p
   dsimp only at f1 f2 f3
   subst f1 f2 f3
   simp only [Md.l] at hrp
   simp (maxSteps := 400000) only [go_sem, c1, c2, c3', hrp, r3, hA4, w1, w2, w3, e1, hw, hlt, hFb, hbb, hcb, hC0, csB, xsB, hb3, hb37, hb38, hb39, List.drop_zero, AV.bel, belL, nblt, simprocAttr]
 · obtain rfl : k = F.length := by omega
   have c1 : decide ((F.length : Int) < (F.length : Int)) = false := decide_eq_false (by omega)
   simp (maxSteps := 400000) only [go_sem, c1, simprocAttr]
   exact hK _ rfl rfl rfl rfl rfl rfl rfl
theorem invC_ok {ck sq tm : Int} {L : List Md} {g : Nat → Nat} {b : Bf} (hI : InvC ck sq tm L g b) (hf : ∀ p ∈ L, p.fin = true) : (decide (b.l.length ≤ 9223372036854775807) = true ∧ finB b.l = true ∧ b.rg = true) ∧ b.l.length ≤ 64 ∧ (0 ≤ b.nx ∧ b.nx ≤ 65535) ∧ (0 ≤ b.lo ∧ b.lo ≤ 1099511627776) := by
 have hg := hI.good
 cases hs : b.sd
 · rw [goodB_ns hs] at hg
   obtain ⟨⟨g1, g2, g3, g4⟩, g5, ⟨e1, e2, e3, e4, e5, e6⟩, g8⟩ := hg
   have hl0 : b.l = [] := List.eq_nil_of_length_eq_zero g8
   refine ⟨⟨decide_eq_true (by omega), by rw [hl0]; rfl, ?_⟩, by omega, by omega, by omega⟩
   simp only [Bf.rg, e1, e2, e3, e4, e5, e6]
   rfl
 · obtain ⟨S0, j0, jm, _, _, _, _, _, _, hh⟩ := hI.sd hs
   rw [goodB_sd hs] at hg
   obtain ⟨⟨g1, g2, g3, g4⟩, ⟨g5, g6, g7, g8⟩, g9, g10⟩ := hg
   refine ⟨⟨decide_eq_true (by omega), finB_iff.2 (fun x hx => ?_), ?_⟩, g10, g5, g4⟩
   · obtain ⟨i, i1, i2, i3, i4⟩ := hh x hx
     exact hf _ (List.mem_of_getElem? i3)
   · simp only [Bf.rg, Bool.and_eq_true]
     refine ⟨inI_of ?_, inI_of ?_, inI_of ?_, inI_of ?_, inI_of ?_, inI_of ?_⟩ <;> omega
theorem outer6 (h20 : SoundAt Try.prog 20 k20) (ck0 ck sq tm : Int) (fr : List Int) (ev : List Ev) (P : List Md) (g : Nat → Nat) (EV : List AV) (m : Nat) (b0 : Bf)
 (hc : 1 ≤ ck ∧ ck ≤ 96) (hP : PkL ck sq tm P g) (hPf : ∀ p ∈ P, p.fin = true) (hm : m ≤ 40) (hml : m ≤ ev.length) (hev : ∀ e ∈ ev, inI 0 65535 e.wt = true ∧ inI 0 255 e.pk = true) (hEV : ∀ j, j < m * 3 → EV[j]? = (rows Ev.l ev)[j]?) (hEVb : ∀ j, belL j EV = true) (hI0 : InvC ck sq tm P g b0) (ht0 : b0.ti = 0) {K : Kont} {e : Env} {h : Hp} {n : Nat}
 (he : EnvIn 2 e [(1, .p 0 0), (3, .fz (rows Md.l P) P.length), (4, .p 1 0), (37, .fz EV m), (38, .i .i64 (m : Int)), (39, .i .i64 ((0 : Nat) : Int))])
 (hh : HpIn 2 h [(0, { cells := [.i .u8 ck0, .i .u16 sq, .i .u32 tm, .fz (rows u8R fr) fr.length, .fz (rows Ev.l ev) ev.length] }), (1, { cells := b0.a })])
 (hK : ∀ e' h', K (.exit 0) e' h' 2) : Ab.Loop Try.prog cts6 198 0 i6l34 K e h n := by
 have hPb : ∀ j, belL j (rows Md.l P) = true := fun j => mrB j P
 have hlA : ∀ b : Bf, b.a.length = 11 := fun b => rfl
 have htA : ∀ b : Bf, List.take 11 b.a = b.a := fun b => List.take_of_length_le (by rw [hlA]; omega)
 have hoA : ∀ b : Bf, oneAll b.a = true := fun b => rfl
 have hdA : ∀ b : Bf, List.drop 11 b.a = [] := fun b => List.drop_of_length_le (by rw [hlA]; omega)
 have hA1 : ∀ b : Bf, b.a[1]? = some (.i .i64 b.ti) := fun b => rfl
 have hA2 : ∀ b : Bf, b.a[2]? = some (.b b.sd) := fun b => rfl
 have hA4 : ∀ b : Bf, b.a[4]? = some (.i .i64 b.nx) := fun b => rfl
 have hA9 : ∀ b : Bf, b.a[9]? = some (.i .i64 b.lo) := fun b => rfl
 have hA10 : ∀ b : Bf, b.a[10]? = some (.fz (rows Hd.l b.l) b.l.length) := fun b => rfl
 have hbA : ∀ (b : Bf) j, belL j b.a = true := fun b j => Bf.bel' b j
 refine Loop.countI (F := ⟨Try.prog, cxT T6, cts6, 198, 0⟩) (hT6 h20) mo m (fun k => InvC ck sq tm P g (bufN b0 P ev k) ∧ (0 ≤ (bufN b0 P ev k).ti ∧ (bufN b0 P ev k).ti ≤ 200 * (k : Int)))
  (fun k => [(1, .p 0 0), (3, .fz (rows Md.l P) P.length), (4, .p 1 0), (37, .fz EV m), (38, .i .i64 (m : Int)), (39, .i .i64 (k : Int))])
  (fun k => [(0, { cells := [.i .u8 ck0, .i .u16 sq, .i .u32 tm, .fz (rows u8R fr) fr.length, .fz (rows Ev.l ev) ev.length] }), (1, { cells := (bufN b0 P ev k).a })]) 2 (by decide) ⟨hI0, by rw [show bufN b0 P ev 0 = b0 from rfl, ht0]; omega⟩ he hh (fun k hk hok => ?_)
 dsimp only [T6]
 obtain ⟨hI, ht⟩ := hok
 by_cases hlt : k < m
 · have c1 : decide ((k : Int) < (m : Int)) = true := decide_eq_true (by omega)
   have c2 : decide (0 ≤ (k : Int) ∧ (k : Int) < (m : Int)) = true := decide_eq_true (by omega)
   have hw : IntKind.i64.wrap ((k : Int) + 1) = ((k + 1 : Nat) : Int) := by rw [wrapL (by omega) (by omega)]; omega
   obtain ⟨x, hx⟩ : ∃ x, ev[k]? = some x := ⟨_, List.getElem?_eq_getElem (by omega)⟩
   have r0 : EV[k * 3]? = some (.i .u16 x.wt) := (hEV _ (by omega)).trans (rows_get (f := Ev.l) (z := 3) (j := 0) (v := .i .u16 x.wt) Ev.len hx rfl)
   have r1 : EV[k * 3 + 1]? = some (.b x.pt) := (hEV _ (by omega)).trans (rows_get (f := Ev.l) (z := 3) (j := 1) (v := .b x.pt) Ev.len hx rfl)
   have r2 : EV[k * 3 + 2]? = some (.i .u8 x.pk) := (hEV _ (by omega)).trans (rows_get (f := Ev.l) (z := 3) (j := 2) (v := .i .u8 x.pk) Ev.len hx rfl)
   have hr3 : List.take 3 (List.drop (k * 3) EV) = [.i .u16 x.wt, .b x.pt, .i .u8 x.pk] := by
    refine List.ext_getElem? (fun i => ?_)
    rcases (by omega : i = 0 ∨ i = 1 ∨ i = 2 ∨ 3 ≤ i) with rfl | rfl | rfl | hi
    · rw [List.getElem?_take, if_pos (by omega), List.getElem?_drop]; exact r0
    · rw [List.getElem?_take, if_pos (by omega), List.getElem?_drop]; exact r1
    · rw [List.getElem?_take, if_pos (by omega), List.getElem?_drop]; exact r2
    · rw [List.getElem?_take, if_neg (by omega), List.getElem?_eq_none (by simpa using hi)]
   have hxr := hev x (List.mem_of_getElem? hx)
   have hx1 := inI_t hxr.1
   have hx2 := inI_t hxr.2
   have hS : bufN b0 P ev (k + 1) = stepB P (bufN b0 P ev k) x := by simp only [bufN, hx]
   generalize bufN b0 P ev (k + 1) = b' at *
   generalize bufN b0 P ev k = b at *
   have hba := bfA_a b
   obtain ⟨⟨o1, o2, o3⟩, o4, o5, o6⟩ := invC_ok hI hPf
   have m1 : x.wt.tmod 200 = x.wt % 200 := Int.tmod_eq_emod_of_nonneg (by omega)
   have m2 : IntKind.u16.wrap (x.wt % 200) = x.wt % 200 := by rw [wrapU16]; omega
   have m3 : IntKind.i64.wrap (x.wt % 200) = x.wt % 200 := wrapL (by omega) (by omega)
   have m4 : IntKind.i64.wrap (b.ti + x.wt % 200) = b.ti + x.wt % 200 := wrapL (by omega) (by omega)
   have htk := cnt_take hP (now := b.ti + x.wt % 200) hI (by omega)
   have hpt := fun (p : Md) (j : Nat) => @cnt_put ck sq tm P g hc hP b (b.ti + x.wt % 200) p j hI (by omega)
   have hnow : b.ti + x.wt % 200 ≤ 200 * ((k + 1 : Nat) : Int) ∧ 0 ≤ b.ti + x.wt % 200 := by omega
   have h23 : ∀ (h : Hp) n, k23 [.agg b.a, .i .i64 (b.ti + x.wt % 200)] h n = some (true, { v := .tup [.agg (tkS b (b.ti + x.wt % 200)).1.a, .fz (rows Md.l (tkS b (b.ti + x.wt % 200)).2.1) (tkS b (b.ti + x.wt % 200)).2.1.length, .i .i64 (tkS b (b.ti + x.wt % 200)).2.2], n }) := fun h n => by
    simp only [k23, hba, Option.bind_some, o1, o2, o3, tkA, Bool.and_self]
   have h15 : ∀ (p : Md), p.fin = true → ∀ (h : Hp) n, k15 [.agg b.a, .i .i64 (b.ti + x.wt % 200), .agg p.l] h n = some (true, { v := .tup [.agg (putS b (b.ti + x.wt % 200) p).1.a, .i .i64 (putS b (b.ti + x.wt % 200) p).2], n }) := fun p hp h n => by
    simp only [k15, hba, md9_l, Option.bind_some, o1, o2, o3, hp, bfV, Bool.and_self]
   have h12 : ∀ c : Bf, InvC ck sq tm P g c → ∀ (h : Hp) n, k12 [.agg c.a] h n = some (true, { v := .i .i64 0, n }) := fun c hcI h n => by
    obtain ⟨⟨q1, q2, q3⟩, _⟩ := invC_ok hcI hPf
    simp only [k12, bfA_a, Option.bind_some, q1, q2, q3, Bool.and_self, hcI.good, if_true]
   unfold stepB at hS
   generalize hnw : b.ti + x.wt % 200 = now at *
   obtain ⟨wt, pt, pk⟩ := x
   dsimp only at *
   have hgt : decide ((P.length : Int) > 0) = decide (0 < P.length) := decide_eq_decide.2 (by omega)
   have take_case : (pt && decide (0 < P.length)) = false → (pt = false ∨ (pt = true ∧ decide (0 < P.length) = false)) := fun h => by
    cases pt
    · exact .inl rfl
    · exact .inr ⟨rfl, by simpa using h⟩
   cases hcb : (pt && decide (0 < P.length))
   · rw [hcb] at hS
     simp only [cond_false] at hS
     rcases htk with h4 | ⟨h0, hI2, hT, hti⟩
     · have e1 : ((4 : Int) == 0) = false := rfl
       rw [h4] at hS h23
       rw [e1] at hS
       simp only [cond_false] at hS
       subst hS
       have hti' : b'.ti ≤ 200 * ((k + 1 : Nat) : Int) := by omega
       generalize (tkS b' now).1 = TX at *
       generalize (tkS b' now).2.1 = TF at *
       have hTb : ∀ j, belL j (rows Md.l TF) = true := fun j => mrB j TF
       rcases take_case hcb with rfl | ⟨rfl, d0⟩
       · simp (maxSteps := 400000) only [go_sem, c1, c2, hw, r0, r1, hr3, hA1, m1, m2, m3, m4, hnw, h23, htA, hlA, hoA, hdA, List.take_zero, List.nil_append, List.drop_zero, hlt, hPb, hEVb, hbA, hTb, u8B, evB, AV.bel, belL, nblt, simprocAttr]
         exact ⟨hI, ht.1, hti'⟩
       · simp (maxSteps := 400000) only [go_sem, c1, c2, hw, r0, r1, hr3, hA1, m1, m2, m3, m4, hnw, h23, htA, hlA, hoA, hdA, List.take_zero, List.nil_append, List.drop_zero, hlt, hPb, hEVb, hbA, hTb, u8B, evB, hgt, d0, AV.bel, belL, nblt, simprocAttr]
         exact ⟨hI, ht.1, hti'⟩
     · have h12 := h12 _ hI2
       rw [h0] at hS h23
       simp only [beq_self_eq_true, cond_true] at hS
       subst hS
       generalize (tkS b now).1 = TX at *
       generalize (tkS b now).2.1 = TF at *
       have hTb : ∀ j, belL j (rows Md.l TF) = true := fun j => mrB j TF
       obtain ⟨-, t2, t3, t4, t5, t6, t7, t8⟩ := hT
       have w1 : IntKind.i64.wrap (TX.nx - b.nx) = TX.nx - b.nx := wrapL (by omega) (by omega)
       have w2 : IntKind.i64.wrap (TX.nx - b.nx + 65536) = TX.nx - b.nx + 65536 := wrapL (by omega) (by omega)
       have w3 : (TX.nx - b.nx + 65536).tmod 65536 = (TX.nx - b.nx + 65536) % 65536 := Int.tmod_eq_emod_of_nonneg (by omega)
       have w4 : IntKind.i64.wrap ((TF.length : Int) + TX.lo) = (TF.length : Int) + TX.lo := wrapL (by omega) (by omega)
       have w5 : IntKind.i64.wrap ((TF.length : Int) + TX.lo - b.lo) = (TF.length : Int) + TX.lo - b.lo := wrapL (by omega) (by omega)
       have w6 : (((TF.length : Int) + TX.lo - b.lo) != ((TF.length : Int) + TX.lo - b.lo)) = false := bne_self_eq_false _
       have c5 : decide ((TX.l.length : Int) ≥ (b.l.length : Int)) = false := decide_eq_false (by omega)
       have inn := fun (v37 v38 v39 : AV) (C0 : List AV) h3 h37 h38 h39 hC0 (K : Kont) (e : Env) (h : Hp) (n : Nat) he hh hK => @inner6 h20 b TX TF (.fz (rows Md.l P) P.length) v37 v38 v39 C0 o5 t6 t7 t8 K e h n he hh h3 h37 h38 h39 hC0 hK
       have hloc : decide ((TF.length : Int) > 0) = false ∨ (decide ((TF.length : Int) > 0) = true ∧ TX.lo = b.lo) := by
        by_cases hz : TF.length = 0
        · exact .inl (decide_eq_false (by omega))
        · exact .inr ⟨decide_eq_true (by omega), t4 hz⟩
       have hfin : InvC ck sq tm P g TX ∧ 0 ≤ TX.ti ∧ TX.ti ≤ 200 * ((k + 1 : Nat) : Int) := ⟨hI2, by omega⟩
       have hC0 : ∀ j, belL j [AV.i .u8 ck0, .i .u16 sq, .i .u32 tm, .fz (rows u8R fr) fr.length, .fz (rows Ev.l ev) ev.length] = true := fun j => by simp only [belL, AV.bel, u8B, evB, Bool.and_self]
       rcases take_case hcb with rfl | ⟨rfl, d0⟩ <;> rcases hloc with l1 | ⟨l1, l2⟩
       · simp (maxSteps := 400000) only [go_sem, c1, c2, hw, r0, r1, hr3, hA1, hA4, hA9, hA10, m1, m2, m3, m4, hnw, h23, h12, htA, hlA, hoA, hdA, List.take_zero, List.nil_append, w1, w2, w3, w4, w5, w6, t2, l1, c5, List.drop_zero, hlt, hPb, hEVb, hbA, hTb, u8B, evB, AV.bel, belL, nblt, simprocAttr]
         refine inn (.fz EV m) (.i .i64 (m : Int)) (.i .i64 (k : Int)) _ (fun j => hPb j) (fun j => hEVb j) (fun j => rfl) (fun j => rfl) hC0 _ _ _ _ ?_ ?_ (fun e' g1 g3 g4 g11 g37 g38 g39 => ?_)
         · simp (maxSteps := 400000) only [go_sem, hPb, hEVb, hTb, AV.bel, belL, nblt, simprocAttr]
         · simp (maxSteps := 400000) only [go_sem, hbA, u8B, evB, AV.bel, belL, nblt, simprocAttr]
         · simp (maxSteps := 400000) only [go_sem, g1, g3, g4, g11, g37, g38, g39, hw, htA, hlA, hoA, hdA, List.take_zero, List.nil_append, List.drop_zero, hPb, hEVb, hbA, u8B, evB, AV.bel, belL, nblt, simprocAttr]
           exact hfin
       · simp (maxSteps := 400000) only [go_sem, c1, c2, hw, r0, r1, hr3, hA1, hA4, hA9, hA10, m1, m2, m3, m4, hnw, h23, h12, htA, hlA, hoA, hdA, List.take_zero, List.nil_append, w1, w2, w3, w4, w5, w6, t2, l1, c5, (bne_eq_false_iff_eq.2 l2 : (TX.lo != b.lo) = false), List.drop_zero, hlt, hPb, hEVb, hbA, hTb, u8B, evB, AV.bel, belL, nblt, simprocAttr]
         refine inn (.fz EV m) (.i .i64 (m : Int)) (.i .i64 (k : Int)) _ (fun j => hPb j) (fun j => hEVb j) (fun j => rfl) (fun j => rfl) hC0 _ _ _ _ ?_ ?_ (fun e' g1 g3 g4 g11 g37 g38 g39 => ?_)
         · simp (maxSteps := 400000) only [go_sem, hPb, hEVb, hTb, AV.bel, belL, nblt, simprocAttr]
         · simp (maxSteps := 400000) only [go_sem, hbA, u8B, evB, AV.bel, belL, nblt, simprocAttr]
         · simp (maxSteps := 400000) only [go_sem, g1, g3, g4, g11, g37, g38, g39, hw, htA, hlA, hoA, hdA, List.take_zero, List.nil_append, List.drop_zero, hPb, hEVb, hbA, u8B, evB, AV.bel, belL, nblt, simprocAttr]
           exact hfin
       · simp (maxSteps := 400000) only [go_sem, c1, c2, hw, r0, r1, hr3, hA1, hA4, hA9, hA10, m1, m2, m3, m4, hnw, h23, h12, htA, hlA, hoA, hdA, List.take_zero, List.nil_append, w1, w2, w3, w4, w5, w6, t2, l1, c5, hgt, d0, List.drop_zero, hlt, hPb, hEVb, hbA, hTb, u8B, evB, AV.bel, belL, nblt, simprocAttr]
         refine inn (.fz EV m) (.i .i64 (m : Int)) (.i .i64 (k : Int)) _ (fun j => hPb j) (fun j => hEVb j) (fun j => rfl) (fun j => rfl) hC0 _ _ _ _ ?_ ?_ (fun e' g1 g3 g4 g11 g37 g38 g39 => ?_)
         · simp (maxSteps := 400000) only [go_sem, hPb, hEVb, hTb, AV.bel, belL, nblt, simprocAttr]
         · simp (maxSteps := 400000) only [go_sem, hbA, u8B, evB, AV.bel, belL, nblt, simprocAttr]
         · simp (maxSteps := 400000) only [go_sem, g1, g3, g4, g11, g37, g38, g39, hw, htA, hlA, hoA, hdA, List.take_zero, List.nil_append, List.drop_zero, hPb, hEVb, hbA, u8B, evB, AV.bel, belL, nblt, simprocAttr]
           exact hfin
       · simp (maxSteps := 400000) only [go_sem, c1, c2, hw, r0, r1, hr3, hA1, hA4, hA9, hA10, m1, m2, m3, m4, hnw, h23, h12, htA, hlA, hoA, hdA, List.take_zero, List.nil_append, w1, w2, w3, w4, w5, w6, t2, l1, c5, (bne_eq_false_iff_eq.2 l2 : (TX.lo != b.lo) = false), hgt, d0, List.drop_zero, hlt, hPb, hEVb, hbA, hTb, u8B, evB, AV.bel, belL, nblt, simprocAttr]
         refine inn (.fz EV m) (.i .i64 (m : Int)) (.i .i64 (k : Int)) _ (fun j => hPb j) (fun j => hEVb j) (fun j => rfl) (fun j => rfl) hC0 _ _ _ _ ?_ ?_ (fun e' g1 g3 g4 g11 g37 g38 g39 => ?_)
         · simp (maxSteps := 400000) only [go_sem, hPb, hEVb, hTb, AV.bel, belL, nblt, simprocAttr]
         · simp (maxSteps := 400000) only [go_sem, hbA, u8B, evB, AV.bel, belL, nblt, simprocAttr]
         · simp (maxSteps := 400000) only [go_sem, g1, g3, g4, g11, g37, g38, g39, hw, htA, hlA, hoA, hdA, List.take_zero, List.nil_append, List.drop_zero, hPb, hEVb, hbA, u8B, evB, AV.bel, belL, nblt, simprocAttr]
           exact hfin
   · rw [hcb] at hS
     simp only [cond_true] at hS
     simp only [Bool.and_eq_true, decide_eq_true_eq] at hcb
     obtain ⟨rfl, hp0⟩ := hcb
     have d0 : decide (0 < P.length) = true := decide_eq_true hp0
     have hne : ((P.length : Int) != 0) = true := bne_iff_ne.2 (by omega)
     have hq := Int.emod_nonneg pk (b := (P.length : Int)) (by omega)
     have hq2 := Int.emod_lt_of_pos pk (b := (P.length : Int)) (by omega)
     have m5 : IntKind.i64.wrap pk = pk := wrapL (by omega) (by omega)
     have m6 : pk.tmod (P.length : Int) = pk % (P.length : Int) := Int.tmod_eq_emod_of_nonneg (by omega)
     have hpl := hP.len
     have m7 : IntKind.i64.wrap (pk % (P.length : Int)) = pk % (P.length : Int) := wrapL (by omega) (by omega)
     generalize pk % (P.length : Int) = I at *
     have c4 : decide (0 ≤ I ∧ I < (P.length : Int)) = true := decide_eq_true (by omega)
     obtain ⟨p, hp⟩ : ∃ p, P[I.toNat]? = some p := ⟨_, List.getElem?_eq_getElem (by omega)⟩
     have hgd : P.getD I.toNat zMd = p := by rw [List.getD_eq_getElem?_getD, hp]; rfl
     rw [hgd] at hS
     have hrp := md_at hp
     have hlM : p.l.length = 9 := rfl
     have h15 := h15 p (hPf p (List.mem_of_getElem? hp))
     rcases hpt p I.toNat hp with h4 | ⟨h0, hI2, -, hln, hsd, hti⟩
     · have e1 : ((10 : Int) == 0) = false := rfl
       rw [h4] at hS h15
       rw [e1] at hS
       simp only [cond_false] at hS
       subst hS
       have hti' : b'.ti ≤ 200 * ((k + 1 : Nat) : Int) := by omega
       generalize (putS b' now p).1 = TX at *
       simp (maxSteps := 400000) only [go_sem, c1, c2, hw, r0, r1, r2, hr3, hA1, m1, m2, m3, m4, hnw, h15, htA, hlA, hoA, hdA, List.take_zero, List.nil_append, List.drop_zero, hlt, hPb, hEVb, hbA, u8B, evB, hgt, d0, hne, m5, m6, m7, c4, hrp, hlM, AV.bel, belL, nblt, simprocAttr]
       exact ⟨hI, ht.1, hti'⟩
     · have h12 := h12 _ hI2
       rw [h0] at hS h15
       simp only [beq_self_eq_true, cond_true] at hS
       subst hS
       generalize (putS b now p).1 = TX at *
       have hfin : InvC ck sq tm P g TX ∧ 0 ≤ TX.ti ∧ TX.ti ≤ 200 * ((k + 1 : Nat) : Int) := ⟨hI2, by omega⟩
       have w1 : IntKind.i64.wrap ((b.l.length : Int) + 1) = (b.l.length : Int) + 1 := wrapL (by omega) (by omega)
       have w2 : ((TX.l.length : Int) != (b.l.length : Int) + 1) = false := bne_eq_false_iff_eq.2 (by omega)
       cases hbs : b.sd
       · simp (maxSteps := 400000) only [go_sem, c1, c2, hw, r0, r1, r2, hr3, hA1, hA2, hA4, hA9, hA10, hbs, m1, m2, m3, m4, hnw, h15, h12, htA, hlA, hoA, hdA, List.take_zero, List.nil_append, w1, w2, List.drop_zero, hlt, hPb, hEVb, hbA, u8B, evB, hgt, d0, hne, m5, m6, m7, c4, hrp, hlM, AV.bel, belL, nblt, simprocAttr]
         exact hfin
       · obtain ⟨q1, q2⟩ := hsd hbs
         have w3 : (TX.nx != b.nx) = false := bne_eq_false_iff_eq.2 q1
         have w4 : (TX.lo != b.lo) = false := bne_eq_false_iff_eq.2 q2
         simp (maxSteps := 400000) only [go_sem, c1, c2, hw, r0, r1, r2, hr3, hA1, hA2, hA4, hA9, hA10, hbs, m1, m2, m3, m4, hnw, h15, h12, htA, hlA, hoA, hdA, List.take_zero, List.nil_append, w1, w2, w3, w4, List.drop_zero, hlt, hPb, hEVb, hbA, u8B, evB, hgt, d0, hne, m5, m6, m7, c4, hrp, hlM, AV.bel, belL, nblt, simprocAttr]
         exact hfin
 · obtain rfl : k = m := by omega
   have c1 : decide ((k : Int) < (k : Int)) = false := decide_eq_false (by omega)
   simp (maxSteps := 400000) only [go_sem, c1, simprocAttr]
   exact hK _ _
theorem w6 (h20 : SoundAt Try.prog 20 k20) (d : Dj) (hd : DjOK d = true) : FTL Try.prog 6 [.agg d.l] [] 0 (.b true) [] 0 := by
 have hT := hT6 h20
 have hok := hd
 simp only [DjOK, SmOK, Bool.and_eq_true, decide_eq_true_eq, List.all_eq_true] at hok
 obtain ⟨d1, ⟨d2, d3, d4, d5⟩, d6, d7⟩ := hok
 have hd1 := inI_t d1
 have hd2 := inI_t d2
 have hd3 := inI_t d3
 have h10 : ∀ (h : Hp) n, k10 [.agg d.l] h n = some (true, { v := .i .i64 (startS d), n }) := fun h n => by simp only [k10, dj5_l, Option.bind_some, d1]
 have hst : 1 ≤ startS d ∧ startS d ≤ 96 := by unfold startS; omega
 have h18 : ∀ (h : Hp) n, k18 [.i .i64 (startS d)] h n = some (true, { v := .tup [.agg (evZ (startS d)).a, .i .i64 0], n }) := fun h n => by
  have : inI 1 96 (startS d) = true := inI_of hst
  simp only [k18, newS, this, cond_true, bfV]
  rfl
 have hsm : SmOK d.s = true := by
  simp only [SmOK, Bool.and_eq_true, decide_eq_true_eq, List.all_eq_true]
  exact ⟨d2, d3, d4, d5⟩
 have h9 : ∀ (h : Hp) n, k9 [.agg d.s.l, .i .i64 (startS d)] h n = some (true, { v := .fz (rows Md.l (pksS (startS d) d.s)) (pksS (startS d) d.s).length, n }) := fun h n => by
  have : inI 1 96 (startS d) = true := inI_of hst
  simp only [k9, sm3_l, Option.bind_some, hsm, this, Bool.and_self]
 have hpf : ∀ p ∈ pksS (startS d) d.s, p.fin = true := pks_fin _ _ _
 generalize startS d = ck at *
 obtain ⟨ck0, ⟨sq, tm, fr⟩, evs⟩ := d
 obtain ⟨g, hP⟩ := pksS_L (ck := ck) (sq := sq) (tm := tm) (fr := fr)
 dsimp only at hd1 hd2 hd3 d5 d6 d7 hpf h9
 have d6' : ∀ e ∈ evs, inI 0 65535 e.wt = true ∧ inI 0 255 e.pk = true := fun e he => by
  have := d6 e he
  simpa only [Bool.and_eq_true] using this
 generalize pksS ck ⟨sq, tm, fr⟩ = P at *
 simp only [Dj.l, Sm.l] at h10 h9 ⊢
 have hm : ∃ m : Nat, min (evs.length : Int) 40 = (m : Int) ∧ m ≤ 40 ∧ m ≤ evs.length := ⟨min evs.length 40, by omega, by omega, by omega⟩
 obtain ⟨m, hmin, hm2, hm3⟩ := hm
 have hlA : ∀ b : Bf, b.a.length = 11 := fun b => rfl
 have htA : ∀ b : Bf, List.take 11 b.a = b.a := fun b => List.take_of_length_le (by rw [hlA]; omega)
 have hoA : ∀ b : Bf, oneAll b.a = true := fun b => rfl
 have hbA : ∀ (b : Bf) j, belL j b.a = true := fun b j => Bf.bel' b j
 have hI0 : InvC ck sq tm P g (evZ ck) := ⟨evZ_good hst, rfl, fun h => by cases h⟩
 have out := fun (K : Kont) (e : Env) (h : Hp) (n : Nat) => @outer6 h20 ck0 ck sq tm fr evs P g (rows Ev.l evs) m (evZ ck) hst hP hpf hm2 hm3 d6' (fun j hj => rfl) (fun j => evB j evs) hI0 rfl K e h n
 refine FTL.of_iw hT mo Try.func6 i6_eq (by simp [i6]) (iw_of_jw ?_)
 dsimp only [i6, T6]
 have c1 : decide (0 ≤ (m : Int) ∧ (m : Int) ≤ (evs.length : Int)) = true := decide_eq_true (by omega)
 simp (maxSteps := 400000) only [go_sem, k20, h10, h9, h18, hlA, htA, hoA, List.drop_zero, hmin, c1, simprocAttr]
 refine out _ _ _ _ ?_ ?_ (fun e' h' => ?_)
 · simp (maxSteps := 400000) only [go_sem, mrB, evB, AV.bel, belL, nblt, simprocAttr]
 · simp (maxSteps := 400000) only [go_sem, u8B, evB, hbA, AV.bel, belL, nblt, simprocAttr]
 · simp (maxSteps := 400000) only [go_sem, simprocAttr]
   exact Ends.pureE rfl rfl
end Go.Proofs.Jit
