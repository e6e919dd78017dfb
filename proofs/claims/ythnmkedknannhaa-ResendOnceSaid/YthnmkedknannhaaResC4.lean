/- The contract of the reference's Right; arguments that are forgotten in part; late. -/
import Derived.Test.YthnmkedknannhaaResCa
import Derived.Test.YthnmkedknannhaaAbFzs
namespace Go.Proofs.Res
open Go.Ab
set_option maxRecDepth 100000
set_option maxHeartbeats 4000000
set_option linter.unusedSimpArgs false
set_option linter.unusedVariables false
def Wka (a b : AV) : Prop := ∀ D φ u, VRel D φ a u → VRel D φ b u
def WkaL : List AV → List AV → Prop
 | [], [] => True
 | a :: l, b :: m => Wka a b ∧ WkaL l m
 | _, _ => False
theorem WkaL.all {D : Nat → Prop} {φ : Phi} : ∀ {l m : List AV} {us : List Value}, WkaL l m → All2 D φ l us → All2 D φ m us
 | [], [], _, _, h => h
 | a :: l, b :: m, us, h, h2 => by
  obtain ⟨u, us', rfl, hu, ht⟩ := h2.uncons
  exact .cons (h.1 _ _ _ hu) (WkaL.all h.2 ht)
 | [], _ :: _, _, h, _ => h.elim
 | _ :: _, [], _, h, _ => h.elim
theorem Wka.refl (a : AV) : Wka a a := fun _ _ _ h => h
theorem Wka.ns : Wka .ns (.fz [] 0) := fun _ _ _ h => by cases h; exact .fz0 _ _ _ (fun _ => rfl)
theorem Wka.ze : Wka .ze (.fz [] 0) := fun _ _ _ h => by cases h; exact .fz0 _ _ _ (fun _ => rfl)
theorem Wka.agg {l m : List AV} (h : WkaL l m) : Wka (.agg l) (.agg m) := fun D φ u hu => by
 obtain ⟨us, rfl, ha⟩ := hu.agg_inv
 exact VRel.agg' (h.all ha)
theorem FTL.wka {P : Program} {f : FuncId} {xs ys : List AV} {h h' : Hp} {n n' : Nat} {v : AV} (hw : WkaL xs ys) (hf : FTL P f ys h n v h' n') : FTL P f xs h n v h' n' :=
 fun D φ w us hD hH hA => hf D φ w us hD hH (hw.all hA)
theorem WkaL.refl : ∀ l : List AV, WkaL l l
 | [] => trivial
 | a :: l => ⟨Wka.refl a, WkaL.refl l⟩
theorem FTL.wkaH {P : Program} {f : FuncId} {a b : AV} {r : List AV} {h h' : Hp} {n n' : Nat} {v : AV} (hw : Wka a b) (hf : FTL P f (b :: r) h n v h' n') : FTL P f (a :: r) h n v h' n' :=
 FTL.wka (xs := a :: r) (ys := b :: r) ⟨hw, WkaL.refl r⟩ hf
def wsA : List AV → Option Ws
 | [.i .i64 ti, .b st, .i .i64 tp, .fz L m] => (unrows 4 wt4 m (L.take (m * 4))).bind fun l => bif belL 0 L then some ⟨ti, st, tp, l⟩ else none
 | [.i .i64 ti, .b st, .i .i64 tp, .ns] => some ⟨ti, st, tp, []⟩
 | _ => none
theorem Wka.take (l : List AV) (k m : Nat) : Wka (.fz l m) (.fz (l.take k) m) := fun D φ u h => by
 have hlen : (l.take k).length ≤ l.length := List.length_take_le' _ _
 cases h with
 | fz _ _ B o cap vs hB hc hs h =>
  refine .fz _ _ B o cap vs hB hc (fun i hi => hs i (by omega)) (fun i a u h1 h2 => h i a u ?_ h2)
  rw [List.getElem?_take] at h1
  split at h1
  · exact h1
  · cases h1
 | fz0 _ x cap hc => exact .fz0 _ x cap hc
theorem rows_take {α : Type} {f : α → List AV} {z : Nat} (hf : ∀ a, (f a).length = z) : ∀ (l : List α) (m : Nat), (rows f l).take (m * z) = rows f (l.take m)
 | [], m => by simp [rows]
 | a :: l, 0 => by simp [rows]
 | a :: l, m + 1 => by
  have e : rows f (a :: l) = f a ++ rows f l := rfl
  have e2 : rows f (a :: l.take m) = f a ++ rows f (l.take m) := rfl
  rw [List.take_succ_cons, e, e2, ← rows_take hf l m, List.take_append]
  have h1 : List.take ((m + 1) * z) (f a) = f a := List.take_of_length_le (by rw [hf, Nat.succ_mul]; omega)
  have h2 : (m + 1) * z - (f a).length = m * z := by rw [hf, Nat.succ_mul]; omega
  rw [h1, h2]
theorem wt4_un (l : List Wt) : unrows 4 wt4 l.length (rows Wt.l l) = some l := unrows_rows Wt.len wt4_l l
theorem wsA_a (w : Ws) : wsA w.a = some w := by
 obtain ⟨ti, st, tp, l⟩ := w
 have e : (rows Wt.l l).take (l.length * 4) = rows Wt.l l := by rw [rows_take Wt.len, List.take_length]
 simp only [wsA, Ws.a, e, wt4_un, Option.bind_some, rows_bel Wt.bel, cond_true]
theorem wsA_k {c : List AV} {w : Ws} (h : wsA c = some w) : Wka (.agg c) (.agg w.a) ∧ belL 0 c = true := by
 unfold wsA at h
 split at h
 · rename_i ti st tp L m
   simp only [Option.bind_eq_some_iff] at h
   obtain ⟨l, hl, h⟩ := h
   cases hb : belL 0 L
   · rw [hb] at h; cases h
   · rw [hb] at h
     cases h
     obtain ⟨h1, hm⟩ := unrows_eq (f := Wt.l) (fun c a h => wt4_eq h) hl
     subst hm
     refine ⟨Wka.agg ⟨Wka.refl _, Wka.refl _, Wka.refl _, ?_, trivial⟩, by simp only [belL, AV.bel, hb, Bool.and_self]⟩
     show Wka _ (.fz (rows Wt.l l) l.length)
     rw [← h1]
     exact Wka.take _ _ _
 · cases h
   exact ⟨Wka.agg ⟨Wka.refl _, Wka.refl _, Wka.refl _, Wka.ns, trivial⟩, rfl⟩
 · cases h
def k11 : Ct
 | [.agg c], _, n => (wsA c).bind fun w => some (decide (w.l.length ≤ 1000000000000), { v := .i .i64 (if goodB w then 0 else 280), n })
 | _, _, _ => none
theorem s11 : SoundAt Try.prog 11 k11 := fun args h n c E hc ht => by
 unfold k11 at hc
 split at hc
 · simp only [Option.bind_eq_some_iff] at hc
   obtain ⟨w, hw, he⟩ := hc
   cases he
   obtain ⟨h1, h2⟩ := wsA_k hw
   exact CallOK.pure (by kernel_rfl) (by simp only [belL, AV.bel, h2, Bool.and_self]) rfl (FTL.wkaH h1 (w11 w (of_decide_eq_true ht))) _ _
 · cases hc
def T6 : List (Nat × Ct) := [(52, k52), (53, k53)]
theorem hT6 : Sound Try.prog (cxT T6) := Sound.cons s52 (Sound.cons s53 Sound.nil)
theorem loop12 (w : Ws) (hl : w.l.length ≤ 64) (hti : inI 0 TT w.ti = true) (htp : inI 0 65535 w.tp = true) {K : Kont} {e : Env} {h : Hp} {n : Nat}
 (he : EnvIn 1 e [(1, .p 0 0), (3, .i .i64 (-1001)), (4, .i .i64 0)]) (hh : HpIn 1 h [(0, { cells := w.a })])
 (hK0 : ∀ e' h' n', chk w.ti w.tp (-1001) w.l = true → K (.exit 0) e' h' n')
 (hKr : ∀ e' h' n', eget e' 2 = some (.b false) → chk w.ti w.tp (-1001) w.l = false → K .ret e' h' n') : Ab.Loop Try.prog [10, 13, 36, 41, 107, 119] 121 0 i12l18 K e h n := by
 obtain ⟨ti, st, tp, l⟩ := w
 have hLb : belL 1 (rows Wt.l l) = true := belL_mono0 _ (rows_bel Wt.bel)
 simp only [Ws.a] at he hh hl hti htp hK0 hKr ⊢
 have hti := inI_t hti
 simp only [TT] at hti
 refine Loop.countI (F := ⟨Try.prog, cxT T6, [10, 13, 36, 41, 107, 119], 121, 0⟩) hT6 mo l.length (fun k => chk ti tp (-1001) l = chk ti tp (lst tp l k) (l.drop k))
  (fun k => [(1, .p 0 0), (3, .i .i64 (lst tp l k)), (4, .i .i64 (k : Int))])
  (fun k => [(0, { cells := [.i .i64 ti, .b st, .i .i64 tp, .fz (rows Wt.l l) l.length] })]) 1 (by decide) rfl he hh (fun k hk hinv => ?_)
 dsimp only [T6]
 generalize hG : chk ti tp (-1001) l = gd at hK0 hKr hinv ⊢
 by_cases hlt : k < l.length
 · have c1 : decide ((k : Int) < (l.length : Int)) = true := decide_eq_true (by omega)
   have c2 : decide (0 ≤ (k : Int) ∧ (k : Int) < (l.length : Int)) = true := decide_eq_true (by omega)
   have hw : IntKind.i64.wrap ((k : Int) + 1) = ((k + 1 : Nat) : Int) := by rw [wrapL (by omega) (by omega)]; omega
   obtain ⟨x, hx⟩ : ∃ x, l[k]? = some x := ⟨_, List.getElem?_eq_getElem hlt⟩
   have hr := wt_at hx
   have hdr : l.drop k = x :: l.drop (k + 1) := by
    rw [List.drop_eq_getElem_cons hlt]
    rw [List.getElem?_eq_getElem hlt] at hx
    cases hx; rfl
   have hls : lst tp l (k + 1) = lead x.sq tp := by simp only [lst, hx]
   have hrg := lst_rng tp l k
   have hld := lead_rng x.sq tp
   rw [hdr] at hinv
   simp only [chk] at hinv
   have hsqq : wantB x ti = true → inI 0 65535 x.sq = true := wantB_sq
   have hbad : wantB x ti = false → gd = false := fun h => by rw [hinv, h]; rfl
   have hbad2 : inI (lst tp l k + 1) (-1) (lead x.sq tp) = false → gd = false := fun h => by rw [hinv, h]; simp
   have hok : wantB x ti = true → inI (lst tp l k + 1) (-1) (lead x.sq tp) = true → gd = chk ti tp (lead x.sq tp) (l.drop (k + 1)) := fun h1 h2 => by rw [hinv, h1, h2]; rfl
   rw [hls]
   generalize hLk : lst tp l k = lk at *
   generalize hLd : lead x.sq tp = ld at *
   have hsq' : ∀ (h : Hp) n, inI 0 65535 x.sq = true → k53 [.i .i64 x.sq, .i .i64 tp, .i .i64 16] h n = some (true, { v := .i .i64 ld, n }) := fun h n hh => by
    simp only [k53, hh, htp, Bool.and_self, hLd]
   cases hwb : wantB x ti
   · have hf := hbad hwb
     obtain ⟨sq, fd, ak, tr⟩ := x
     simp only [wantB] at hwb
     have hf' : ∀ e' h' n', eget e' 2 = some (.b false) → K .ret e' h' n' := fun e' h' n' q => hKr e' h' n' q hf
     cases h1 : decide (sq < 0)
     rotate_left
     · simp (maxSteps := 400000) only [go_sem, c1, c2, hr, Wt.l, h1, simprocAttr]
       exact hf' _ _ _ rfl
     cases h2 : decide (sq > 65535)
     rotate_left
     · simp (maxSteps := 400000) only [go_sem, c1, c2, hr, Wt.l, h1, h2, simprocAttr]
       exact hf' _ _ _ rfl
     cases h3 : decide (fd < 0)
     rotate_left
     · simp (maxSteps := 400000) only [go_sem, c1, c2, hr, Wt.l, h1, h2, h3, simprocAttr]
       exact hf' _ _ _ rfl
     cases h4 : decide (fd > ti)
     rotate_left
     · simp (maxSteps := 400000) only [go_sem, c1, c2, hr, Wt.l, h1, h2, h3, h4, simprocAttr]
       exact hf' _ _ _ rfl
     cases h5 : decide (tr < 0)
     rotate_left
     · simp (maxSteps := 400000) only [go_sem, c1, c2, hr, Wt.l, h1, h2, h3, h4, h5, simprocAttr]
       exact hf' _ _ _ rfl
     cases h6 : decide (tr > 6)
     rotate_left
     · simp (maxSteps := 400000) only [go_sem, c1, c2, hr, Wt.l, h1, h2, h3, h4, h5, h6, simprocAttr]
       exact hf' _ _ _ rfl
     cases h7 : (tr == 0)
     · have h8 : decide (tr > 0) = true := decide_eq_true (by have := beq_eq_false_iff_ne.1 h7; have := of_decide_eq_false h5; omega)
       cases h9 : decide (ak < fd)
       rotate_left
       · simp (maxSteps := 400000) only [go_sem, c1, c2, hr, Wt.l, h1, h2, h3, h4, h5, h6, h7, h8, h9, simprocAttr]
         exact hf' _ _ _ rfl
       cases h10 : decide (ak > ti)
       rotate_left
       · simp (maxSteps := 400000) only [go_sem, c1, c2, hr, Wt.l, h1, h2, h3, h4, h5, h6, h7, h8, h9, h10, simprocAttr]
         exact hf' _ _ _ rfl
       exfalso
       simp only [inI, h7] at hwb
       simp at *
       omega
     · cases h8 : (ak == 0)
       · have h9 : (ak != 0) = true := by simp [bne, h8]
         have h10 : decide (tr > 0) = false := decide_eq_false (by have := beq_iff_eq.1 h7; omega)
         simp (maxSteps := 400000) only [go_sem, c1, c2, hr, Wt.l, h1, h2, h3, h4, h5, h6, h7, h9, h10, simprocAttr]
         exact hf' _ _ _ rfl
       exfalso
       simp only [inI, h7, h8] at hwb
       simp at *
       omega
   · have hsq := hsqq hwb
     have hwb' := hwb
     have hk53 := fun h n => hsq' h n hsq
     obtain ⟨sq, fd, ak, tr⟩ := x
     simp only [wantB, Bool.and_eq_true] at hwb
     obtain ⟨⟨⟨g1, g2⟩, g3⟩, g4⟩ := hwb
     have g1 := inI_t g1
     have g2 := inI_t g2
     have g3 := inI_t g3
     have h1 : decide (sq < 0) = false := decide_eq_false (by omega)
     have h2 : decide (sq > 65535) = false := decide_eq_false (by omega)
     have h3 : decide (fd < 0) = false := decide_eq_false (by omega)
     have h4 : decide (fd > ti) = false := decide_eq_false (by omega)
     have h5 : decide (tr < 0) = false := decide_eq_false (by omega)
     have h6 : decide (tr > 6) = false := decide_eq_false (by omega)
     have hin : inI (lk + 1) (-1) ld = (!decide (ld ≤ lk) && !decide (ld > -1)) := by
      rw [Bool.eq_iff_iff]; simp [inI]; omega
     have fin : ∀ (b : Bool), inI (lk + 1) (-1) ld = b → (b = true → gd = chk ti tp ld (l.drop (k + 1))) ∧ (b = false → gd = false) := fun b hb => ⟨fun h => hok hwb' (by rw [hb, h]), fun h => hbad2 (by rw [hb, h])⟩
     cases h7 : (tr == 0)
     · have h8 : decide (tr > 0) = true := decide_eq_true (by have := beq_eq_false_iff_ne.1 h7; omega)
       simp only [h7, Bool.false_eq_true, if_false] at g4
       have g4 := inI_t g4
       have h9 : decide (ak < fd) = false := decide_eq_false (by omega)
       have h10 : decide (ak > ti) = false := decide_eq_false (by omega)
       cases a1 : decide (ld ≤ lk)
       · cases a2 : decide (ld > -1)
         · have hgo := (fin _ rfl).1 (by rw [hin, a1, a2]; rfl)
           simp (maxSteps := 400000) only [go_sem, c1, c2, hr, Wt.l, h1, h2, h3, h4, h5, h6, h7, h8, h9, h10, hk53, a1, a2, hw, hlt, AV.bel, belL, nblt, hLb, simprocAttr]
           exact hgo
         · have hgo := (fin _ rfl).2 (by rw [hin, a1, a2]; rfl)
           simp (maxSteps := 400000) only [go_sem, c1, c2, hr, Wt.l, h1, h2, h3, h4, h5, h6, h7, h8, h9, h10, hk53, a1, a2, simprocAttr]
           exact hKr _ _ _ rfl hgo
       · have hgo := (fin _ rfl).2 (by rw [hin, a1]; rfl)
         simp (maxSteps := 400000) only [go_sem, c1, c2, hr, Wt.l, h1, h2, h3, h4, h5, h6, h7, h8, h9, h10, hk53, a1, simprocAttr]
         exact hKr _ _ _ rfl hgo
     · simp only [h7, if_true] at g4
       have h9 : (ak != 0) = false := by simp [bne, g4]
       have h10 : decide (tr > 0) = false := decide_eq_false (by have := beq_iff_eq.1 h7; omega)
       cases a1 : decide (ld ≤ lk)
       · cases a2 : decide (ld > -1)
         · have hgo := (fin _ rfl).1 (by rw [hin, a1, a2]; rfl)
           simp (maxSteps := 400000) only [go_sem, c1, c2, hr, Wt.l, h1, h2, h3, h4, h5, h6, h7, h9, h10, hk53, a1, a2, hw, hlt, AV.bel, belL, nblt, hLb, simprocAttr]
           exact hgo
         · have hgo := (fin _ rfl).2 (by rw [hin, a1, a2]; rfl)
           simp (maxSteps := 400000) only [go_sem, c1, c2, hr, Wt.l, h1, h2, h3, h4, h5, h6, h7, h9, h10, hk53, a1, a2, simprocAttr]
           exact hKr _ _ _ rfl hgo
       · have hgo := (fin _ rfl).2 (by rw [hin, a1]; rfl)
         simp (maxSteps := 400000) only [go_sem, c1, c2, hr, Wt.l, h1, h2, h3, h4, h5, h6, h7, h9, h10, hk53, a1, simprocAttr]
         exact hKr _ _ _ rfl hgo
 · have c1 : decide ((k : Int) < (l.length : Int)) = false := decide_eq_false (by omega)
   obtain rfl : k = l.length := by omega
   rw [List.drop_length] at hinv
   simp (maxSteps := 400000) only [go_sem, c1, simprocAttr]
   exact hK0 _ _ _ hinv
theorem w12 (w : Ws) (hl : w.l.length ≤ 1000000000000) : FTL Try.prog 12 [.agg w.a] [] 0 (.b (goodB w)) [] 0 := by
 have loop := fun {K : Kont} {e : Env} {h : Hp} {n : Nat} (h1 : w.l.length ≤ 64) (h2 : inI 0 TT w.ti = true) (h3 : inI 0 65535 w.tp = true) => loop12 w h1 h2 h3 (K := K) (e := e) (h := h) (n := n)
 have hgd : goodB w = ((inI 0 TT w.ti && (inI 0 65535 w.tp && (decide (w.l.length ≤ 64) && (w.st || (w.tp == 0 && w.l.length == 0))))) && chk w.ti w.tp (-1001) w.l) := rfl
 generalize hg : goodB w = gd at hgd ⊢
 obtain ⟨ti, st, tp, l⟩ := w
 simp only [TT] at hgd loop
 simp only [Ws.a] at loop hgd ⊢
 have n1 : decide ((l.length : Int) > 64) = !decide (l.length ≤ 64) := by rw [Bool.eq_iff_iff]; simp; omega
 have n2 : ((l.length : Int) == 0) = (l.length == 0) := by rw [Bool.eq_iff_iff]; simp
 have hLb : belL 1 (rows Wt.l l) = true := belL_mono0 _ (rows_bel Wt.bel)
 refine FTL.of_iw hT6 mo Try.func12 i12_eq (by simp [i12]) (iw_of_jw ?_)
 dsimp only [i12, T6]
 cases a1 : inI 0 1099511627776 ti
 · simp (maxSteps := 400000) only [go_sem, k52, a1, simprocAttr]
   exact Ends.pureE rfl (by rw [hgd, a1]; rfl)
 cases st
 · have e0 : (tp == 0) = true → l.length = 0 → chk ti tp (-1001) l = true := fun _ h => by rw [List.length_eq_zero_iff.1 h]; rfl
   cases a5 : (tp == 0)
   · simp (maxSteps := 400000) only [go_sem, k52, a1, a5, simprocAttr]
     exact Ends.pureE rfl (by rw [hgd, a5]; simp)
   · cases a6 : (l.length == 0)
     · simp (maxSteps := 400000) only [go_sem, k52, a1, a5, a6, n2, simprocAttr]
       exact Ends.pureE rfl (by rw [hgd, a5, a6]; simp)
     · simp (maxSteps := 400000) only [go_sem, k52, a1, a5, a6, n2, simprocAttr]
       have h0 : l.length = 0 := by simpa using a6
       have htp : tp = 0 := by simpa using a5
       exact Ends.pureE rfl (by rw [hgd, a1, e0 a5 h0, h0, htp]; rfl)
 · cases b1 : decide (tp < 0)
   rotate_left
   · have a2 : inI 0 65535 tp = false := by simp only [inI]; rw [decide_eq_false (by have := of_decide_eq_true b1; omega)]; rfl
     simp (maxSteps := 400000) only [go_sem, k52, a1, b1, simprocAttr]
     exact Ends.pureE rfl (by rw [hgd, a1, a2]; rfl)
   cases b2 : decide (tp > 65535)
   rotate_left
   · have a2 : inI 0 65535 tp = false := by simp only [inI]; rw [decide_eq_false (p := tp ≤ 65535) (by have := of_decide_eq_true b2; omega), Bool.and_false]
     simp (maxSteps := 400000) only [go_sem, k52, a1, b1, b2, simprocAttr]
     exact Ends.pureE rfl (by rw [hgd, a1, a2]; rfl)
   have a2 : inI 0 65535 tp = true := inI_of (by have := of_decide_eq_false b1; have := of_decide_eq_false b2; omega)
   cases a3 : decide (l.length ≤ 64)
   · simp (maxSteps := 400000) only [go_sem, k52, a1, b1, b2, n1, a3, simprocAttr]
     exact Ends.pureE rfl (by rw [hgd, a3]; simp)
   have hgd' : gd = chk ti tp (-1001) l := by rw [hgd, a1, a2, a3]; simp
   simp (maxSteps := 400000) only [go_sem, k52, a1, b1, b2, n1, a3, simprocAttr]
   refine loop (of_decide_eq_true a3) a1 a2 ?_ ?_ (fun e' h' n' q => ?_) (fun e' h' n' q1 q2 => ?_)
   · simp (maxSteps := 400000) only [go_sem, AV.bel, belL, nblt, hLb, simprocAttr]
   · simp (maxSteps := 400000) only [go_sem, AV.bel, belL, nblt, hLb, simprocAttr]
   · simp (maxSteps := 400000) only [go_sem, simprocAttr]
     exact Ends.pureE rfl (by rw [hgd', q])
   · simp (maxSteps := 400000) only [go_sem, q1, simprocAttr]
     exact Ends.pureE rfl (by rw [hgd', q2])
def k12 : Ct
 | [.agg c], _, n => (wsA c).bind fun w => some (decide (w.l.length ≤ 1000000000000), { v := .b (goodB w), n })
 | _, _, _ => none
theorem s12 : SoundAt Try.prog 12 k12 := fun args h n c E hc ht => by
 unfold k12 at hc
 split at hc
 · simp only [Option.bind_eq_some_iff] at hc
   obtain ⟨w, hw, he⟩ := hc
   cases he
   obtain ⟨h1, h2⟩ := wsA_k hw
   exact CallOK.pure (by kernel_rfl) (by simp only [belL, AV.bel, h2, Bool.and_self]) rfl (FTL.wkaH h1 (w12 w (of_decide_eq_true ht))) _ _
 · cases hc
end Go.Proofs.Res
