/- Texts laid as one: FlzC19 FlzC20. -/
import Derived.Test.YtlokbfkdgnopeaaGreatDoorFlzCf
import Derived.Test.YtlokbfkdgnopeaaGreatDoorAbVwT
import Derived.Test.YtlokbfkdgnopeaaGreatDoorAbAnys
import Derived.Test.YtlokbfkdgnopeaaGreatDoorAbLoopsS
section
/- Where a number lies among the halfs: cmp.Compare, the closure, BinarySearchFunc. -/
namespace Go.Proofs.Flz
open Go.Ab Go.Proofs.Flt
set_option maxRecDepth 100000
set_option maxHeartbeats 4000000
set_option linter.unusedSimpArgs false
set_option linter.unusedVariables false
theorem w84 (a : Int) : FTL Tryz.prog 84 [.i .i64 a] [] 0 (.b false) [] 0 := by
 refine FTL.of_iw Sound.nil mo Tryz.func84 i84_eq (by simp [i84]) (iw_of_jw ?_)
 dsimp only [i84]
 have : (a != a) = false := by simp
 simp (maxSteps := 400000) only [go_sem, this, simprocAttr]
 exact Ends.pureE rfl rfl
def k84 : Ct
 | [.i .i64 a], _, n => some (true, { v := .b false, n })
 | _, _, _ => none
theorem s84 : SoundAt Tryz.prog 84 k84 := fun args h n c E hc ht => by
 unfold k84 at hc
 split at hc
 · cases hc; exact CallOK.pure (by kernel_rfl) rfl rfl (w84 _) _ _
 · cases hc
def cmpZ (a b : Int) : Int := bif decide (a < b) then -1 else bif decide (a > b) then 1 else 0
def TC19 : List (Nat × Ct) := [(84, k84)]
theorem hTC19 : Sound Tryz.prog (cxT TC19) := Sound.cons s84 Sound.nil
theorem w63 (a b : Int) : FTL Tryz.prog 63 [.i .i64 a, .i .i64 b] [] 0 (.i .i64 (cmpZ a b)) [] 0 := by
 refine FTL.of_iw hTC19 mo Tryz.func63 i63_eq (by simp [i63]) (iw_of_jw ?_)
 dsimp only [i63, TC19]
 cases h1 : decide (a < b)
 · cases h2 : decide (a > b)
   · rw [show cmpZ a b = 0 by unfold cmpZ; rw [h1, h2]; rfl]
     simp (maxSteps := 400000) only [go_sem, k84, h1, h2, simprocAttr]
     exact Ends.pureE rfl rfl
   · rw [show cmpZ a b = 1 by unfold cmpZ; rw [h1, h2]; rfl]
     simp (maxSteps := 400000) only [go_sem, k84, h1, h2, simprocAttr]
     exact Ends.pureE rfl rfl
 · rw [show cmpZ a b = -1 by unfold cmpZ; rw [h1]; rfl]
   simp (maxSteps := 400000) only [go_sem, k84, h1, simprocAttr]
   exact Ends.pureE rfl rfl
def k63 : Ct
 | [.i .i64 a, .i .i64 b], _, n => some (true, { v := .i .i64 (cmpZ a b), n })
 | _, _, _ => none
theorem s63 : SoundAt Tryz.prog 63 k63 := fun args h n c E hc ht => by
 unfold k63 at hc
 split at hc
 · cases hc; exact CallOK.pure (by kernel_rfl) rfl rfl (w63 _ _) _ _
 · cases hc
def TC19b : List (Nat × Ct) := [(63, k63)]
theorem hTC19b : Sound Tryz.prog (cxT TC19b) := Sound.cons s63 Sound.nil
theorem w62 (x : Flt.Hf) (s : Int) : FTL Tryz.prog 62 [.agg x.l, .i .i64 s] [] 0 (.i .i64 (cmpZ x.sq s)) [] 0 := by
 obtain ⟨kd, ln, sq, bd, got⟩ := x
 refine FTL.of_iw hTC19b mo Tryz.func62 i62_eq (by simp [i62]) (iw_of_jw ?_)
 dsimp only [i62, TC19b]
 have hb := fun j => grB j got
 simp (maxSteps := 400000) only [go_sem, k63, Flt.Hf.l, AV.bel, belL, nblt, hb, simprocAttr]
 exact Ends.pureE rfl rfl
def k62 : Ct
 | [.agg c, .i .i64 s], _, n => (hf5 c).bind fun x => some (true, { v := .i .i64 (cmpZ x.sq s), n })
 | _, _, _ => none
theorem s62 : SoundAt Tryz.prog 62 k62 := fun args h n c E hc ht => by
 unfold k62 at hc
 split at hc
 · simp only [Option.bind_eq_some_iff] at hc
   obtain ⟨x, hx, he⟩ := hc
   cases he
   rw [hf5_eq hx]
   exact CallOK.pure (by kernel_rfl) (by simp only [belL, AV.bel, x.bel, Bool.and_self]) rfl (w62 x _) _ _
 · cases hc
def posH (s : Int) : List Flt.Hf → Nat
 | [] => 0
 | x :: r => bif decide (x.sq < s) then posH s r + 1 else 0
def fndH (s : Int) (l : List Flt.Hf) : Bool := match l[posH s l]? with
 | some x => cmpZ x.sq s == 0
 | none => false
theorem posH_eq {s : Int} : ∀ {l : List Flt.Hf} {i : Nat}, i ≤ l.length → (∀ k x, k < i → l[k]? = some x → x.sq < s) → (∀ x, l[i]? = some x → ¬ x.sq < s) → posH s l = i
 | [], 0, _, _, _ => rfl
 | [], i + 1, h, _, _ => by simp at h
 | x :: r, 0, _, _, h2 => by
  have := h2 x rfl
  simp only [posH, decide_eq_false this, cond_false]
 | x :: r, i + 1, h0, h1, h2 => by
  have hx := h1 0 x (by omega) rfl
  have := posH_eq (l := r) (i := i) (by simpa using h0) (fun k y hk hy => h1 (k + 1) y (by omega) (by simpa using hy)) (fun y hy => h2 y (by simpa using hy))
  simp only [posH, decide_eq_true hx, cond_true, this]
theorem cmpZ_lt {a b : Int} : decide (cmpZ a b < 0) = decide (a < b) := by
 unfold cmpZ
 cases h1 : decide (a < b) <;> cases h2 : decide (a > b) <;> rfl
def srtH (l : List Flt.Hf) : Prop := ∀ (i j : Nat) (x y : Flt.Hf), i < j → l[i]? = some x → l[j]? = some y → x.sq < y.sq
def TC19c : List (Nat × Ct) := [(62, k62)]
theorem hTC19c : Sound Tryz.prog (cxT TC19c) := Sound.cons s62 Sound.nil
theorem w61 (l : List Flt.Hf) (s : Int) (hl : l.length ≤ 64) (hs : srtH l) :
 FTL Tryz.prog 61 [.fz (rows Flt.Hf.l l) l.length, .i .i64 s, .fn 62 []] [] 0 (.tup [.i .i64 (posH s l : Nat), .b (fndH s l)]) [] 0 := by
 have h44 : ∀ (x : Flt.Hf) (h : Hp) n, k62 [.agg x.l, .i .i64 s] h n = some (true, { v := .i .i64 (cmpZ x.sq s), n }) := fun x h n => by
  simp only [k62, hf5_l, Option.bind_some]
 refine FTL.of_iw hTC19c mo Tryz.func61 i61_eq (by simp [i61]) (iw_of_jw ?_)
 dsimp only [i61, TC19c]
 have hL : ∀ (k : Nat) x, l[k]? = some x → List.take 5 (List.drop (k * 5) (rows Flt.Hf.l l)) = x.l := fun k x hk => rows_at Flt.Hf.len hk
 have hLb : ∀ j, belL j (rows Flt.Hf.l l) = true := fun j => hrB j l
 have hlen : ∀ x : Flt.Hf, x.l.length = 5 := fun x => rfl
 generalize rows Flt.Hf.l l = L at *
 simp (maxSteps := 400000) only [go_sem, AV.bel, belL, nblt, hLb, simprocAttr]
 refine Loop.by (F := ⟨Tryz.prog, cxT TC19c, [17, 31], 49, 0⟩) hTC19c mo (X := Nat × Nat) (fun x => x.1 ≤ x.2 ∧ x.2 ≤ l.length ∧ (∀ k y, k < x.1 → l[k]? = some y → y.sq < s) ∧ (∀ k y, x.2 ≤ k → l[k]? = some y → ¬ y.sq < s)) (fun x => x.2 - x.1)
  (fun x => [(0, .fz L l.length), (1, .i .i64 s), (2, .fn 62 []), (8, .i .i64 (l.length : Int)), (9, .i .i64 (x.1 : Int)), (10, .i .i64 (x.2 : Int))])
  (fun x => []) 0 (0, l.length) (by decide) ⟨Nat.zero_le _, Nat.le_refl _, fun k y hk => absurd hk (by omega), fun k y hk hy => by rw [List.getElem?_eq_none hk] at hy; cases hy⟩ ?_ ?_ (fun x hx => ?_)
 · simp (maxSteps := 400000) only [go_sem, AV.bel, belL, nblt, hLb, simprocAttr]
 · simp (maxSteps := 400000) only [go_sem, AV.bel, belL, nblt, hLb, simprocAttr]
 · obtain ⟨i, j⟩ := x
   obtain ⟨hij, hjn, hlo, hhi⟩ := hx
   dsimp only at hij hjn hlo hhi ⊢
   dsimp only [TC19c]
   by_cases hlt : i < j
   · have c1 : decide ((i : Int) < (j : Int)) = true := decide_eq_true (by omega)
     have w1 : IntKind.i64.wrap ((i : Int) + (j : Int)) = ((i + j : Nat) : Int) := by rw [wrapL (by omega) (by omega)]; omega
     have w2 : IntKind.u64.wrap ((i + j : Nat) : Int) = ((i + j : Nat) : Int) := by simp only [IntKind.wrap, IntKind.bits, IntKind.signed]; simp; omega
     have w3 : ((i + j : Nat) : Int).fdiv 2 = (((i + j) / 2 : Nat) : Int) := by rw [Int.fdiv_eq_ediv_of_nonneg _ (by decide)]; omega
     generalize hh : (i + j) / 2 = m at *
     have w4 : IntKind.u64.wrap (m : Int) = (m : Int) := by simp only [IntKind.wrap, IntKind.bits, IntKind.signed]; simp; omega
     have w5 : IntKind.i64.wrap (m : Int) = (m : Int) := wrapL (by omega) (by omega)
     have c2 : decide (0 ≤ (m : Int) ∧ (m : Int) < (l.length : Int)) = true := decide_eq_true (by omega)
     obtain ⟨x, hx⟩ : ∃ x, l[m]? = some x := ⟨_, List.getElem?_eq_getElem (by omega)⟩
     have hxx := hL m x hx
     have h44 := fun h n => h44 x h n
     have hle := hlen x
     have hcz : decide (cmpZ x.sq s < 0) = decide (x.sq < s) := cmpZ_lt
     cases hc : decide (x.sq < s)
     · rw [hc] at hcz
       simp (maxSteps := 400000) only [go_sem, c1, w1, w2, w3, w4, w5, c2, hxx, h44, hle, hcz, simprocAttr]
       have hc := of_decide_eq_false hc
       refine ⟨(i, m), ⟨⟨by dsimp only; omega, by dsimp only; omega, hlo, fun k y hk hy => ?_⟩, by dsimp only; omega⟩, hLb 0, rfl, rfl, rfl, rfl, rfl, rfl, rfl⟩
       rcases Nat.lt_or_ge m k with h | h
       · have := hs m k x y h hx hy
         omega
       · have : k = m := Nat.le_antisymm h hk
         subst this
         rw [hx] at hy; cases hy
         omega
     · rw [hc] at hcz
       simp (maxSteps := 400000) only [go_sem, c1, w1, w2, w3, w4, w5, c2, hxx, h44, hle, hcz, simprocAttr]
       have hc := of_decide_eq_true hc
       have w6 : IntKind.i64.wrap ((m : Int) + 1) = ((m + 1 : Nat) : Int) := by rw [wrapL (by omega) (by omega)]; omega
       refine ⟨(m + 1, j), ⟨⟨by dsimp only; omega, by dsimp only; omega, fun k y hk hy => ?_, hhi⟩, by dsimp only; omega⟩, hLb 0, rfl, rfl, rfl, by rw [w6], rfl, rfl, rfl⟩
       dsimp only at hk
       rcases Nat.lt_or_ge k m with h | h
       · have := hs k m y x h hy hx
         omega
       · have : k = m := by omega
         subst this
         rw [hx] at hy; cases hy
         omega
   · have c1 : decide ((i : Int) < (j : Int)) = false := decide_eq_false (by omega)
     have hpos : posH s l = i := posH_eq (by omega) hlo (fun x hx => hhi i x (by omega) hx)
     have hfnd : fndH s l = (match l[i]? with | some x => cmpZ x.sq s == 0 | none => false) := by unfold fndH; rw [hpos]
     rw [hpos, hfnd]
     by_cases hil : i < l.length
     · obtain ⟨x, hx⟩ : ∃ x, l[i]? = some x := ⟨_, List.getElem?_eq_getElem hil⟩
       have c2 : decide ((i : Int) < (l.length : Int)) = true := decide_eq_true (by omega)
       have c3 : decide (0 ≤ (i : Int) ∧ (i : Int) < (l.length : Int)) = true := decide_eq_true (by omega)
       have h44 := fun h n => h44 x h n
       have hle := hlen x
       have hxx := hL i x hx
       rw [hx]
       simp (maxSteps := 400000) only [go_sem, c1, c2, c3, h44, hxx, hle, simprocAttr]
       exact Ends.pureE rfl rfl
     · have c2 : decide ((i : Int) < (l.length : Int)) = false := decide_eq_false (by omega)
       rw [List.getElem?_eq_none (by omega)]
       simp (maxSteps := 400000) only [go_sem, c1, c2, simprocAttr]
       exact Ends.pureE rfl rfl
def ascB (l : List Flt.Hf) : Bool := match l with
 | [] => true
 | x :: r => r.all (fun y => decide (x.sq < y.sq)) && ascB r
theorem ascB_t : ∀ {l : List Flt.Hf}, ascB l = true → srtH l
 | [], _, i, j, x, y, _, hi, _ => by simp at hi
 | z :: r, h, i, j, x, y, hij, hi, hj => by
  simp only [ascB, Bool.and_eq_true, List.all_eq_true, decide_eq_true_eq] at h
  cases j with
  | zero => omega
  | succ j =>
   cases i with
   | zero => simp at hi; subst hi; exact h.1 y (List.mem_of_getElem? (by simpa using hj))
   | succ i => exact ascB_t h.2 i j x y (by omega) (by simpa using hi) (by simpa using hj)
def k61 : Ct
 | [a, .i .i64 s, .fn 62 []], h, n => vwK h 5 a fun rd m cs ok => (unrows 5 hf5 m cs).bind fun l => some (ok && decide (m ≤ 64) && ascB l, { v := .tup [.i .i64 (posH s l : Nat), .b (fndH s l)], n, rd })
 | _, _, _ => none
theorem s61 : SoundAt Tryz.prog 61 k61 := fun args h n c E hc ht => by
 unfold k61 at hc
 split at hc
 · rename_i a s
   rw [vwK_eq] at hc
   simp only [Option.bind_eq_some_iff] at hc
   obtain ⟨⟨rd, m, cs, ok⟩, hv, l, hl, hc⟩ := hc
   cases hc
   simp only [Bool.and_eq_true, decide_eq_true_eq] at ht
   obtain ⟨⟨rfl, hm⟩, hs⟩ := ht
   obtain ⟨rfl, rfl⟩ := unrows_eq (f := Flt.Hf.l) (fun c a h => hf5_eq h) hl
   exact CallOK.viewG (by kernel_rfl) (argsF := [.fz (rows Flt.Hf.l l) l.length, .i .i64 s, .fn 62 []]) ⟨vwK_sub hv (rows_bel Flt.Hf.bel) (fun c hc => hc), VwV.same rfl, VwV.same rfl, trivial⟩ rfl (w61 l s hm (ascB_t hs))
 · cases hc
end Go.Proofs.Flz
end
section
/- slices.Insert over the halfs; where a number goes. -/
namespace Go.Proofs.Flz
open Go.Ab Go.Proofs.Flt
set_option maxRecDepth 100000
set_option maxHeartbeats 4000000
set_option linter.unusedSimpArgs false
set_option linter.unusedVariables false
abbrev zs5 : List AV := [.i .i64 0, .i .i64 0, .i .i64 0, .s [], .ns]
theorem i64_gen : compF Tryz.prog Tryz.f64 = some (insI 5 64 zs5 85 86) := i64_eq
theorem s85 : SoundAt Tryz.prog 85 ovlK2 := ovl2_ok (by decide) Tryz.func85 (by kernel_rfl) (by kernel_rfl) (by kernel_rfl) (by kernel_rfl) (by kernel_rfl)
theorem hf_one (x : Flt.Hf) : oneAll x.l = true := rfl
def hfn : List AV → Option Flt.Hf
 | [.i .i64 a, .i .i64 b, .i .i64 c, .s d, .ns] => some ⟨a, b, c, d, []⟩
 | _ => none
theorem hfn_wka {c : List AV} {x : Flt.Hf} (h : hfn c = some x) : belL 0 c = true ∧ Wka (.fz c 1) (.fz (rows Flt.Hf.l [x]) 1) := by
 unfold hfn at h
 split at h
 · cases h
   refine ⟨rfl, Wka.fz ?_⟩
   exact ⟨Wka.refl _, Wka.refl _, Wka.refl _, Wka.refl _, Wka.ns, trivial⟩
 · cases h
theorem gv_b {h : Hp} {z b o m b' m' : Nat} {cs : List AV} {ok : Bool} (hg : gvK h z (.sg b o m) = some (b', m', cs, ok)) : b' = b ∧ m' = m := by
 simp only [gvK_g, Option.bind_eq_some_iff, Option.some.injEq, Prod.mk.injEq] at hg
 obtain ⟨k, _, h1, h2, _⟩ := hg
 exact ⟨h1.symm, h2.symm⟩
def k64 : Ct
 | [.ns, .i .i64 i, y], h, n => vwK h 5 y fun rd m cs ok => (hfn cs).bind fun x => some (ok && (wrt h rd && decide (i = 0 ∧ m = 1)), { v := .sg n 0 1, n := n + 1, rd, md := dels rd, nw := [(n, { cells := rows Flt.Hf.l [x], gr := some 5 })] })
 | [.sg b o q, .i .i64 i, y], h, n => vwK h 5 y fun rd m cs ok => (hfn cs).bind fun x => (gvK h 5 (.sg b o q)).bind fun g => (unrows 5 hf5 g.2.1 g.2.2.1).bind fun l =>
  some (ok && (wrt h rd && (g.2.2.2 && (!(inl rd b) && decide (0 ≤ i ∧ i.toNat ≤ l.length ∧ m = 1 ∧ l.length ≤ 1000000)))), { v := .sg n 0 (l.length + 1), n := n + 1, rd := b :: rd, md := dels (b :: rd), nw := [(n, { cells := rows Flt.Hf.l (Go.Ab.insL l [x] i.toNat), gr := some 5 })] })
 | _, _, _ => none
theorem s64 : SoundAt Tryz.prog 64 k64 := fun args h n c E hc ht => by
 unfold k64 at hc
 split at hc
 · rename_i i y
   rw [vwK_eq] at hc
   simp only [Option.bind_eq_some_iff, Option.some.injEq, Prod.mk.injEq] at hc
   obtain ⟨⟨rd, m, cs, ok⟩, hv, x, hx, hok, rfl⟩ := hc
   dsimp only at hx hok
   rw [ht] at hok
   simp only [Bool.and_eq_true, decide_eq_true_eq] at hok
   obtain ⟨rfl, hw, rfl, rfl⟩ := hok
   dsimp only at hw ⊢
   obtain ⟨hb, hwk⟩ := hfn_wka hx
   exact CallOK.giveN (by kernel_rfl) (argsF := [.ns, .i .i64 0, .fz (rows Flt.Hf.l [x]) 1]) ⟨VwV.same rfl, VwV.same rfl, (vwK_sub hv hb (fun b h => h)).wka hwk, trivial⟩ (hrB _ _) hw (ins_nsL mo Tryz.func64 i64_gen Flt.Hf.len Flt.Hf.bel [x] Nat.one_pos (by simp only [growMax, List.length_singleton]; omega))
 · rename_i b o q i y
   rw [vwK_eq] at hc
   simp only [Option.bind_eq_some_iff, Option.some.injEq, Prod.mk.injEq] at hc
   obtain ⟨⟨rd, m, cs, ok⟩, hv, x, hx, ⟨b', q', cs', ok'⟩, hg, l, hl, hok, rfl⟩ := hc
   dsimp only at hx hok
   rw [ht] at hok
   simp only [Bool.and_eq_true, decide_eq_true_eq, Bool.not_eq_true'] at hok
   obtain ⟨rfl, hw, rfl, hbr, hi0, hi, rfl, hll⟩ := hok
   dsimp only at hw hl hbr ⊢
   obtain ⟨rfl, rfl⟩ := gv_b hg
   obtain ⟨hb, hwk⟩ := hfn_wka hx
   obtain ⟨rfl, rfl⟩ := unrows_eq (f := Flt.Hf.l) (fun c a h => hf5_eq h) hl
   refine CallOK.liveG (by kernel_rfl) hg (hrB _ _) (hrB _ _) (postF := [.i .i64 i, .fz (rows Flt.Hf.l [x]) 1]) ⟨VwV.same rfl, (vwK_sub hv hb (fun b h => h)).wka hwk, trivial⟩ hbr (by decide) (by decide) hw (fun c hc => ?_)
   have := ins_slL (P := Tryz.prog) (row := Flt.Hf.l) mo Tryz.func64 i64_gen s85 Flt.Hf.len (by decide) (by decide) rfl Flt.Hf.bel hf_one l [x] i.toNat c hi hc Nat.one_pos (by simp only [growMax, List.length_singleton]; omega) (by simp only [List.length_singleton]; omega)
   rwa [Int.toNat_of_nonneg hi0] at this
 · cases hc
/-! where a half goes -/
theorem ins_s {α : Type} (x y : α) (l : List α) (i : Nat) : Go.Ab.insL (y :: l) [x] (i + 1) = y :: Go.Ab.insL l [x] i := rfl
theorem putH_at (p : Pc) : ∀ l : List Flt.Hf, posH p.sq l ≤ l.length ∧ (fndH p.sq l = true → ∃ x, l[posH p.sq l]? = some x ∧ x.sq = p.sq ∧ putH p l = (fillS x p).map fun h => l.set (posH p.sq l) h) ∧
 (fndH p.sq l = false → putH p l = (fillS (newH p) p).map fun h => Go.Ab.insL l [h] (posH p.sq l))
 | [] => ⟨Nat.le_refl _, fun h => (by cases h), fun _ => rfl⟩
 | h :: r => by
  by_cases h1 : h.sq < p.sq
  · have hp : posH p.sq (h :: r) = posH p.sq r + 1 := by simp only [posH, decide_eq_true h1, cond_true]
    have hfd : fndH p.sq (h :: r) = fndH p.sq r := by unfold fndH; rw [hp, List.getElem?_cons_succ]
    obtain ⟨i0, i1, i2⟩ := putH_at p r
    have hput : putH p (h :: r) = (putH p r).map (h :: ·) := by rw [putH, if_pos h1]
    rw [hp, hfd, hput]
    refine ⟨by simp only [List.length_cons]; omega, fun hf => ?_, fun hf => ?_⟩
    · obtain ⟨x, e1, e2, e3⟩ := i1 hf
      refine ⟨x, by rw [List.getElem?_cons_succ]; exact e1, e2, ?_⟩
      rw [e3]; cases fillS x p <;> rfl
    · rw [i2 hf]; cases fillS (newH p) p <;> rfl
  · have hp : posH p.sq (h :: r) = 0 := by simp only [posH, decide_eq_false h1, cond_false]
    have hfd : fndH p.sq (h :: r) = (cmpZ h.sq p.sq == 0) := by unfold fndH; rw [hp]; rfl
    rw [hp, hfd]
    refine ⟨Nat.zero_le _, fun hf => ?_, fun hf => ?_⟩
    · have he : h.sq = p.sq := by
       unfold cmpZ at hf
       rw [decide_eq_false h1, cond_false] at hf
       cases h2 : decide (h.sq > p.sq)
       · have := of_decide_eq_false h2; omega
       · rw [h2] at hf; cases hf
      refine ⟨h, rfl, he, ?_⟩
      rw [putH, if_neg h1, if_pos he]
      cases fillS h p <;> rfl
    · have he : ¬ h.sq = p.sq := fun e => by
       unfold cmpZ at hf
       rw [decide_eq_false h1, cond_false, decide_eq_false (by omega), cond_false] at hf
       cases hf
      rw [putH, if_neg h1, if_neg he]
      cases fillS (newH p) p <;> rfl
theorem hsB_asc {nx : Int} : ∀ {l : List Flt.Hf} {b : Option Int}, hsB nx b l = true → ascB l = true ∧ (∀ e, b = some e → ∀ x ∈ l, e < x.sq)
 | [], _, _ => ⟨rfl, fun _ _ _ h => by cases h⟩
 | h :: r, b, hh => by
  simp only [hsB, Bool.and_eq_true, decide_eq_true_eq] at hh
  obtain ⟨h1, h2, h3, h4, h5, h6⟩ := hh
  obtain ⟨a1, a2⟩ := hsB_asc h6
  have a2 := a2 h.sq rfl
  refine ⟨?_, fun e he x hx => ?_⟩
  · simp only [ascB, Bool.and_eq_true, List.all_eq_true, decide_eq_true_eq]
    exact ⟨a2, a1⟩
  · subst he
    simp only [decide_eq_true_eq] at h3
    rcases List.mem_cons.1 hx with rfl | hx
    · omega
    · have := a2 x hx; omega
theorem hsB_len {nx : Int} : ∀ {l : List Flt.Hf} {b : Option Int} {lo : Int}, hsB nx b l = true → (b = none → lo = nx) → (∀ e, b = some e → lo = e + 1) → lo ≤ nx + 4 → (l.length : Int) ≤ nx + 4 - lo
 | [], _, lo, _, _, _, h => by simp only [List.length_nil]; omega
 | h :: r, b, lo, hh, hb0, hb1, hlo => by
  simp only [hsB, Bool.and_eq_true, decide_eq_true_eq] at hh
  obtain ⟨h1, h2, h3, h4, h5, h6⟩ := hh
  have hge : lo ≤ h.sq := by
   cases b with
   | none => rw [hb0 rfl]; exact h1
   | some e => simp only [decide_eq_true_eq] at h3; rw [hb1 e rfl]; omega
  have := hsB_len (lo := h.sq + 1) h6 (fun e => by cases e) (fun e he => by cases he; rfl) (by omega)
  simp only [List.length_cons]
  omega
theorem hsB_all {nx : Int} : ∀ {l : List Flt.Hf} {b : Option Int}, hsB nx b l = true → ∀ x ∈ l, nx ≤ x.sq ∧ x.sq < min (nx + 4) 65536 ∧ halfB x = true
 | [], _, _, _, h => by cases h
 | h :: r, b, hh, x, hx => by
  simp only [hsB, Bool.and_eq_true, decide_eq_true_eq] at hh
  obtain ⟨h1, h2, h3, h4, h5, h6⟩ := hh
  rcases List.mem_cons.1 hx with rfl | hx
  · exact ⟨h1, h2, h4⟩
  · exact hsB_all h6 x hx
theorem grow1_len (got : List (Int × Int)) : ∀ s : List (Int × Int) × (Int × Int), (got.foldl grow1 s).1.length ≤ s.1.length + got.length := by
 induction got with
 | nil => intro s; simp
 | cons x r ih =>
  intro s
  have h1 : (grow1 s x).1.length ≤ s.1.length + 1 := by
   unfold grow1
   cases meetB s.2 x
   · simp
   · simp
  have := ih (grow1 s x)
  simp only [List.foldl_cons, List.length_cons]
  omega
theorem gotS_len (got : List (Int × Int)) (r : Int × Int) : (gotS got r).length ≤ got.length + 1 := by
 have := grow1_len got ([], r)
 unfold gotS
 dsimp only
 rw [(putG_perm _ _).length_eq, List.length_cons]
 simp only [List.length_nil] at this
 omega
theorem fill_len {h h' : Flt.Hf} {p : Pc} (hf : fillS h p = some h') : h'.got.length ≤ h.got.length + 1 ∧ h'.sq = h.sq ∧ h'.kd = h.kd := by
 unfold fillS at hf
 cases hc : ((h.kd == p.kd) && ((h.ln == p.ln) && h.got.all (agreeB h p))) with
 | false => rw [hc] at hf; cases hf
 | true =>
  rw [hc, cond_true] at hf
  cases hf
  refine ⟨?_, rfl, rfl⟩
  dsimp only
  split
  · omega
  · exact gotS_len _ _
theorem giveS_drop {hs : List Flt.Hf} {nx : Int} {d : Nat} {x : Flt.Hf} (hx : hs[d]? = some x) (hs2 : x.sq = nx + d) (hd : doneB x = true) :
 giveS (nx + d) (hs.drop d) = ((giveS (nx + (d + 1 : Nat)) (hs.drop (d + 1))).1, ⟨x.kd, x.sq, x.bd⟩ :: (giveS (nx + (d + 1 : Nat)) (hs.drop (d + 1))).2) := by
 have hlt := (List.getElem?_eq_some_iff.1 hx).1
 rw [List.drop_eq_getElem_cons hlt]
 rw [List.getElem?_eq_getElem hlt] at hx
 rw [Option.some.inj hx, giveS]
 have : (x.sq == nx + (d : Int)) = true := by rw [beq_iff_eq]; exact hs2
 rw [this, hd]
 simp only [Bool.and_self, cond_true]
 have e : nx + (d : Int) + 1 = nx + ((d + 1 : Nat) : Int) := by omega
 rw [e]
theorem giveS_stop {hs : List Flt.Hf} {nx : Int} {d : Nat} (h : ∀ x, hs[d]? = some x → ((x.sq == nx + (d : Int)) && doneB x) = false) : giveS (nx + d) (hs.drop d) = (⟨nx + d, hs.drop d⟩, []) := by
 rcases Nat.lt_or_ge d hs.length with hlt | hge
 · have := h _ (List.getElem?_eq_getElem hlt)
   rw [List.drop_eq_getElem_cons hlt, giveS, this]
   rfl
 · rw [List.drop_eq_nil_of_le hge]; rfl
end Go.Proofs.Flz
end
