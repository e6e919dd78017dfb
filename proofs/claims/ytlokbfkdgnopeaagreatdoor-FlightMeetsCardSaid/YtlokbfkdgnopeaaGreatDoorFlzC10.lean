/- Contracts: complete, and the closure of sound. -/
import Derived.Test.YtlokbfkdgnopeaaGreatDoorFlzCa
import Derived.Test.YtlokbfkdgnopeaaGreatDoorFltA
import Derived.Test.YtlokbfkdgnopeaaGreatDoorAbVwT
namespace Go.Proofs.Flz
open Go.Ab Go.Proofs.Flt
set_option maxRecDepth 100000
set_option maxHeartbeats 4000000
set_option linter.unusedSimpArgs false
set_option linter.unusedVariables false
theorem grB (j : Nat) (l : List (Int × Int)) : belL j (rows gp l) = true := belL_mono0 _ (rows_bel gp_bel)
theorem grR (ψ : Nat → Nat) (l : List (Int × Int)) : renL ψ (rows gp l) = rows gp l := renL_fix0 _ (rows_bel gp_bel)
def oneG (ln : Int) (got : List (Int × Int)) : Bool := match got with
 | [x] => (x.1 == 0) && (x.2 == ln)
 | _ => false
theorem w56 (h : Flt.Hf) (hl : h.got.length ≤ 9223372036854775807) : FTL Tryz.prog 56 [.agg h.l] [] 0 (.b (doneB h)) [] 0 := by
 obtain ⟨kd, ln, sq, bd, got⟩ := h
 refine FTL.of_iw (cx := cxT []) Sound.nil mo Tryz.func56 i56_eq (by simp [i56]) (iw_of_jw ?_)
 dsimp only [i56]
 have hb := fun j => grB j got
 cases a : (ln == 0)
 rotate_left
 · have : doneB ⟨kd, ln, sq, bd, got⟩ = true := by simp only [doneB, a, Bool.true_or]
   rw [this]
   simp (maxSteps := 400000) only [go_sem, Flt.Hf.l, a, AV.bel, belL, nblt, hb, simprocAttr]
   exact Ends.pureE rfl rfl
 have hD : doneB ⟨kd, ln, sq, bd, got⟩ = oneG ln got := by
  unfold doneB oneG; dsimp only; rw [a, Bool.false_or]
  match got with
  | [] => rfl
  | [_] => rfl
  | _ :: _ :: _ => rfl
 rw [hD]
 clear hD
 cases got with
 | nil =>
  have c : (((0 : Nat) : Int) == 1) = false := rfl
  have c2 : ((0 : Int) == 1) = false := rfl
  simp (maxSteps := 400000) only [go_sem, Flt.Hf.l, a, c, c2, AV.bel, belL, nblt, hb, List.length_nil, simprocAttr]
  exact Ends.pureE rfl rfl
 | cons x r =>
  cases r with
  | nil =>
   have c : (((1 : Nat) : Int) == 1) = true := rfl
   have c2 : ((1 : Int) == 1) = true := rfl
   have c3 : decide ((0 : Int) < ((1 : Nat) : Int)) = true := rfl
   have c4 : decide ((0 : Int) < (1 : Int)) = true := rfl
   obtain ⟨x1, x2⟩ := x
   have hO : oneG ln [(x1, x2)] = ((x1 == 0) && (x2 == ln)) := rfl
   rw [hO]
   simp (maxSteps := 400000) only [go_sem, Flt.Hf.l, a, c, c2, c3, c4, AV.bel, belL, nblt, hb, rows_cons, rows_nil, gp, List.length_singleton, simprocAttr]
   exact Ends.pureE rfl rfl
  | cons y r =>
   have c : ((((r.length + 1 + 1 : Nat)) : Int) == 1) = false := by simp; omega
   have hO : oneG ln (x :: y :: r) = false := rfl
   rw [hO]
   simp only [Flt.Hf.l, List.length_cons] at hl ⊢
   generalize rows gp (x :: y :: r) = L at hb ⊢
   generalize r.length + 1 + 1 = n at c hl ⊢
   simp (maxSteps := 400000) only [go_sem, a, c, AV.bel, belL, nblt, hb, simprocAttr]
   exact Ends.pureE rfl rfl
def isG (ln : Int) (b : Option (Int × Int)) (x : Int × Int) : Bool := decide (0 ≤ x.1) && (decide (x.1 < x.2) && (decide (x.2 ≤ ln) && (match b with | some e => decide (x.1 > e.2) | none => true)))
theorem gotB_snd (ln : Int) : ∀ (b : Option (Int × Int)) (l : List (Int × Int)), gotB ln (b.map (·.2)) l = sndB (isG ln) b l
 | _, [] => rfl
 | b, x :: r => by
  have ih := gotB_snd ln (some x) r
  simp only [Option.map_some] at ih
  simp only [gotB, sndB, isG, ih]
  cases b <;> simp only [Option.map_some, Option.map_none, Bool.and_assoc]
theorem w80 (h : Flt.Hf) (l : List (Int × Int)) (k : Nat) (x : Int × Int) (hx : l[k]? = some x) : FTL Tryz.prog 80 [bef 2 (rows gp l) k, .agg (gp x), .fp h.l 0] [] 0 (.b (isG h.ln (prv l k) x)) [] 0 := by
 obtain ⟨kd, ln, sq, bd, got⟩ := h
 obtain ⟨x1, x2⟩ := x
 refine FTL.of_iw (cx := cxT []) Sound.nil mo Tryz.func80 i80_eq (by simp [i80]) (iw_of_jw ?_)
 dsimp only [i80]
 have hb := fun j => grB j got
 cases a1 : decide (x1 ≥ 0)
 · have : isG ln (prv l k) (x1, x2) = false := by have := of_decide_eq_false a1; simp only [isG, decide_eq_false (show ¬ 0 ≤ x1 by omega), Bool.false_and]
   rw [this]
   simp (maxSteps := 400000) only [go_sem, Flt.Hf.l, gp, a1, AV.bel, belL, nblt, hb, simprocAttr]
   exact Ends.pureE rfl rfl
 have e1 : decide (0 ≤ x1) = true := decide_eq_true (by have := of_decide_eq_true a1; omega)
 cases a2 : decide (x1 < x2)
 · have : isG ln (prv l k) (x1, x2) = false := by simp only [isG, a2, Bool.false_and, Bool.and_false]
   rw [this]
   simp (maxSteps := 400000) only [go_sem, Flt.Hf.l, gp, a1, a2, AV.bel, belL, nblt, hb, simprocAttr]
   exact Ends.pureE rfl rfl
 cases a3 : decide (x2 ≤ ln)
 · have : isG ln (prv l k) (x1, x2) = false := by simp only [isG, a3, Bool.false_and, Bool.and_false]
   rw [this]
   simp (maxSteps := 400000) only [go_sem, Flt.Hf.l, gp, a1, a2, a3, AV.bel, belL, nblt, hb, simprocAttr]
   exact Ends.pureE rfl rfl
 have hI : isG ln (prv l k) (x1, x2) = (match prv l k with | some e => decide (x1 > e.2) | none => true) := by simp only [isG, e1, a2, a3, Bool.true_and]
 rw [hI]
 by_cases hk : k = 0
 · have e : bef 2 (rows gp l) k = .np := if_pos hk
   have e2 : prv l k = none := if_pos hk
   rw [e, e2]
   simp (maxSteps := 400000) only [go_sem, Flt.Hf.l, gp, a1, a2, a3, AV.bel, belL, nblt, hb, simprocAttr]
   exact Ends.pureE rfl rfl
 · have e : bef 2 (rows gp l) k = .fp (rows gp l) ((k - 1) * 2) := if_neg hk
   have hkl := (List.getElem?_eq_some_iff.1 hx).1
   obtain ⟨y, hy⟩ : ∃ y, l[k - 1]? = some y := ⟨_, List.getElem?_eq_getElem (by omega)⟩
   have e2 : prv l k = some y := by rw [prv, if_neg hk, hy]
   have g1 := rows_get (f := gp) (z := 2) (j := 1) gp_len hy rfl
   rw [e, e2]
   obtain ⟨y1, y2⟩ := y
   have hlb := fun j => grB j l
   generalize rows gp l = L at *
   simp (maxSteps := 400000) only [go_sem, Flt.Hf.l, gp, a1, a2, a3, g1, AV.bel, belL, nblt, hb, hlb, simprocAttr]
   exact Ends.pureE rfl rfl
/-! contracts -/
def gp2 : List AV → Option (Int × Int)
 | [.i .i64 a, .i .i64 b] => some (a, b)
 | _ => none
theorem gp2_l (x : Int × Int) : gp2 (gp x) = some x := rfl
theorem gp2_eq {c : List AV} {x : Int × Int} (h : gp2 c = some x) : c = gp x := by
 unfold gp2 at h
 split at h
 · cases h; rfl
 · cases h
def hf5 : List AV → Option Flt.Hf
 | [.i .i64 a, .i .i64 b, .i .i64 c, .s d, .fz L m] => (unrows 2 gp2 m L).map fun g => ⟨a, b, c, d, g⟩
 | _ => none
theorem hf5_l (x : Flt.Hf) : hf5 x.l = some x := by
 have : unrows 2 gp2 x.got.length (rows gp x.got) = some x.got := unrows_rows gp_len gp2_l x.got
 simp only [hf5, Flt.Hf.l, this, Option.map_some]
theorem hf5_eq {c : List AV} {x : Flt.Hf} (h : hf5 c = some x) : c = x.l := by
 unfold hf5 at h
 split at h
 · simp only [Option.map_eq_some_iff] at h
   obtain ⟨g, hg, rfl⟩ := h
   obtain ⟨rfl, rfl⟩ := unrows_eq (f := gp) (fun c a h => gp2_eq h) hg
   rfl
 · cases h
def k56 : Ct
 | [.agg c], _, n => (hf5 c).bind fun h => some (decide (h.got.length ≤ 9223372036854775807), { v := .b (doneB h), n })
 | _, _, _ => none
theorem s56 : SoundAt Tryz.prog 56 k56 := fun args h n c E hc ht => by
 unfold k56 at hc
 split at hc
 · simp only [Option.bind_eq_some_iff] at hc
   obtain ⟨x, hx, he⟩ := hc
   cases he
   rw [hf5_eq hx]
   exact CallOK.pure (by kernel_rfl) (by simp only [belL, AV.bel, x.bel, Bool.and_self]) rfl (w56 x (of_decide_eq_true ht)) _ _
 · cases hc
theorem w79 (h : Flt.Hf) (l : List (Int × Int)) (hl : l.length ≤ 9223372036854775807) : FTL Tryz.prog 79 [.fz (rows gp l) l.length, .fn 80 [.fp h.l 0]] [] 0 (.b (gotB h.ln none l)) [] 0 := by
 have e : gotB h.ln none l = sndB (isG h.ln) none l := gotB_snd h.ln none l
 rw [e]
 exact snd_fz (is := isG h.ln) mo Tryz.func79 (by kernel_rfl) (by kernel_rfl) gp_len gp_bel (by simp only [belL, AV.bel, h.bel, Bool.and_self]) l hl (fun k x hx => w80 h l k x hx)
def k79 : Ct
 | [.fz L m, .fn 80 [.p a 0]], h, n => (unrows 2 gp2 m L).bind fun l => (hget h a).bind fun ka => (hf5 ka.cells).bind fun x =>
  some (decide (m ≤ 9223372036854775807), { v := .b (gotB x.ln none l), n, rd := [a] })
 | _, _, _ => none
theorem s79 : SoundAt Tryz.prog 79 k79 := fun args h n c E hc ht => by
 unfold k79 at hc
 split at hc
 · rename_i L m a
   simp only [Option.bind_eq_some_iff] at hc
   obtain ⟨l, hl, ka, hka, x, hx, he⟩ := hc
   cases he
   have ht := of_decide_eq_true ht
   obtain ⟨rfl, hlm⟩ := unrows_eq (f := gp) (fun c a h => gp2_eq h) hl
   subst hlm
   refine CallOK.viewG (by kernel_rfl) (argsF := [.fz (rows gp l) l.length, .fn 80 [.fp ka.cells 0]]) ⟨VwV.same (by simp only [AV.bel, grB]), VwV.fn ⟨VwV.p (by simp [only, inl_cons, hka]) (by rw [hf5_eq hx]; exact x.bel), trivial⟩, trivial⟩ rfl ?_
   rw [hf5_eq hx]
   exact w79 x l ht
 · cases hc
end Go.Proofs.Flz
