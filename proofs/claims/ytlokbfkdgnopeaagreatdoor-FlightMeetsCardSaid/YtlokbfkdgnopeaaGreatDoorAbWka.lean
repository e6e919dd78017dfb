/- The abstract layer, part 70: values that stand for what other values stand for (arguments forgotten in part). -/
import Derived.Test.YtlokbfkdgnopeaaGreatDoorAbFzs
import Derived.Test.YtlokbfkdgnopeaaGreatDoorAbGvs
namespace Go.Ab
set_option maxRecDepth 100000
set_option linter.unusedSimpArgs false
set_option linter.unusedVariables false
def Wka (a b : AV) : Prop := ∀ D φ u, VRel D φ a u → VRel D φ b u
def WkaL : List AV → List AV → Prop
 | [], [] => True
 | a :: l, b :: m => Wka a b ∧ WkaL l m
 | _, _ => False
theorem WkaL.all {D : Nat → Prop} {φ : Phi} : ∀ {l m : List AV} {us : List Value}, WkaL l m → All2 D φ l us → All2 D φ m us
 | [], [], _, _, h => h
 | a :: l, b :: m, us, h, h2 => by
  obtain ⟨u, us', rfl, hu, ht⟩ := h2.uncons
  exact .cons (h.1 _ _ _ hu) (WkaL.all h.2 ht)
 | [], _ :: _, _, h, _ => h.elim
 | _ :: _, [], _, h, _ => h.elim
theorem Wka.refl (a : AV) : Wka a a := fun _ _ _ h => h
theorem Wka.ns : Wka .ns (.fz [] 0) := fun _ _ _ h => by cases h; exact .fz0 _ _ _ (fun _ => rfl)
theorem Wka.ze : Wka .ze (.fz [] 0) := fun _ _ _ h => by cases h; exact .fz0 _ _ _ (fun _ => rfl)
theorem Wka.agg {l m : List AV} (h : WkaL l m) : Wka (.agg l) (.agg m) := fun D φ u hu => by
 obtain ⟨us, rfl, ha⟩ := hu.agg_inv
 exact VRel.agg' (h.all ha)
theorem FTL.wka {P : Program} {f : FuncId} {xs ys : List AV} {h h' : Hp} {n n' : Nat} {v : AV} (hw : WkaL xs ys) (hf : FTL P f ys h n v h' n') : FTL P f xs h n v h' n' :=
 fun D φ w us hD hH hA => hf D φ w us hD hH (hw.all hA)
theorem WkaL.refl : ∀ l : List AV, WkaL l l
 | [] => trivial
 | a :: l => ⟨Wka.refl a, WkaL.refl l⟩
theorem FTL.wkaH {P : Program} {f : FuncId} {a b : AV} {r : List AV} {h h' : Hp} {n n' : Nat} {v : AV} (hw : Wka a b) (hf : FTL P f (b :: r) h n v h' n') : FTL P f (a :: r) h n v h' n' :=
 FTL.wka (xs := a :: r) (ys := b :: r) ⟨hw, WkaL.refl r⟩ hf
theorem Wka.take (l : List AV) (k m : Nat) : Wka (.fz l m) (.fz (l.take k) m) := fun D φ u h => by
 have hlen : (l.take k).length ≤ l.length := List.length_take_le' _ _
 cases h with
 | fz _ _ B o cap vs hB hc hs h =>
  refine .fz _ _ B o cap vs hB hc (fun i hi => hs i (by omega)) (fun i a u h1 h2 => h i a u ?_ h2)
  rw [List.getElem?_take] at h1
  split at h1
  · exact h1
  · cases h1
 | fz0 _ x cap hc => exact .fz0 _ x cap hc
theorem WkaL.len : ∀ {l m : List AV}, WkaL l m → l.length = m.length
 | [], [], _ => rfl
 | a :: l, b :: m, h => by simp only [List.length_cons, WkaL.len h.2]
 | [], _ :: _, h => h.elim
 | _ :: _, [], h => h.elim
theorem WkaL.get : ∀ {l m : List AV} {i : Nat} {b : AV}, WkaL l m → m[i]? = some b → ∃ a, l[i]? = some a ∧ Wka a b
 | [], [], i, b, _, h => by simp at h
 | a :: l, c :: m, 0, b, h, h2 => by
  simp only [List.getElem?_cons_zero, Option.some.injEq] at h2
  subst h2
  exact ⟨a, rfl, h.1⟩
 | a :: l, c :: m, i + 1, b, h, h2 => by
  rw [List.getElem?_cons_succ] at h2
  obtain ⟨a', h3, h4⟩ := WkaL.get h.2 h2
  exact ⟨a', by rw [List.getElem?_cons_succ]; exact h3, h4⟩
 | [], _ :: _, _, _, h, _ => h.elim
 | _ :: _, [], _, _, h, _ => h.elim
theorem WkaL.app : ∀ {l m l' m' : List AV}, WkaL l m → WkaL l' m' → WkaL (l ++ l') (m ++ m')
 | [], [], _, _, _, h => h
 | a :: l, b :: m, _, _, h, h2 => ⟨h.1, WkaL.app h.2 h2⟩
 | [], _ :: _, _, _, h, _ => h.elim
 | _ :: _, [], _, _, h, _ => h.elim
theorem Wka.fz {l m : List AV} {n : Nat} (hw : WkaL l m) : Wka (.fz l n) (.fz m n) := fun D φ u h => by
 have hlen := hw.len
 cases h with
 | fz _ _ B o cap vs hB hc hs h =>
  refine .fz _ _ B o cap vs hB hc (fun i hi => hs i (by omega)) (fun i b u h1 h2 => ?_)
  obtain ⟨a, ha, hab⟩ := hw.get h1
  exact hab _ _ _ (h i a u ha h2)
 | fz0 _ x cap hc => exact .fz0 _ x cap hc
end Go.Ab
