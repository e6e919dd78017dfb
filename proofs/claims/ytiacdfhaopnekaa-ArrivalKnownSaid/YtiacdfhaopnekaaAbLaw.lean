/- The abstract layer, part 27: from a function's triple to a law's contract. -/
import Derived.Test.YtiacdfhaopnekaaAbOpen
import Derived.Carry
namespace Go.Ab
open Go.ChangeShapes Go.WideShapes Go.RowKit
set_option linter.unusedVariables false

section
variable {H : Type} {enc : TypeId × Value → H} {P : Program} {W : World}

theorem FRM.below {h : Hp} {φ : Phi} {w w' : World} {j m : Nat} {D : Nat → Prop} (hr : RoOK j m h D φ w) (hf : FRM (hget h) φ w w') : Below w.heap.size w w' :=
  ⟨hf.os, hf.tape, hf.output, hf.size, fun k hk => hf.block k hk (fun b x hb hro => by rw [(hr.at_ b x hb).2.2.1] at hro; cases hro)⟩

theorem law_calls {f : FuncId} {Ts : List Ty2} {ts : List TypeId} {args : Array Value} {ds : List (DataW H)} {ps : List MemPlace} {r : Reach} {base n' : Nat} {h' : Hp} {v : Bool} (hT : tys2 P Ts ts = true)
    (hv : ∀ (i : Nat) t v, ts[i]? = some t → args.toList[i]? = some v → Value.okWide P W r base t v) (h : DataW.TrodAll enc P W 0 (fun _ => true) true ts args.toList ds ps)
    (core : ∀ avs hp, ArgsShp Ts 0 avs hp → FTL P f avs hp Ts.length (.b v) h' n') : Calls P f args W fun e W' => e = .returned (.bool v) ∧ Below W.heap.size W W' := by
  obtain ⟨avs, hp, F, g1, g2⟩ := open_args (j := 0) hT hv h
  obtain ⟨k1, k2⟩ := g2 (fun b => b < Ts.length) ⟨fun b => (F b).1, fun b => (F b).2, fun _ => 0, fun _ => 0⟩ (fun b _ hb => ⟨rfl, rfl, by simpa using hb⟩)
  have hH : HR (fun b => b < Ts.length) ⟨fun b => (F b).1, fun b => (F b).2, fun _ => 0, fun _ => 0⟩ (hget hp) W :=
    ⟨fun b k hb => ⟨(k2.at_ b k hb).2.2.2.1, (k2.at_ b k hb).2.2.2.2⟩, fun b1 b2 x1 x2 _ hb1 _ hro => by rw [(k2.at_ b1 x1 hb1).2.2.1] at hro; cases hro⟩
  have := core avs hp g1 (fun b => b < Ts.length) _ W args.toList (fun b hb => hb) hH k1
  simp only [Array.toArray_toList] at this
  refine this.mono fun e w' hx => ?_
  obtain ⟨D', φ', u, rfl, _, hr, hS⟩ := hx
  cases hr
  exact ⟨rfl, FRM.below k2 hS.frm⟩

theorem Below.trodAll (hl : laidOutB P = true) {W' : World} (hb : Below W.heap.size W W') : ∀ {ts : List TypeId} {vs : List Value} {ds : List (DataW H)} {ps : List MemPlace}, (ts.all fun t => P.readableRec t && decide (t < P.types.size)) = true → (∀ x ∈ ps, x.block < W.heap.size) →
    DataW.TrodAll enc P W 0 (fun _ => true) true ts vs ds ps → DataW.TrodAll enc P W' 0 (fun b => decide (b < W.heap.size)) true ts vs ds ps
  | [], [], [], ps, _, _, h => h
  | t :: ts, v :: vs, d :: ds, ps, ht, hlt, ⟨p, q, h1, h2, e⟩ => by
    simp only [List.all_cons, Bool.and_eq_true, decide_eq_true_eq] at ht
    subst e
    exact ⟨p, q, Below.trod hl ht.1.1 ht.1.2 h1 hb (fun x hx => hlt x (by simp [hx])), Below.trodAll hl hb ht.2 (fun x hx => hlt x (by simp [hx])) h2, rfl⟩
  | [], _ :: _, _, _, _, _, h => h.elim
  | [], [], _ :: _, _, _, _, h => h.elim
  | _ :: _, [], _, _, _, _, h => h.elim
  | _ :: _, _ :: _, [], _, _, _, h => h.elim

/-- A law's contract: true; everything that came in reads as it did. -/
theorem law_post {f : FuncId} {fn : Func} {s : ChangeSpec} {Ts : List Ty2} {args : Array Value} {ds gs : List (DataW H)} {before : List MemPlace} {r : Reach} {base n' : Nat} {h' : Hp} {tb : TypeId} {fresh handsOn : Bool}
    (hT : tys2 P Ts fn.params.toList = true) (hl : laidOutB P = true) (hread : (fn.params.toList.all fun t => P.readableRec t && decide (t < P.types.size)) = true) (hres : fn.resultTypes = #[tb]) (htb : P.underlying tb = some .bool) (hvars : s.vars = [])
    (hspec : ∀ (l : List (DataW H)), l.length = Ts.length → s.fn H l = { results := [.lit (.bool true)], args := l })
    (hv : ∀ (j : Nat) t v, fn.params[j]? = some t → args[j]? = some v → Value.okWide P W r base t v) (hW : DataW.Whole enc P fn.params.toList s.vars false W args.toList ds gs before)
    (core : ∀ avs hp, ArgsShp Ts 0 avs hp → FTL P f avs hp Ts.length (.b true) h' n') : Calls P f args W fun e W' => ∃ v, e = .returned v ∧ s.post enc P fn false fresh handsOn false W args v W' := by
  have hW' := hW
  have hlt := hW.lt
  obtain ⟨p, q, hA, hV, rfl, hfz, hnd⟩ := hW
  rw [hvars] at hV
  obtain ⟨rfl, rfl⟩ := trodVars_none hV
  refine (law_calls hT (fun i t v ht hv' => hv i t v (by simpa using ht) (by simpa using hv')) hA core).mono fun e W' hx => ?_
  obtain ⟨rfl, hB⟩ := hx
  have hlen : ds.length = Ts.length := by
    have h1 : ∀ {ts : List TypeId} {vs : List Value} {ds : List (DataW H)} {ps : List MemPlace}, DataW.TrodAll enc P W 0 (fun _ => true) true ts vs ds ps → ds.length = ts.length := by
      intro ts
      induction ts with
      | nil => intro vs ds ps h; obtain ⟨_, rfl, _⟩ := trodAll_nil h; rfl
      | cons t ts ih => intro vs ds ps h; obtain ⟨_, _, _, _, _, _, _, rfl, _, _, h2⟩ := trodAll_cons h; simp [ih h2]
    have h2 : ∀ {Ts : List Ty2} {ts : List TypeId}, tys2 P Ts ts = true → Ts.length = ts.length := by
      intro Ts
      induction Ts with
      | nil => intro ts h; cases ts with
        | nil => rfl
        | cons => simp [tys2] at h
      | cons T Ts ih => intro ts h; cases ts with
        | nil => simp [tys2] at h
        | cons t ts => simp only [tys2, Bool.and_eq_true] at h; simp [ih h.2]
    rw [h1 hA, h2 hT]
  have hfn := hspec (ds ++ []) (by simpa using hlen)
  have hlt' : ∀ x ∈ p, x.block < W.heap.size := fun x hx => hlt x (by simpa using hx)
  refine ⟨_, rfl, ds, [], p ++ [], [], p, [], hW', ?_, ?_, ?_, hB.frame _, fun h => by cases h⟩
  · rw [hfn, hres]
    exact trodAll_mk1 (shut_bool htb _)
  · rw [hfn]
    simpa using Below.trodAll hl hB hread hlt' hA
  · rw [hfn, hvars]; rfl

end
end Go.Ab
