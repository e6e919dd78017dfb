/- Texts laid as one: AbDel AbRf AbRf2. -/
import Derived.Test.YtlokbfkdgnopeaaGreatDoorAbFzs
import Derived.Test.YtlokbfkdgnopeaaGreatDoorAbShs
import Derived.Test.YtlokbfkdgnopeaaGreatDoorAbSimps
import Derived.Test.YtlokbfkdgnopeaaGreatDoorAbRead
section
/- The abstract layer, part 62: slices.Clone of a frozen slice; slices.DeleteFunc on a grown one. -/
namespace Go.Ab
set_option maxRecDepth 100000
set_option maxHeartbeats 4000000
set_option linter.unusedSimpArgs false
set_option linter.unusedVariables false
theorem FTL.nilOr {P : Program} {f : FuncId} {pre post : List AV} {l : List AV} {h h' : Hp} {n n' : Nat} {v' : AV} (h1 : FTL P f (pre ++ .ns :: post) h n v' h' n') (h2 : FTL P f (pre ++ .en :: post) h n v' h' n') : FTL P f (pre ++ .fz l 0 :: post) h n v' h' n' := by
 intro D φ w us hD hH hA
 have hi : (pre ++ .fz l 0 :: post)[pre.length]? = some (.fz l 0) := by simp
 obtain ⟨u, hu, hr⟩ := hA.get hi
 have go : ∀ y, VRel D φ y u → All2 D φ (pre ++ y :: post) us := fun y hy => ⟨by have := hA.1; simp at this ⊢; exact this, fun i a u' ha hu' => by
  by_cases hip : i = pre.length
  · subst hip
    simp at ha; subst ha
    rw [hu] at hu'; cases hu'; exact hy
  · refine hA.2 i a u' ?_ hu'
    rcases Nat.lt_or_ge i pre.length with hlt | hge
    · rw [List.getElem?_append_left hlt] at ha ⊢; exact ha
    · rw [List.getElem?_append_right hge] at ha ⊢
      obtain ⟨j, hj⟩ : ∃ j, i - pre.length = j + 1 := ⟨i - pre.length - 1, by omega⟩
      rw [hj] at ha ⊢; simpa using ha⟩
 cases hr with
 | fz _ _ B o cap vs hB hc hs hh => exact h2 D φ w us hD hH (go _ (.en _ _))
 | fz0 _ x cap hc0 =>
  cases x with
  | some x => exact h2 D φ w us hD hH (go _ (.en _ _))
  | none =>
   exact h1 D φ w us hD hH (go _ (by rw [hc0 rfl]; exact .ns))
theorem CovS.zeS {n0 n n2 : Nat} {v v' v2 : AV} {h h2 : Hp} {b o : Nat} (hf : FzV (.sl b o 0 0) .ze v v') (hc : CovS n0 v' h n v2 h2 n2) : CovS n0 v h n v2 h2 n2 := by
 intro D φ w D0 φ0 H0 w0 u hD0 hD hv hH hS
 exact hc D φ w D0 φ0 H0 w0 u hD0 hD (hf D φ u (fun u1 h1 => by cases h1; exact .ze _) hv) hH hS
theorem CovS.zeN {n0 n n2 : Nat} {v v' v2 : AV} {h h2 : Hp} (hf : FzV .ns .ze v v') (hc : CovS n0 v' h n v2 h2 n2) : CovS n0 v h n v2 h2 n2 := by
 intro D φ w D0 φ0 H0 w0 u hD0 hD hv hH hS
 exact hc D φ w D0 φ0 H0 w0 u hD0 hD (hf D φ u (fun u1 h1 => by cases h1; exact .ze _) hv) hH hS
abbrev clnC (z bytes : Nat) (zs : List AV) : ICode := (.seq (.reg [⟨some 2, .mv (.c .ns), none, false⟩]) (.seq (.seq (.reg [⟨some 3, .mv (.t 0), none, false⟩, ⟨some 4, .eqn false 1 (.t 3) (.c .ns), none, true⟩]) (.cond (.t 4) (.seq (.reg [⟨some 2, .mv (.c .ns), none, false⟩]) .ret) .skip))
 (.seq (.reg [⟨some 5, .bsl [] 0 [], none, false⟩, ⟨some 6, .mv (.t 0), none, false⟩, ⟨some 7, .app z bytes zs (.t 5) (.t 6), none, false⟩, ⟨some 2, .mv (.t 7), none, false⟩]) .ret)))
def clnI (z bytes : Nat) (zs : List AV) : IFn := { np := 1, N := 8, ct := [4], code := clnC z bytes zs, res := [.t 2] }
section
variable {P : Program} {f : FuncId} {fn : Func} {z bytes : Nat} {zs : List AV}
theorem cln_0 (hm : P.follows .mixedOrders = true) (hf : P.funcs[f]? = some fn) (hI : compF P fn = some (clnI z bytes zs)) (l : List AV) : FTL P f [.fz l 0] [] 0 .ze [] 0 := by
 refine FTL.nilOr (pre := []) (post := []) ?_ ?_
 · refine FTL.of_cov (cx := cxT []) Sound.nil hm hf hI (by simp [clnI]) (iw_of_jw ?_)
   dsimp only [clnI]
   simp (maxSteps := 400000) only [go_sem, simprocAttr]
   exact CovS.zeN FzV.hit (CovS.ends (Ends.pureE rfl rfl))
 · refine FTL.of_cov (cx := cxT []) Sound.nil hm hf hI (by simp [clnI]) (iw_of_jw ?_)
   dsimp only [clnI]
   simp (maxSteps := 400000) only [go_sem, simprocAttr]
   exact CovS.zeS FzV.hit (CovS.ends (Ends.pureE rfl rfl))
theorem cln_1 (hm : P.follows .mixedOrders = true) (hf : P.funcs[f]? = some fn) (hI : compF P fn = some (clnI z bytes zs)) {L : List AV} {m : Nat} (hL : L.length = (m + 1) * z) (hone : oneAll L = true) (hb : belL 0 L = true) (hz : bytes * (m + 1) ≤ growMax) :
 FTL P f [.fz L (m + 1)] [] 0 (.sg 0 0 (m + 1)) [(0, { cells := L, gr := some z })] 1 := by
 refine FTL.of_iw (cx := cxT []) Sound.nil hm hf hI (by simp [clnI]) (iw_of_jw ?_)
 dsimp only [clnI]
 have h1 : List.take ((m + 1) * z) L = L := List.take_of_length_le (by omega)
 have h2 : decide (bytes * (m + 1) ≤ growMax) = true := decide_eq_true hz
 simp (maxSteps := 400000) only [go_sem, h1, h2, hL, hone, Nat.zero_add, List.drop_zero, Nat.zero_mul, simprocAttr]
 exact Ends.new1 (b := 1) (by decide) rfl rfl rfl hb rfl
end
end Go.Ab
end
section
/- The abstract layer, part 61: loops over functions: a round's contract; the statement, by the iterator's contract over rounds. -/
namespace Go.Ab
open Go.RowKit
set_option linter.unusedVariables false
set_option linter.unusedSimpArgs false
mutual
def AV.nyl : AV → Bool
 | .p _ _ => true
 | .sl _ _ _ _ => true
 | .sg _ _ _ => true
 | .fn _ l => nylL l
 | .bm _ l => nylL l
 | .agg l => nylL l
 | .tup l => nylL l
 | .b _ => true
 | .i _ _ => true
 | .s _ => true
 | .np => true
 | .ns => true
 | .nf => true
 | .ni => true
 | .fz l _ => nylL l
 | .fp l _ => nylL l
 | .ze => true
 | .en => true
 | .any => true
 | .k _ _ => true
 | .yl _ _ _ _ => false
def nylL : List AV → Bool
 | [] => true
 | v :: r => v.nyl && nylL r
end
theorem nylL_spec : ∀ {l : List AV}, nylL l = true → ∀ v ∈ l, v.nyl = true
 | [], _, v, hv => by cases hv
 | x :: r, h, v, hv => by
  simp only [nylL, Bool.and_eq_true] at h
  rcases List.mem_cons.1 hv with rfl | hv
  · exact h.1
  · exact nylL_spec h.2 v hv
theorem nylL_append {a b : List AV} : nylL (a ++ b) = (nylL a && nylL b) := by
 induction a with
 | nil => rfl
 | cons x a ih => simp only [List.cons_append, nylL, ih, Bool.and_assoc]
def Phi.lpT (φ : Phi) (X : Nat → Option Go.Loop) : Phi := { φ with lp := X }
theorem VRel.nyl {D : Nat → Prop} {φ : Phi} {X : Nat → Option Go.Loop} {v : AV} {u : Value} (h : VRel D φ v u) : v.nyl = true → VRel D (φ.lpT X) v u := by
 induction h with
 | b x => intro _; exact .b x
 | i k n => intro _; exact .i k n
 | s l => intro _; exact .s l
 | np => intro _; exact .np
 | p b o h => intro _; exact .p (φ := φ.lpT X) b o h
 | ns => intro _; exact .ns
 | sl b o len cap h => intro _; exact .sl (φ := φ.lpT X) b o len cap h
 | sg b o len j cap h hj hc hl => intro _; exact .sg (φ := φ.lpT X) b o len j cap h hj hc hl
 | fn f l cs hf hl h ih => intro hp; exact .fn f l cs hf hl (fun i a u ha hu => ih i a u ha hu (nylL_spec hp a (List.mem_of_getElem? ha)))
 | bm f l cs hf hl h ih => intro hp; exact .bm f l cs hf hl (fun i a u ha hu => ih i a u ha hu (nylL_spec hp a (List.mem_of_getElem? ha)))
 | nf => intro _; exact .nf
 | ni => intro _; exact .ni
 | agg l cs hl h ih => intro hp; exact .agg l cs hl (fun i a u ha hu => ih i a u ha hu (nylL_spec hp a (List.mem_of_getElem? ha)))
 | tup l cs hl h ih => intro hp; exact .tup l cs hl (fun i a u ha hu => ih i a u ha hu (nylL_spec hp a (List.mem_of_getElem? ha)))
 | fz l n B o cap vs hB hc hs h ih => intro hp; exact .fz (φ := φ.lpT X) l n B o cap vs hB hc hs (fun i a u ha hu => ih i a u ha hu (nylL_spec hp a (List.mem_of_getElem? ha)))
 | fz0 l x cap hc => intro _; exact .fz0 l x cap hc
 | fp l k B o vs hB hs h ih => intro hp; exact .fp (φ := φ.lpT X) l k B o vs hB hs (fun i a u ha hu => ih i a u ha hu (nylL_spec hp a (List.mem_of_getElem? ha)))
 | ze x => intro _; exact .ze x
 | en x cap => intro _; exact .en x cap
 | any u => intro _; exact .any u
 | k t u => intro _; exact .k t u
 | yl L r ts l hL h ih => intro hp; cases hp
theorem VRel.lpUp {D : Nat → Prop} {φ : Phi} {X : Nat → Option Go.Loop} {v : AV} {u : Value} (hX : ∀ L r, φ.lp L = some r → X L = some r) (h : VRel D φ v u) : VRel D (φ.lpT X) v u :=
 VRel.mono' (φ := φ) (φ' := φ.lpT X) (fun _ h => h) (fun _ _ => ⟨rfl, rfl, rfl, rfl⟩) (fun _ _ h => h) hX h
theorem HR.lpT {D : Nat → Prop} {φ : Phi} {X : Nat → Option Go.Loop} {H : Hf} {w : World} (h : HR D φ H w) (hv : ∀ b k v u, H b = some k → v ∈ k.cells → VRel D φ v u → VRel D (φ.lpT X) v u) (hl : ∀ L r, X L = some r → w.heap[L]? = some (.loop r)) : HR D (φ.lpT X) H w :=
 ⟨⟨fun b k hb => ⟨(h.at_ b k hb).1, by
   obtain ⟨⟨cs, elem, fr, h1, h2, h3, h4⟩, h5⟩ := (h.at_ b k hb).2
   refine ⟨⟨cs, elem, fr, h1, fun i v hv' => ?_, h3, h4⟩, h5⟩
   obtain ⟨u, hu, hr⟩ := h2 i v hv'
   exact ⟨u, hu, hv b k v u hb (List.mem_of_getElem? hv') hr⟩⟩, h.sep⟩, h.fz, hl, h.fsep⟩
theorem Stp.lpT {D D' : Nat → Prop} {φ φ' : Phi} {X : Nat → Option Go.Loop} {H H' : Hf} {w w' : World} (h : Stp D φ H w D' φ' H' w') (hr : HR D' (φ'.lpT X) H' w') : Stp D (φ.lpT X) H w D' (φ'.lpT X) H' w' :=
 ⟨h.sub, ⟨h.agree.at_, h.agree.fz, rfl⟩, hr, ⟨h.frm.os, h.frm.tape, h.frm.output, h.frm.size, h.frm.block⟩, h.img, h.fnew⟩
theorem Stp.turn {D D' : Nat → Prop} {φ φ' : Phi} {H H' : Hf} {w w1 w' w1' : World} (h : Stp D φ H w D' φ' H' w1) (hr : HR D' φ' H' w1') (hos : w1'.os = w'.os) (ht : w1'.tape = w'.tape) (ho : w1'.output = w'.output) (hsz : w'.heap.size = w.heap.size) (hsz1 : w1'.heap.size = w1.heap.size) (L : Nat)
 (hb : ∀ c, c ≠ L → w'.heap[c]? = w.heap[c]?) (hb1 : ∀ c, c ≠ L → w1'.heap[c]? = w1.heap[c]?) (hL : w1'.heap[L]? = w'.heap[L]?) : Stp D φ H w' D' φ' H' w1' :=
 ⟨h.sub, h.agree, hr, ⟨hos, ht, ho, by rw [hsz, hsz1]; exact h.frm.size, fun c hc hn => by
   by_cases hcL : c = L
   · rw [hcL]; exact hL
   · rw [hb1 c hcL, hb c hcL]; exact h.frm.block c (by rw [← hsz]; exact hc) hn⟩, fun b k hb' hk => by rw [hsz]; exact h.img b k hb' hk, fun B vs hB => by rw [hsz]; exact h.fnew B vs hB⟩
def nrI : ICode → Bool
 | .seq a b => nrI a && nrI b
 | .cond _ a b => nrI a && nrI b
 | .block _ c => nrI c
 | .loop c => nrI c
 | .scope c => nrI c
 | .rfunc _ _ _ _ => false
 | .bad => false
 | _ => true
theorem nrI_spec {P : Program} {ct : List Nat} {N : Nat} : ∀ {c : Code}, nrI (compC P ct N c) = true → noRF c = true := by
 intro c
 induction c with
 | seq a b iha ihb => intro h; simp only [compC, nrI, Bool.and_eq_true] at h; simp only [noRF, Bool.and_eq_true]; exact ⟨iha h.1, ihb h.2⟩
 | cond x a b iha ihb =>
  intro h
  simp only [compC] at h
  split at h
  · simp [nrI] at h
  · simp only [nrI, Bool.and_eq_true] at h; simp only [noRF, Bool.and_eq_true]; exact ⟨iha h.1, ihb h.2⟩
  · simp [nrI] at h
 | block id c ih => intro h; exact ih h
 | loop c ih => intro h; exact ih h
 | scope c ih => intro h; exact ih h
 | rangeFunc g ps a b iha ihb =>
  intro h
  simp only [compC] at h
  split at h <;> simp [nrI] at h
 | _ => intro h; rfl
def asg : List Nat → List AV → Env → Env
 | t :: ts, a :: as, e => asg ts as ((t, a) :: e)
 | _, _, e => e
def zipE : List Nat → List AV → Env
 | t :: ts, a :: as => (t, a) :: zipE ts as
 | _, _ => []
theorem zipE_get {t : Nat} {v : AV} : ∀ {ts : List Nat} {l : List AV}, eget (zipE ts l) t = some v → ∃ i : Nat, ts[i]? = some t ∧ l[i]? = some v
 | [], _, h => by simp [zipE, eget] at h
 | _ :: _, [], h => by simp [zipE, eget] at h
 | s :: ts, a :: l, h => by
  simp only [zipE, eget] at h
  by_cases hs : t = s
  · subst hs; simp at h; subst h; exact ⟨0, rfl, rfl⟩
  · rw [beq_ne hs] at h
    obtain ⟨i, h1, h2⟩ := zipE_get h
    exact ⟨i + 1, by simpa using h1, by simpa using h2⟩
theorem asg_rel {D : Nat → Prop} {φ : Phi} : ∀ {ts : List Nat} {as : List AV} {vs : List Value} {e : Env} {T : Array Value}, All2 D φ as vs → ts.length = as.length → (∀ t ∈ ts, t < T.size) → (∀ t v, eget e t = some v → VRel D φ v (T.getD t undef)) →
 ∀ t v, eget (asg ts as e) t = some v → VRel D φ v (((ts.zip vs).foldl (fun (T : Array Value) (x : Nat × Value) => T.setIfInBounds x.1 x.2) T).getD t undef)
 | [], as, vs, e, T, _, _, _, he, t, v, h => he t v (by simpa [asg] using h)
 | s :: ts, [], vs, e, T, _, hl, _, he, t, v, h => by simp at hl
 | s :: ts, a :: as, vs, e, T, ha, hl, hT, he, t, v, h => by
  obtain ⟨u, vs', rfl, hu, ha'⟩ := ha.uncons
  simp only [List.zip_cons_cons, List.foldl_cons]
  refine asg_rel ha' (by simpa using hl) (fun t' ht' => by simp; exact hT t' (List.mem_cons_of_mem _ ht')) (fun t' v' h' => ?_) t v h
  simp only [eget] at h'
  by_cases hs : t' = s
  · subst hs
    simp at h'; subst h'
    have : t' < T.size := hT t' List.mem_cons_self
    rw [Array.getD_eq_getD_getElem?]
    simp [this]; exact hu
  · rw [beq_ne hs] at h'
    have := he t' v' (by simpa using h')
    rw [Array.getD_eq_getD_getElem?] at this ⊢
    rw [Array.getElem?_setIfInBounds_ne (fun e => hs e.symm)]
    exact this
theorem foldl_size : ∀ (l : List (Nat × Value)) (T : Array Value), (l.foldl (fun (T : Array Value) (x : Nat × Value) => T.setIfInBounds x.1 x.2) T).size = T.size
 | [], T => rfl
 | x :: l, T => by simp only [List.foldl_cons]; rw [foldl_size l]; simp
def RoundW (F : Fx) (ps : List Nat) (A B : ICode) (ts : List Nat) (cs as : List AV) (h1 : Hp) (n1 : Nat) (h2 : Hp) (n2 : Nat) : Prop :=
 iw { F with n0 := n1 } A (thenK (fun _ _ _ _ => False) fun e h n => iw { F with n0 := n1 } B (fun ex e3 h3 n3 => match ex with | .normal => Ends n1 (.b true) h3 n3 (.b true) h2 n2 | _ => False) e h n) (asg ps as (zipE ts cs)) h1 n1
structure RecOK (F : Fx) (ps : List Nat) (A B : ICode) (r : Go.Loop) : Prop where
 state : r.state = .ready
 pending : r.pending = none
 params : r.params = ps.toArray
 as : compC F.P F.ct F.N r.assign = A
 bd : compC F.P F.ct F.N r.body = B
 size : r.tmps.size = F.N
theorem FTL.round {F : Fx} (hcx : Sound F.P F.cx) (hm : F.P.follows .mixedOrders = true) {ps : List Nat} {A B : ICode} {L : Nat} {r : Go.Loop} (hr : RecOK F ps A B r) (hnA : nrI A = true) (hnB : nrI B = true) (hps : (ps.all fun t => decide (t < F.N)) = true)
 {ts : List Nat} {cs as : List AV} {h1 : Hp} {n1 : Nat} {h2 : Hp} {n2 : Nat} (hlen : ps.length = as.length) (hyc : nylL cs = true) (hya : nylL as = true) (hyh : ∀ b k, hget h1 b = some k → nylL k.cells = true)
 (hw : RoundW F ps A B ts cs as h1 n1 h2 n2) : FTL F.P YB (.yl L r ts cs :: as) h1 n1 (.b true) h2 n2 := by
 intro D φ w us hD0 hH hargs
 obtain ⟨u0, vs, rfl, hu0, hvs⟩ := hargs.uncons
 generalize hgen : AV.yl L r ts cs = y at hu0
 cases hu0 <;> cases hgen
 rename_i hL henv
 have hLw := hH.lp L r hL
 let X : Nat → Option Go.Loop := fun L' => if L' = L then none else φ.lp L'
 let D1 : Nat → Prop := fun b => b < n1
 -- the relation, but for this loop's record
 have hHb : HR D1 (φ.lpT X) (hget h1) w := by
  refine ((hH.lpT (X := X) (fun b k v u hb hv hr => hr.nyl (nylL_spec (hyh b k hb) v hv)) (fun L' r' h => ?_)).grow (D' := D1) hD0)
  simp only [X] at h
  split at h
  · cases h
  · exact hH.lp L' r' h
 have hvsb : All2 D1 (φ.lpT X) as vs := ⟨hvs.1, fun i a u ha hu => ((hvs.2 i a u ha hu).nyl (nylL_spec hya a (List.mem_of_getElem? ha))).mono hD0 (Agree.refl _ _)⟩
 unfold Ans
 rw [if_pos rfl]
 refine ⟨L, vs.toArray, by simp, r.fn, _, r.assign, r.body, run_yield hLw (by rw [hr.params]; simp; rw [hlen]; exact hvs.1.symm), ?_⟩
 refine roundIn_of_wpIn (F := Fence.wide) trivial ?_
 have hfold : (r.params.zip vs.toArray).foldl (fun tmps (x : Nat × Value) => tmps.setIfInBounds x.1 x.2) r.tmps = (ps.zip vs).foldl (fun (T : Array Value) (x : Nat × Value) => T.setIfInBounds x.1 x.2) r.tmps := by
  rw [hr.params]; simp
 have hR : Rel D1 (φ.lpT X) (asg ps as (zipE ts cs)) h1 n1 F.N (w.heap.size, []) { tmps := (r.params.zip vs.toArray).foldl (fun tmps (x : Nat × Value) => tmps.setIfInBounds x.1 x.2) r.tmps, defers := [] } w := by
  refine ⟨fun b hb => hb, fun t v hv => ?_, hHb, ?_, Mk.nil⟩
  · show VRel _ _ v (Array.getD ((r.params.zip vs.toArray).foldl (fun tmps (x : Nat × Value) => tmps.setIfInBounds x.1 x.2) r.tmps) t undef)
    rw [hfold]
    refine asg_rel hvsb hlen (fun t ht => by rw [hr.size]; exact of_decide_eq_true (List.all_eq_true.1 hps t ht)) (fun t v hv => ?_) t v hv
    obtain ⟨i, g1, g2⟩ := zipE_get hv
    exact ((henv i t v g1 g2).nyl (nylL_spec hyc v (List.mem_of_getElem? g2))).mono hD0 (Agree.refl _ _)
  · show Array.size ((r.params.zip vs.toArray).foldl (fun tmps (x : Nat × Value) => tmps.setIfInBounds x.1 x.2) r.tmps) = F.N
    rw [hfold, foldl_size]; exact hr.size
 have hA : WP F.P F.N n1 r.assign _ (asg ps as (zipE ts cs)) h1 n1 := iw_sound { F with n0 := n1 } hcx hm r.assign _ _ _ _ (by show iw _ (compC F.P F.ct F.N r.assign) _ _ _ _; rw [hr.as]; exact hw)
 have h1w := hA (some L) (.inr (nrI_spec (by rw [hr.as]; exact hnA))) [] D1 (φ.lpT X) (hget h1) w (fun b hb => hb) (Nat.le_refl _) D1 (φ.lpT X) _ w hR (Stp.refl hHb)
 refine wpIn_mono (F := Fw (some L)) h1w (fun ex a1 w1 hp => ?_)
 obtain ⟨D', φ', e1, hh1, nn1, hk, hn', hR', hS'⟩ := hp
 cases ex with
 | normal =>
  have hL1 : w1.heap[L]? = some (.loop r) := hHb.stays hS'.frm hLw (fun _ _ _ e => by cases e)
  have hltL : L < w.heap.size := (Array.getElem?_eq_some_iff.1 hLw).1
  refine ⟨_, run_beginRound hL1 hr.state, ?_⟩
  have hlpX : φ'.lp = X := hS'.agree.lp
  have hne : ∀ {c : Nat} {o : Obj} {w1 : World}, w1.heap[c]? = some o → (∃ r', w1.heap[L]? = some (.loop r')) → (∀ r', o ≠ .loop r') → c ≠ L := fun hc hl ho e => by
   obtain ⟨r', hl⟩ := hl
   rw [e, hl] at hc; cases hc; exact ho _ rfl
  -- the loop's record is turned
  have turnHR : ∀ {D' : Nat → Prop} {φ' : Phi} {H' : Hf} {w1 : World} (o : Obj), φ'.lp = X → (∃ r', w1.heap[L]? = some (.loop r')) → HR D' φ' H' w1 → HR D' φ' H' (w1.putObj L o) := fun o hX hl hh =>
   hh.same (fun c cs elem fr hc => by rw [World.putObj_heap_other (hne hc hl (fun _ e => by cases e))]; exact hc) (fun L' r' h => by
    have h' := h
    rw [hX] at h'
    simp only [X] at h'
    split at h'
    · cases h'
    · rename_i hL'
      rw [World.putObj_heap_other hL']; exact hh.lp L' r' h)
  have turnMk : ∀ {m : Nat × List Deferred} {l : List Deferred} {w1 : World} (o : Obj), (∃ r', w1.heap[L]? = some (.loop r')) → Mk m l w1 → Mk m l (w1.putObj L o) := fun o hl ⟨ds, g1, g2, g3⟩ =>
   ⟨ds, g1, g2, fun D hD => ⟨(g3 D hD).1, by rw [World.putObj_heap_other (hne (g3 D hD).2 hl (fun _ e => by cases e))]; exact (g3 D hD).2⟩⟩
  have hr2 := turnHR (.loop { r with state := .busy }) hlpX ⟨r, hL1⟩ hR'.heap
  have hS2 : Stp D1 (φ.lpT X) (hget h1) (w.putObj L (.loop { r with state := .busy })) D' φ' (hget hh1) (w1.putObj L (.loop { r with state := .busy })) :=
   hS'.turn hr2 hS'.frm.os hS'.frm.tape hS'.frm.output (by simp) (by simp) L (fun c hc => World.putObj_heap_other hc) (fun c hc => World.putObj_heap_other hc)
    (by rw [World.putObj_heap_same (Nat.lt_of_lt_of_le hltL hS'.frm.size), World.putObj_heap_same hltL])
  have hR2 : Rel D' φ' e1 hh1 nn1 F.N ((w.putObj L (.loop { r with state := .busy })).heap.size, []) a1 (w1.putObj L (.loop { r with state := .busy })) :=
   ⟨hR'.lt, hR'.env, hr2, hR'.size, by rw [World.putObj_size]; exact turnMk _ ⟨r, hL1⟩ hR'.defers⟩
  have hB : WP F.P F.N n1 r.body _ e1 hh1 nn1 := iw_sound { F with n0 := n1 } hcx hm r.body _ _ _ _ (by show iw _ (compC F.P F.ct F.N r.body) _ _ _ _; rw [hr.bd]; exact hk)
  have h2w := hB (some L) (.inr (nrI_spec (by rw [hr.bd]; exact hnB))) [] D1 (φ.lpT X) (hget h1) _ (fun b hb => hb) hn' D' φ' a1 _ hR2 hS2
  refine wpIn_mono (F := Fw (some L)) h2w (fun ex a3 w3 hp => ?_)
  obtain ⟨D3, φ3, e3, h3, n3, hk3, hn3, hR3, hS3⟩ := hp
  cases ex with
  | normal =>
   obtain ⟨ψ, hW⟩ := hk3
   have hHwb : HR D1 (φ.lpT X) (hget h1) (w.putObj L (.loop { r with state := .busy })) := turnHR _ rfl ⟨r, hLw⟩ hHb
   have hL3 : w3.heap[L]? = some (.loop { r with state := .busy }) := hHwb.stays hS3.frm (World.putObj_heap_same hltL) (fun _ _ _ e => by cases e)
   refine ⟨_, _, run_endRound none hL3, ?_⟩
   have hrec : ({ ({ r with state := .busy } : Go.Loop) with state := if (none : Option Code).isNone then .ready else .done, pending := none } : Go.Loop) = r := by
    obtain ⟨st, pe, f', tm, pa, as', bd, de⟩ := r
    have := hr.state; have := hr.pending
    simp at *
    simp [*]
   rw [hrec]
   -- the result
   have hR4 : Rel D3 φ3 [(0, .b true)] h3 n3 1 (0, []) { tmps := #[.bool true], defers := [] } w3 := by
    refine ⟨hR3.lt, fun t v hv => ?_, hR3.heap, rfl, Mk.nil⟩
    simp only [eget] at hv
    by_cases ht : t = 0
    · subst ht; simp at hv; subst hv; exact .b true
    · rw [beq_ne ht] at hv; simp at hv
   obtain ⟨hR5, hS5⟩ := Rel.weaken hW (fun b hb => hb) hR4 hS3
   have hlp3 : (φ3.comp ψ).lp = X := hS5.agree.lp
   have hr5 := turnHR (.loop r) hlp3 ⟨_, hL3⟩ hR5.heap
   have hltL3 : L < w3.heap.size := (Array.getElem?_eq_some_iff.1 hL3).1
   have hS6 : Stp D1 (φ.lpT X) (hget h1) w _ (φ3.comp ψ) (hget h2) (w3.putObj L (.loop r)) :=
    hS5.turn hr5 hS5.frm.os hS5.frm.tape hS5.frm.output (by simp) (by simp) L (fun c hc => (World.putObj_heap_other hc).symm) (fun c hc => World.putObj_heap_other hc)
     (by rw [World.putObj_heap_same hltL3]; exact hLw.symm)
   have hr7 : HR _ ((φ3.comp ψ).lpT φ.lp) (hget h2) (w3.putObj L (.loop r)) := hr5.lpT (fun b k v u _ _ h => h.lpUp (fun L' r' h' => by
    rw [hlp3] at h'
    simp only [X] at h'
    split at h'
    · cases h'
    · exact h')) (fun L' r' h' => by
      by_cases hL' : L' = L
      · rw [hL', World.putObj_heap_same hltL3]
        rw [hL', hL] at h'; cases h'; rfl
      · have : X L' = some r' := by simp only [X, hL', if_false]; exact h'
        rw [← hlp3] at this
        exact hr5.lp L' r' this)
   have hS7 : Stp D1 φ (hget h1) w _ ((φ3.comp ψ).lpT φ.lp) (hget h2) (w3.putObj L (.loop r)) := hS6.lpT (X := φ.lp) hr7
   refine ⟨_, _, _, rfl, hR5.lt, VRel.b true, ⟨fun b hb => hS7.sub b (hD0 b hb), ⟨fun b hb => hS7.agree.at_ b (hD0 b hb), hS7.agree.fz, hS7.agree.lp⟩, hS7.hr, hS7.frm, hS7.img, hS7.fnew⟩⟩
  | _ => exact hk3.elim
 | _ => exact hk.elim
theorem RFunc.intro {F : Fx} (hcx : Sound F.P F.cx) (hm : F.P.follows .mixedOrders = true) {g : Opd} {ps : List Nat} {A B : ICode} {K : Kont} {e : Env} {h : Hp} {n : Nat} {gf : Nat} {caps : List AV} {v' : AV} {h' : Hp} {n' : Nat} (ts : List Nat) (cs : List AV)
 (hg : g.ev e h = some (.fn gf caps)) (hcal : (callable F.P gf && !ext F.P gf) = true) (hnA : nrI A = true) (hnB : nrI B = true) (hps : (ps.all fun t => decide (t < F.N)) = true)
 (hts : ∀ (i t : Nat) (a : AV), ts[i]? = some t → cs[i]? = some a → eget e t = some a)
 (hit : ∀ L r, (∀ cs as h1 n1 h2 n2, ps.length = as.length → nylL cs = true → nylL as = true → (∀ b k, hget h1 b = some k → nylL k.cells = true) → RoundW F ps A B ts cs as h1 n1 h2 n2 → FTL F.P YB (.yl L r ts cs :: as) h1 n1 (.b true) h2 n2) →
   FTL F.P gf (.yl L r ts cs :: caps) h n v' h' n')
 (hy' : ∀ b k, hget h' b = some k → nylL k.cells = true) (hn' : F.n0 ≤ n') (hk : K .normal e h' n') : RFunc F.P F.ct F.N F.n0 g ps A B K e h n := by
 rw [Bool.and_eq_true, Bool.not_eq_true'] at hcal
 intro c' hc' ro hro Bd D0 φ0 H0 w0 hd0 hn0 D φ a w hR hS
 -- the code
 obtain ⟨g', ps', A', B', rfl, hg', hpe, hA', hB', hgg⟩ : ∃ g' ps' A' B', c' = .rangeFunc g' ps' A' B' ∧ cO g' = some g ∧ ps'.toList = ps ∧ compC F.P F.ct F.N A' = A ∧ compC F.P F.ct F.N B' = B ∧ ∀ k, g ≠ .g k := by
  cases c' with
  | rangeFunc g' ps' A' B' =>
   simp only [compC] at hc'
   split at hc'
   · cases hc'
   · rename_i x hng hx
     cases hc'
     exact ⟨g', ps', A', B', rfl, hx, rfl, rfl, rfl, fun k hk => hng k hk⟩
   · cases hc'
  | region id ops draw => simp only [compC] at hc'; split at hc' <;> (try split at hc') <;> cases hc'
  | cond x y z => simp only [compC] at hc'; split at hc' <;> cases hc'
  | _ => simp [compC] at hc'
 have hro' : ro = none := hro.resolve_right (by simp [noRF])
 subst hro'
 have hvf := opd_rel (fun t v _ hv => hR.env t v hv) hg' (fun k hk => by subst hk; simp only [cO, Option.some.injEq] at hg'; exact hgg k hg'.symm) hg
 obtain ⟨hgy, capsV, hev, hcaps⟩ := hvf.fn_inv
 refine wpIn_rangeFunc ?_
 intro fn hfn
 obtain ⟨r, hrdef⟩ : ∃ r : Go.Loop, r = { state := .ready, pending := none, fn, tmps := a.tmps, params := ps', assign := A', body := B', defers := w.heap.size } := ⟨_, rfl⟩
 have hrec : RecOK F ps A B r := by rw [hrdef]; exact ⟨rfl, rfl, by rw [← hpe], hA', hB', hR.size⟩
 obtain ⟨W1, hW1⟩ : ∃ W1, (w.alloc (.deferred (some []))).alloc (.loop r) = W1 := ⟨_, rfl⟩
 have hsz1 : W1.heap.size = w.heap.size + 2 := by rw [← hW1]; simp
 have hL1 : W1.heap[w.heap.size + 1]? = some (.loop r) := by
  rw [← hW1]; have := World.alloc_heap_new (w.alloc (.deferred (some []))) (.loop r); rwa [World.size_alloc] at this
 have hK1 : W1.heap[w.heap.size]? = some (.deferred (some [])) := by
  rw [← hW1]; exact (Below.heap_alloc _ _ _ (by simp)).trans (World.alloc_heap_new w _)
 have hold : ∀ c, c < w.heap.size → W1.heap[c]? = w.heap[c]? := fun c hc => by
  rw [← hW1]; exact (Below.heap_alloc _ _ _ (by simp; omega)).trans (Below.heap_alloc _ _ _ hc)
 have hHw1 : HR D φ (hget h) W1 := hR.heap.same (fun c cs elem fr hc => by rw [hold c (Array.getElem?_eq_some_iff.1 hc).1]; exact hc) (fun L r' hL => by
  have := hR.heap.lp L r' hL
  rw [hold L (Array.getElem?_eq_some_iff.1 this).1]; exact this)
 have hS1 : Stp D φ (hget h) w D φ (hget h) W1 := (Stp.refl hR.heap).same hHw1 (by rw [← hW1]; rfl) (by rw [← hW1]; rfl) (by rw [← hW1]; rfl) (by omega) hold
 let X : Nat → Option Go.Loop := fun L' => if L' = w.heap.size + 1 then some r else φ.lp L'
 have hXup : ∀ L r', φ.lp L = some r' → X L = some r' := fun L r' hL => by
  have h1 := hR.heap.lp L r' hL
  have := (Array.getElem?_eq_some_iff.1 h1).1
  simp only [X]; rw [if_neg (by omega)]; exact hL
 have hHX : HR D (φ.lpT X) (hget h) W1 := hHw1.lpT (fun b k v u _ _ hv => hv.lpUp hXup) (fun L r' hL => by
  simp only [X] at hL
  split at hL
  · rename_i e; cases hL; rw [e]; exact hL1
  · exact hHw1.lp L r' hL)
 have hy0 : VRel D (φ.lpT X) (.yl (w.heap.size + 1) r ts cs) (.func (.yield (w.heap.size + 1)) #[] #[]) := by
  refine .yl (φ := φ.lpT X) _ _ _ _ (by simp [Phi.lpT, X]) (fun i t a ht ha => ?_)
  have := hR.env t a (hts i t a ht ha)
  rw [hrdef]
  exact this.lpUp hXup
 have hcaps' : All2 D (φ.lpT X) caps capsV := ⟨hcaps.1, fun i a u ha hu => (hcaps.2 i a u ha hu).lpUp hXup⟩
 have hF := hit (w.heap.size + 1) r (fun cs as h1 n1 h2 n2 q1 q2 q3 q4 q5 => FTL.round hcx hm hrec hnA hnB hps q1 q2 q3 q4 q5) D (φ.lpT X) W1 _ hR.lt hHX (.cons hy0 hcaps')
 refine ⟨w.heap.size + 1, [{ target := .collected w.heap.size, args := #[] }], W1, { target := .fn (.func gf) capsV.toArray, args := #[.func (.yield (w.heap.size + 1)) #[] #[]] }, W1, gf,
  #[.func (.yield (w.heap.size + 1)) #[] #[]] ++ capsV.toArray, W1, ?_, ?_, fun _ _ => trivial, ?_, fun hd => (by cases hd), ?_⟩
 · rw [← hW1, hrdef]; exact run_enterLoop_outer _ _ _ _ _
 · simp only [resolve, hev]
   simp [go_sem]
 · simp only [invoke, callFunc_run hgy hcal.1 hcal.2]
 · refine callsIn_Fw ?_
   have hF2 := hF.calls hgy hcal.2
   rw [show (Value.func (.yield (w.heap.size + 1)) #[] #[] :: capsV).toArray = #[.func (.yield (w.heap.size + 1)) #[] #[]] ++ capsV.toArray by simp] at hF2
   refine Calls.mono hF2 fun ex w2 hx => ?_
   obtain ⟨D', φ', u, rfl, hlt', hv', hS2⟩ := hx
   have hlp2 : φ'.lp = X := hS2.agree.lp
   have hL2 : w2.heap[w.heap.size + 1]? = some (.loop r) := hHX.stays hS2.frm hL1 (fun _ _ _ e => by cases e)
   have hK2 : w2.heap[w.heap.size]? = some (.deferred (some [])) := hHX.stays hS2.frm hK1 (fun _ _ _ e => by cases e)
   have hlt2 : w.heap.size + 1 < w2.heap.size := (Array.getElem?_eq_some_iff.1 hL2).1
   have hpend : r.pending = none := hrec.pending
   refine ⟨none, w2.putObj (w.heap.size + 1) (.loop { r with state := .exhausted }), (by have := run_endLoop (P := F.P) hL2 (by rw [hrec.state]; simp); rw [this, hpend]), ?_⟩
   -- the relation behind
   have hHr : HR D' (φ'.lpT φ.lp) (hget h') w2 := hS2.hr.lpT (fun b k v u hb hv hvr => hvr.nyl (nylL_spec (hy' b k hb) v hv)) (fun L r' hL => by
    have := hXup L r' hL
    rw [← hlp2] at this
    exact hS2.hr.lp L r' this)
   have hS3 : Stp D φ (hget h) W1 D' (φ'.lpT φ.lp) (hget h') w2 := hS2.lpT (X := φ.lp) hHr
   have hHe : HR D' (φ'.lpT φ.lp) (hget h') (w2.putObj (w.heap.size + 1) (.loop { r with state := .exhausted })) := hHr.same (fun c cs elem fr hc => by
    rw [World.putObj_heap_other (fun e => by rw [e, hL2] at hc; cases hc)]; exact hc) (fun L r' hL => by
    have h1 := hR.heap.lp L r' hL
    have h2 := (Array.getElem?_eq_some_iff.1 h1).1
    rw [World.putObj_heap_other (by omega)]
    exact hHr.lp L r' hL)
   have hS4 : Stp D φ (hget h) w D' (φ'.lpT φ.lp) (hget h') (w2.putObj (w.heap.size + 1) (.loop { r with state := .exhausted })) :=
    (hS1.trans hS3).same hHe rfl rfl rfl (by simp) (fun c hc => World.putObj_heap_other (by omega))
   refine ⟨D', φ'.lpT φ.lp, e, h', n', hk, hn', ⟨hlt', fun t v hv => ?_, hHe, hR.size, ?_⟩, hS.trans hS4⟩
   · exact (hR.env t v hv).mono hS4.sub hS4.agree
   · obtain ⟨ds, q1, q2, q3⟩ := hR.defers
     refine ⟨w.heap.size :: ds, by simp [q1], List.nodup_cons.2 ⟨fun hin => ?_, q2⟩, fun E hE => ?_⟩
     · have := (Array.getElem?_eq_some_iff.1 (q3 _ hin).2).1
       omega
     · rcases List.mem_cons.1 hE with rfl | hE
       · exact ⟨hS.frm.size, by rw [World.putObj_heap_other (by omega)]; exact hK2⟩
       · have h1 := (q3 E hE).2
         have h2 := (Array.getElem?_eq_some_iff.1 h1).1
         refine ⟨(q3 E hE).1, ?_⟩
         rw [World.putObj_heap_other (by omega)]
         exact (hHX.stays hS2.frm (by rw [hold E h2]; exact h1) (fun _ _ _ e => by cases e))
end Go.Ab
end
section
/- The abstract layer, part 63: loops whose rounds' calls have contracts of their own; an iterator's calls of yield. -/
namespace Go.Ab
set_option linter.unusedVariables false
set_option linter.unusedSimpArgs false
noncomputable def cx1 (f0 : FuncId) (a0 : List AV) (h0 : Hp) (n0 : Nat) (E0 : Eff) : Cx := fun f a h n => open Classical in if f = f0 ∧ a = a0 ∧ h = h0 ∧ n = n0 then some (true, E0) else none
theorem cx1_at {f0 : FuncId} {a0 : List AV} {h0 : Hp} {n0 : Nat} {E0 : Eff} : cx1 f0 a0 h0 n0 E0 f0 a0 h0 n0 = some (true, E0) := if_pos ⟨rfl, rfl, rfl, rfl⟩
theorem cx1_sound {P : Program} {f0 : FuncId} {a0 : List AV} {h0 : Hp} {n0 : Nat} {E0 : Eff} (hc : CallOK P f0 a0 h0 n0 E0) : Sound P (cx1 f0 a0 h0 n0 E0) := fun f a h n c E he ht => by
 unfold cx1 at he
 split at he
 · rename_i hh
   obtain ⟨rfl, rfl, rfl, rfl⟩ := hh
   cases he; exact hc
 · cases he
theorem Loop.stepX {F : Fx} (hm : F.P.follows .mixedOrders = true) {c : ICode} {K : Kont} {X : Type} (ok : X → Prop) (μ : X → Nat) (E : X → Env) (H : X → Hp) (n2 : Nat) (x0 : X) (nx : X → X) (m0 : List (Nat × Nat)) (m : X → List (Nat × Nat))
 {e : Env} {h : Hp} {n : Nat} (hn : F.n0 ≤ n2) (hm0 : rnOK m0 F.n0 n2 = true) (hm1 : ∀ x, rnOK (m x) F.n0 n2 = true) (h0 : ok x0) (he : EnvR n2 m0 e (E x0)) (hh : HpR n2 m0 h (H x0))
 (round : ∀ x, ok x → ∃ cx, Sound F.P cx ∧ jw { F with cx := cx } c (thenK K fun e' h' n' => (ok (nx x) ∧ μ (nx x) < μ x) ∧ EnvR n2 (m x) e' (E (nx x)) ∧ HpR n2 (m x) h' (H (nx x))) (E x) (H x) n2) : Loop F.P F.ct F.N F.n0 c K e h n := by
 refine Loop.invW (F := F) (X := { x : X // ok x }) (fun k => (E k.1, H k.1, n2)) (fun k => μ k.1) ⟨x0, h0⟩ (rn m0) (Wk.ofR hn hm0 he hh) (fun k c' hc' => ?_)
 obtain ⟨cx, hcx, hr⟩ := round k.1 k.2
 refine iw_sound { F with cx := cx } hcx hm c' _ _ _ _ (by
  show iw _ (compC F.P F.ct F.N c') _ _ _ _
  rw [hc']
  refine iw_mono (fun ex e' h' n' hx => ?_) (iw_of_jw hr)
  cases ex with
  | normal =>
   obtain ⟨⟨h1, h2⟩, h3, h4⟩ := hx
   exact ⟨⟨nx k.1, h1⟩, rn (m k.1), Wk.ofR hn (hm1 k.1) h3 h4, h2⟩
  | _ => exact hx)
def nylH : Hp → Bool
 | [] => true
 | (_, k) :: r => nylL k.cells && nylH r
theorem nylH_spec : ∀ {h : Hp} {b : Nat} {k : Blk}, nylH h = true → hget h b = some k → nylL k.cells = true
 | [], b, k, _, hb => by simp [hget] at hb
 | (c, j) :: r, b, k, h, hb => by
  simp only [nylH, Bool.and_eq_true] at h
  simp only [hget] at hb
  by_cases hc : b = c
  · subst hc; simp at hb; subst hb; exact h.1
  · rw [beq_ne hc] at hb; exact nylH_spec h.2 hb
theorem rows_nyl {α : Type} {f : α → List AV} (hf : ∀ a, nylL (f a) = true) : ∀ {l : List α}, nylL (rows f l) = true
 | [] => rfl
 | a :: l => by rw [rows_cons, nylL_append, hf, rows_nyl hf]; rfl
def rdK (Q : Env → Hp → Nat → Prop) : Kont := fun ex e h n => match ex with
 | .normal => Q e h n
 | _ => False
theorem rdK_n {Q : Env → Hp → Nat → Prop} {e : Env} {h : Hp} {n : Nat} : rdK Q .normal e h n = Q e h n := (rfl)
attribute [go_sem ↓] rdK_n
theorem RoundW.of_jw {F : Fx} {ps : List Nat} {A B : ICode} {ts : List Nat} {cs as' : List AV} {h1 : Hp} {n1 : Nat} {h2 : Hp} {n2 : Nat}
 (hj : jw { F with n0 := n1 } A (rdK fun e h n => jw { F with n0 := n1 } B (rdK fun e3 h3 n3 => Ends n1 (.b true) h3 n3 (.b true) h2 n2) e h n) (asg ps as' (zipE ts cs)) h1 n1) : RoundW F ps A B ts cs as' h1 n1 h2 n2 := by
 refine iw_mono (fun ex e h n hx => ?_) (iw_of_jw hj)
 cases ex with
 | normal =>
  refine iw_mono (fun ex e h n hx => ?_) (iw_of_jw hx)
  cases ex <;> exact hx
 | _ => exact hx.elim
end Go.Ab
end
