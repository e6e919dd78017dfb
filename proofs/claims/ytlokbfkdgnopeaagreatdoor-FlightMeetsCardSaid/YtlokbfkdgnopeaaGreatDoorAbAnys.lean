/- Texts laid as one: AbAny AbIns AbInsL. -/
import Derived.Test.YtlokbfkdgnopeaaGreatDoorAbGvs
import Derived.Laws.Externs
import GoSem.Extern.SlicesOverlaps
section
/- The abstract layer, part 73: a slice that is given up by a call and may be written there: whatever its capacity and what lies behind it; slices.overlaps. -/
namespace Go.Ab
set_option linter.unusedVariables false
set_option linter.unusedSimpArgs false
def anys (n : Nat) : List AV := List.replicate n .any
theorem anys_len {n : Nat} : (anys n).length = n := by simp [anys]
theorem anys_bel {j : Nat} : ∀ {n : Nat}, belL j (anys n) = true
 | 0 => rfl
 | n + 1 => by
  have := @anys_bel j n
  simp only [anys, List.replicate_succ, belL, AV.bel, Bool.true_and] at this ⊢
  exact this
theorem anys_get {n i : Nat} {a : AV} (h : (anys n)[i]? = some a) : a = .any := by
 simp only [anys, List.getElem?_replicate] at h
 split at h <;> cases h; rfl
def gvK (h : Hp) (z : Nat) : AV → Option (Nat × Nat × List AV × Bool)
 | .sg b o m => (hget h b).bind fun k => some (b, m, cellsAt k.cells o (m * z), !k.ro && (match k.gr with | some z' => Nat.beq z z' | none => false) && decide ((cellsAt k.cells o (m * z)).length = m * z))
 | .sl b o m c => (hget h b).bind fun k => some (b, m, cellsAt k.cells o (m * z), !k.ro && (match k.gr with | some _ => false | none => true) && decide ((cellsAt k.cells o (m * z)).length = m * z) && decide (m ≤ c) && decide (o + c * z ≤ k.cells.length))
 | _ => none
theorem gvK_g {h : Hp} {z b o m : Nat} : gvK h z (.sg b o m) = (hget h b).bind fun k => some (b, m, cellsAt k.cells o (m * z), !k.ro && (match k.gr with | some z' => Nat.beq z z' | none => false) && decide ((cellsAt k.cells o (m * z)).length = m * z)) := (rfl)
theorem run_overlaps_plain {P : Program} (w : World) (tS e : TypeId) (tR : Array TypeId) (ts : Array TypeId) (h0 : ts[0]? = some tS) (ht : P.underlying tS = some (.slice e)) (size : Nat) (hz : tySz P e = some size)
 (a b : Option Addr) (la ca lb cb : Nat) (hab : la ≠ 0 → lb ≠ 0 → ∃ a' b', a = some a' ∧ b = some b' ∧ a'.block ≠ b'.block ∧ (∃ vs el fr, w.heap[a'.block]? = some (.cells vs el fr) ∧ vs.size ≠ 0) ∧ ∃ vs el fr, w.heap[b'.block]? = some (.cells vs el fr) ∧ ¬ (fr.1 ≤ b'.off ∧ b'.off < fr.2) ∧ ¬ (fr.1 ≤ vs.size ∧ vs.size < fr.2)) :
 (Extern.SlicesOverlaps.overlaps ts tR #[.slice a la ca, .slice b lb cb]).run P w = .ok (.bool false) w := by
 change Sem.run P (α := Value) (do
  let some t := ts[0]? | stuck "slices.overlaps: no parameter types"
  let .slice elem ← underlying t | stuck "slices.overlaps: slice type expected"
  let size ← sizeOf elem
  match (a : Option Addr), (b : Option Addr) with
  | some a, some b =>
   if la = 0 ∨ lb = 0 ∨ size = 0 then pure (Value.bool false)
   else if a.block != b.block && (← frozen a) && (← frozen b) then unsupported .addressObserved
   else do
    if a.block != b.block then do
     noView a; noView b
     if ← mayBeOne a b then return Value.bool ((← choose (.extern "sameAddr.stringBytes" 2)) == 1)
    pure (Value.bool (a.block == b.block && a.off < b.off + lb * size && b.off < a.off + la * size))
  | _, _ => pure (Value.bool false)) w = _
 by_cases h1 : la = 0 ∨ lb = 0
 · cases a <;> cases b <;> simp [h0, run_underlying ht, run_sizeOf hz, h1]
   rcases h1 with h1 | h1 <;> simp [h1]
 · obtain ⟨a', b', rfl, rfl, hne, ⟨va, ea, fa, q1, q2⟩, vb, eb, ⟨f1, f2⟩, r1, r2, r3⟩ := hab (fun h => h1 (.inl h)) (fun h => h1 (.inr h))
   have hnb : (a'.block != b'.block) = true := by simpa using hne
   have hnb' : (a'.block == b'.block) = false := by simpa using hne
   have hsa : w.shape? a'.block = some (ea, va.size) := by simp [World.shape?, q1]
   have hsb : w.shape? b'.block = some (eb, vb.size) := by simp [World.shape?, r1]
   have hfb : w.frozen? b' = false := by simp only [World.frozen?, r1]; simpa using r2
   have hfe : w.frozen? { block := b'.block, off := vb.size } = false := by simp only [World.frozen?, r1]; simpa using r3
   obtain ⟨ka, hka⟩ : ∃ ka, va.size = ka + 1 := ⟨va.size - 1, by omega⟩
   rw [hka] at hsa
   cases hA : w.frozen? a' <;> cases hB : w.frozen? { block := a'.block, off := ka + 1 } <;>
    simp [h0, run_underlying ht, run_sizeOf hz, h1, hnb, hnb', frozen, noView, viewAt, mayBeOne, stringish, shape, Sem.run, hsa, hsb, hfb, hfe, hA, hB] <;> (try split) <;> simp
def ovlT (P : Program) (fn : Func) : Bool := match fn.params[0]? with
 | some t => match P.underlying t with
  | some (.slice e) => (tySz P e).isSome
  | _ => false
 | none => false
end Go.Ab
end
section
/- The abstract layer, part 74: slices.Insert into a slice that is given up (whatever its capacity), and into an empty one. -/
namespace Go.Ab
set_option maxRecDepth 100000
set_option maxHeartbeats 4000000
set_option linter.unusedSimpArgs false
set_option linter.unusedVariables false
abbrev insr0 (z bytes : Nat) (zs : List AV) (fo fr : FuncId) : List IOper := [⟨some 6, .mv (.c (.ns)), none, false⟩]
abbrev insr1 (z bytes : Nat) (zs : List AV) (fo fr : FuncId) : List IOper := [⟨some 10, .mv (.t 0), none, false⟩, ⟨some 11, .mv (.t 1), none, false⟩, ⟨some 12, .slV z (.t 10) (some (.t 11)) none none, none, false⟩]
abbrev insr2 (z bytes : Nat) (zs : List AV) (fo fr : FuncId) : List IOper := [⟨some 13, .mv (.t 2), none, false⟩, ⟨some 14, .lenV (.t 13), none, false⟩, ⟨some 7, .mv (.t 14), none, false⟩]
abbrev insr3 (z bytes : Nat) (zs : List AV) (fo fr : FuncId) : List IOper := [⟨some 15, .mv (.t 7), none, false⟩, ⟨some 16, .bin .eql (.t 15) (.c (.i .i64 0)), none, true⟩]
abbrev insr4 (z bytes : Nat) (zs : List AV) (fo fr : FuncId) : List IOper := [⟨some 17, .mv (.t 0), none, false⟩, ⟨some 6, .mv (.t 17), none, false⟩]
abbrev insr5 (z bytes : Nat) (zs : List AV) (fo fr : FuncId) : List IOper := [⟨some 18, .mv (.t 0), none, false⟩, ⟨some 19, .lenV (.t 18), none, false⟩, ⟨some 8, .mv (.t 19), none, false⟩]
abbrev insr6 (z bytes : Nat) (zs : List AV) (fo fr : FuncId) : List IOper := [⟨some 20, .mv (.t 1), none, false⟩, ⟨some 21, .mv (.t 8), none, false⟩, ⟨some 22, .bin .eql (.t 20) (.t 21), none, true⟩]
abbrev insr7 (z bytes : Nat) (zs : List AV) (fo fr : FuncId) : List IOper := [⟨some 23, .mv (.t 0), none, false⟩, ⟨some 24, .mv (.t 2), none, false⟩, ⟨some 25, .app z bytes zs (.t 23) (.t 24), none, false⟩, ⟨some 6, .mv (.t 25), none, false⟩]
abbrev insr8 (z bytes : Nat) (zs : List AV) (fo fr : FuncId) : List IOper := [⟨some 26, .mv (.t 8), none, false⟩, ⟨some 27, .mv (.t 7), none, false⟩, ⟨some 28, .bin .add (.t 26) (.t 27), none, false⟩, ⟨some 29, .mv (.t 0), none, false⟩, ⟨some 30, .capV (.t 29), none, false⟩, ⟨some 31, .bin .gtr (.t 28) (.t 30), none, true⟩]
abbrev insr9 (z bytes : Nat) (zs : List AV) (fo fr : FuncId) : List IOper := [⟨some 32, .mv (.t 0), none, false⟩, ⟨some 33, .mv (.t 1), none, false⟩, ⟨some 34, .slV z (.t 32) none (some (.t 33)) none, none, false⟩, ⟨some 35, .mv (.t 8), none, false⟩, ⟨some 36, .mv (.t 7), none, false⟩, ⟨some 37, .bin .add (.t 35) (.t 36), none, false⟩, ⟨some 38, .mv (.t 1), none, false⟩, ⟨some 39, .bin .sub (.t 37) (.t 38), none, false⟩, ⟨some 40, .apz z bytes zs (.t 34) (.t 39), none, false⟩, ⟨some 9, .mv (.t 40), none, false⟩]
abbrev insr10 (z bytes : Nat) (zs : List AV) (fo fr : FuncId) : List IOper := [⟨some 41, .mv (.t 9), none, false⟩, ⟨some 42, .mv (.t 1), none, false⟩, ⟨some 43, .slV z (.t 41) (some (.t 42)) none none, none, false⟩, ⟨some 44, .mv (.t 2), none, false⟩, ⟨some 45, .cpy z (.t 43) (.t 44), none, false⟩]
abbrev insr11 (z bytes : Nat) (zs : List AV) (fo fr : FuncId) : List (IOper × List Nat) := [(⟨some 46, .mv (.t 9), none, false⟩, []), (⟨some 47, .mv (.t 1), none, false⟩, [0]), (⟨some 48, .mv (.t 7), none, false⟩, [0, 1]), (⟨some 49, .bin .add (.t 47) (.t 48), none, false⟩, [0]), (⟨some 50, .slV z (.t 46) (some (.t 49)) none none, none, false⟩, []), (⟨some 51, .mv (.t 0), none, false⟩, [0, 1, 2, 3, 4]), (⟨some 52, .mv (.t 1), none, false⟩, [0, 1, 2, 3, 4, 5]), (⟨some 53, .slV z (.t 51) (some (.t 52)) none none, none, false⟩, [0, 1, 2, 3, 4]), (⟨some 54, .cpy z (.t 50) (.t 53), none, false⟩, [])]
abbrev insr12 (z bytes : Nat) (zs : List AV) (fo fr : FuncId) : List IOper := [⟨some 55, .mv (.t 9), none, false⟩, ⟨some 6, .mv (.t 55), none, false⟩]
abbrev insr13 (z bytes : Nat) (zs : List AV) (fo fr : FuncId) : List IOper := [⟨some 56, .mv (.t 0), none, false⟩, ⟨some 57, .mv (.t 8), none, false⟩, ⟨some 58, .mv (.t 7), none, false⟩, ⟨some 59, .bin .add (.t 57) (.t 58), none, false⟩, ⟨some 60, .slV z (.t 56) none (some (.t 59)) none, none, false⟩, ⟨some 0, .mv (.t 60), none, false⟩]
abbrev insr14 (z bytes : Nat) (zs : List AV) (fo fr : FuncId) : List IOper := [⟨some 61, .mv (.t 2), none, false⟩, ⟨some 62, .mv (.t 0), none, false⟩, ⟨some 63, .mv (.t 1), none, false⟩, ⟨some 64, .mv (.t 7), none, false⟩, ⟨some 65, .bin .add (.t 63) (.t 64), none, false⟩, ⟨some 66, .slV z (.t 62) (some (.t 65)) none none, none, false⟩, ⟨some 67, .call (.c (.fn fo [])) [.t 61, .t 66], none, false⟩, ⟨some 68, .not (.t 67), none, true⟩]
abbrev insr15 (z bytes : Nat) (zs : List AV) (fo fr : FuncId) : List (IOper × List Nat) := [(⟨some 69, .mv (.t 0), none, false⟩, []), (⟨some 70, .mv (.t 1), none, false⟩, [0]), (⟨some 71, .mv (.t 7), none, false⟩, [0, 1]), (⟨some 72, .bin .add (.t 70) (.t 71), none, false⟩, [0]), (⟨some 73, .slV z (.t 69) (some (.t 72)) none none, none, false⟩, []), (⟨some 74, .mv (.t 0), none, false⟩, [0, 1, 2, 3, 4]), (⟨some 75, .mv (.t 1), none, false⟩, [0, 1, 2, 3, 4, 5]), (⟨some 76, .slV z (.t 74) (some (.t 75)) none none, none, false⟩, [0, 1, 2, 3, 4]), (⟨some 77, .cpy z (.t 73) (.t 76), none, false⟩, [])]
abbrev insr16 (z bytes : Nat) (zs : List AV) (fo fr : FuncId) : List IOper := [⟨some 78, .mv (.t 0), none, false⟩, ⟨some 79, .mv (.t 1), none, false⟩, ⟨some 80, .slV z (.t 78) (some (.t 79)) none none, none, false⟩, ⟨some 81, .mv (.t 2), none, false⟩, ⟨some 82, .cpy z (.t 80) (.t 81), none, false⟩]
abbrev insr17 (z bytes : Nat) (zs : List AV) (fo fr : FuncId) : List IOper := [⟨some 83, .mv (.t 0), none, false⟩, ⟨some 6, .mv (.t 83), none, false⟩]
abbrev insr18 (z bytes : Nat) (zs : List AV) (fo fr : FuncId) : List IOper := [⟨some 84, .mv (.t 0), none, false⟩, ⟨some 85, .mv (.t 8), none, false⟩, ⟨some 86, .slV z (.t 84) (some (.t 85)) none none, none, false⟩, ⟨some 87, .mv (.t 2), none, false⟩, ⟨some 88, .cpy z (.t 86) (.t 87), none, false⟩]
abbrev insr19 (z bytes : Nat) (zs : List AV) (fo fr : FuncId) : List IOper := [⟨some 89, .mv (.t 0), none, false⟩, ⟨some 90, .mv (.t 1), none, false⟩, ⟨some 91, .slV z (.t 89) (some (.t 90)) none none, none, false⟩, ⟨some 92, .mv (.t 7), none, false⟩, ⟨some 93, .call (.c (.fn fr [])) [.t 91, .t 92], none, false⟩]
abbrev insr20 (z bytes : Nat) (zs : List AV) (fo fr : FuncId) : List IOper := [⟨some 94, .mv (.t 0), none, false⟩, ⟨some 6, .mv (.t 94), none, false⟩]
abbrev insC (z bytes : Nat) (zs : List AV) (fo fr : FuncId) : ICode := (.seq (.reg (insr0 z bytes zs fo fr)) (.seq (.reg (insr1 z bytes zs fo fr)) (.seq (.reg (insr2 z bytes zs fo fr)) (.seq (.seq (.reg (insr3 z bytes zs fo fr)) (.cond (.t 16) (.seq (.reg (insr4 z bytes zs fo fr)) .ret) .skip)) (.seq (.reg (insr5 z bytes zs fo fr)) (.seq (.seq (.reg (insr6 z bytes zs fo fr)) (.cond (.t 22) (.seq (.reg (insr7 z bytes zs fo fr)) .ret) .skip)) (.seq (.seq (.reg (insr8 z bytes zs fo fr)) (.cond (.t 31) (.seq (.reg (insr9 z bytes zs fo fr)) (.seq (.reg (insr10 z bytes zs fo fr)) (.seq (.dreg (insr11 z bytes zs fo fr)) (.seq (.reg (insr12 z bytes zs fo fr)) .ret)))) .skip)) (.seq (.reg (insr13 z bytes zs fo fr)) (.seq (.seq (.reg (insr14 z bytes zs fo fr)) (.cond (.t 68) (.seq (.dreg (insr15 z bytes zs fo fr)) (.seq (.reg (insr16 z bytes zs fo fr)) (.seq (.reg (insr17 z bytes zs fo fr)) .ret))) .skip)) (.seq (.reg (insr18 z bytes zs fo fr)) (.seq (.reg (insr19 z bytes zs fo fr)) (.seq (.reg (insr20 z bytes zs fo fr)) .ret))))))))))))
def insI (z bytes : Nat) (zs : List AV) (fo fr : FuncId) : IFn := { np := 3, N := 95, ct := [16, 22, 31, 68], code := insC z bytes zs fo fr, res := [.t 6] }
theorem dr1 {Q R : List AV} {p : Nat} (h : Q.length = p) : List.drop p (Q ++ R) = R := by subst h; simp
theorem tk1 {Q R : List AV} {p : Nat} (h : Q.length = p) : List.take p (Q ++ R) = Q := by subst h; simp
theorem cut1 (L : List AV) {a b : Nat} (h : L.length = a + b) : ∃ x y : List AV, L = x ++ y ∧ x.length = a ∧ y.length = b := ⟨L.take a, L.drop a, (List.take_append_drop a L).symm, by rw [List.length_take]; omega, by rw [List.length_drop]; omega⟩
section
variable {P : Program} {α : Type} {row : α → List AV} {z bytes : Nat} {zs : List AV} {f fo fr : FuncId} {fn : Func}
def insL (l xs : List α) (i : Nat) : List α := l.take i ++ (xs ++ l.drop i)
end
end Go.Ab
end
section
/- The abstract layer, part 90: slices.Insert with a result that may be written. -/
namespace Go.Ab
set_option maxRecDepth 100000
set_option maxHeartbeats 4000000
set_option linter.unusedSimpArgs false
set_option linter.unusedVariables false
def ovlK2 : Ct
 | [.fz L m, .sl b o len cap], h, n => (hget h b).bind fun k => some (decide (0 < L.length) && !k.ro && (match k.gr with | some z' => !(Nat.beq z' 1) | none => true) && decide (o < k.cells.length), { v := .b false, n, rd := [b] })
 | _, _, _ => none
theorem ovl2_ok {P : Program} {f : FuncId} {fn : Func} (hfy : f ≠ YB) (hf : P.funcs[f]? = some fn) (hname : (fn.name == "runtime.NumGoroutine") = false) (hb : fn.body.isNone = true) (hn : Extern.findNext fn = none) (he : Extern.find fn = some (Extern.SlicesOverlaps.overlaps fn.params fn.resultTypes))
 (hT : ovlT P fn = true) : SoundAt P f ovlK2 := fun args h n c E hc hct => by
 obtain ⟨t, e, z, h0, ht, hz⟩ : ∃ t e z, fn.params[0]? = some t ∧ P.underlying t = some (.slice e) ∧ tySz P e = some z := by
  unfold ovlT at hT
  split at hT
  · rename_i t ht
    split at hT
    · rename_i e he
      obtain ⟨z, hz⟩ := Option.isSome_iff_exists.1 hT
      exact ⟨t, e, z, ht, he, hz⟩
    · cases hT
  · cases hT
 unfold ovlK2 at hc
 split at hc
 · rename_i L m b o len cap
   simp only [Option.bind_eq_some_iff, Option.some.injEq, Prod.mk.injEq] at hc
   obtain ⟨k, hk, h1, rfl⟩ := hc
   rw [hct] at h1
   simp only [Bool.and_eq_true, decide_eq_true_eq, Bool.not_eq_true'] at h1
   obtain ⟨⟨⟨hL, hro⟩, hgr⟩, ho⟩ := h1
   have hext : ext P f = true := by unfold ext; rw [hf]; exact hb
   refine ⟨by unfold callable; rw [hf]; simp [hb], Nat.le_refl _, fun b r hb => by simp [mget] at hb, fun b k hb => by simp [hget] at hb, fun D φ w us hfresh hH hA => ?_⟩
   have hin : inl [b] b = true := by simp [inl]
   have hkk : only (hget h) [b] b = some k := by rw [only_get hin]; exact hk
   obtain ⟨u1, us1, rfl, hv1, hA1⟩ := hA.uncons
   obtain ⟨u2, us2, rfl, hv2, hA2⟩ := hA1.uncons
   rw [hA2.unnil]
   obtain ⟨_, ⟨⟨vs, elem, fr, q1, q2, q3, q4⟩, _⟩⟩ := hH.at_ b k hkk
   have hgr' : k.gr ≠ some 1 := fun e => by rw [e] at hgr; cases hgr
   have hos : φ.off b + o < vs.size := by
    obtain ⟨u, hu, _⟩ := q2 o _ (List.getElem?_eq_getElem ho)
    rcases Nat.lt_or_ge (φ.off b + o) vs.size with h' | h'
    · exact h'
    · rw [Array.getElem?_eq_none h'] at hu; cases hu
   have key : ∀ a ca, (m ≠ 0 → ∃ a', a = some a' ∧ a'.block ≠ φ.blk b ∧ ∃ vs el fr, w.heap[a'.block]? = some (.cells vs el fr) ∧ vs.size ≠ 0) →
    (callFunc f #[.slice a m ca, .slice (some ⟨φ.blk b, φ.off b + o, none⟩) len cap]).run P w = .ok (.value (.bool false)) w := fun a ca ha => by
    rw [run_callFunc_extern hf hname hb hn he, run_overlaps_plain w t e fn.resultTypes fn.params h0 ht z hz _ _ _ _ _ _ (fun hm hl => ?_)]
    · rfl
    · obtain ⟨a', rfl, g1, g2⟩ := ha hm
      exact ⟨a', _, rfl, rfl, g1, g2, vs, elem, fr, q1, (q3 hro).2 _ (.inl hos), (q3 hro).2 _ (.inr ⟨rfl, hgr'⟩)⟩
   have fin : ∀ u1, (∃ a ca, u1 = .slice a m ca ∧ (m ≠ 0 → ∃ a', a = some a' ∧ a'.block ≠ φ.blk b ∧ ∃ vs el fr, w.heap[a'.block]? = some (.cells vs el fr) ∧ vs.size ≠ 0)) → Ans P f [u1, .slice (some ⟨φ.blk b, φ.off b + o, none⟩) len cap].toArray w fun e w' => ∃ u φ', e = .returned u ∧ VRel (Dn D n n) φ' (.b false) u ∧ Stp D φ (only (hget h) [b]) w (Dn D n n) φ' (Eff.app { v := .b false, n, rd := [b] } (only (hget h) [b])) w' ∧
    (∀ b' k, Eff.app { v := .b false, n, rd := [b] } (only (hget h) [b]) b' = some k → k.ro = true → only (hget h) [b] b' = some k) := fun u1 hu => by
    obtain ⟨a, ca, rfl, ha⟩ := hu
    refine Ans.of_ext hfy hext (key a ca ha) ?_
    have e : (Eff.app { v := .b false, n, rd := [b] } (only (hget h) [b])) = only (hget h) [b] := by funext b; rfl
    rw [e]
    have hd : ∀ b, D b → Dn D n n b := fun b h => .inl h
    refine ⟨_, φ, rfl, .b _, ?_, fun b' k hb _ => hb⟩
    have hR := hH.grow hd
    exact ⟨hd, Agree.refl _ _, hR, FRM.refl _ _ _, fun b k hb hk => .inr ⟨b, k, hb, hk, rfl⟩, fun _ _ h => .inl h⟩
   cases hv2 with
   | sl _ _ _ _ hD =>
   cases hv1 with
   | fz0 _ x ca hc0 => exact fin _ ⟨x, ca, rfl, fun h => absurd rfl h⟩
   | fz _ _ B p ca vs1 hB hcap hs hh =>
    obtain ⟨e1, f1, g1⟩ := hH.fz B vs1 hB
    exact fin _ ⟨_, ca, rfl, fun _ => ⟨_, rfl, fun e => hH.fsep b k B vs1 hkk hro hB e.symm, vs1, e1, f1, g1, by have := hs 0 hL; omega⟩⟩
 · cases hc
def InsL (P : Program) (f : FuncId) (post : List AV) (z c m m' : Nat) (cs cs' : List AV) : Prop := ∀ p,
 (m' ≤ c ∧ ∃ T, FTL P f (.sl 0 p m c :: post) [(0, { cells := anys p ++ (cs ++ anys ((c - m) * z)), gr := some z })] 1 (.sl 0 p m' c) [(0, { cells := anys p ++ (cs' ++ T), gr := some z })] 1) ∨
 FTL P f (.sl 0 p m c :: post) [(0, { cells := anys p ++ (cs ++ anys ((c - m) * z)), gr := some z })] 1 (.sg 1 0 m') [(1, { cells := cs', gr := some z })] 2
theorem gv_relG {D : Nat → Prop} {φ : Phi} {h : Hp} {w : World} {z : Nat} {b o m : Nat} {u : Value} {cs : List AV} {rd : List Nat} {b' : Nat} (hH : HR D φ (only (hget h) (b :: rd)) w) (hx : VRel D φ (.sg b o m) u) (hg : gvK h z (.sg b o m) = some (b', m, cs, true)) :
 cs.length = m * z ∧ ∃ k p c elem fr vs, hget h b = some k ∧ k.ro = false ∧ m ≤ c ∧ u = .slice (some ⟨φ.blk b, p, none⟩) m c ∧ w.heap[φ.blk b]? = some (.cells vs elem fr) ∧ vs.size = p + c * z ∧
  (∀ (i : Nat) (a : AV), cs[i]? = some a → ∃ u, vs[p + i]? = some u ∧ VRel D φ a u) ∧ (z ≠ 1 → ∀ i, i ≤ vs.size → ¬ (fr.1 ≤ i ∧ i < fr.2)) := by
 have hin : inl (b :: rd) b = true := by simp [inl]
 cases hx with
 | sg _ _ _ j cap hD hj hcap hlen =>
  simp only [gvK_g, Option.bind_eq_some_iff, Option.some.injEq, Prod.mk.injEq, Bool.and_eq_true, Bool.not_eq_true', decide_eq_true_eq] at hg
  obtain ⟨k, hk, rfl, _, rfl, ⟨hro, hgr⟩, hl⟩ := hg
  have hkk : only (hget h) (b :: rd) b = some k := by rw [only_get hin]; exact hk
  obtain ⟨_, ⟨⟨vs, elem, fr, q1, q2, q3, q4⟩, _⟩⟩ := hH.at_ b k hkk
  split at hgr
  · rename_i z' hz'
    have hz := Nat.eq_of_beq_eq_true hgr
    subst hz
    obtain ⟨_, hes, hsz⟩ := q4 z hz'
    have ho : φ.cap b * z = o + cap * z := by rw [← hcap, Nat.add_mul, ← hj, hes]
    refine ⟨hl, k, φ.off b + o, cap, elem, fr, vs, hk, hro, hlen, rfl, q1, by omega, fun i a ha => ?_, fun h1 i hi => (q3 hro).2 i (by rw [hz']; rcases Nat.lt_or_ge i vs.size with h' | h'; exact .inl h'; exact .inr ⟨Nat.le_antisymm hi h', by simpa using h1⟩)⟩
    simp only [cellsAt, List.getElem?_take, List.getElem?_drop] at ha
    split at ha
    · obtain ⟨u, h1, h2⟩ := q2 _ a ha
      exact ⟨u, by rw [Nat.add_assoc]; exact h1, h2⟩
    · cases ha
  · cases hgr
theorem CallOK.liveG {P : Program} {f : FuncId} {post postF : List AV} {h : Hp} {n z b o m m' : Nat} {cs cs' : List AV} {rd : List Nat} (hc : Go.Ab.callable P f = true) (hg : gvK h z (.sg b o m) = some (b, m, cs, true)) (hcs : belL 0 cs = true) (hcs' : belL 0 cs' = true)
 (hv : VwL h rd post postF) (hbr : inl rd b = false) (hz0 : 0 < z) (hz1 : z ≠ 1) (hw : wrt h rd = true)
 (hf : ∀ c, m ≤ c → InsL P f postF z c m m' cs cs') : CallOK P f (.sg b o m :: post) h n { v := .sg n 0 m', n := n + 1, rd := b :: rd, md := dels (b :: rd), nw := [(n, { cells := cs', gr := some z })] } := by
 have happ : (Eff.app { v := .sg n 0 m', n := n + 1, rd := b :: rd, md := dels (b :: rd), nw := [(n, { cells := cs', gr := some z })] } (only (hget h) (b :: rd))) = fun c => if inl (b :: rd) c = true then none else if c = n then some { cells := cs', gr := some z } else none := by
  funext c
  simp only [Eff.app, mget_dels, only, hget]
  by_cases hcn : c = n
  · subst hcn; cases hi : inl (b :: rd) c <;> simp
  · cases hi : inl (b :: rd) c <;> simp [beq_ne hcn, hcn]
 refine ⟨hc, Nat.le_succ _, fun b' r hb => (by rw [mget_dels] at hb; split at hb; assumption; cases hb), fun c kk hc => ?_, fun D φ w us hfresh hH hA => ?_⟩
 · simp only [hget] at hc
   by_cases hcn : c = n
   · subst hcn; show c ≤ c ∧ c < c + 1; omega
   · rw [beq_ne hcn] at hc; cases hc
 have hnD : ¬ D n := hfresh n (Nat.le_refl _) (Nat.lt_succ_self _)
 obtain ⟨ux, us', rfl, hx, hA'⟩ := hA.uncons
 obtain ⟨hcl, k, p, c, elem, fr, vs, hk, hro, hmc, rfl, q1, q2, q3, q4⟩ := gv_relG hH hx hg
 have q4 := q4 hz1
 have hin : inl (b :: rd) b = true := by simp [inl]
 have hkk : only (hget h) (b :: rd) b = some k := by rw [only_get hin]; exact hk
 have hHr : HR D φ (only (hget h) rd) w := only_sub hH (fun c hc => by rw [inl_cons]; by_cases e : b = c <;> simp [e, hc])
 let D1 : Nat → Prop := fun x => x = 0
 let φ1 : Phi := { (φ.frz (only (hget h) rd) w) with blk := fun _ => φ.blk b, off := fun _ => p, cap := fun _ => c, esz := fun _ => z }
 have hnb : ∀ B vs, φ1.fz B = some vs → φ.blk b ≠ B := fun B vs hB => by
  simp only [φ1, Phi.frz] at hB
  split at hB
  · rename_i hex
    obtain ⟨b', k', hb', rfl⟩ := hex
    have hbb : b ≠ b' := fun e => by
     subst e
     unfold only at hb'
     rw [hbr] at hb'; cases hb'
    have hb2 : only (hget h) (b :: rd) b' = some k' := by
     unfold only at hb' ⊢
     cases hi : inl rd b'
     · rw [hi] at hb'; cases hb'
     · rw [inl_cons, if_neg hbb, hi]; rw [hi] at hb'; exact hb'
    exact hH.sep b b' k k' hbb hkk hb2 hro
  · exact hH.fsep b k B vs hkk hro hB
 have hfz1 : ∀ B vs, φ1.fz B = some vs → ∃ elem fr, w.heap[B]? = some (.cells vs elem fr) := fun B vs hB => by
  simp only [φ1, Phi.frz] at hB
  split at hB
  · exact fzW_spec hB
  · exact hH.fz B vs hB
 have hup : ∀ {a : AV} {u : Value}, VRel (fun _ => False) (φ.frz (only (hget h) rd) w) a u → VRel D1 φ1 a u := fun hv => VRel.mono' (D := fun _ => False) (D' := D1) (φ := φ.frz (only (hget h) rd) w) (φ' := φ1) (fun _ h => h.elim) (fun _ h => h.elim) (fun _ _ h => h) (fun _ _ h => h) hv
 have hcz : m * z + (c - m) * z = c * z := by rw [← Nat.add_mul]; congr 1; omega
 have hcel : ∀ (i : Nat) (a : AV), (anys 0 ++ (cs ++ anys ((c - m) * z)))[i]? = some a → ∃ u, vs[p + i]? = some u ∧ VRel D1 φ1 a u := fun i a ha => by
  replace ha : (cs ++ anys ((c - m) * z))[i]? = some a := ha
  have hlt : i < m * z + (c - m) * z := by
   rcases Nat.lt_or_ge i (cs ++ anys ((c - m) * z)).length with h' | h'
   · simp only [List.length_append, anys_len, hcl] at h'; omega
   · rw [List.getElem?_eq_none h'] at ha; cases ha
  have hi : p + i < vs.size := by omega
  by_cases c2 : i < cs.length
  · rw [List.getElem?_append_left c2] at ha
    obtain ⟨u, h1, h2⟩ := q3 _ a ha
    refine ⟨u, h1, hup ?_⟩
    exact (h2.mono (D' := D) (fun _ h => h) (Phi.frz_agree hHr D)).bel0 (belL_spec hcs a (List.mem_of_getElem? ha))
  · rw [List.getElem?_append_right (by omega)] at ha
    cases anys_get ha
    exact ⟨vs[p + i], Array.getElem?_eq_getElem hi, .any _⟩
 have hH1 : HR D1 φ1 (hget [(0, { cells := anys 0 ++ (cs ++ anys ((c - m) * z)), gr := some z })]) w := by
  refine ⟨⟨fun b' k' hb' => ?_, fun b1 b2 k1 k2 hne h1 h2 => ?_⟩, hfz1, hH.lp, fun b' k' B vs' hb' _ hB => hnb B vs' hB⟩
  · simp only [hget] at hb'
    by_cases e : b' = 0
    · subst e
      simp at hb'; subst hb'
      refine ⟨rfl, ⟨⟨vs, elem, (fr.1, fr.2), q1, fun i v hv => hcel i v (by simpa using hv), fun _ => ⟨fun h => (by cases h), fun i hi => q4 i (by rcases hi with hi | ⟨hi, _⟩ <;> omega)⟩, fun e he => ?_⟩, fun g hg => by cases hg⟩⟩
      simp at he; subst he
      exact ⟨rfl, rfl, q2⟩
    · rw [beq_ne e] at hb'; cases hb'
  · simp only [hget] at h1 h2
    by_cases e1 : b1 = 0
    · by_cases e2 : b2 = 0
      · exact absurd (e1.trans e2.symm) hne
      · rw [beq_ne e2] at h2; cases h2
    · rw [beq_ne e1] at h1; cases h1
 have hA1 : All2 D1 φ1 (.sl 0 0 m c :: postF) (.slice (some ⟨φ.blk b, p, none⟩) m c :: us') := by
  refine .cons ?_ ⟨by rw [← hv.len]; exact hA'.1, fun i a u ha hu => ?_⟩
  · have := VRel.sl (D := D1) (φ := φ1) 0 0 m c rfl
    simpa [φ1] using this
  · obtain ⟨a', h1, h2⟩ := hv.get ha
    exact hup (h2 D _ φ w u hHr (hA'.2 i a' u h1 hu))
 -- both ends in one form
 have key : Ans P f (Value.slice (some ⟨φ.blk b, p, none⟩) m c :: us').toArray w fun e w' => ∃ D' φ2 H2 r k2 cap u, e = .returned u ∧ Stp D1 φ1 (hget [(0, { cells := anys 0 ++ (cs ++ anys ((c - m) * z)), gr := some z })]) w D' φ2 H2 w' ∧ H2 r = some k2 ∧ k2.gr = some z ∧ (∀ (i : Nat) (a : AV), cs'[i]? = some a → k2.cells[i]? = some a) ∧ u = .slice (some ⟨φ2.blk r, φ2.off r, none⟩) m' cap ∧ cap = φ2.cap r ∧ m' ≤ cap := by
  rcases hf c hmc 0 with ⟨hm', T, hF⟩ | hF
  · refine (hF D1 φ1 w _ (fun b hb => by cases hb; exact Nat.lt_succ_self _) hH1 hA1).mono fun e w' hx => ?_
    obtain ⟨D', φ2, u, rfl, hD', hr, hS⟩ := hx
    cases hr with
    | sl _ _ _ _ hd =>
     refine ⟨D', φ2, _, 0, { cells := anys 0 ++ (cs' ++ T), gr := some z }, c, _, rfl, hS, by simp [hget], rfl, fun i a ha => ?_, rfl, ?_, hm'⟩
     · show (cs' ++ T)[i]? = some a
       rw [List.getElem?_append_left (List.getElem?_eq_some_iff.1 ha).1]; exact ha
     · exact ((hS.agree.at_ 0 rfl).2.2.1).symm
  · refine (hF D1 φ1 w _ (fun b hb => by cases hb; exact Nat.lt_succ_self _) hH1 hA1).mono fun e w' hx => ?_
    obtain ⟨D', φ2, u, rfl, hD', hr, hS⟩ := hx
    have hb1 := hS.hr.at_ 1 { cells := cs', gr := some z } (by simp [hget])
    obtain ⟨_, ⟨⟨vs', elem', fr', r1, r2, r3, r4⟩, _⟩⟩ := hb1
    obtain ⟨_, hes, _⟩ := r4 z rfl
    cases hr with
    | sg _ _ _ j cap hd hj hcap hl =>
     rw [hes] at hj
     have hj0 : j = 0 := by
      rcases Nat.eq_zero_or_pos j with h | h
      · exact h
      · have := Nat.mul_pos h hz0; omega
     subst hj0
     exact ⟨D', φ2, _, 1, { cells := cs', gr := some z }, cap, _, rfl, hS, by simp [hget], rfl, fun i a ha => ha, rfl, by omega, hl⟩
 refine key.mono fun e w' hx => ?_
 obtain ⟨D', φ2, H2, r, k2, cap, u, rfl, hS, hr2, hgr2, hcell, rfl, hcap, hm'⟩ := hx
 obtain ⟨hDr, ⟨⟨vs', elem', fr', r1, r2, r3, r4⟩, r5⟩⟩ := hS.hr.at_ r k2 hr2
 obtain ⟨hro2, hes2, hsz2⟩ := r4 z hgr2
 let φ3 : Phi := { blk := fun x => if x = n then φ2.blk r else φ.blk x, off := fun x => if x = n then φ2.off r else φ.off x, cap := fun x => if x = n then φ2.cap r else φ.cap x, esz := fun x => if x = n then z else φ.esz x, fz := φ2.fz, lp := φ2.lp }
 have ag3 : ∀ b, D b → φ3.blk b = φ.blk b ∧ φ3.off b = φ.off b ∧ φ3.cap b = φ.cap b ∧ φ3.esz b = φ.esz b := fun b hb => by
  have : b ≠ n := fun e => hnD (e ▸ hb)
  simp [φ3, this]
 have hst : ∀ c, c < w.heap.size → φ.blk b ≠ c → w'.heap[c]? = w.heap[c]? := fun c hc hne => hS.frm.block c hc (fun b' k' hb' _ => by
  simp only [hget] at hb'
  by_cases e : b' = 0
  · exact hne
  · rw [beq_ne e] at hb'; cases hb')
 have h3 : ∀ (i : Nat) (a : AV), cs'[i]? = some a → ∃ u, vs'[φ2.off r + i]? = some u ∧ VRel (Dn D n (n + 1)) φ3 a u := fun i a ha => by
  obtain ⟨u, hu, hur⟩ := r2 i a (hcell i a ha)
  refine ⟨u, hu, ?_⟩
  have h1 : VRel (fun _ => False) φ2 a u := hur.bel0 (belL_spec hcs' a (List.mem_of_getElem? ha))
  exact VRel.mono' (φ := φ2) (φ' := φ3) (fun _ h => h.elim) (fun _ h => h.elim) (fun _ _ h => h) (fun _ _ h => h) h1
 have himg : w.heap.size ≤ φ2.blk r ∨ φ.blk b = φ2.blk r := by
  rcases hS.img r k2 hr2 hro2 with h1 | ⟨m0, km, h1, _, h2⟩
  · exact .inl h1
  · exact .inr h2
 refine ⟨_, φ3, rfl, ?_, ?_, fun c kk hc hk => ?_⟩
 · have := VRel.sg (D := Dn D n (n + 1)) (φ := φ3) n 0 m' 0 cap (.inr ⟨Nat.le_refl _, Nat.lt_succ_self _⟩) (by simp) (by simp [φ3, hcap]) hm'
   simpa [φ3] using this
 · show Stp D φ _ w (Dn D n (n + 1)) φ3 (Eff.app _ _) w'
   rw [happ]
   have ag1 := Phi.frz_agree hHr D
   have get : ∀ {c kk}, (if inl (b :: rd) c = true then none else if c = n then some { cells := cs', gr := some z } else none : Option Blk) = some kk → c = n ∧ kk = { cells := cs', gr := some z } := fun {c kk} hc => by
    split at hc
    · cases hc
    · split at hc
      · rename_i e; cases hc; exact ⟨e, rfl⟩
      · cases hc
   refine ⟨fun b h => .inl h, ⟨ag3, fun B vs hB => hS.agree.fz B vs (ag1.fz B vs hB), hS.agree.lp⟩, ⟨⟨fun c kk hc => ?_, fun b1 b2 k1 k2 hne h1 h2 _ => absurd ((get h1).1.trans (get h2).1.symm) hne⟩, hS.hr.fz, hS.hr.lp, fun c kk B vs hc _ hB => ?_⟩,
    ⟨hS.frm.os, hS.frm.tape, hS.frm.output, hS.frm.size, fun c hc hne => hst c hc (hne b k hkk hro)⟩, fun c kk hc _ => ?_, fun B vs hB => ?_⟩
   · obtain ⟨rfl, rfl⟩ := get hc
     refine ⟨.inr ⟨Nat.le_refl _, Nat.lt_succ_self _⟩, ⟨⟨vs', elem', fr', by simpa [φ3] using r1, fun i v hv => ?_, fun _ => ⟨fun h => (by cases h), fun i hi => (r3 hro2).2 i (by rw [hgr2]; exact hi)⟩, fun e he => ?_⟩, fun g hg => by cases hg⟩⟩
     · obtain ⟨u, h1, h2⟩ := h3 i v hv
       exact ⟨u, by simpa [φ3] using h1, h2⟩
     · simp at he; subst he
       exact ⟨rfl, by simp [φ3], by simpa [φ3] using hsz2⟩
   · obtain ⟨rfl, rfl⟩ := get hc
     have := hS.hr.fsep r k2 B vs hr2 hro2 hB
     simpa [φ3] using this
   · obtain ⟨rfl, rfl⟩ := get hc
     rcases himg with h1 | h1
     · left; simpa [φ3] using h1
     · right; exact ⟨b, k, hkk, hro, by simpa [φ3] using h1⟩
   · rcases hS.fnew B vs hB with h1 | h1 | ⟨m', km, h1, h2, h3⟩
     · simp only [φ1, Phi.frz] at h1
       split at h1
       · rename_i hx
         obtain ⟨b', k', hbk, hB'⟩ := hx
         right; right
         have hi : inl rd b' = true := by
          cases hi : inl rd b'
          · unfold only at hbk; rw [hi] at hbk; cases hbk
          · rfl
         have hbk' : hget h b' = some k' := by unfold only at hbk; rw [hi] at hbk; exact hbk
         refine ⟨b', k', ?_, wrt_spec hw hi hbk', hB'⟩
         unfold only
         have : inl (b :: rd) b' = true := by
          rw [inl_cons]
          by_cases e : b = b'
          · rw [if_pos e]
          · rw [if_neg e]; exact hi
         rw [this]; exact hbk'
       · exact .inl h1
     · exact .inr (.inl h1)
     · right; right; exact ⟨b, k, hkk, hro, h3⟩
 · rw [happ] at hc
   dsimp only at hc
   split at hc
   · cases hc
   · split at hc
     · cases hc; cases hk
     · cases hc
theorem CallOK.giveN {P : Program} {f : FuncId} {args argsF : List AV} {h : Hp} {n : Nat} {rd : List Nat} {z m : Nat} {cs : List AV} (hc : Go.Ab.callable P f = true)
 (hv : VwL h rd args argsF) (hb : belL 0 cs = true) (hw : wrt h rd = true) (hf : FTL P f argsF [] 0 (.sg 0 0 m) [(0, { cells := cs, gr := some z })] 1) : CallOK P f args h n { v := .sg n 0 m, n := n + 1, rd, md := dels rd, nw := [(n, { cells := cs, gr := some z })] } := by
 have happ : (Eff.app { v := .sg n 0 m, n := n + 1, rd, md := dels rd, nw := [(n, { cells := cs, gr := some z })] } (only (hget h) rd)) = fun c => if inl rd c = true then none else if c = n then some { cells := cs, gr := some z } else none := by
  funext c
  simp only [Eff.app, mget_dels, only, hget]
  by_cases hcn : c = n
  · subst hcn; cases hi : inl rd c <;> simp
  · cases hi : inl rd c <;> simp [beq_ne hcn, hcn]
 refine ⟨hc, Nat.le_succ _, fun b r hb => (by rw [mget_dels] at hb; by_cases hi : inl rd b = true; exact hi; rw [if_neg hi] at hb; cases hb), fun c kk hc => ?_, fun D φ w us hfresh hH hA => ?_⟩
 · simp only [hget] at hc
   by_cases hcn : c = n
   · subst hcn; show c ≤ c ∧ c < c + 1; omega
   · rw [beq_ne hcn] at hc; cases hc
 have hnD : ¬ D n := hfresh n (Nat.le_refl _) (Nat.lt_succ_self _)
 let φ1 := φ.frz (only (hget h) rd) w
 have hH1 : HR (fun _ => False) φ1 (hget []) w := ⟨⟨fun b k hb => by simp [hget] at hb, fun b1 b2 k1 k2 _ hb => by simp [hget] at hb⟩, fun B vs hB => by
  simp only [φ1, Phi.frz] at hB
  split at hB
  · exact fzW_spec hB
  · exact hH.fz B vs hB, hH.lp, fun b k B vs hb => by simp [hget] at hb⟩
 have hA1 : All2 (fun _ => False) φ1 argsF us := ⟨by rw [← hv.len]; exact hA.1, fun i a u ha hu => by
  obtain ⟨a', h1, h2⟩ := hv.get ha
  exact h2 D _ φ w u hH (hA.2 i a' u h1 hu)⟩
 refine (hf (fun _ => False) φ1 w us (fun _ h => h.elim) hH1 hA1).mono fun e w' hx => ?_
 obtain ⟨D', φ2, u, rfl, hD', hr, hS⟩ := hx
 obtain ⟨hDr, ⟨⟨vs', elem', fr', r1, r2, r3, r4⟩, r5⟩⟩ := hS.hr.at_ 0 { cells := cs, gr := some z } (by simp [hget])
 have hr2 : hget [(0, ({ cells := cs, gr := some z } : Blk))] 0 = some { cells := cs, gr := some z } := by simp [hget]
 obtain ⟨hro2, hes2, hsz2⟩ := r4 z rfl
 have ag1 := Phi.frz_agree hH D
 let φ3 : Phi := { blk := fun x => if x = n then φ2.blk 0 else φ.blk x, off := fun x => if x = n then φ2.off 0 else φ.off x, cap := fun x => if x = n then φ2.cap 0 else φ.cap x, esz := fun x => if x = n then φ2.esz 0 else φ.esz x, fz := φ2.fz, lp := φ2.lp }
 have ag3 : ∀ b, D b → φ3.blk b = φ.blk b ∧ φ3.off b = φ.off b ∧ φ3.cap b = φ.cap b ∧ φ3.esz b = φ.esz b := fun b hb => by
  have : b ≠ n := fun e => hnD (e ▸ hb)
  simp [φ3, this]
 have hst : ∀ c, c < w.heap.size → w'.heap[c]? = w.heap[c]? := fun c hc => hS.frm.block c hc (fun b k hb => by simp [hget] at hb)
 have h3 : ∀ (i : Nat) (a : AV), cs[i]? = some a → ∃ u, vs'[φ2.off 0 + i]? = some u ∧ VRel (Dn D n (n + 1)) φ3 a u := fun i a ha => by
  obtain ⟨u, hu, hur⟩ := r2 i a ha
  refine ⟨u, hu, ?_⟩
  have h1 : VRel (fun _ => False) φ2 a u := hur.bel0 (belL_spec hb a (List.mem_of_getElem? ha))
  exact VRel.mono' (φ := φ2) (φ' := φ3) (fun _ h => h.elim) (fun _ h => h.elim) (fun _ _ h => h) (fun _ _ h => h) h1
 have himg : w.heap.size ≤ φ2.blk 0 := by
  rcases hS.img 0 _ hr2 hro2 with h1 | ⟨m0, km, h1, _, h2⟩
  · exact h1
  · simp [hget] at h1
 refine ⟨u, φ3, rfl, ?_, ?_, fun c kk hc hk => ?_⟩
 · have : VRel (fun x => x = 0) φ2 (.sg 0 0 m) u := by
    cases hr with
    | sg _ _ _ j cap hd hj hcap hl => exact .sg 0 0 m j cap rfl hj hcap hl
   cases this with
   | sg _ _ _ j cap hd hj hcap hl =>
    have := VRel.sg (D := Dn D n (n + 1)) (φ := φ3) n 0 m j cap (.inr ⟨Nat.le_refl _, Nat.lt_succ_self _⟩) (by simpa [φ3] using hj) (by simpa [φ3] using hcap) hl
    simpa [φ3] using this
 · show Stp D φ _ w (Dn D n (n + 1)) φ3 (Eff.app _ _) w'
   rw [happ]
   have get : ∀ {c kk}, (if inl rd c = true then none else if c = n then some { cells := cs, gr := some z } else none : Option Blk) = some kk → c = n ∧ kk = { cells := cs, gr := some z } := fun {c kk} hc => by
    split at hc
    · cases hc
    · split at hc
      · rename_i e; cases hc; exact ⟨e, rfl⟩
      · cases hc
   refine ⟨fun b h => .inl h, ⟨ag3, fun B vs hB => hS.agree.fz B vs (ag1.fz B vs hB), hS.agree.lp⟩, ⟨⟨fun c kk hc => ?_, fun b1 b2 k1 k2 hne h1 h2 _ => absurd ((get h1).1.trans (get h2).1.symm) hne⟩, hS.hr.fz, hS.hr.lp, fun c kk B vs hc _ hB => ?_⟩,
    ⟨hS.frm.os, hS.frm.tape, hS.frm.output, hS.frm.size, fun c hc _ => hst c hc⟩, fun c kk hc _ => ?_, fun B vs hB => ?_⟩
   · obtain ⟨rfl, rfl⟩ := get hc
     refine ⟨.inr ⟨Nat.le_refl _, Nat.lt_succ_self _⟩, ⟨⟨vs', elem', fr', by simpa [φ3] using r1, fun i v hv => ?_, fun _ => ⟨fun h => (by cases h), fun i hi => (r3 rfl).2 i hi⟩, fun e he => ?_⟩, fun g hg => by cases hg⟩⟩
     · obtain ⟨u, h1, h2⟩ := h3 i v hv
       exact ⟨u, by simpa [φ3] using h1, h2⟩
     · simp at he; subst he
       exact ⟨rfl, by simpa [φ3] using hes2, by simpa [φ3] using hsz2⟩
   · obtain ⟨rfl, rfl⟩ := get hc
     have := hS.hr.fsep 0 _ B vs hr2 hro2 hB
     simpa [φ3] using this
   · obtain ⟨rfl, rfl⟩ := get hc
     left; simpa [φ3] using himg
   · rcases hS.fnew B vs hB with h1 | h1 | ⟨m, km, h1, _⟩
     · simp only [φ1, Phi.frz] at h1
       split at h1
       · rename_i hx
         obtain ⟨b, k, hbk, hB'⟩ := hx
         right; right
         refine ⟨b, k, hbk, ?_, hB'⟩
         simp only [only] at hbk
         cases hi : inl rd b
         · rw [hi] at hbk; cases hbk
         · rw [hi] at hbk; exact wrt_spec hw hi hbk
       · exact .inl h1
     · exact .inr (.inl h1)
     · simp [hget] at h1
 · rw [happ] at hc
   dsimp only at hc
   split at hc
   · cases hc
   · split at hc
     · cases hc; cases hk
     · cases hc
section
variable {P : Program} {α : Type} {row : α → List AV} {z bytes : Nat} {zs : List AV} {f fo fr : FuncId} {fn : Func}
theorem ins_nsL (hm : P.follows .mixedOrders = true) (hf : P.funcs[f]? = some fn) (hI : compF P fn = some (insI z bytes zs fo fr)) (hlen : ∀ a, (row a).length = z) (hbel : ∀ a, belL 0 (row a) = true) (xs : List α) (h0 : 0 < xs.length) (hg : bytes * xs.length ≤ growMax) :
 FTL P f [.ns, .i .i64 0, .fz (rows row xs) xs.length] [] 0 (.sg 0 0 xs.length) [(0, { cells := rows row xs, gr := some z })] 1 := by
 refine FTL.of_cov (cx := cxT []) Sound.nil hm hf hI (by simp [insI]) (iw_of_jw ?_)
 dsimp only [insI]
 have hl : (rows row xs).length = xs.length * z := rows_len hlen
 have hb : belL 0 (rows row xs) = true := rows_bel hbel
 generalize rows row xs = L at *
 have e1 : ((xs.length : Int) == 0) = false := by rw [beq_eq_false_iff_ne]; omega
 have e2 : decide (xs.length = 0) = false := decide_eq_false (by omega)
 have e3 : decide (bytes * xs.length ≤ growMax) = true := decide_eq_true hg
 have e4 : List.take (xs.length * z) L = L := List.take_of_length_le (by omega)
 simp (maxSteps := 400000) only [go_sem, e1, e2, e3, e4, hl, List.drop_zero, simprocAttr]
 exact CovS.ends (Ends.new1 (b := 0) (Nat.le_refl _) rfl rfl rfl hb rfl)
theorem ins_slL (hm : P.follows .mixedOrders = true) (hf : P.funcs[f]? = some fn) (hI : compF P fn = some (insI z bytes zs fo fr)) (ho : SoundAt P fo ovlK2) (hlen : ∀ a, (row a).length = z) (hz0 : 0 < z) (hz1 : z ≠ 1) (hzl : zs.length = z) (hbel : ∀ a, belL 0 (row a) = true) (hone : ∀ a, oneAll (row a) = true)
 (l xs : List α) (i c : Nat) (hi : i ≤ l.length) (hc : l.length ≤ c) (h0 : 0 < xs.length) (hg : bytes * (l.length + xs.length) ≤ growMax) (hbig : l.length + xs.length ≤ 9223372036854775807) :
 InsL P f [.i .i64 i, .fz (rows row xs) xs.length] z c l.length (l.length + xs.length) (rows row l) (rows row (insL l xs i)) := by
 intro p
 have hzb : Nat.beq z 1 = false := beq_ne (fun e => hz1 e.symm)
 have hT : Sound P (cxT [(fo, ovlK2)]) := Sound.cons ho Sound.nil
 have hl : (rows row xs).length = xs.length * z := rows_len hlen
 have hb : belL 0 (rows row xs) = true := rows_bel hbel
 have h1 : oneAll (rows row xs) = true := rows_one1 hone _
 have hlL : (rows row l).length = l.length * z := rows_len hlen
 have hbL : belL 0 (rows row l) = true := rows_bel hbel
 have h1A : oneAll (rows row (l.take i)) = true := rows_one1 hone _
 have h1B : oneAll (rows row (l.drop i)) = true := rows_one1 hone _
 have hAB : rows row l = rows row (l.take i) ++ rows row (l.drop i) := by rw [← rows_append, List.take_append_drop]
 have hA : (rows row (l.take i)).length = i * z := by rw [rows_len hlen, List.length_take, Nat.min_eq_left hi]
 have hB : (rows row (l.drop i)).length = (l.length - i) * z := by rw [rows_len hlen, List.length_drop]
 have hb3 : belL 0 (rows row (insL l xs i)) = true := rows_bel hbel
 have hins : rows row (insL l xs i) = rows row (l.take i) ++ (rows row xs ++ rows row (l.drop i)) := by rw [insL, rows_append, rows_append]
 rw [hins] at hb3 ⊢
 rw [hAB] at hbL hlL ⊢
 have hb0 := hb3
 have hb3 := belL_mono0 (m := 1) _ hb3
 generalize rows row (l.take i) = A at *
 generalize rows row (l.drop i) = B at *
 generalize rows row xs = X at *
 generalize l.length = N at *
 generalize xs.length = m at *
 clear hins hAB
 have hAn : (anys p).length = p := anys_len
 have hQb : belL 1 (anys p) = true := anys_bel
 have hSb : belL 1 (anys ((c - N) * z)) = true := anys_bel
 have hSn : (anys ((c - N) * z)).length = (c - N) * z := anys_len
 generalize anys ((c - N) * z) = S at *
 generalize anys p = Q at *
 have hNz : i * z + (N - i) * z = N * z := by rw [← Nat.add_mul]; congr 1; omega
 have e1 : ((m : Int) == 0) = false := by rw [beq_eq_false_iff_ne]; omega
 have e2 : decide (m = 0) = false := decide_eq_false (by omega)
 have e3 : decide (bytes * (N + m) ≤ growMax) = true := decide_eq_true hg
 have e4 : List.take (m * z) X = X := List.take_of_length_le (by omega)
 have e5 : decide (0 ≤ (i : Int) ∧ (i : Int) ≤ (N : Int) ∧ 0 ≤ (N : Int) ∧ (N : Int) ≤ (c : Int) ∧ 0 ≤ (c : Int)) = true := decide_eq_true (by omega)
 have w1 : IntKind.i64.wrap ((N : Int) + (m : Int)) = ((N + m : Nat) : Int) := by rw [wrapL (by omega) (by omega)]; omega
 have w2 : IntKind.i64.wrap (((N + m : Nat) : Int) - (i : Int)) = ((N + m - i : Nat) : Int) := by rw [wrapL (by omega) (by omega)]; omega
 have w3 : IntKind.i64.wrap ((i : Int) + (m : Int)) = ((i + m : Nat) : Int) := by rw [wrapL (by omega) (by omega)]; omega
 have hcz : N * z + (c - N) * z = c * z := by rw [← Nat.add_mul]; congr 1; omega
 rcases Nat.lt_or_ge i N with hlt | hge
 · have d1 : ((i : Int) == (N : Int)) = false := by rw [beq_eq_false_iff_ne]; omega
   by_cases hroom : N + m ≤ c
   · -- there is room
     have d2 : decide ((c : Int) < ((N + m : Nat) : Int)) = false := decide_eq_false (by omega)
     have a2 : ¬ c = i := by omega
     have a3 : ¬ c = 0 := by omega
     have a4 : ¬ c = i + m := by omega
     have him : (i + m) * z = i * z + m * z := Nat.add_mul _ _ _
     have hZz : (N + m - i) * z = (N - i) * z + m * z := by rw [← Nat.add_mul]; congr 1; omega
     have hcm : (c - N) * z = m * z + (c - N - m) * z := by rw [← Nat.add_mul]; congr 1; omega
     obtain ⟨Y, S2, rfl, hY, hS2⟩ := cut1 S (hSn.trans hcm)
     -- what lies behind the place, parted where the tail will come to lie
     obtain ⟨W, V, hWV, hW, hV⟩ := cut1 (B ++ Y) (a := m * z) (b := (N - i) * z) (by rw [List.length_append]; omega)
     have k1 : List.take ((N + m - i) * z) (List.drop (p + i * z) (Q ++ (A ++ B ++ (Y ++ S2)))) = B ++ Y := by
      rw [show Q ++ (A ++ B ++ (Y ++ S2)) = (Q ++ A) ++ ((B ++ Y) ++ S2) by simp only [List.append_assoc], dr1 (by rw [List.length_append]; omega), tk1 (by rw [List.length_append]; omega)]
     have k2 : List.take ((N - i) * z) (B ++ Y) = B := tk1 hB
     have k3 : List.take (p + (i + m) * z) (Q ++ (A ++ B ++ (Y ++ S2))) = Q ++ (A ++ W) := by
      rw [show Q ++ (A ++ B ++ (Y ++ S2)) = (Q ++ (A ++ W)) ++ (V ++ S2) by
       have : A ++ B ++ (Y ++ S2) = A ++ ((B ++ Y) ++ S2) := by simp only [List.append_assoc]
       rw [this, hWV]; simp only [List.append_assoc]]
      exact tk1 (by simp only [List.length_append]; omega)
     have k4 : List.drop (p + (i + m) * z + (N - i) * z) (Q ++ (A ++ B ++ (Y ++ S2))) = S2 := by
      rw [show Q ++ (A ++ B ++ (Y ++ S2)) = (Q ++ (A ++ (B ++ Y))) ++ S2 by simp only [List.append_assoc]]
      exact dr1 (by simp only [List.length_append]; omega)
     have k5 : List.take (p + i * z) (Q ++ (A ++ W) ++ B ++ S2) = Q ++ A := by
      rw [show Q ++ (A ++ W) ++ B ++ S2 = (Q ++ A) ++ (W ++ (B ++ S2)) by simp only [List.append_assoc]]
      exact tk1 (by simp only [List.length_append]; omega)
     have k6 : List.drop (p + i * z + m * z) (Q ++ (A ++ W) ++ B ++ S2) = B ++ S2 := by
      rw [show Q ++ (A ++ W) ++ B ++ S2 = (Q ++ (A ++ W)) ++ (B ++ S2) by simp only [List.append_assoc]]
      exact dr1 (by simp only [List.length_append]; omega)
     have i1 : (if N + m - i ≤ N + m - (i + m) then N + m - i else N + m - (i + m)) = N - i := by rw [if_neg (by omega)]; omega
     have i2 : (if m ≤ N + m - i then m else N + m - i) = m := if_pos (by omega)
     have hXp : 0 < X.length := by rw [hl]; exact Nat.mul_pos h0 hz0
     have hBp : 0 < (N - i) * z := Nat.mul_pos (by omega) hz0
     have hHl : (Q ++ (A ++ B ++ (Y ++ S2))).length = p + (i * z + ((N - i) * z + (m * z + (c - N - m) * z))) := by simp only [List.length_append]; omega
     have c1 : decide (0 ≤ ((N + m : Nat) : Int) ∧ ((N + m : Nat) : Int) ≤ (c : Int)) = true := decide_eq_true (by omega)
     have c2 : decide (0 ≤ ((i + m : Nat) : Int) ∧ ((i + m : Nat) : Int) ≤ ((N + m : Nat) : Int) ∧ 0 ≤ ((N + m : Nat) : Int) ∧ ((N + m : Nat) : Int) ≤ (c : Int) ∧ 0 ≤ (c : Int)) = true := decide_eq_true (by omega)
     have c3 : decide (0 < m * z) = true := decide_eq_true (Nat.mul_pos h0 hz0)
     have c4 : decide (p + (i + m) * z < (Q ++ (A ++ B ++ (Y ++ S2))).length) = true := decide_eq_true (by rw [hHl]; omega)
     have c5 : decide (0 ≤ (i : Int) ∧ (i : Int) ≤ ((N + m : Nat) : Int) ∧ 0 ≤ ((N + m : Nat) : Int) ∧ ((N + m : Nat) : Int) ≤ (c : Int) ∧ 0 ≤ (c : Int)) = true := decide_eq_true (by omega)
     have c6 : decide ((B ++ Y).length = (N + m - i) * z) = true := decide_eq_true (by rw [List.length_append]; omega)
     have c7 : decide (p + (i + m) * z + (N - i) * z ≤ (Q ++ (A ++ B ++ (Y ++ S2))).length) = true := decide_eq_true (by rw [hHl]; omega)
     have c8 : decide (p + i * z + m * z ≤ (Q ++ (A ++ W) ++ B ++ S2).length) = true := decide_eq_true (by simp only [List.length_append]; omega)
     have c9 : 0 < 1 := Nat.one_pos
     refine .inl ⟨hroom, S2, ?_⟩
     refine FTL.of_cov hT hm hf hI (by simp [insI]) (iw_of_jw ?_)
     dsimp only [insI]
     simp (maxSteps := 400000) only [go_sem, e1, e2, e4, e5, hl, List.drop_zero, w1, w2, w3, d1, d2, a2, a3, a4, if_false, h1, h1B, hA, hB, i1, i2, k1, k2, k3, k4, k5, k6, ovlK2, hzb, c1, c2, c3, c4, c5, c6, c7, c8, c9, simprocAttr]
     exact CovS.ends (Ends.keep1 rfl rfl (by simp only [belL_append, Bool.and_eq_true] at hSb hb3 hQb ⊢; simp only [hSb, hb3, hQb, and_self]) rfl (by simp only [List.append_assoc]))
   · -- a new row
     have d2 : decide ((c : Int) < ((N + m : Nat) : Int)) = true := decide_eq_true (by omega)
     have a1 : i + (N + m - i) = N + m := by omega
     have a2 : ¬ c = i := by omega
     have t1 : List.take (i * z) (List.drop p (Q ++ (A ++ B ++ S))) = A := by rw [dr1 hAn, List.append_assoc, tk1 hA]
     have t2 : List.take ((N - i) * z) (List.drop (p + i * z) (Q ++ (A ++ B ++ S))) = B := by
      rw [show Q ++ (A ++ B ++ S) = (Q ++ A) ++ (B ++ S) by simp only [List.append_assoc], dr1 (by rw [List.length_append]; omega), tk1 hB]
     have hZ : (zeros zs (N + m - i)).length = (N + m - i) * z := by
      generalize N + m - i = r
      induction r with
      | zero => simp [zeros]
      | succ r ih => simp [zeros, ih, hzl, Nat.succ_mul]; omega
     generalize hZe : zeros zs (N + m - i) = Z at *
     have hZz : (N + m - i) * z = m * z + (N - i) * z := by rw [← Nat.add_mul]; congr 1; omega
     have hNm : (N + m) * z = i * z + (m * z + (N - i) * z) := by rw [← Nat.add_mul, ← Nat.add_mul]; congr 1; omega
     have him : (i + m) * z = i * z + m * z := Nat.add_mul _ _ _
     obtain ⟨Z1, Z2, rfl, hZ1, hZ2⟩ := cut1 Z (hZ.trans hZz)
     have i1 : (if m ≤ N + m - i then m else N + m - i) = m := if_pos (by omega)
     have i2 : (if N - i ≤ N + m - (i + m) then N - i else N + m - (i + m)) = N - i := if_pos (by omega)
     have e6 : List.take ((N - i) * z) B = B := List.take_of_length_le (by omega)
     have s1 : List.take (i * z) (A ++ (Z1 ++ Z2)) = A := tk1 hA
     have s2 : List.drop (i * z + m * z) (A ++ (Z1 ++ Z2)) = Z2 := by rw [← List.append_assoc]; exact dr1 (by rw [List.length_append]; omega)
     have s3 : List.take ((i + m) * z) (A ++ X ++ Z2) = A ++ X := tk1 (by rw [List.length_append]; omega)
     have s4 : List.drop ((i + m) * z + (N - i) * z) (A ++ X ++ Z2) = [] := List.drop_of_length_le (by simp only [List.length_append]; omega)
     have c1 : decide (0 ≤ (i : Int) ∧ (i : Int) ≤ (c : Int)) = true := decide_eq_true (by omega)
     have c2 : decide (0 < ((N + m - i : Nat) : Int)) = true := decide_eq_true (by omega)
     have c3 : decide (c < N + m) = true := decide_eq_true (by omega)
     have c4 : decide (0 ≤ (i : Int) ∧ (i : Int) ≤ ((N + m : Nat) : Int) ∧ 0 ≤ ((N + m : Nat) : Int)) = true := decide_eq_true (by omega)
     have c5 : decide (i = 0 ∨ i < N + m) = true := decide_eq_true (by omega)
     have c6 : decide (i * z + m * z ≤ (A ++ (Z1 ++ Z2)).length) = true := decide_eq_true (by simp only [List.length_append]; omega)
     have c7 : decide (0 ≤ ((i + m : Nat) : Int) ∧ ((i + m : Nat) : Int) ≤ ((N + m : Nat) : Int) ∧ 0 ≤ ((N + m : Nat) : Int)) = true := decide_eq_true (by omega)
     have c8 : decide (i + m = 0 ∨ i + m < N + m) = true := decide_eq_true (by omega)
     have c9 : decide ((i + m) * z + (N - i) * z ≤ (A ++ X ++ Z2).length) = true := decide_eq_true (by simp only [List.length_append]; omega)
     refine .inr ?_
     refine FTL.of_cov hT hm hf hI (by simp [insI]) (iw_of_jw ?_)
     dsimp only [insI]
     simp (maxSteps := 400000) only [go_sem, e1, e2, e3, e4, e5, e6, hl, hlL, List.drop_zero, w1, w2, w3, d1, d2, a1, a2, t1, t2, if_false, h1, h1B, hA, hB, hZe, i1, i2, s1, s2, s3, s4, c1, c2, c3, c4, c5, c6, c7, c8, c9, simprocAttr]
     exact CovS.ends (Ends.new1 (b := 1) (Nat.le_refl _) rfl rfl rfl hb0 (by simp only [List.append_assoc]))
 · -- at the end
   obtain rfl : i = N := by omega
   have hBn : B = [] := List.eq_nil_of_length_eq_zero (by rw [hB]; simp)
   subst hBn
   have d1 : ((i : Int) == (i : Int)) = true := beq_self_eq_true _
   simp only [List.append_nil] at hb3 hb0 ⊢
   have e8 : decide (0 ≤ (i : Int) ∧ 0 ≤ (i : Int) ∧ (i : Int) ≤ (c : Int) ∧ 0 ≤ (c : Int)) = true := decide_eq_true (by omega)
   by_cases hroom : i + m ≤ c
   · have r1 : decide (i + m ≤ c) = true := decide_eq_true hroom
     have hcm : (c - i) * z = m * z + (c - i - m) * z := by rw [← Nat.add_mul]; congr 1; omega
     obtain ⟨Y, S2, rfl, hY, hS2⟩ := cut1 S (hSn.trans hcm)
     have k1 : List.take (p + i * z) (Q ++ (A ++ (Y ++ S2))) = Q ++ A := by
      rw [← List.append_assoc]
      exact tk1 (by simp only [List.length_append]; omega)
     have k2 : List.drop (p + i * z + m * z) (Q ++ (A ++ (Y ++ S2))) = S2 := by
      rw [show Q ++ (A ++ (Y ++ S2)) = (Q ++ (A ++ Y)) ++ S2 by simp]
      exact dr1 (by simp only [List.length_append]; omega)
     have c1 : decide (p + i * z + m * z ≤ (Q ++ (A ++ (Y ++ S2))).length) = true := decide_eq_true (by simp only [List.length_append]; omega)
     refine .inl ⟨hroom, S2, ?_⟩
     refine FTL.of_cov hT hm hf hI (by simp [insI]) (iw_of_jw ?_)
     dsimp only [insI]
     simp (maxSteps := 400000) only [go_sem, e1, e2, e3, e4, e8, hl, List.drop_zero, d1, r1, h1, k1, k2, c1, simprocAttr]
     exact CovS.ends (Ends.keep1 rfl rfl (by simp only [belL_append, Bool.and_eq_true] at hSb hb3 hQb ⊢; simp only [hSb, hb3, hQb, and_self]) rfl (by simp only [List.append_assoc]))
   · have r1 : decide (i + m ≤ c) = false := decide_eq_false hroom
     have t1 : List.take (i * z) (List.drop p (Q ++ (A ++ S))) = A := by rw [dr1 hAn, tk1 hA]
     have c2 : decide (i ≤ c) = true := decide_eq_true hc
     refine .inr ?_
     refine FTL.of_cov hT hm hf hI (by simp [insI]) (iw_of_jw ?_)
     dsimp only [insI]
     simp (maxSteps := 400000) only [go_sem, e1, e2, e3, e4, e8, hl, hA, List.drop_zero, d1, r1, h1, t1, c2, simprocAttr]
     exact CovS.ends (Ends.new1 (b := 1) (Nat.le_refl _) rfl rfl rfl hb0 (by simp only [List.append_assoc]))
end
end Go.Ab
end
