/- Texts laid as one: AbSh AbShC AbGen AbSh2 AbSh3 AbSh4 AbSh5 AbSh6 AbGq AbCut AbSeam AbForm. -/
import Derived.Test.YtlokbfkdgnopeaaGreatDoorAbRead
import Derived.Test.YtlokbfkdgnopeaaGreatDoorAbExecs
section
/- The abstract layer, part 41: slices of plain rows whose form is left open; calls and loops that hand them on. -/
namespace Go.Ab
set_option linter.unusedVariables false
set_option linter.unusedSimpArgs false
inductive Sh where
 | nil
 | sl (k : Blk) (o len cap : Nat)
 | sg (k : Blk) (o len : Nat)
def Sh.v : Sh → Nat → AV
 | .nil, _ => .ns
 | .sl _ o len cap, b => .sl b o len cap
 | .sg _ o len, b => .sg b o len
def Sh.h : Sh → Nat → Hp
 | .nil, _ => []
 | .sl k _ _ _, b => [(b, k)]
 | .sg k _ _, b => [(b, k)]
def Sh.bl : Sh → Nat → List Nat
 | .nil, _ => []
 | .sl _ _ _ _, b => [b]
 | .sg _ _ _, b => [b]
def Sh.len : Sh → Nat
 | .nil => 0
 | .sl _ _ len _ => len
 | .sg _ _ len => len
def Sh.cs (z : Nat) : Sh → List AV
 | .nil => []
 | .sl k o len _ => cellsAt k.cells o (len * z)
 | .sg k o len => cellsAt k.cells o (len * z)
def Sh.plain : Sh → Bool
 | .nil => true
 | .sl k _ _ _ => belL 0 k.cells
 | .sg k _ _ => belL 0 k.cells
structure Sh.is {α : Type} (f : α → List AV) (z : Nat) (s : Sh) (l : List α) : Prop where
 pl : s.plain = true
 ln : s.len = l.length
 cs : s.cs z = rows f l
def shAt : AV → Hp → Option Sh
 | .ns, _ => some .nil
 | .sl b o len cap, h => (hget h b).map fun k => .sl k o len cap
 | .sg b o len, h => (hget h b).map fun k => .sg k o len
 | _, _ => none
def shR : AV → List Nat
 | .sl b _ _ _ => [b]
 | .sg b _ _ => [b]
 | _ => []
def shD : AV → AV → Bool
 | .sl b _ _ _, .sl c _ _ _ => !(Nat.beq b c)
 | .sl b _ _ _, .sg c _ _ => !(Nat.beq b c)
 | .sg b _ _, .sl c _ _ _ => !(Nat.beq b c)
 | .sg b _ _, .sg c _ _ => !(Nat.beq b c)
 | _, _ => true
section
variable {s t : Sh} {b c : Nat} {h r : Hp} {k : Blk}
theorem shAt_cons (hc : c ≠ b) : shAt (s.v b) ((c, k) :: r) = shAt (s.v b) r := by
 cases s <;> simp [Sh.v, shAt, hget_cons, hc]
theorem shAt_hit : shAt (s.v b) (s.h b ++ r) = some s := by
 cases s <;> simp [Sh.v, Sh.h, shAt, hget_cons]
theorem shAt_hit0 : shAt (s.v b) (s.h b) = some s := by
 cases s <;> simp [Sh.v, Sh.h, shAt, hget_cons]
theorem shAt_skip (hc : c ≠ b) : shAt (s.v b) (t.h c ++ r) = shAt (s.v b) r := by
 cases t <;> simp [Sh.h] <;> exact shAt_cons hc
theorem shAt_ns : shAt .ns h = some .nil := (rfl)
theorem shAt_sl {o len cap : Nat} : shAt (.sl b o len cap) h = (hget h b).bind fun k => some (.sl k o len cap) := by
 show (hget h b).map _ = _; cases hget h b <;> rfl
theorem shAt_sg {o len : Nat} : shAt (.sg b o len) h = (hget h b).bind fun k => some (.sg k o len) := by
 show (hget h b).map _ = _; cases hget h b <;> rfl
theorem hget_skip (hc : c ≠ b) : hget (t.h c ++ r) b = hget r b := by
 cases t <;> simp [Sh.h, hget_cons, hc]
theorem hget_skip0 (hc : c ≠ b) : hget (t.h c) b = none := by
 cases t <;> simp [Sh.h, hget_cons, hget_nil, hc]
theorem hset_skip (hc : c ≠ b) : hset (t.h c ++ r) b k = t.h c ++ hset r b k := by
 cases t <;> simp [Sh.h, hset_cons, hc]
theorem hdel_skip (hc : c ≠ b) : hdel (t.h c ++ r) b = t.h c ++ hdel r b := by
 cases t <;> simp [Sh.h, hdel_cons, hc]
theorem shR_v : shR (s.v b) = s.bl b := by cases s <;> rfl
theorem shD_v (hb : b ≠ c) : shD (s.v b) (t.v c) = true := by cases s <;> cases t <;> simp [Sh.v, shD, hb, nbeq]
theorem inl_bl (hb : b ≠ c) : inl (s.bl b) c = false := by cases s <;> simp [Sh.bl, inl_cons, inl, hb]
theorem inl_bl_app {l : List Nat} (hb : b ≠ c) : inl (s.bl b ++ l) c = inl l c := by cases s <;> simp [Sh.bl, inl_cons, hb]
theorem v_cells : (s.v b).cells = [s.v b] := by cases s <;> rfl
theorem v_one : (s.v b).one = true := by cases s <;> rfl
theorem v_ren {ψ : Nat → Nat} : (s.v b).ren ψ = s.v (ψ b) := by cases s <;> rfl
theorem v_bel {m : Nat} (hb : b < m) : (s.v b).bel m = true := by cases s <;> simp [Sh.v, AV.bel, nblt, hb]
theorem onF_v {α : Type} {kf : List AV → Nat → Option α} {kz : Option α} {k : AV → Option α} : onF (s.v b) kf kz k = k (s.v b) := by cases s <;> rfl
theorem onV_len {n : Nat} : onV (s.v b) (some (true, ({ v := .i .i64 0, n } : Eff))) (fun b o l c => some (true, { v := .i .i64 (l : Int), n })) (fun b o l => some (true, { v := .i .i64 (l : Int), n })) = some (true, { v := .i .i64 (s.len : Int), n }) := by
 cases s <;> rfl
theorem rngN_h {n m : Nat} {r : List (Nat × Blk)} (h1 : n ≤ b) (h2 : b < m) : rngN n m (s.h b ++ r) = rngN n m r := by
 cases s <;> simp [Sh.h, rngN, h1, h2]
theorem rngN_h0 {n m : Nat} (h1 : n ≤ b) (h2 : b < m) : rngN n m (s.h b) = true := by
 cases s <;> simp [Sh.h, rngN, h1, h2]
theorem djN_h {rd : List Nat} {r : List (Nat × Blk)} (h1 : inl rd b = false) : djN (s.h b ++ r) rd = djN r rd := by
 cases s <;> simp [Sh.h, djN, h1]
theorem djN_h0 {rd : List Nat} (h1 : inl rd b = false) : djN (s.h b) rd = true := by
 cases s <;> simp [Sh.h, djN, h1]
end
section
variable {P : Program}
theorem ren_plain {ψ : Nat → Nat} {k : Blk} (hk : belL 0 k.cells = true) : k.ren ψ = k := by simp only [Blk.ren, renL_fix0 _ hk]
theorem CallOK.of_FTL2 {f : FuncId} {argsL args : List AV} {hL hR h : Hp} {k kR n : Nat} {vR : AV} {E : Eff} {ψ : Nat → Nat} (hc : Go.Ab.callable P f = true) (hft : FTL P f argsL hL k vR hR kR) (hk : k ≤ kR)
 (hbel : belL k argsL = true) (hψ : ∀ b, b < k → hget hL b = none → ψ b = n + b) (hhb : ∀ b kk, hget hL b = some kk → b < k ∧ belL k kk.cells = true) (hargs : args = renL ψ argsL)
 (hheap : ∀ b kk, hget hL b = some kk → only (hget h) E.rd (ψ b) = some (kk.ren ψ))
 (hinj : ∀ b1 b2 k1 k2, hget hL b1 = some k1 → hget hL b2 = some k2 → k1.ro = false → ψ b1 = ψ b2 → b1 = b2)
 (hn : E.n = n + kR) (hv : E.v = vR.ren (fun b => if b < k then ψ b else n + b))
 (hmd : ∀ b r, mget E.md b = some r → inl E.rd b = true) (hnw : ∀ b kk, hget E.nw b = some kk → n ≤ b ∧ b < E.n)
 (hE : ∀ c kk, E.app (only (hget h) E.rd) c = some kk → ∃ b kb, hget hR b = some kb ∧ b < kR ∧ c = (if b < k then ψ b else n + b) ∧ kk = kb.ren (fun b => if b < k then ψ b else n + b) ∧ (kb.ro = true → b < k ∧ hget hL b = some kb)) (hpn : E.pn = none := by rfl) : CallOK P f args h n E := by
 refine ⟨hc, by omega, hmd, hnw, fun D φ w us hfresh hH hA => ?_⟩
 subst hargs
 have hHL : HR (fun b => b < k ∧ D (ψ b)) (φ.comp ψ) (hget hL) w := by
  refine ⟨⟨fun b kk hb => ?_, fun b1 b2 k1 k2 hne h1 h2 hro => ?_⟩, hH.fz, hH.lp, fun b kk B vs hb hk hB => hH.fsep (ψ b) (kk.ren ψ) B vs (hheap b kk hb) hk hB⟩
  · obtain ⟨g1, g2⟩ := hhb b kk hb
    obtain ⟨hd, ⟨⟨cs, elem, fr, q1, q2, q3, q4⟩, q5⟩⟩ := hH.at_ (ψ b) _ (hheap b kk hb)
    refine ⟨⟨g1, hd⟩, ⟨⟨cs, elem, fr, q1, fun i v hv => ?_, q3, q4⟩, q5⟩⟩
    obtain ⟨u, hu, hr⟩ := q2 i (v.ren ψ) (by simp [Blk.ren, renL_eq, hv])
    exact ⟨u, hu, hr.unren v rfl (belL_spec g2 v (List.mem_of_getElem? hv))⟩
  · exact hH.sep (ψ b1) (ψ b2) _ _ (fun e => hne (hinj b1 b2 k1 k2 h1 h2 hro e)) (hheap b1 k1 h1) (hheap b2 k2 h2) hro
 have hAL : All2 (fun b => b < k ∧ D (ψ b)) (φ.comp ψ) argsL us := by
  rw [renL_eq] at hA
  refine ⟨by simpa using hA.1, fun i a u ha hu => ?_⟩
  exact (hA.2 i (a.ren ψ) u (by simp [ha]) hu).unren a rfl (belL_spec hbel a (List.mem_of_getElem? ha))
 refine (hft (fun b => b < k ∧ D (ψ b)) (φ.comp ψ) w us (fun b hb => hb.1) hHL hAL).mono fun e w' hx => ?_
 obtain ⟨D', φ', u, rfl, hD', hv', hS⟩ := hx
 have hcovD : ∀ b, b < k → hget hL b ≠ none → D (ψ b) := fun b hb hne => by
  obtain ⟨kk, hkk⟩ := Option.ne_none_iff_exists'.1 hne
  exact (hHL.at_ b kk hkk).1.2
 let χ : Nat → Nat := fun b => if b < k then ψ b else n + b
 let φ2 : Phi := { blk := fun c => if n ≤ c ∧ c < E.n then φ'.blk (c - n) else φ.blk c, off := fun c => if n ≤ c ∧ c < E.n then φ'.off (c - n) else φ.off c, cap := fun c => if n ≤ c ∧ c < E.n then φ'.cap (c - n) else φ.cap c, esz := fun c => if n ≤ c ∧ c < E.n then φ'.esz (c - n) else φ.esz c, fz := φ'.fz, lp := φ'.lp }
 have hDm : ∀ c, D c → Dn D n E.n c := fun c hc => .inl hc
 have hag : Agree D φ φ2 := ⟨fun c hc => by
  have : ¬ (n ≤ c ∧ c < E.n) := fun hh => hfresh c hh.1 hh.2 hc
  simp [φ2, this], hS.agree.fz, hS.agree.lp⟩
 -- a name of the callee's: new, or the caller's
 have hχ : ∀ b, b < kR → (χ b = n + b) ∨ (b < k ∧ χ b = ψ b ∧ D (ψ b)) := fun b hb => by
  by_cases hbk : b < k
  · cases hg : hget hL b with
    | none => left; simp only [χ, hbk, if_true]; exact hψ b hbk hg
    | some kk => right; exact ⟨hbk, by simp only [χ, hbk, if_true], hcovD b hbk (by rw [hg]; simp)⟩
  · left; simp only [χ, hbk, if_false]
 have hχD : ∀ b, D' b → Dn D n E.n (χ b) := fun b hb => by
  have := hD' b hb
  rcases hχ b this with h1 | ⟨_, h1, h2⟩
  · rw [h1]; exact .inr ⟨by omega, by omega⟩
  · rw [h1]; exact .inl h2
 have hφχ : ∀ b, b < kR → φ'.blk b = φ2.blk (χ b) ∧ φ'.off b = φ2.off (χ b) ∧ φ'.cap b = φ2.cap (χ b) ∧ φ'.esz b = φ2.esz (χ b) := fun b hb => by
  rcases hχ b hb with h1 | ⟨h0, h1, h2⟩
  · rw [h1]
    have h1 : n ≤ n + b ∧ n + b < E.n := ⟨by omega, by omega⟩
    have h2 : n + b - n = b := by omega
    simp only [φ2, h1, and_self, if_true, h2]
  · rw [h1]
    have h3 : ¬ (n ≤ ψ b ∧ ψ b < E.n) := fun hh => hfresh _ hh.1 hh.2 h2
    have h4 := hS.agree b ⟨h0, h2⟩
    simp only [φ2, h3, if_false]
    exact h4
 refine ⟨u, φ2, by rw [hpn], ?_, ⟨hDm, hag, ⟨⟨fun c kk hc => ?_, fun c1 c2 k1 k2 hne h1 h2 hro => ?_⟩, hS.hr.fz, hS.hr.lp, fun c kk B vs hc hro hB => ?_⟩, ⟨hS.frm.os, hS.frm.tape, hS.frm.output, hS.frm.size, fun c hc hno => hS.frm.block c hc (fun b kb hb hro => ?_)⟩, fun c kk hc hro => ?_, fun B vs hB => ?_⟩, fun c kk hc hro => ?_⟩
 · rw [hv]; exact hv'.ren hχD (fun b hb => hφχ b (hD' b hb)) (fun _ _ h => h) (fun _ _ h => h)
 · obtain ⟨b, kb, g1, g2, rfl, rfl, g5⟩ := hE c kk hc
   obtain ⟨hd, ⟨⟨cs, elem, fr, q1, q2, q3, q4⟩, q5⟩⟩ := hS.hr.at_ b kb g1
   obtain ⟨f1, f2, f3, f4⟩ := hφχ b g2
   refine ⟨hχD b hd, ⟨⟨cs, elem, fr, by rw [← f1]; exact q1, fun i v hv => ?_, fun hr => by rw [← f2]; exact q3 hr, fun e he => by rw [← f2, ← f3, ← f4]; exact q4 e he⟩, fun g hg => by rw [← f1, ← f2]; exact q5 g hg⟩⟩
   simp only [Blk.ren, renL_eq, List.getElem?_map, Option.map_eq_some_iff] at hv
   obtain ⟨v', hv', rfl⟩ := hv
   obtain ⟨u', hu', hr'⟩ := q2 i v' hv'
   exact ⟨u', by rw [← f2]; exact hu', hr'.ren hχD (fun b hb => hφχ b (hD' b hb)) (fun _ _ h => h) (fun _ _ h => h)⟩
 · obtain ⟨b1, kb1, g1, g2, rfl, rfl, _⟩ := hE c1 k1 h1
   obtain ⟨b2, kb2, g3, g4, rfl, rfl, _⟩ := hE c2 k2 h2
   have e1 := (hφχ b1 g2).1
   have e2 := (hφχ b2 g4).1
   show φ2.blk (χ b1) ≠ φ2.blk (χ b2)
   rw [← e1, ← e2]
   exact hS.hr.sep b1 b2 kb1 kb2 (fun e => hne (by rw [e])) g1 g3 hro
 · obtain ⟨b, kb, g1, g2, rfl, rfl, _⟩ := hE c kk hc
   show φ2.blk (χ b) ≠ B
   rw [← (hφχ b g2).1]
   exact hS.hr.fsep b kb B vs g1 hro hB
 · exact hno (ψ b) _ (hheap b kb hb) hro
 · obtain ⟨b, kb, g1, g2, rfl, rfl, _⟩ := hE c kk hc
   have e1 := (hφχ b g2).1
   show w.heap.size ≤ φ2.blk (χ b) ∨ ∃ m km, only (hget h) E.rd m = some km ∧ km.ro = false ∧ φ.blk m = φ2.blk (χ b)
   rw [← e1]
   rcases hS.img b kb g1 hro with h1 | ⟨m, km, h1, h2, h3⟩
   · exact .inl h1
   · exact .inr ⟨ψ m, _, hheap m km h1, h2, h3⟩
 · rcases hS.fnew B vs hB with h1 | h1 | ⟨m, km, h1, h2, h3⟩
   · exact .inl h1
   · exact .inr (.inl h1)
   · exact .inr (.inr ⟨ψ m, _, hheap m km h1, h2, h3⟩)
 · obtain ⟨b, kb, g1, g2, rfl, rfl, g5⟩ := hE c kk hc
   obtain ⟨h1, h2⟩ := g5 hro
   rw [if_pos h1, hheap b kb h2]
   congr 1
   simp only [Blk.ren, Blk.mk.injEq, and_true]
   exact renL_congr (m := k) (fun b hb => by simp [hb]) _ (hhb b kb h2).2
end
end Go.Ab
end
section
/- The abstract layer, part 42: contracts, ends and loops over slices whose form is left open. -/
namespace Go.Ab
set_option linter.unusedVariables false
set_option linter.unusedSimpArgs false
section
variable {P : Program}
theorem CallOK.cast {f : FuncId} {args args' : List AV} {h : Hp} {n : Nat} {E E' : Eff} (hk : CallOK P f args h n E) (ha : args = args') (hE : E = E') : CallOK P f args' h n E' := by
 subst ha hE; exact hk
end
def rn : List (Nat × Nat) → Nat → Nat
 | [], b => b
 | (c, d) :: r, b => if b = c then d else rn r b
theorem rn_nil {b : Nat} : rn [] b = b := (rfl)
theorem rn_cons {c d b : Nat} {r : List (Nat × Nat)} : rn ((c, d) :: r) b = if b = c then d else rn r b := (rfl)
def rnOK (m : List (Nat × Nat)) (n0 n2 : Nat) : Bool :=
 (List.range n0).all (fun b => rn m b == b) && (List.range n2).all fun b => (List.range n2).all fun c => !(rn m b == rn m c) || b == c
def EnvR (n : Nat) (m : List (Nat × Nat)) (e : Env) : Env → Prop
 | [] => True
 | (t, v) :: r => eget e t = some (v.ren (rn m)) ∧ v.bel n = true ∧ EnvR n m e r
def HpR (n : Nat) (m : List (Nat × Nat)) (h : Hp) : Hp → Prop
 | [] => True
 | (b, k) :: r => hget h (rn m b) = some (k.ren (rn m)) ∧ belL n k.cells = true ∧ b < n ∧ HpR n m h r
def hasS (h : Hp) (s : Sh) (c : Nat) : Prop := ∀ d kk, hget (s.h c) d = some kk → hget h d = some kk
section
variable {n : Nat} {m : List (Nat × Nat)} {e : Env} {h r : Hp} {s t : Sh} {b c d : Nat} {k : Blk}
theorem EnvR_nil : EnvR n m e [] = True := (rfl)
theorem EnvR_cons {v : AV} {r : Env} : EnvR n m e ((b, v) :: r) = (eget e b = some (v.ren (rn m)) ∧ v.bel n = true ∧ EnvR n m e r) := (rfl)
theorem HpR_nil : HpR n m h [] = True := (rfl)
theorem HpR_cons : HpR n m h ((b, k) :: r) = (hget h (rn m b) = some (k.ren (rn m)) ∧ belL n k.cells = true ∧ b < n ∧ HpR n m h r) := (rfl)
theorem hasS_hit : hasS (s.h c ++ r) s c = True := by
 refine eq_true fun d kk hh => ?_
 rw [hget_append, hh]
theorem hasS_hit0 : hasS (s.h c) s c = True := eq_true fun d kk hh => hh
theorem hasS_cons (hd : d ≠ c) : hasS ((d, k) :: r) s c = hasS r s c := by
 have key : ∀ i kk, hget (s.h c) i = some kk → i = c := fun i kk hh => by have := hget_mem hh; cases s <;> simp [Sh.h] at this <;> exact this.1
 refine propext ⟨fun hh i kk hi => ?_, fun hh i kk hi => ?_⟩
 · have := hh i kk hi; rw [hget_cons, if_neg (by rw [key i kk hi]; exact hd)] at this; exact this
 · rw [hget_cons, if_neg (by rw [key i kk hi]; exact hd)]; exact hh i kk hi
theorem hasS_skip (hd : d ≠ c) : hasS (t.h d ++ r) s c = hasS r s c := by
 cases t <;> simp only [Sh.h, List.nil_append, List.cons_append] <;> exact hasS_cons hd
theorem HpR_app (hp : s.plain = true) (hb : b < n) : HpR n m h (s.h b ++ r) = (hasS h s (rn m b) ∧ HpR n m h r) := by
 cases s with
 | nil => simp [Sh.h, hasS, hget]
 | sl k o l cc =>
  have hp' : belL 0 k.cells = true := hp
  simp only [Sh.h, List.cons_append, List.nil_append, HpR, hb, belL_mono0 _ hp', true_and, ren_plain hp']
  refine propext ⟨fun hh => ⟨fun i kk hi => ?_, hh.2⟩, fun hh => ⟨hh.1 _ _ (by simp [Sh.h, hget]), hh.2⟩⟩
  have := hget_mem hi
  simp [Sh.h] at this
  obtain ⟨rfl, rfl⟩ := this; exact hh.1
 | sg k o l =>
  have hp' : belL 0 k.cells = true := hp
  simp only [Sh.h, List.cons_append, List.nil_append, HpR, hb, belL_mono0 _ hp', true_and, ren_plain hp']
  refine propext ⟨fun hh => ⟨fun i kk hi => ?_, hh.2⟩, fun hh => ⟨hh.1 _ _ (by simp [Sh.h, hget]), hh.2⟩⟩
  have := hget_mem hi
  simp [Sh.h] at this
  obtain ⟨rfl, rfl⟩ := this; exact hh.1
theorem HpR_app0 (hp : s.plain = true) (hb : b < n) : HpR n m h (s.h b) = hasS h s (rn m b) := by
 have := HpR_app (m := m) (h := h) (r := []) hp hb
 simpa [HpR] using this
end
theorem EnvR.get {n : Nat} {m : List (Nat × Nat)} {e : Env} : ∀ {e2 : Env}, EnvR n m e e2 → ∀ t v, eget e2 t = some v → eget e t = some (v.ren (rn m)) ∧ v.bel n = true
 | [], _, t, v, h => by simp [eget] at h
 | (s, u) :: r, hi, t, v, h => by
  simp only [eget] at h
  by_cases hs : t = s
  · subst hs; simp at h; subst h; exact ⟨hi.1, hi.2.1⟩
  · rw [beq_ne hs] at h; exact EnvR.get hi.2.2 t v h
theorem HpR.get {n : Nat} {m : List (Nat × Nat)} {h : Hp} : ∀ {h2 : Hp}, HpR n m h h2 → ∀ b k, hget h2 b = some k → hget h (rn m b) = some (k.ren (rn m)) ∧ belL n k.cells = true ∧ b < n
 | [], _, t, v, h => by simp [hget] at h
 | (s, u) :: r, hi, t, v, h => by
  simp only [hget] at h
  by_cases hs : t = s
  · subst hs; simp at h; subst h; exact ⟨hi.1, hi.2.1, hi.2.2.1⟩
  · rw [beq_ne hs] at h; exact HpR.get hi.2.2.2 t v h
theorem Wk.ofR {n0 n n2 : Nat} {m : List (Nat × Nat)} {e e2 : Env} {h h2 : Hp} (hn : n0 ≤ n2) (hm : rnOK m n0 n2 = true) (he : EnvR n2 m e e2) (hh : HpR n2 m h h2) : Wk n0 (rn m) e h n e2 h2 n2 := by
 simp only [rnOK, Bool.and_eq_true, List.all_eq_true, List.mem_range, Bool.or_eq_true, Bool.not_eq_true', beq_iff_eq, beq_eq_false_iff_ne] at hm
 refine ⟨hn, fun b hb => hm.1 b hb, fun t v ht => he.get t v ht, fun b k hb => hh.get b k hb, fun b1 b2 k1 k2 h1 h2 _ hE => ?_⟩
 rcases hm.2 b1 (hh.get b1 k1 h1).2.2 b2 (hh.get b2 k2 h2).2.2 with h' | h'
 · exact absurd hE h'
 · exact h'
theorem Ends.R {n0 n n2 : Nat} (m : List (Nat × Nat)) {v v2 : AV} {h h2 : Hp} (hn : n0 ≤ n2) (hm : rnOK m n0 n2 = true) (hv : v = v2.ren (rn m)) (hb : v2.bel n2 = true) (hh : HpR n2 m h h2) : Ends n0 v h n v2 h2 n2 :=
 ⟨rn m, Wk.ofR hn hm ⟨by rw [← hv]; simp [eget], hb, trivial⟩ hh⟩
theorem Loop.stepR {F : Fx} (hcx : Sound F.P F.cx) (hm : F.P.follows .mixedOrders = true) {c : ICode} {K : Kont} {X : Type} (ok : X → Prop) (μ : X → Nat) (E : X → Env) (H : X → Hp) (n2 : Nat) (x0 : X) (nx : X → X) (m0 : List (Nat × Nat)) (m : X → List (Nat × Nat))
 {e : Env} {h : Hp} {n : Nat} (hn : F.n0 ≤ n2) (hm0 : rnOK m0 F.n0 n2 = true) (hm1 : ∀ x, rnOK (m x) F.n0 n2 = true) (h0 : ok x0) (he : EnvR n2 m0 e (E x0)) (hh : HpR n2 m0 h (H x0))
 (round : ∀ x, ok x → jw F c (thenK K fun e' h' n' => (ok (nx x) ∧ μ (nx x) < μ x) ∧ EnvR n2 (m x) e' (E (nx x)) ∧ HpR n2 (m x) h' (H (nx x))) (E x) (H x) n2) : Loop F.P F.ct F.N F.n0 c K e h n := by
 refine Loop.inv (F := F) hcx hm (X := { x : X // ok x }) (fun k => (E k.1, H k.1, n2)) (fun k => μ k.1) ⟨x0, h0⟩ (rn m0) (Wk.ofR hn hm0 he hh) (fun k => ?_)
 refine iw_mono (fun ex e' h' n' hx => ?_) (iw_of_jw (round k.1 k.2))
 cases ex with
 | normal =>
  obtain ⟨⟨h1, h2⟩, h3, h4⟩ := hx
  exact ⟨⟨nx k.1, h1⟩, rn (m k.1), Wk.ofR hn (hm1 k.1) h3 h4, h2⟩
 | _ => exact hx
attribute [go_sem] shAt_ns shAt_sl shAt_sg shAt_hit shAt_hit0 shAt_cons shAt_skip hget_skip hget_skip0 hset_skip hdel_skip shR_v shD_v inl_bl inl_bl_app v_cells v_one v_ren v_bel rngN_h rngN_h0 djN_h djN_h0 rn_nil rn_cons EnvR_nil EnvR_cons HpR_nil HpR_cons HpR_app HpR_app0 hasS_hit hasS_hit0 hasS_cons hasS_skip
attribute [go_sem ↓] onV_len onF_v
end Go.Ab
end
section
/- The abstract layer, part 43: a contract from a function given outright, its effect computed from the two heaps. -/
namespace Go.Ab
set_option linter.unusedVariables false
set_option linter.unusedSimpArgs false
def chiG (n k : Nat) (ψ : Nat → Nat) (b : Nat) : Nat := if b < k then ψ b else n + b
def mdG (χ : Nat → Nat) (M : Nat → Bool) (hR : Hp) : Hp → List (Nat × Option Blk)
 | [] => []
 | (b, _) :: r => bif M b then (χ b, (hget hR b).map (Blk.ren χ)) :: mdG χ M hR r else mdG χ M hR r
def nwG (χ : Nat → Nat) (k : Nat) : Hp → Hp
 | [] => []
 | (b, kk) :: r => bif Nat.ble k b then (χ b, kk.ren χ) :: nwG χ k r else nwG χ k r
def rdG (ψ : Nat → Nat) : Hp → List Nat
 | [] => []
 | (b, _) :: r => ψ b :: rdG ψ r
theorem mdG_some {χ : Nat → Nat} {M : Nat → Bool} {hR : Hp} : ∀ {hL : Hp} {c : Nat} {r : Option Blk}, mget (mdG χ M hR hL) c = some r → ∃ b kk, (b, kk) ∈ hL ∧ M b = true ∧ c = χ b ∧ r = (hget hR b).map (Blk.ren χ)
 | [], c, r, h => by simp [mdG, mget] at h
 | (b, kk) :: l, c, r, h => by
  simp only [mdG] at h
  cases hm : M b with
  | true =>
   rw [hm] at h
   simp only [cond_true, mget] at h
   by_cases hc : c = χ b
   · rw [hc] at h; simp at h; exact ⟨b, kk, List.mem_cons_self, hm, hc, h.symm⟩
   · rw [beq_ne hc] at h
     obtain ⟨b', kk', h1, h2⟩ := mdG_some h
     exact ⟨b', kk', List.mem_cons_of_mem _ h1, h2⟩
  | false =>
   rw [hm] at h
   obtain ⟨b', kk', h1, h2⟩ := mdG_some h
   exact ⟨b', kk', List.mem_cons_of_mem _ h1, h2⟩
theorem mdG_none {χ : Nat → Nat} {M : Nat → Bool} {hR : Hp} : ∀ {hL : Hp} {c b : Nat} {kk : Blk}, mget (mdG χ M hR hL) c = none → (b, kk) ∈ hL → M b = true → c ≠ χ b
 | [], c, b, kk, _, hm, _ => by cases hm
 | (d, kd) :: l, c, b, kk, h, hm, hb => by
  simp only [mdG] at h
  rcases List.mem_cons.1 hm with h1 | h1
  · cases h1
    rw [hb] at h
    simp only [cond_true, mget] at h
    intro hc; rw [hc] at h; simp at h
  · cases hd : M d with
    | true =>
     rw [hd] at h
     simp only [cond_true, mget] at h
     by_cases hc : c = χ d
     · rw [hc] at h; simp at h
     · rw [beq_ne hc] at h; exact mdG_none h h1 hb
    | false => rw [hd] at h; exact mdG_none h h1 hb
theorem nwG_some {χ : Nat → Nat} {k : Nat} : ∀ {hR : Hp} {c : Nat} {kk : Blk}, hget (nwG χ k hR) c = some kk → ∃ b kb, (b, kb) ∈ hR ∧ k ≤ b ∧ c = χ b ∧ kk = kb.ren χ
 | [], c, kk, h => by simp [nwG, hget] at h
 | (b, kb) :: l, c, kk, h => by
  simp only [nwG, nble] at h
  by_cases hb : k ≤ b
  · rw [decide_eq_true hb] at h
    simp only [cond_true, hget_cons] at h
    by_cases hc : χ b = c
    · rw [if_pos hc] at h; cases h; exact ⟨b, kb, List.mem_cons_self, hb, hc.symm, rfl⟩
    · rw [if_neg hc] at h
      obtain ⟨b', kb', h1, h2⟩ := nwG_some h
      exact ⟨b', kb', List.mem_cons_of_mem _ h1, h2⟩
  · rw [decide_eq_false hb] at h
    obtain ⟨b', kb', h1, h2⟩ := nwG_some h
    exact ⟨b', kb', List.mem_cons_of_mem _ h1, h2⟩
theorem rdG_in {ψ : Nat → Nat} : ∀ {hL : Hp} {b : Nat} {kk : Blk}, (b, kk) ∈ hL → inl (rdG ψ hL) (ψ b) = true
 | [], b, kk, h => by cases h
 | (d, kd) :: l, b, kk, h => by
  simp only [rdG, inl_cons]
  rcases List.mem_cons.1 h with h1 | h1
  · cases h1; simp
  · rw [rdG_in h1]; simp
theorem rdG_out {ψ : Nat → Nat} : ∀ {hL : Hp} {c : Nat}, inl (rdG ψ hL) c = true → ∃ b kk, (b, kk) ∈ hL ∧ ψ b = c
 | [], c, h => by simp [rdG, inl] at h
 | (d, kd) :: l, c, h => by
  simp only [rdG, inl_cons] at h
  by_cases hd : ψ d = c
  · exact ⟨d, kd, List.mem_cons_self, hd⟩
  · rw [if_neg hd] at h
    obtain ⟨b, kk, h1, h2⟩ := rdG_out h
    exact ⟨b, kk, List.mem_cons_of_mem _ h1, h2⟩
section
variable {P : Program}
theorem CallOK.gen {f : FuncId} {argsL : List AV} {hL hR h : Hp} {k kR n : Nat} {vR : AV} (ψ : Nat → Nat) (M : Nat → Bool) (hc : Go.Ab.callable P f = true) (hk : k ≤ kR) (hbel : belL k argsL = true)
 (hft : FTL P f argsL hL k vR hR kR)
 (hnd : ∀ b kk, (b, kk) ∈ hL → hget hL b = some kk) (hndR : ∀ b kk, (b, kk) ∈ hR → hget hR b = some kk)
 (hψ : ∀ b, b < k → hget hL b = none → ψ b = n + b) (hhb : ∀ b kk, (b, kk) ∈ hL → b < k ∧ belL k kk.cells = true)
 (hheap : ∀ b kk, (b, kk) ∈ hL → hget h (ψ b) = some (kk.ren ψ))
 (hinj : ∀ b1 b2 k1 k2, (b1, k1) ∈ hL → (b2, k2) ∈ hL → k1.ro = false → ψ b1 = ψ b2 → b1 = b2)
 (hM : ∀ b kk, (b, kk) ∈ hL → M b = true → kk.ro = false) (hMR : ∀ b kk, (b, kk) ∈ hR → M b = true ∨ k ≤ b → kk.ro = false)
 (hkeep : ∀ b kk, (b, kk) ∈ hL → M b = false → hget hR b = some kk) (hR_lt : ∀ b kk, (b, kk) ∈ hR → b < kR) :
 CallOK P f (renL ψ argsL) h n { v := vR.ren (chiG n k ψ), n := n + kR, rd := rdG ψ hL, md := mdG (chiG n k ψ) M hR hL, nw := nwG (chiG n k ψ) k hR } := by
 have hchi : ∀ b, b < k → chiG n k ψ b = ψ b := fun b hb => by simp [chiG, hb]
 have hren : ∀ {kk : Blk}, belL k kk.cells = true → kk.ren (chiG n k ψ) = kk.ren ψ := fun {kk} hb => by
  simp only [Blk.ren, Blk.mk.injEq, and_true]
  exact renL_congr (m := k) (fun b hb => hchi b hb) _ hb
 refine CallOK.of_FTL2 (ψ := ψ) hc hft hk hbel hψ (fun b kk hb => hhb b kk (hget_mem hb)) rfl (fun b kk hb => ?_) (fun b1 b2 k1 k2 h1 h2 => hinj b1 b2 k1 k2 (hget_mem h1) (hget_mem h2)) rfl rfl (fun b r hb => ?_) (fun b kk hb => ?_) (fun c kk hh => ?_)
 · have hm := hget_mem hb
   simp only [only, rdG_in hm, cond_true]
   exact hheap b kk hm
 · obtain ⟨b', kk, h1, _, rfl, _⟩ := mdG_some hb
   rw [hchi b' (hhb _ _ h1).1]
   exact rdG_in h1
 · obtain ⟨b', kb, h1, h2, rfl, _⟩ := nwG_some hb
   have := hR_lt _ _ h1
   show n ≤ chiG n k ψ b' ∧ chiG n k ψ b' < n + kR
   simp only [chiG, show ¬ b' < k by omega, if_false]
   omega
 · simp only [Eff.app] at hh
   cases hm : mget (mdG (chiG n k ψ) M hR hL) c with
   | some r =>
    rw [hm] at hh
    obtain ⟨b, kb, h1, h2, rfl, rfl⟩ := mdG_some hm
    simp only [Option.map_eq_some_iff] at hh
    obtain ⟨kx, hx, rfl⟩ := hh
    have hb := (hhb _ _ h1).1
    exact ⟨b, kx, hx, by omega, rfl, rfl, fun hro => by rw [hMR b kx (hget_mem hx) (.inl h2)] at hro; cases hro⟩
   | none =>
    rw [hm] at hh
    simp only at hh
    cases hw : hget (nwG (chiG n k ψ) k hR) c with
    | some k' =>
     rw [hw] at hh; cases hh
     obtain ⟨b, kb, h1, h2, rfl, rfl⟩ := nwG_some hw
     exact ⟨b, kb, hndR _ _ h1, hR_lt _ _ h1, rfl, rfl, fun hro => by rw [hMR b kb h1 (.inr h2)] at hro; cases hro⟩
    | none =>
     rw [hw] at hh
     simp only [only] at hh
     cases hi : inl (rdG ψ hL) c with
     | false => rw [hi] at hh; cases hh
     | true =>
      rw [hi] at hh
      simp only [cond_true] at hh
      obtain ⟨b, kb, h1, rfl⟩ := rdG_out hi
      rw [hheap b kb h1] at hh
      cases hh
      have hb := hhb _ _ h1
      have hMb : M b = false := by
       cases hMb : M b with
       | false => rfl
       | true => exact absurd (hchi b hb.1).symm (mdG_none hm h1 hMb)
      refine ⟨b, kb, hkeep b kb h1 hMb, by omega, ?_, ?_, fun _ => ⟨hb.1, hnd _ _ h1⟩⟩
      · simp [hb.1]
      · exact (hren hb.2).symm
end
end Go.Ab
end
section
/- The abstract layer, part 44: rows of open slices; or. -/
namespace Go.Ab
set_option linter.unusedVariables false
set_option linter.unusedSimpArgs false
section
variable {α : Type} {f : α → List AV} {z : Nat}
end
end Go.Ab
namespace Go.Ab
def Sh.o : Sh → Nat
 | .nil => 0
 | .sl _ o _ _ => o
 | .sg _ o _ => o
def Sh.blk : Sh → Blk
 | .nil => { cells := [] }
 | .sl k _ _ _ => k
 | .sg k _ _ => k
section
variable {s t : Sh} {b c : Nat} {h r : Hp}
theorem Sh.is.cells {α : Type} {f : α → List AV} {z : Nat} {l : List α} (hs : s.is f z l) (hne : s ≠ .nil) : cellsAt s.blk.cells s.o (l.length * z) = rows f l ∧ belL 0 s.blk.cells = true := by
 obtain ⟨h1, h2, h3⟩ := hs
 rw [← h2]
 cases s with
 | nil => exact absurd rfl hne
 | sl k o l c => exact ⟨h3, h1⟩
 | sg k o l => exact ⟨h3, h1⟩
end
end Go.Ab
namespace Go.Ab
theorem Ends.s1 {s : Sh} {n : Nat} {r : Hp} {v v2 : AV} (hp : s.plain = true) (hv : v = v2) (hb : v2.bel 0 = true) (hh : hasS r s 0) : Ends 1 v r n v2 (s.h 0) 1 :=
 Ends.R [] (by decide) (by decide) (by rw [hv, ren_fix0 _ hb]) (by have := belL_mono0 (m := 1) [v2] (by simp [belL, hb]); simpa [belL] using this) (by rw [HpR_app0 hp (by decide)]; exact hh)
end Go.Ab
namespace Go.Ab
theorem sv_lenV2 {cx : Cx} {e : Env} {h : Hp} {n : Nat} {x : Opd} : stepC cx (.lenV x) e h n = (x.ev e h).bind fun v => onEn v (some (true, { v := .i .i64 0, n })) <| onF v (fun l m => some (true, { v := .i .i64 (m : Int), n })) (some (true, { v := .i .i64 0, n })) fun v => onV v (some (true, { v := .i .i64 0, n })) (fun b o l c => some (true, { v := .i .i64 (l : Int), n })) (fun b o l => some (true, { v := .i .i64 (l : Int), n })) := sv_lenV
theorem onEn_v {α : Type} {s : Sh} {b : Nat} {ke k : Option α} : onEn (s.v b) ke k = k := by cases s <;> rfl
attribute [go_sem ↓ high] sv_lenV2
attribute [go_sem ↓] onEn_v
end Go.Ab
namespace Go.Ab
attribute [go_sem] ne_eq not_false_eq_true
end Go.Ab
namespace Go.Ab
theorem v_cells2 {s : Sh} {b : Nat} : (s.v b).cells = [s.v b] := v_cells
theorem v_one2 {s : Sh} {b : Nat} : (s.v b).one = true := v_one
attribute [go_sem ↓ high] v_cells2 v_one2
end Go.Ab
end
section
/- The abstract layer, part 45: calls that look at open slices, at boxes that hold them. -/
namespace Go.Ab
set_option linter.unusedVariables false
set_option linter.unusedSimpArgs false
end Go.Ab
end
section
/- The abstract layer, part 46: calls that look at a structure's block that holds an open slice, and may change it. -/
namespace Go.Ab
set_option linter.unusedVariables false
set_option linter.unusedSimpArgs false
end Go.Ab
end
section
/- The abstract layer, part 47: calls that change a structure's block and put a new slice in place of its slice. -/
namespace Go.Ab
set_option linter.unusedVariables false
set_option linter.unusedSimpArgs false
def noneL : List Nat → List (Nat × Option Blk)
 | [] => []
 | b :: r => (b, none) :: noneL r
end Go.Ab
namespace Go.Ab
end Go.Ab
namespace Go.Ab
section
variable {v : AV} {n b c : Nat} {rd : List Nat} {s : Sh} {h : Hp} {k : Blk} {md : List (Nat × Option Blk)}
theorem appL_h {pn : Option Value} : (Eff.mk v n rd [] (s.h b) pn).appL h = s.h b ++ h := (rfl)
theorem appL_mh {pn : Option Value} {x : Nat × Option Blk} : (Eff.mk v n rd (x :: md) (s.h b) pn).appL h = hmods (s.h b ++ h) (x :: md) := (rfl)
theorem hmods_nil : hmods h [] = h := (rfl)
theorem hmods_some : hmods h ((b, some k) :: md) = hset (hmods h md) b k := (rfl)
theorem hmods_none : hmods h ((b, none) :: md) = hdel (hmods h md) b := (rfl)
end
attribute [go_sem ↓] appL_h appL_mh hmods_nil hmods_some hmods_none
end Go.Ab
namespace Go.Ab
theorem hdel_skip0 {t : Sh} {b c : Nat} (hc : c ≠ b) : hdel (t.h c) b = t.h c := by
 cases t <;> simp [Sh.h, hdel_cons, hdel_nil, hc]
attribute [go_sem] hdel_skip0
end Go.Ab
namespace Go.Ab
section
variable {n b : Nat} {s : Sh} {h r : Hp}
theorem HpIn_app (hp : s.plain = true) (hb : b < n) : HpIn n h (s.h b ++ r) = (hasS h s b ∧ HpIn n h r) := by
 cases s with
 | nil => simp [Sh.h, hasS, hget]
 | sl k o l cc =>
  have hp' : belL 0 k.cells = true := hp
  simp only [Sh.h, List.cons_append, List.nil_append, HpIn, hb, belL_mono0 _ hp', true_and]
  refine propext ⟨fun hh => ⟨fun i kk hi => ?_, hh.2⟩, fun hh => ⟨hh.1 _ _ (by simp [Sh.h, hget]), hh.2⟩⟩
  have := hget_mem hi
  simp [Sh.h] at this
  obtain ⟨rfl, rfl⟩ := this; exact hh.1
 | sg k o l =>
  have hp' : belL 0 k.cells = true := hp
  simp only [Sh.h, List.cons_append, List.nil_append, HpIn, hb, belL_mono0 _ hp', true_and]
  refine propext ⟨fun hh => ⟨fun i kk hi => ?_, hh.2⟩, fun hh => ⟨hh.1 _ _ (by simp [Sh.h, hget]), hh.2⟩⟩
  have := hget_mem hi
  simp [Sh.h] at this
  obtain ⟨rfl, rfl⟩ := this; exact hh.1
theorem HpIn_app0 (hp : s.plain = true) (hb : b < n) : HpIn n h (s.h b) = hasS h s b := by
 have := HpIn_app (h := h) (r := []) hp hb
 simpa [HpIn] using this
end
attribute [go_sem] HpIn_app HpIn_app0
end Go.Ab
end
section
/- The abstract layer, part 48: calls that hand out two new slices. -/
namespace Go.Ab
set_option linter.unusedVariables false
set_option linter.unusedSimpArgs false
section
variable {v : AV} {n b c : Nat} {rd : List Nat} {s t : Sh} {h : Hp}
theorem appL_hh {pn : Option Value} : (Eff.mk v n rd [] (s.h b ++ t.h c) pn).appL h = s.h b ++ (t.h c ++ h) := by
 show (s.h b ++ t.h c) ++ h = _
 rw [List.append_assoc]
end
attribute [go_sem ↓] appL_hh
end Go.Ab
namespace Go.Ab
theorem okAll_push {un : List Nat} {E E' : Eff} {i : Nat} {dn : List (Nat × Eff)} : okAll un E (pushD i E' dn) = ((!(inl un i) || okPair E E') && okAll un E dn) := by
 have hn : ∀ md : List (Nat × Option Blk), djM md [] = true := by
  intro md
  induction md with
  | nil => rfl
  | cons x r ih => simp [djM, inl, ih]
 unfold pushD
 split
 · rename_i h1 h2 h3
   have : okPair E E' = true := by simp [okPair, h1, h2, h3, djM, djN, hn]
   simp [this]
 · rfl
attribute [go_sem] okAll_push
end Go.Ab
end
section
/- The abstract layer, part 49: slices put together by appends of single elements. -/
namespace Go.Ab
set_option linter.unusedVariables false
set_option linter.unusedSimpArgs false
def appV (z bytes n : Nat) (h : Hp) (r0 : List Nat) (m : Nat) (cs : List AV) (ok : Bool) (s : AV) : Option (Bool × Eff) :=
 onF s (fun l len => iteD (decide (m = 0)) (some (ok, { v := .fz l len, n, rd := r0 })) none) (iteD (decide (m = 0)) (some (ok, { v := .ze, n, rd := r0 })) (some (ok && decide (bytes * m ≤ growMax), { v := .sg n 0 m, n := n + 1, rd := r0, nw := [(n, { cells := cs, gr := some z })] }))) fun s => onV s
  (iteD (decide (m = 0)) (some (ok, { v := .ns, n, rd := r0 })) (some (ok && decide (bytes * m ≤ growMax), { v := .sg n 0 m, n := n + 1, rd := r0, nw := [(n, { cells := cs, gr := some z })] })))
  (fun b o len cap => iteD (decide (m = 0)) (some (ok && decide (len ≤ cap), { v := .sl b o len cap, n, rd := r0 }))
    ((hget h b).bind fun k => iteD (decide (len + m ≤ cap))
      (roK k.ro (some (ok && decide (o + len * z + cs.length ≤ k.cells.length) && oneAll cs, { v := .sl b o (len + m) cap, n, rd := b :: r0, md := [(b, some { k with cells := splice k.cells (o + len * z) cs })] })))
      (some (ok && decide (bytes * (len + m) ≤ growMax) && decide ((cellsAt k.cells o (len * z)).length = len * z) && decide (len ≤ cap), { v := .sg n 0 (len + m), n := n + 1, rd := b :: r0, nw := [(n, { cells := cellsAt k.cells o (len * z) ++ cs, gr := some z })] }))))
  (fun b o len => iteD (decide (m = 0)) (some (ok, { v := .sg b o len, n, rd := r0 }))
    ((hget h b).bind fun k => grK k.gr fun z' => some (ok && decide (bytes * (len + m) ≤ growMax) && Nat.beq z z' && decide (k.cells.length = o + len * z) && oneAll cs, { v := .sg n 0 (len + m), n := n + 1, rd := b :: r0, md := [(b, none)], nw := [(n, { cells := k.cells.drop o ++ cs, gr := some z })] })))
@[congr] theorem appV_congr {z bytes n m : Nat} {h : Hp} {r0 : List Nat} {cs cs' : List AV} {ok ok' : Bool} {s s' : AV} (h1 : cs = cs') (h2 : ok = ok') (h3 : s = s') : appV z bytes n h r0 m cs ok s = appV z bytes n h r0 m cs' ok' s' := by rw [h1, h2, h3]
section
variable {cx : Cx} {e : Env} {h : Hp} {n z bytes : Nat} {r0 : List Nat} {m : Nat} {cs : List AV} {ok : Bool}
theorem sv_app2 {zs : List AV} {s x : Opd} : stepC cx (.app z bytes zs s x) e h n = (s.ev e h).bind fun s => (x.ev e h).bind fun x => srcK h z x fun r0 m cs ok => appV z bytes n h r0 m cs ok s := sv_app
theorem appV_f {l : List AV} {len : Nat} : appV z bytes n h r0 m cs ok (.fz l len) = iteD (decide (m = 0)) (some (ok, { v := .fz l len, n, rd := r0 })) none := (rfl)
theorem appV_z : appV z bytes n h r0 m cs ok .ze = (iteD (decide (m = 0)) (some (ok, { v := .ze, n, rd := r0 })) (some (ok && decide (bytes * m ≤ growMax), { v := .sg n 0 m, n := n + 1, rd := r0, nw := [(n, { cells := cs, gr := some z })] }))) := (rfl)
theorem appV_n : appV z bytes n h r0 m cs ok .ns = (iteD (decide (m = 0)) (some (ok, { v := .ns, n, rd := r0 })) (some (ok && decide (bytes * m ≤ growMax), { v := .sg n 0 m, n := n + 1, rd := r0, nw := [(n, { cells := cs, gr := some z })] }))) := (rfl)
theorem appV_s {b o len cap : Nat} : appV z bytes n h r0 m cs ok (.sl b o len cap) = (iteD (decide (m = 0)) (some (ok && decide (len ≤ cap), { v := .sl b o len cap, n, rd := r0 }))
 ((hget h b).bind fun k => iteD (decide (len + m ≤ cap))
   (roK k.ro (some (ok && decide (o + len * z + cs.length ≤ k.cells.length) && oneAll cs, { v := .sl b o (len + m) cap, n, rd := b :: r0, md := [(b, some { k with cells := splice k.cells (o + len * z) cs })] })))
   (some (ok && decide (bytes * (len + m) ≤ growMax) && decide ((cellsAt k.cells o (len * z)).length = len * z) && decide (len ≤ cap), { v := .sg n 0 (len + m), n := n + 1, rd := b :: r0, nw := [(n, { cells := cellsAt k.cells o (len * z) ++ cs, gr := some z })] })))) := (rfl)
theorem appV_g {b len : Nat} : appV z bytes n h r0 m cs ok (.sg b 0 len) = (iteD (decide (m = 0)) (some (ok, { v := .sg b 0 len, n, rd := r0 }))
 ((hget h b).bind fun k => grK k.gr fun z' => some (ok && decide (bytes * (len + m) ≤ growMax) && Nat.beq z z' && decide (k.cells.length = len * z) && oneAll cs, { v := .sg n 0 (len + m), n := n + 1, rd := b :: r0, md := [(b, none)], nw := [(n, { cells := k.cells ++ cs, gr := some z })] }))) := by
 have e : appV z bytes n h r0 m cs ok (.sg b 0 len) = (iteD (decide (m = 0)) (some (ok, { v := .sg b 0 len, n, rd := r0 }))
  ((hget h b).bind fun k => grK k.gr fun z' => some (ok && decide (bytes * (len + m) ≤ growMax) && Nat.beq z z' && decide (k.cells.length = 0 + len * z) && oneAll cs, { v := .sg n 0 (len + m), n := n + 1, rd := b :: r0, md := [(b, none)], nw := [(n, { cells := k.cells.drop 0 ++ cs, gr := some z })] }))) := rfl
 rw [e]
 simp only [List.drop_zero, Nat.zero_add]
theorem appV_gs {b o len : Nat} : appV z bytes n h r0 m cs ok (.sg b (o + 1) len) = (iteD (decide (m = 0)) (some (ok, { v := .sg b (o + 1) len, n, rd := r0 }))
 ((hget h b).bind fun k => grK k.gr fun z' => some (ok && decide (bytes * (len + m) ≤ growMax) && Nat.beq z z' && decide (k.cells.length = o + 1 + len * z) && oneAll cs, { v := .sg n 0 (len + m), n := n + 1, rd := b :: r0, md := [(b, none)], nw := [(n, { cells := k.cells.drop (o + 1) ++ cs, gr := some z })] }))) := (rfl)
end
attribute [go_sem ↓ high] sv_app2
attribute [go_sem ↓] appV_n appV_s appV_g appV_gs appV_f appV_z
def gQ {α : Type} (f : α → List AV) (z : Nat) (l : List α) : Sh := if l.length = 0 then .nil else .sg { cells := rows f l, gr := some z } 0 l.length
def gS {α : Type} (f : α → List AV) (z : Nat) (l : List α) (cs : List AV) : Sh := .sg { cells := rows f l ++ cs, gr := some z } 0 (l.length + 1)
section
variable {α : Type} {f : α → List AV} {z : Nat} {l : List α}
theorem gQ_snoc {a : α} : gQ f z (l ++ [a]) = gS f z l (f a) := by
 unfold gQ gS
 rw [if_neg (by simp), rows_append, List.length_append]
 simp [rows]
end
def hdels (s : Sh) (b : Nat) (h : Hp) : Hp := hmods h (noneL (s.bl b))
section
variable {s t : Sh} {b c : Nat} {h r : Hp} {k : Blk}
theorem hdels_nil : hdels s b [] = [] := by cases s <;> rfl
theorem hdels_cons (hc : c ≠ b) : hdels s b ((c, k) :: r) = (c, k) :: hdels s b r := by
 cases s with
 | nil => rfl
 | sl k o l cc => exact (hdel_cons (c := c)).trans (if_neg hc)
 | sg k o l => exact (hdel_cons (c := c)).trans (if_neg hc)
theorem hdels_hit : hdels s b (s.h b ++ r) = hdels s b r := by
 cases s with
 | nil => rfl
 | sl k o l cc => exact (hdel_cons (c := b)).trans (if_pos rfl)
 | sg k o l => exact (hdel_cons (c := b)).trans (if_pos rfl)
theorem hdels_hit0 : hdels s b (s.h b) = [] := by
 have := hdels_hit (s := s) (b := b) (r := [])
 rw [List.append_nil] at this
 rw [this, hdels_nil]
theorem hdels_skip (hc : c ≠ b) : hdels s b (t.h c ++ r) = t.h c ++ hdels s b r := by
 cases t with
 | nil => rfl
 | sl k o l cc => exact hdels_cons hc
 | sg k o l => exact hdels_cons hc
theorem hdels_skip0 (hc : c ≠ b) : hdels s b (t.h c) = t.h c := by
 have := hdels_skip (s := s) (t := t) (r := []) hc
 rw [List.append_nil, hdels_nil, List.append_nil] at this
 exact this
end
theorem appL_gq {pn : Option Value} {v : AV} {n b c : Nat} {rd : List Nat} {s t : Sh} {h : Hp} : (Eff.mk v n rd (noneL (s.bl b)) (t.h c) pn).appL h = hdels s b (t.h c ++ h) := (rfl)
section
variable {α : Type} {f : α → List AV} {z bytes n b : Nat} {l : List α} {h : Hp} {r0 : List Nat} {cs : List AV} {ok : Bool}
theorem appV_q (hh : hasS h (gQ f z l) b) (ho : oneAll cs = true) (hf : (rows f l).length = l.length * z) : appV z bytes n h r0 1 cs ok ((gQ f z l).v b) =
 some (ok && decide (bytes * (l.length + 1) ≤ growMax), { v := (gS f z l cs).v n, n := n + 1, rd := (gQ f z l).bl b ++ r0, md := noneL ((gQ f z l).bl b), nw := (gS f z l cs).h n }) := by
 revert hh
 unfold gQ
 split
 · rename_i hl
   have : l = [] := List.eq_nil_of_length_eq_zero hl
   subst this
   intro _
   rfl
 · intro hh
   have := hh b { cells := rows f l, gr := some z } (by simp [Sh.h, hget])
   show appV z bytes n h r0 1 cs ok (.sg b 0 l.length) = _
   rw [appV_g, this, decide_eq_false (by decide : ¬ (1 : Nat) = 0), iteD_f, bind_some']
   simp only [grK_s, ho, hf, Bool.and_true, decide_true, nbeq]
   rfl
end
attribute [go_sem ↓] appL_gq
attribute [go_sem] appV_q hdels_nil hdels_cons hdels_hit hdels_hit0 hdels_skip hdels_skip0
end Go.Ab
end
section
/- The abstract layer, part 50: open slices, cut short. -/
namespace Go.Ab
set_option linter.unusedVariables false
set_option linter.unusedSimpArgs false
def cutV (z n : Nat) (h : Hp) (m : Int) (v : AV) : Option (Bool × Eff) := onF v (fun l len => some ((sbound len len none (some m) none).1, { v := .fz (l.drop ((sbound len len none (some m) none).2.1 * z)) ((sbound len len none (some m) none).2.2.1 - (sbound len len none (some m) none).2.1), n }))
 (some ((sbound 0 0 none (some m) none).1, { v := .ze, n })) fun v => onV v
 (some ((sbound 0 0 none (some m) none).1, { v := .ns, n }))
 (fun b o len cap => some ((sbound len cap none (some m) none).1, { v := .sl b (if (sbound len cap none (some m) none).2.2.2 = (sbound len cap none (some m) none).2.1 then o else o + (sbound len cap none (some m) none).2.1 * z) ((sbound len cap none (some m) none).2.2.1 - (sbound len cap none (some m) none).2.1) ((sbound len cap none (some m) none).2.2.2 - (sbound len cap none (some m) none).2.1), n }))
 (fun b o len => (hget h b).bind fun k => grK k.gr fun z' =>
   iteD (decide ((sbound len len none (some m) none).2.1 = 0 ∨ (sbound len len none (some m) none).2.1 < len)) (some ((sbound len len none (some m) none).1 && Nat.beq z z', { v := .sg b (o + (sbound len len none (some m) none).2.1 * z) ((sbound len len none (some m) none).2.2.1 - (sbound len len none (some m) none).2.1), n, rd := [b] })) (some ((sbound len len none (some m) none).1 && Nat.beq z z', { v := .en, n, rd := [b] })))
@[congr] theorem cutV_congr {z n : Nat} {h : Hp} {m m' : Int} {v v' : AV} (h1 : m = m') (h2 : v = v') : cutV z n h m v = cutV z n h m' v' := by rw [h1, h2]
section
variable {cx : Cx} {e : Env} {h : Hp} {n z : Nat} {m : Int}
theorem sv_cut {x hi : Opd} : stepC cx (.slV z x none (some hi) none) e h n = (x.ev e h).bind fun v => (hi.ev e h).bind fun w => (asJ w).bind fun m => cutV z n h m v := by
 rw [sv_slV]
 cases hx : x.ev e h with
 | none => rfl
 | some v =>
  simp only [Option.bind_some, obind_none, obind_some]
  cases hhi : hi.ev e h with
  | none =>
   simp only [Option.bind_none]
   cases v <;> try rfl
   · simp only [onF_g, onV_g]; cases hget h _ <;> rfl
  | some w =>
   simp only [Option.bind_some]
   cases asJ w with
   | none =>
    simp only [Option.bind_none]
    cases v <;> try rfl
    · simp only [onF_g, onV_g]; cases hget h _ <;> rfl
   | some m => rfl
theorem cutV_f {l : List AV} {len : Nat} : cutV z n h m (.fz l len) = some (decide (0 ≤ m ∧ m ≤ (len : Int)), { v := .fz l m.toNat, n }) := by
 show some (_, _) = some (_, _)
 refine congrArg some (Prod.ext (decide_eq_decide.2 ?_) ?_)
 · simp only [Option.getD_some, Option.getD_none]; omega
 · simp [sbound]
theorem cutV_z : cutV z n h m .ze = some (decide (0 ≤ m ∧ m ≤ 0), { v := .ze, n }) := by
 show some (_, _) = some (_, _)
 refine congrArg some (Prod.ext (decide_eq_decide.2 ?_) rfl)
 simp only [Option.getD_some, Option.getD_none]
 omega
theorem cutV_n : cutV z n h m .ns = some (decide (0 ≤ m ∧ 0 ≤ m ∧ m ≤ 0), { v := .ns, n }) := by
 show some (_, _) = some (_, _)
 refine congrArg some (Prod.ext (decide_eq_decide.2 ?_) rfl)
 simp only [Option.getD_some, Option.getD_none]
 omega
theorem cutV_s {b o len cap : Nat} : cutV z n h m (.sl b o len cap) = some (decide (0 ≤ m ∧ m ≤ (cap : Int)), { v := .sl b o m.toNat cap, n }) := by
 show some (_, _) = some (_, _)
 refine congrArg some (Prod.ext (decide_eq_decide.2 ?_) ?_)
 · simp only [Option.getD_some, Option.getD_none]; omega
 · simp [sbound]
theorem cutV_g {b o len : Nat} : cutV z n h m (.sg b o len) = (hget h b).bind fun k => grK k.gr fun z' => some (decide (0 ≤ m ∧ m ≤ (len : Int)) && Nat.beq z z', { v := .sg b o m.toNat, n, rd := [b] }) := by
 show (hget h b).bind _ = (hget h b).bind _
 congr 1; funext k; congr 1; funext z'
 refine congrArg some (Prod.ext ?_ ?_)
 · show (_ && _) = (_ && _)
   congr 1
   refine decide_eq_decide.2 ?_
   simp only [Option.getD_some, Option.getD_none]; omega
 · simp [sbound]
end
def Sh.cut (s : Sh) (m : Nat) : Sh := match s with
 | .nil => .nil
 | .sl k o _ cap => .sl k o m cap
 | .sg k o _ => .sg k o m
def Sh.sane (z : Nat) : Sh → Bool
 | .nil => true
 | .sl _ _ len cap => decide (len ≤ cap)
 | .sg k _ _ => match k.gr with
  | some z' => Nat.beq z z'
  | none => false
def Sh.bg : Sh → Nat → List Nat
 | .sg _ _ _, b => [b]
 | _, _ => []
section
variable {s : Sh} {b c z n : Nat} {h r : Hp} {m : Int}
theorem cutV_v (hh : hasS h s b) (hs : s.sane z = true) (h0 : decide (0 ≤ m ∧ m ≤ (s.len : Int)) = true) : cutV z n h m (s.v b) = some (true, { v := (s.cut m.toNat).v b, n, rd := s.bg b }) := by
 have h0 := of_decide_eq_true h0
 cases s with
 | nil =>
  show cutV z n h m .ns = _
  simp only [Sh.len] at h0
  rw [cutV_n, decide_eq_true (by omega)]; rfl
 | sl k o len cap =>
  simp only [Sh.sane, decide_eq_true_eq] at hs
  simp only [Sh.len] at h0
  show cutV z n h m (.sl b o len cap) = _
  rw [cutV_s, decide_eq_true (by omega)]; rfl
 | sg k o len =>
  simp only [Sh.len] at h0
  have := hh b k (by simp [Sh.h, hget])
  show cutV z n h m (.sg b o len) = _
  rw [cutV_g, this]
  simp only [Sh.sane] at hs
  cases hg : k.gr with
  | none => rw [hg] at hs; cases hs
  | some z' =>
   rw [hg] at hs
   simp only at hs
   rw [bind_some', hg, grK_s, hs, decide_eq_true h0]; rfl
theorem cut_len {k : Nat} (hk : k ≤ s.len) : (s.cut k).len = k := by cases s <;> simp_all [Sh.cut, Sh.len]
theorem cut_plain {k : Nat} : (s.cut k).plain = s.plain := by cases s <;> rfl
theorem cut_h {k : Nat} : (s.cut k).h b = s.h b := by cases s <;> rfl
theorem hasS_cut {k : Nat} : hasS h (s.cut k) b = hasS h s b := by simp only [hasS, cut_h]
theorem Sh.is.cut {α : Type} {f : α → List AV} {l : List α} (hf : ∀ a, (f a).length = z) (hs : s.is f z l) {k : Nat} (hk : k ≤ l.length) : (s.cut k).is f z (l.take k) := by
 have hln := hs.ln
 refine ⟨by rw [cut_plain]; exact hs.pl, by rw [cut_len (by omega), List.length_take]; omega, ?_⟩
 have hc := hs.cs
 have key : ∀ (c : List AV) (o : Nat), cellsAt c o (l.length * z) = rows f l → cellsAt c o (k * z) = rows f (l.take k) := by
  intro c o hco
  rw [← rows_take hf, ← hco]
  unfold cellsAt
  rw [List.take_take]
  congr 1
  have := Nat.mul_le_mul_right z hk
  omega
 cases s with
 | nil =>
  simp only [Sh.len] at hln
  have : l = [] := List.eq_nil_of_length_eq_zero hln.symm
  subst this; simp [Sh.cut, Sh.cs, rows]
 | sl q o len cap =>
  simp only [Sh.len] at hln
  simp only [Sh.cs, hln] at hc
  exact key _ _ hc
 | sg q o len =>
  simp only [Sh.len] at hln
  simp only [Sh.cs, hln] at hc
  exact key _ _ hc
end
attribute [go_sem ↓ high] sv_cut
attribute [go_sem ↓] cutV_n cutV_s cutV_g cutV_f cutV_z
attribute [go_sem] cutV_v cut_plain cut_h hasS_cut
end Go.Ab
end
section
/- The abstract layer, part 51: a body cut in two, the state renamed at the seam; appends of whole open slices; one row changed. -/
namespace Go.Ab
set_option linter.unusedVariables false
set_option linter.unusedSimpArgs false
def Seam (F : Fx) (c : ICode) (K : Kont) (e : Env) (h : Hp) (n : Nat) : Prop := ∀ c', compC F.P F.ct F.N c' = c → WP F.P F.N F.n0 c' K e h n
section
variable {F : Fx} {a b c : ICode} {K : Kont} {e : Env} {h : Hp} {n : Nat}
theorem Seam.run (hcx : Sound F.P F.cx) (hm : F.P.follows .mixedOrders = true) (hi : jw F c K e h n) : Seam F c K e h n := fun c' hc' => iw_sound F hcx hm c' _ _ _ _ (by rw [hc']; exact iw_of_jw hi)
theorem Seam.seq (hi : Seam F a (thenK K (Seam F b K)) e h n) : Seam F (.seq a b) K e h n := fun c' hc' => by
 obtain ⟨x, y, rfl, hx, hy⟩ := inv_seq hc'
 intro ro hro B D0 φ0 H0 w0 h1 h2 D φ a w hR hS
 refine wpIn_seq (wpIn_mono (hi x hx ro (hro.imp _root_.id (fun h => by simp only [noRF, Bool.and_eq_true] at h; exact h.1)) B D0 φ0 H0 w0 h1 h2 D φ a w hR hS) (fun ex a' w' hp => ?_))
 obtain ⟨D', φ', e', h', n', hk, hn', hR', hS'⟩ := hp
 cases ex with
 | normal => exact hk y hy ro (hro.imp _root_.id (fun h => by simp only [noRF, Bool.and_eq_true] at h; exact h.2)) B D0 φ0 H0 w0 h1 hn' D' φ' a' w' hR' hS'
 | exit id => exact ⟨D', φ', e', h', n', hk, hn', hR', hS'⟩
 | goto l => exact ⟨D', φ', e', h', n', hk, hn', hR', hS'⟩
 | ret => exact ⟨D', φ', e', h', n', hk, hn', hR', hS'⟩
 | panic ch => exact ⟨D', φ', e', h', n', hk, hn', hR', hS'⟩
 | outgrown => exact ⟨D', φ', e', h', n', hk, hn', hR', hS'⟩
theorem Seam.part (hcx : Sound F.P F.cx) (hm : F.P.follows .mixedOrders = true) (hi : jw F a (thenK K (Seam F b K)) e h n) : Seam F (.seq a b) K e h n := Seam.seq (Seam.run hcx hm hi)
theorem Seam.block {id : Nat} (hi : Seam F a (blockK id K) e h n) : Seam F (.block id a) K e h n := fun c' hc' => by
 obtain ⟨x, rfl, hx⟩ := inv_block hc'
 intro ro hro B D0 φ0 H0 w0 h1 h2 D φ a w hR hS
 refine wpIn_block (wpIn_mono (hi x hx ro hro B D0 φ0 H0 w0 h1 h2 D φ a w hR hS) (fun ex a' w' hp => ?_))
 obtain ⟨D', φ', e', h', n', hk, hn', hR', hS'⟩ := hp
 cases ex with
 | exit i =>
  simp only [blockK] at hk
  simp only [Exit.inBlock]
  split
  · rename_i hid; rw [if_pos hid] at hk; exact ⟨D', φ', e', h', n', hk, hn', hR', hS'⟩
  · rename_i hid; rw [if_neg hid] at hk; exact ⟨D', φ', e', h', n', hk, hn', hR', hS'⟩
 | normal => exact ⟨D', φ', e', h', n', hk, hn', hR', hS'⟩
 | goto l => exact ⟨D', φ', e', h', n', hk, hn', hR', hS'⟩
 | ret => exact ⟨D', φ', e', h', n', hk, hn', hR', hS'⟩
 | panic ch => exact ⟨D', φ', e', h', n', hk, hn', hR', hS'⟩
 | outgrown => exact ⟨D', φ', e', h', n', hk, hn', hR', hS'⟩
theorem Seam.ren {e2 : Env} {h2 : Hp} {n2 : Nat} (m : List (Nat × Nat)) (hs : Seam F c K e2 h2 n2) (hn : F.n0 ≤ n2) (hm : rnOK m F.n0 n2 = true) (he : EnvR n2 m e e2) (hh : HpR n2 m h h2) : Seam F c K e h n :=
 fun c' hc' => WP.weaken (Wk.ofR hn hm he hh) (hs c' hc')
end
theorem FTL.of_seam {P : Program} {f : FuncId} {fn : Func} {I : IFn} {cx : Cx} {args : List AV} {h : Hp} {n : Nat} {v2 : AV} {h2 : Hp} {n2 : Nat} (hf : P.funcs[f]? = some fn) (hI : compF P fn = some I) (hnp : args.length ≤ I.N)
 (hi : Seam ⟨P, cx, I.ct, I.N, n⟩ I.code (retK I.res fun v h' n' => Ends n v h' n' v2 h2 n2) (argEnv 0 args) h n) : FTL P f args h n v2 h2 n2 :=
 FTL.of_wp hf hI hnp (fun c hc => hi c hc)
section
variable {α : Type} {f : α → List AV} {z : Nat} {l : List α} {s : Sh} {b : Nat} {h : Hp}
theorem oneAll_append {x y : List AV} : oneAll (x ++ y) = (oneAll x && oneAll y) := by
 induction x with
 | nil => rfl
 | cons a x ih => simp only [List.cons_append, oneAll, ih, Bool.and_assoc]
theorem rows_one1 (h1 : ∀ a, oneAll (f a) = true) : ∀ l : List α, oneAll (rows f l) = true
 | [] => rfl
 | a :: l => by rw [rows_cons, oneAll_append, h1, rows_one1 h1 l]; rfl
end
end Go.Ab
end
section
/- The abstract layer, part 52: open slices whose form is known. -/
namespace Go.Ab
section
variable {k : Blk} {o l c b : Nat} {h : Hp}
theorem fv_n : Sh.nil.v b = .ns := (rfl)
theorem fv_sl : (Sh.sl k o l c).v b = .sl b o l c := (rfl)
theorem fv_sg : (Sh.sg k o l).v b = .sg b o l := (rfl)
theorem fh_n : Sh.nil.h b = [] := (rfl)
theorem fh_sl : (Sh.sl k o l c).h b = [(b, k)] := (rfl)
theorem fh_sg : (Sh.sg k o l).h b = [(b, k)] := (rfl)
end
attribute [go_sem] fv_n fv_sl fv_sg fh_n fh_sl fh_sg
end Go.Ab
end
