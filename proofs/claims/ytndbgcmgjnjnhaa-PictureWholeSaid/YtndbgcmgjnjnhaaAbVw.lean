/- The abstract layer, part 58: calls that look at slices and boxes of plain cells (general form); slices.IndexFunc and slices.ContainsFunc over frozen slices. -/
import Derived.Test.YtndbgcmgjnjnhaaAbFze
namespace Go.Ab
set_option linter.unusedVariables false
set_option linter.unusedSimpArgs false
set_option maxRecDepth 100000

/-- A value seen as one that bears no names. -/
def VwV (h : Hp) (rd : List Nat) (a aF : AV) : Prop := ∀ (D D' : Nat → Prop) (φ : Phi) (w : World) (u : Value), HR D φ (only (hget h) rd) w → VRel D φ a u → VRel D' (φ.frz (only (hget h) rd) w) aF u
def VwL (h : Hp) (rd : List Nat) : List AV → List AV → Prop
  | [], [] => True
  | a :: l, b :: m => VwV h rd a b ∧ VwL h rd l m
  | _, _ => False
section
variable {h : Hp} {rd : List Nat}
theorem VwV.same {a : AV} (ha : a.bel 0 = true) : VwV h rd a a := fun D D' φ w u hH hv => (hv.mono (D' := D) (fun _ h => h) (Phi.frz_agree hH D)).bel0 ha
theorem VwL.len : ∀ {l m : List AV}, VwL h rd l m → l.length = m.length
  | [], [], _ => rfl
  | a :: l, b :: m, h => by simp [VwL.len h.2]
  | [], _ :: _, h => h.elim
  | _ :: _, [], h => h.elim
theorem VwL.get : ∀ {l m : List AV} {i : Nat} {b : AV}, VwL h rd l m → m[i]? = some b → ∃ a, l[i]? = some a ∧ VwV h rd a b
  | [], [], i, b, _, hi => by simp at hi
  | a :: l, c :: m, 0, b, h, hi => by simp at hi; subst hi; exact ⟨a, rfl, h.1⟩
  | a :: l, c :: m, i + 1, b, h, hi => by
    obtain ⟨a', h1, h2⟩ := VwL.get h.2 (by simpa using hi)
    exact ⟨a', by simpa using h1, h2⟩
  | [], _ :: _, _, _, h, _ => h.elim
  | _ :: _, [], _, _, h, _ => h.elim
theorem VwV.fn {f : FuncId} {l m : List AV} (hl : VwL h rd l m) : VwV h rd (.fn f l) (.fn f m) := fun D D' φ w u hH hv => by
  cases hv with
  | fn _ _ cs hlen hh =>
    refine .fn f m cs (by rw [← hlen, hl.len]) (fun i b u hb hu => ?_)
    obtain ⟨a, h1, h2⟩ := hl.get hb
    exact h2 D D' φ w u hH (hh i a u h1 hu)
theorem VwV.p {b o : Nat} {k : Blk} (hb : only (hget h) rd b = some k) (hk : belL 0 k.cells = true) : VwV h rd (.p b o) (.fp k.cells o) := fun D D' φ w u hH hv => by
  cases hv with
  | p _ _ hD =>
    obtain ⟨_, ⟨⟨vs, elem, fr, h1, h2, _⟩, _⟩⟩ := hH.at_ b k hb
    have := VRel.fp (D := D') (φ := φ.frz (only (hget h) rd) w) k.cells o (φ.blk b) (φ.off b) vs (by rw [Phi.frz_at (D := D) hb]; simp [fzW, h1]) (fun i hi => by
      obtain ⟨u, hu, _⟩ := h2 i _ (List.getElem?_eq_getElem hi)
      rcases Nat.lt_or_ge (φ.off b + i) vs.size with h' | h'
      · exact h'
      · rw [Array.getElem?_eq_none h'] at hu; cases hu) (fun i a u ha hu => by
      obtain ⟨u', hu', hr⟩ := h2 i a ha
      rw [hu] at hu'; cases hu'
      exact (hr.mono (D' := D) (fun _ h => h) (Phi.frz_agree hH D)).bel0 (belL_spec hk a (List.mem_of_getElem? ha)))
    exact this
theorem vwK_sub {z : Nat} {x : AV} {rd' : List Nat} {m : Nat} {cs : List AV}
    (hv : vwK h z x (fun rd m cs ok => some (rd, m, cs, ok)) = some (rd', m, cs, true)) (hcs : belL 0 cs = true) (hrd : ∀ b, inl rd' b = true → inl rd b = true) : VwV h rd x (.fz cs m) := fun D D' φ w u hH hx => by
  have h1 := VRel.view (D' := D') (only_sub hH hrd) hx hv hcs
  refine VRel.mono (φ := φ.frz (only (hget h) rd') w) (fun _ h => h) ?_ h1
  refine ⟨fun b _ => ⟨rfl, rfl, rfl, rfl⟩, fun B vs hB => ?_⟩
  simp only [Phi.frz] at hB ⊢
  split at hB
  · rename_i hex
    obtain ⟨b, k, hb, hbB⟩ := hex
    have hb2 : only (hget h) rd b = some k := by
      unfold only at hb ⊢
      cases hb' : inl rd' b
      · simp [hb'] at hb
      · rw [hrd b hb']; simpa [hb'] using hb
    rw [if_pos ⟨b, k, hb2, hbB⟩]
    exact hB
  · split
    · exact hH.fz_eq hB
    · exact hB
end

/-- A call, by what the function does with values that bear no names. -/
theorem CallOK.viewG {P : Program} {f : FuncId} {args argsF : List AV} {h : Hp} {n : Nat} {rd : List Nat} {v : AV} (hc : Go.Ab.callable P f = true)
    (hv : VwL h rd args argsF) (hpl : v.pl = true) (hf : FTL P f argsF [] 0 v [] 0) : CallOK P f args h n { v, n, rd } := by
  refine ⟨hc, Nat.le_refl _, fun b r hb => by simp [mget] at hb, fun b kk hb => by simp [hget] at hb, fun D φ w us hfresh hH hA => ?_⟩
  let φ1 := φ.frz (only (hget h) rd) w
  have hH1 : HR (fun _ => False) φ1 (hget []) w := ⟨⟨fun b k hb => by simp [hget] at hb, fun b1 b2 k1 k2 _ hb => by simp [hget] at hb⟩, fun B vs hB => by
    simp only [φ1, Phi.frz] at hB
    split at hB
    · exact fzW_spec hB
    · exact hH.fz B vs hB, fun b k B vs hb => by simp [hget] at hb⟩
  have hA1 : All2 (fun _ => False) φ1 argsF us := ⟨by rw [← hv.len]; exact hA.1, fun i a u ha hu => by
    obtain ⟨a', h1, h2⟩ := hv.get ha
    exact h2 D _ φ w u hH (hA.2 i a' u h1 hu)⟩
  refine (hf (fun _ => False) φ1 w us (fun _ h => h.elim) hH1 hA1).mono fun e w' hx => ?_
  obtain ⟨D', φ', u, rfl, hD', hr, hS⟩ := hx
  have hd : ∀ b, D b → Dn D n n b := fun b h => .inl h
  have e : (Eff.app { v, n, rd } (only (hget h) rd)) = only (hget h) rd := by funext b; rfl
  have hst : ∀ c, c < w.heap.size → w'.heap[c]? = w.heap[c]? := fun c hc => hS.frm.block c hc (fun b k hb => by simp [hget] at hb)
  refine ⟨u, φ, rfl, hr.pl hpl, ?_, fun c kk hc _ => by rw [e] at hc; exact hc⟩
  show Stp D φ _ w (Dn D n n) φ (Eff.app _ _) w'
  rw [e]
  exact Stp.mk' hH rfl hd (Agree.refl D φ).at_ ⟨fun b k hb => ⟨hd b (hH.at_ b k hb).1, (hH.at_ b k hb).2.mono hd (Agree.refl _ _) (hH.at_ b k hb).1 (hst _ (hH.at_ b k hb).2.lt)⟩, hH.sep⟩
    ⟨hS.frm.os, hS.frm.tape, hS.frm.output, hS.frm.size, fun c hc _ => hst c hc⟩ (fun b k hb hk => .inr ⟨b, k, hb, hk, rfl⟩)

/-- slices.IndexFunc: z cells in an element. -/
abbrev ixfC (z : Nat) (agg : Bool) : ICode := (.seq (.reg [⟨(some 4), .mv (.c (.i .i64 0)), none, false⟩]) (.seq (.seq (.reg [⟨(some 6), .mv (.t 0), none, false⟩, ⟨(some 7), .lenV (.t 6), none, false⟩, ⟨(some 8), .mv (.c (.i .i64 0)), none, false⟩])
    (.block 0 (.loop (.seq (.reg [⟨(some 9), .bin .lss (.t 8) (.t 7), none, true⟩]) (.seq (.cond (.t 9) .skip (.exit 0)) (.seq (.block 1 (.seq (.reg [⟨(some 10), .mv (.t 8), none, false⟩, ⟨(some 5), .mv (.t 10), none, false⟩])
      (.seq (.reg [⟨(some 11), .mv (.t 1), none, false⟩, ⟨(some 12), .mv (.t 0), none, false⟩, ⟨(some 13), .mv (.t 5), none, false⟩, ⟨(some 14), .ixaV z (.t 12) (.t 13), none, false⟩, ⟨(some 15), .ld agg z (.t 14), none, false⟩, ⟨(some 16), .call (.t 11) [.t 15], none, true⟩])
        (.cond (.t 16) (.seq (.reg [⟨(some 17), .mv (.t 5), none, false⟩, ⟨(some 4), .mv (.t 17), none, false⟩]) .ret) .skip)))) (.reg [⟨(some 18), .bin .add (.t 8) (.c (.i .i64 1)), none, false⟩, ⟨(some 8), .mv (.t 18), none, false⟩])))))))
    (.seq (.reg [⟨(some 4), .mv (.c (.i .i64 (-1))), none, false⟩]) .ret)))
def ixfI (z : Nat) (agg : Bool) : IFn := { np := 2, N := 19, ct := [9, 16], code := ixfC z agg, res := [.t 4] }
/-- slices.ContainsFunc: g is its IndexFunc. -/
abbrev cofC (g : FuncId) : ICode := (.seq (.reg [⟨(some 4), .mv (.c (.b false)), none, false⟩]) (.seq (.reg [⟨(some 5), .mv (.t 0), none, false⟩, ⟨(some 6), .mv (.t 1), none, false⟩, ⟨(some 7), .call (.c (.fn g [])) [.t 5, .t 6], none, false⟩, ⟨(some 8), .bin .geq (.t 7) (.c (.i .i64 0)), none, false⟩, ⟨(some 4), .mv (.t 8), none, false⟩]) .ret))
def cofI (g : FuncId) : IFn := { np := 2, N := 9, ct := [], code := cofC g, res := [.t 4] }

/-- Where the first one lies of which something holds. -/
def ixf {α : Type} (p : α → Bool) : List α → Int → Int
  | [], _ => -1
  | x :: r, i => if p x then i else ixf p r (i + 1)
theorem ixf_neg {α : Type} (p : α → Bool) : ∀ (l : List α) (i : Int), 0 ≤ i → (decide (0 ≤ ixf p l i) = l.any p)
  | [], i, _ => rfl
  | x :: r, i, h => by
    simp only [ixf, List.any_cons]
    by_cases hx : p x = true
    · simp [hx, h]
    · simp [hx, ixf_neg p r (i + 1) (by omega)]
theorem ixf_drop {α : Type} {p : α → Bool} : ∀ {l : List α} {k : Nat} (i : Int), (∀ x ∈ l.take k, p x = false) → ixf p l i = ixf p (l.drop k) (i + k)
  | l, 0, i, _ => by simp
  | [], k + 1, i, _ => rfl
  | x :: r, k + 1, i, h => by
    simp only [ixf, h x (by simp), Bool.false_eq_true, if_false, List.drop_succ_cons]
    rw [ixf_drop (l := r) (k := k) (i + 1) (fun y hy => h y (by simp [hy]))]
    congr 1
    omega

/-- What a predicate's calls give. -/
noncomputable def cxP {α : Type} (g : FuncId) (caps : List AV) (el : α → AV) (p : α → Bool) (l : List α) : Cx := fun f args h n =>
  open Classical in if hx : f = g ∧ ∃ a, a ∈ l ∧ args = el a :: caps then some (true, { v := .b (p hx.2.choose), n }) else none
theorem cxP_at {α : Type} {g : FuncId} {caps : List AV} {el : α → AV} {p : α → Bool} {l : List α} (hp : ∀ a b, el a = el b → p a = p b) {a : α} (ha : a ∈ l) {h : Hp} {n : Nat} : cxP g caps el p l g (el a :: caps) h n = some (true, { v := .b (p a), n }) := by
  unfold cxP
  have hx : g = g ∧ ∃ b, b ∈ l ∧ el a :: caps = el b :: caps := ⟨rfl, a, ha, rfl⟩
  rw [dif_pos hx]
  have h2 : el a = el hx.2.choose := (List.cons.inj hx.2.choose_spec.2).1
  exact congrArg (fun b => some (true, ({ v := .b b, n } : Eff))) (hp _ _ h2).symm
theorem cxP_sound {P : Program} {α : Type} {g : FuncId} {caps : List AV} {el : α → AV} {p : α → Bool} {l : List α} (hc : callable P g = true) (hel : ∀ a, (el a).bel 0 = true) (hcaps : belL 0 caps = true)
    (hf : ∀ a ∈ l, FTL P g (el a :: caps) [] 0 (.b (p a)) [] 0) : Sound P (cxP g caps el p l) := fun f args h n c E hx hc' => by
  unfold cxP at hx
  split at hx
  · rename_i hy
    obtain ⟨h1, h2⟩ := hy.2.choose_spec
    simp only [Option.some.injEq, Prod.mk.injEq] at hx
    obtain ⟨_, rfl⟩ := hx
    obtain ⟨a, ha⟩ : ∃ a, a = hy.2.choose := ⟨_, rfl⟩
    rw [← ha] at h1 h2 ⊢
    clear ha
    obtain ⟨rfl, _⟩ := hy
    rw [h2]
    exact CallOK.pure hc (by simp [belL, hel, hcaps]) rfl (hf _ h1) h n
  · cases hx

def elV (agg : Bool) (l : List AV) : AV := match agg with
  | true => .agg l
  | false => l.headD .np

end Go.Ab
