/- Texts laid as one: AbExec AbExec2 AbPure. -/
import Derived.Test.YthnmkedknannhaaAbSimps
section
/- The abstract layer, part 23: running closed code by computation. -/
namespace Go.Ab
set_option linter.unusedVariables false
set_option linter.unusedSimpArgs false
inductive XE where
 | n
 | x (i : Nat)
 | r
def XE.toExit : XE → Exit
 | .n => .normal
 | .x i => .exit i
 | .r => .ret
abbrev XO := XE × Env × Hp × Nat
abbrev XR := ICode → Env → Hp → Nat → Option XO
def isOut (o : XO) : Kont := fun ex e h n => ex = o.1.toExit ∧ e = o.2.1 ∧ h = o.2.2.1 ∧ n = o.2.2.2
def xOps (cx : Cx) : List IOper → Env → Hp → Nat → Option (Env × Hp × Nat)
 | [], e, h, n => some (e, h, n)
 | o :: os, e, h, n => match wantedI e o.guard with
  | some true => match stepC cx o.op e h n with
   | some (true, E) => match E.pn with
    | none => xOps cx os (eput o.dst E.v e) (E.appL h) E.n
    | some _ => none
   | _ => none
  | some false => xOps cx os (eput o.dst (.tup []) e) h n
  | none => none
theorem fin1_all {s : Bool} {v : AV} {k : AV → Prop} (h : k v) : fin1 s v k := by
 unfold fin1
 split
 · rename_i c
   exact ⟨fun hc => by subst hc; exact h, fun hc => by subst hc; exact h⟩
 · exact h
theorem xOps_run {cx : Cx} : ∀ {l : List IOper} {e : Env} {h : Hp} {n : Nat} {e' : Env} {h' : Hp} {n' : Nat} {K : Kont}, xOps cx l e h n = some (e', h', n') → K .normal e' h' n' → runOps cx l e h n K
 | [], e, h, n, e', h', n', K, hx, hk => by simp only [xOps, Option.some.injEq, Prod.mk.injEq] at hx; obtain ⟨rfl, rfl, rfl⟩ := hx; exact hk
 | o :: os, e, h, n, e', h', n', K, hx, hk => by
  simp only [xOps] at hx
  rw [runOps]
  split at hx
  · rename_i hw
    rw [hw]
    split at hx
    · rename_i E hs
      split at hx
      · rename_i hp
        show gd (stepC cx o.op e h n) _
        rw [hs]
        refine ⟨rfl, ?_⟩
        rw [hp]
        exact fin1_all (k := fun v => runOps cx os (eput o.dst v e) (E.appL h) E.n K) (xOps_run hx hk)
      · cases hx
    · cases hx
  · rename_i hw; rw [hw]; exact xOps_run hx hk
  · cases hx
def xDr (cx : Cx) : List (IOper × List Nat) → Nat → List (Nat × Eff) → Env → Hp → Nat → Option (Env × Hp × Nat)
 | [], _, _, e, h, n => some (e, h, n)
 | (o, un) :: os, i, dn, e, h, n => match wantedI e o.guard with
  | some true => match stepC cx o.op e h n with
   | some (true, E) => match effOK h n E && okAll un E dn, E.pn with
    | true, none => xDr cx os (i + 1) (pushD i E dn) (eput o.dst E.v e) (E.appL h) E.n
    | _, _ => none
   | _ => none
  | some false => xDr cx os (i + 1) dn (eput o.dst (.tup []) e) h n
  | none => none
theorem xDr_run {cx : Cx} : ∀ {l : List (IOper × List Nat)} {i : Nat} {dn : List (Nat × Eff)} {e : Env} {h : Hp} {n : Nat} {e' : Env} {h' : Hp} {n' : Nat} {K : Kont}, xDr cx l i dn e h n = some (e', h', n') → K .normal e' h' n' → runD cx l i dn e h n K
 | [], i, dn, e, h, n, e', h', n', K, hx, hk => by simp only [xDr, Option.some.injEq, Prod.mk.injEq] at hx; obtain ⟨rfl, rfl, rfl⟩ := hx; exact hk
 | (o, un) :: os, i, dn, e, h, n, e', h', n', K, hx, hk => by
  simp only [xDr] at hx
  rw [runD]
  split at hx
  · rename_i hw
    rw [hw]
    split at hx
    · rename_i E hs
      split at hx
      · rename_i hc hp
        show gd (stepC cx o.op e h n) _
        rw [hs]
        refine ⟨by show (true && effOK h n E && okAll un E dn) = true; rw [Bool.true_and]; exact hc, ?_⟩
        rw [hp]
        exact fin1_all (k := fun v => runD cx os (i + 1) (pushD i E dn) (eput o.dst v e) (E.appL h) E.n K) (xDr_run hx hk)
      · cases hx
    · cases hx
  · rename_i hw; rw [hw]; exact xDr_run hx hk
  · cases hx
mutual
def AV.names : AV → List Nat
 | .p b _ => [b]
 | .sl b _ _ _ => [b]
 | .sg b _ _ => [b]
 | .fn _ l => namesL l
 | .bm _ l => namesL l
 | .agg l => namesL l
 | .tup l => namesL l
 | .b _ => []
 | .i _ _ => []
 | .s _ => []
 | .np => []
 | .ns => []
 | .nf => []
 | .ni => []
 | .fz l _ => namesL l
 | .fp l _ => namesL l
 | .ze => []
 | .en => []
 | .any => []
 | .k _ _ => []
 | .yl _ _ _ l => namesL l
def namesL : List AV → List Nat
 | [] => []
 | v :: r => v.names ++ namesL r
end
mutual
def AV.inR (R : List Nat) : AV → Bool
 | .p b _ => inl R b
 | .sl b _ _ _ => inl R b
 | .sg b _ _ => inl R b
 | .fn _ l => inRL R l
 | .bm _ l => inRL R l
 | .agg l => inRL R l
 | .tup l => inRL R l
 | .b _ => true
 | .i _ _ => true
 | .s _ => true
 | .np => true
 | .ns => true
 | .nf => true
 | .ni => true
 | .fz l _ => inRL R l
 | .fp l _ => inRL R l
 | .ze => true
 | .en => true
 | .any => true
 | .k _ _ => true
 | .yl _ _ _ l => inRL R l
def inRL (R : List Nat) : List AV → Bool
 | [] => true
 | v :: r => v.inR R && inRL R r
end
def reach (h : Hp) : Nat → List Nat → List Nat → List Nat
 | _, done, [] => done
 | 0, done, _ => done
 | k + 1, done, b :: todo => match inl done b with
  | true => reach h k done todo
  | false => match hget h b with
   | some blk => reach h k (b :: done) (namesL blk.cells ++ todo)
   | none => reach h k done todo
def idx : List Nat → Nat → Nat
 | [], _ => 0
 | c :: r, b => bif Nat.beq c b then 0 else idx r b + 1
def nth : List Nat → Nat → Nat
 | [], _ => 0
 | c :: _, 0 => c
 | _ :: r, i + 1 => nth r i
def nodup : List Nat → Bool
 | [] => true
 | c :: r => !(inl r c) && nodup r
theorem inl_idx : ∀ {R : List Nat} {b : Nat}, inl R b = true → idx R b < R.length ∧ nth R (idx R b) = b
 | [], b, h => by simp [inl] at h
 | c :: r, b, h => by
  simp only [inl, Bool.or_eq_true] at h
  simp only [idx]
  cases hc : Nat.beq c b
  · rw [hc] at h
    obtain ⟨h1, h2⟩ := inl_idx (h.resolve_left (by simp))
    simp only [cond_false]
    exact ⟨by simp; omega, h2⟩
  · have := Nat.eq_of_beq_eq_true hc
    exact ⟨by simp, by simp [nth, this]⟩
theorem nth_inl : ∀ {R : List Nat} {i : Nat}, i < R.length → inl R (nth R i) = true
 | [], i, h => by simp at h
 | c :: r, 0, h => by simp [inl, nth]
 | c :: r, i + 1, h => by
  simp only [nth, inl, Bool.or_eq_true]
  exact .inr (nth_inl (by simpa using h))
theorem idx_nth : ∀ {R : List Nat} {i : Nat}, nodup R = true → i < R.length → idx R (nth R i) = i
 | [], i, _, h => by simp at h
 | c :: r, 0, _, h => by simp [idx, nth]
 | c :: r, i + 1, hn, h => by
  simp only [nodup, Bool.and_eq_true, Bool.not_eq_true'] at hn
  have h1 := nth_inl (R := r) (i := i) (by simpa using h)
  simp only [nth, idx]
  cases hc : Nat.beq c (nth r i)
  · simp only [cond_false]; rw [idx_nth hn.2 (by simpa using h)]
  · have := Nat.eq_of_beq_eq_true hc
    rw [this, h1] at hn
    exact absurd hn.1 (by simp)
mutual
theorem AV.ren_idx {R : List Nat} : ∀ v : AV, v.inR R = true → (v.ren (idx R)).ren (nth R) = v ∧ (v.ren (idx R)).bel R.length = true
 | .p b o, h => by obtain ⟨h1, h2⟩ := inl_idx h; simp only [AV.ren, AV.bel, h2]; exact ⟨trivial, by rw [Nat.blt_eq]; exact h1⟩
 | .sl b o l c, h => by obtain ⟨h1, h2⟩ := inl_idx h; simp only [AV.ren, AV.bel, h2]; exact ⟨trivial, by rw [Nat.blt_eq]; exact h1⟩
 | .sg b o l, h => by obtain ⟨h1, h2⟩ := inl_idx h; simp only [AV.ren, AV.bel, h2]; exact ⟨trivial, by rw [Nat.blt_eq]; exact h1⟩
 | .fn f l, h => by obtain ⟨h1, h2⟩ := renL_idx l h; simp only [AV.ren, AV.bel, h1]; exact ⟨trivial, h2⟩
 | .bm f l, h => by obtain ⟨h1, h2⟩ := renL_idx l h; simp only [AV.ren, AV.bel, h1]; exact ⟨trivial, h2⟩
 | .agg l, h => by obtain ⟨h1, h2⟩ := renL_idx l h; simp only [AV.ren, AV.bel, h1]; exact ⟨trivial, h2⟩
 | .tup l, h => by obtain ⟨h1, h2⟩ := renL_idx l h; simp only [AV.ren, AV.bel, h1]; exact ⟨trivial, h2⟩
 | .b x, _ => ⟨rfl, rfl⟩
 | .i k n, _ => ⟨rfl, rfl⟩
 | .s l, _ => ⟨rfl, rfl⟩
 | .np, _ => ⟨rfl, rfl⟩
 | .ns, _ => ⟨rfl, rfl⟩
 | .nf, _ => ⟨rfl, rfl⟩
 | .ni, _ => ⟨rfl, rfl⟩
 | .fz l n, h => by obtain ⟨h1, h2⟩ := renL_idx l h; simp only [AV.ren, AV.bel, h1]; exact ⟨trivial, h2⟩
 | .fp l n, h => by obtain ⟨h1, h2⟩ := renL_idx l h; simp only [AV.ren, AV.bel, h1]; exact ⟨trivial, h2⟩
 | .ze, _ => ⟨rfl, rfl⟩
 | .en, _ => ⟨rfl, rfl⟩
 | .any, _ => ⟨rfl, rfl⟩
 | .k _ _, _ => ⟨rfl, rfl⟩
 | .yl L r ts l, h => by obtain ⟨h1, h2⟩ := renL_idx l h; simp only [AV.ren, AV.bel, h1]; exact ⟨trivial, h2⟩
theorem renL_idx {R : List Nat} : ∀ l : List AV, inRL R l = true → renL (nth R) (renL (idx R) l) = l ∧ belL R.length (renL (idx R) l) = true
 | [], _ => ⟨rfl, rfl⟩
 | v :: r, h => by
  simp only [inRL, Bool.and_eq_true] at h
  obtain ⟨h1, h2⟩ := AV.ren_idx v h.1
  obtain ⟨h3, h4⟩ := renL_idx r h.2
  exact ⟨by simp only [renL, h1, h3], by simp only [renL, belL, h2, h4, Bool.and_self]⟩
end
def mkL (R : List Nat) (h : Hp) : List Nat → Nat → Option Hp
 | [], _ => some []
 | b :: r, i => match hget h b with
  | some k => match inRL R k.cells with
   | true => (mkL R h r (i + 1)).bind fun l => some ((i, k.ren (idx R)) :: l)
   | false => none
  | none => none
theorem mkL_spec {R : List Nat} {h : Hp} : ∀ {r : List Nat} {i : Nat} {l : Hp}, mkL R h r i = some l →
 (∀ b kk, hget l b = some kk → i ≤ b ∧ b < i + r.length ∧ ∃ k, hget h (nth r (b - i)) = some k ∧ kk = k.ren (idx R) ∧ inRL R k.cells = true) ∧ (∀ b, i ≤ b → b < i + r.length → ∃ kk, hget l b = some kk)
 | [], i, l, hl => by
  simp only [mkL, Option.some.injEq] at hl; subst hl
  exact ⟨fun b kk hb => by simp [hget] at hb, fun b h1 h2 => by simp at h2; omega⟩
 | c :: r, i, l, hl => by
  simp only [mkL] at hl
  split at hl
  · rename_i k hk
    split at hl
    · rename_i hin
      simp only [Option.bind_eq_some_iff, Option.some.injEq] at hl
      obtain ⟨l', hl', rfl⟩ := hl
      obtain ⟨g1, g2⟩ := mkL_spec hl'
      refine ⟨fun b kk hb => ?_, fun b h1 h2 => ?_⟩
      · simp only [hget] at hb
        by_cases hbi : b = i
        · subst hbi
          simp at hb; subst hb
          exact ⟨Nat.le_refl _, by simp, k, by simpa [nth] using hk, rfl, hin⟩
        · rw [beq_ne hbi] at hb
          obtain ⟨q1, q2, k', q3, q4, q5⟩ := g1 b kk hb
          refine ⟨by omega, by simp; omega, k', ?_, q4, q5⟩
          rw [show b - i = (b - (i + 1)) + 1 by omega]
          exact q3
      · simp only [hget]
        by_cases hbi : b = i
        · subst hbi; simp
        · rw [beq_ne hbi]
          exact g2 b (by omega) (by simp at h2; omega)
    · cases hl
  · cases hl
def kdEq : IntKind → IntKind → Bool
 | .i8, .i8 => true
 | .i16, .i16 => true
 | .i32, .i32 => true
 | .i64, .i64 => true
 | .u8, .u8 => true
 | .u16, .u16 => true
 | .u32, .u32 => true
 | .u64, .u64 => true
 | _, _ => false
theorem kdEq_eq {k j : IntKind} (h : kdEq k j = true) : k = j := by
 cases k <;> cases j <;> first | rfl | cases h
mutual
def AV.same : AV → AV → Bool
 | .b x, .b y => x == y
 | .i k x, .i j y => kdEq k j && x == y
 | .s x, .s y => x == y
 | .np, .np => true
 | .p b o, .p c q => Nat.beq b c && Nat.beq o q
 | .ns, .ns => true
 | .sl b o l c, .sl b' o' l' c' => Nat.beq b b' && Nat.beq o o' && Nat.beq l l' && Nat.beq c c'
 | .sg b o l, .sg b' o' l' => Nat.beq b b' && Nat.beq o o' && Nat.beq l l'
 | .fn f l, .fn g m => Nat.beq f g && sameL l m
 | .bm f l, .bm g m => Nat.beq f g && sameL l m
 | .nf, .nf => true
 | .ni, .ni => true
 | .agg l, .agg m => sameL l m
 | .tup l, .tup m => sameL l m
 | .fz l a, .fz m b => Nat.beq a b && sameL l m
 | .fp l a, .fp m b => Nat.beq a b && sameL l m
 | .ze, .ze => true
 | .en, .en => true
 | .any, .any => true
 | _, _ => false
def sameL : List AV → List AV → Bool
 | [], [] => true
 | x :: l, y :: m => x.same y && sameL l m
 | _, _ => false
end
mutual
theorem AV.same_eq : ∀ {x y : AV}, x.same y = true → x = y
 | .b x, y, h => by cases y <;> simp_all [AV.same]
 | .i k x, y, h => by
  cases y <;> simp [AV.same] at h
  obtain ⟨h1, h2⟩ := h
  rw [kdEq_eq h1, h2]
 | .s x, y, h => by cases y <;> simp_all [AV.same]
 | .np, y, h => by cases y <;> simp_all [AV.same]
 | .p b o, y, h => by cases y <;> simp_all [AV.same]
 | .ns, y, h => by cases y <;> simp_all [AV.same]
 | .sl b o l c, y, h => by cases y <;> simp_all [AV.same]
 | .sg b o l, y, h => by cases y <;> simp_all [AV.same]
 | .fn f l, y, h => by
  cases y <;> simp [AV.same] at h
  rw [h.1, sameL_eq h.2]
 | .bm f l, y, h => by
  cases y <;> simp [AV.same] at h
  rw [h.1, sameL_eq h.2]
 | .nf, y, h => by cases y <;> simp_all [AV.same]
 | .ni, y, h => by cases y <;> simp_all [AV.same]
 | .agg l, y, h => by
  cases y <;> simp [AV.same] at h
  rw [sameL_eq h]
 | .tup l, y, h => by
  cases y <;> simp [AV.same] at h
  rw [sameL_eq h]
 | .fz l a, y, h => by
  cases y <;> simp [AV.same] at h
  rw [h.1, sameL_eq h.2]
 | .fp l a, y, h => by
  cases y <;> simp [AV.same] at h
  rw [h.1, sameL_eq h.2]
 | .ze, y, h => by cases y <;> simp_all [AV.same]
 | .en, y, h => by cases y <;> simp_all [AV.same]
 | .any, y, h => by cases y <;> simp_all [AV.same]
theorem sameL_eq : ∀ {l m : List AV}, sameL l m = true → l = m
 | [], [], _ => rfl
 | x :: l, y :: m, h => by
  simp only [sameL, Bool.and_eq_true] at h
  rw [AV.same_eq h.1, sameL_eq h.2]
 | [], _ :: _, h => by cases h
 | _ :: _, [], h => by cases h
end
def onEq : Option Nat → Option Nat → Bool
 | none, none => true
 | some a, some b => Nat.beq a b
 | _, _ => false
theorem onEq_eq {a b : Option Nat} (h : onEq a b = true) : a = b := by
 cases a <;> cases b <;> simp_all [onEq]
def asWas (h0 : Hp) (b : Nat) (k : Blk) : Bool :=
 match hget h0 b with
 | some j => (j.ro == k.ro) && sameL j.cells k.cells && onEq j.gr k.gr && onEq j.gid k.gid
 | none => false
theorem asWas_spec {h0 : Hp} {b : Nat} {k : Blk} (h : asWas h0 b k = true) : hget h0 b = some k := by
 unfold asWas at h
 split at h
 · rename_i j hj
   simp only [Bool.and_eq_true, beq_iff_eq] at h
   rw [hj]
   obtain ⟨c, r, g, d⟩ := k
   obtain ⟨c', r', g', d'⟩ := j
   simp only at h
   rw [sameL_eq h.1.1.2, onEq_eq h.1.2, onEq_eq h.2, h.1.1.1]
 · cases h
def roSame (h0 : Hp) (n0 b : Nat) (k : Blk) : Bool :=
 match k.ro with
 | false => true
 | true => Nat.blt b n0 && (match hget h0 b with
  | some j => j.ro && sameL j.cells k.cells && onEq j.gr k.gr && onEq j.gid k.gid
  | none => false)
theorem roSame_spec {h0 : Hp} {n0 b : Nat} {k : Blk} (h : roSame h0 n0 b k = true) (hr : k.ro = true) : b < n0 ∧ hget h0 b = some k := by
 unfold roSame at h
 rw [hr] at h
 simp only [Bool.and_eq_true] at h
 obtain ⟨h1, h2⟩ := h
 refine ⟨blt_lt h1, ?_⟩
 split at h2
 · rename_i j hj
   simp only [Bool.and_eq_true] at h2
   rw [hj]
   obtain ⟨c, r, g, d⟩ := k
   obtain ⟨c', r', g', d'⟩ := j
   simp only at h2 hr
   rw [sameL_eq h2.1.1.2, onEq_eq h2.1.2, onEq_eq h2.2, h2.1.1.1, hr]
 · cases h2
def hOK (h0 : Hp) (n0 n : Nat) : Hp → Bool
 | [] => true
 | (b, k) :: r => Nat.blt b n && belL n k.cells && roSame h0 n0 b k && hOK h0 n0 n r
theorem hOK_spec {h0 : Hp} {n0 n : Nat} : ∀ {h : Hp}, hOK h0 n0 n h = true → ∀ b k, hget h b = some k → b < n ∧ belL n k.cells = true ∧ (k.ro = true → b < n0 ∧ hget h0 b = some k)
 | [], _, b, k, hb => by simp [hget] at hb
 | (c, j) :: r, h, b, k, hb => by
  simp only [hOK, Bool.and_eq_true] at h
  simp only [hget] at hb
  by_cases hc : b = c
  · subst hc; simp at hb; subst hb; exact ⟨blt_lt h.1.1.1, h.1.1.2, fun hr => roSame_spec h.1.2 hr⟩
  · rw [beq_ne hc] at hb; exact hOK_spec h.2 b k hb
def keepH (L : List Nat) : Hp → Hp
 | [] => []
 | (b, k) :: r => bif inl L b then (b, k) :: keepH L r else keepH L r
theorem keepH_spec {L : List Nat} : ∀ {h : Hp} {b : Nat} {k : Blk}, hget (keepH L h) b = some k → hget h b = some k
 | [], b, k, hb => by simp [keepH, hget] at hb
 | (c, j) :: r, b, k, hb => by
  simp only [keepH] at hb
  cases hi : inl L c
  · rw [hi] at hb
    simp only [cond_false] at hb
    have := keepH_spec hb
    simp only [hget]
    by_cases hc : b = c
    · subst hc
      -- a name that is not kept is found nowhere
      exfalso
      clear this
      induction r with
      | nil => simp [keepH, hget] at hb
      | cons x r ih =>
       obtain ⟨d, jj⟩ := x
       simp only [keepH] at hb
       cases hd : inl L d
       · rw [hd] at hb; exact ih hb
       · rw [hd] at hb
         simp only [cond_true, hget] at hb
         by_cases hbd : b = d
         · subst hbd; rw [hi] at hd; cases hd
         · rw [beq_ne hbd] at hb; exact ih hb
    · rw [beq_ne hc]; exact this
  · rw [hi] at hb
    simp only [cond_true, hget] at hb ⊢
    by_cases hc : b = c
    · subst hc; simpa using hb
    · rw [beq_ne hc] at hb ⊢; exact keepH_spec hb
theorem Ends.prune {h00 : Hp} {n00 n0 n : Nat} {v : AV} {h h2 : Hp} (hn : n0 ≤ n) (hv : v.bel n = true) (hok : hOK h00 n00 n h2 = true) (hk : ∀ b k, hget h2 b = some k → hget h b = some k) : Ends n0 v h n v h2 n := by
 refine ⟨_root_.id, hn, fun _ _ => rfl, fun t x hx => ?_, fun b k hb => ?_, fun b1 b2 k1 k2 _ _ _ he => he⟩
 · simp only [eget] at hx
   by_cases ht : t = 0
   · subst ht
     simp at hx; subst hx
     exact ⟨by simp [eget, AV.ren_fix (ψ := _root_.id) (fun _ _ => rfl) v hv], hv⟩
   · rw [beq_ne ht] at hx; simp at hx
 · obtain ⟨h1, h2, h3⟩ := hOK_spec hok b k hb
   refine ⟨?_, h2, h1⟩
   simp only [_root_.id, Blk.ren, renL_fix (ψ := _root_.id) (fun _ _ => rfl) k.cells h2]
   exact hk b k hb
def iget : List (Nat × IFn) → Nat → Option IFn
 | [], _ => none
 | (g, I) :: r, f => bif Nat.beq g f then some I else iget r f
def mdOf (χ : Nat → Nat) (hL hR : Hp) : List Nat → Nat → List (Nat × Option Blk)
 | [], _ => []
 | b :: r, i => match hget hR i with
  | some k => match asWas hL i k with
   | true => mdOf χ hL hR r (i + 1)
   | false => (b, some (k.ren χ)) :: mdOf χ hL hR r (i + 1)
  | none => (b, none) :: mdOf χ hL hR r (i + 1)
def gidsOf : Hp → List Nat
 | [] => []
 | (b, k) :: r => match k.gid with
  | some _ => b :: gidsOf r
  | none => gidsOf r
def nwOf (χ : Nat → Nat) (m : Nat) : Hp → List (Nat × Blk)
 | [] => []
 | (b, k) :: r => bif Nat.blt b m then nwOf χ m r else (χ b, k.ren χ) :: nwOf χ m r
def chi (R : List Nat) (n : Nat) : Nat → Nat := fun b => if b < R.length then nth R b else n + (b - R.length)
def xFn (run : XR) (I : IFn) (args : List AV) (h : Hp) (n : Nat) : Option (AV × Hp × Nat) :=
 match Nat.ble args.length I.N with
 | true => (run I.code (argEnv 0 args) h n).bind fun o => match o with
  | (.x _, _) => none
  | (_, e, h', n') => (retV I.res e h').bind fun q => match q with
   | (true, v) =>
    let hP := keepH (reach h' 100000 [] (v.names ++ List.range n)) h'
    match Nat.ble n n' && v.bel n' && hOK h n n' hP with
    | true => some (v, hP, n')
    | false => none
   | _ => none
 | false => none
def xCx (T : List (Nat × IFn)) (run : XR) : Cx := fun f args h n =>
 (iget T f).bind fun I =>
  let R := reach h 100000 [] (gidsOf h ++ namesL args)
  match nodup R && inRL R args with
  | true => (mkL R h R 0).bind fun hL => (xFn run I (renL (idx R) args) hL R.length).bind fun o =>
   match o with
   | (v, hR, k) => some (true, { v := v.ren (chi R n), n := n + (k - R.length), rd := R, md := mdOf (chi R n) hL hR R 0, nw := nwOf (chi R n) R.length hR })
  | false => none
def xLoop (run : XR) (c : ICode) : Nat → Env → Hp → Nat → Option XO
 | 0, _, _, _ => none
 | m + 1, e, h, n => (run c e h n).bind fun o => match o with
  | (.n, e, h, n) => xLoop run c m e h n
  | o => some o
def xBody (T : List (Nat × IFn)) (m : Nat) (run : XR) : XR := fun c e h n =>
 match c with
 | .skip => some (.n, e, h, n)
 | .reg ops => (xOps (xCx T run) ops e h n).bind fun o => some (.n, o)
 | .dreg ops => (xDr (xCx T run) ops 0 [] e h n).bind fun o => some (.n, o)
 | .seq a b => (run a e h n).bind fun o => match o with
  | (.n, e, h, n) => run b e h n
  | o => some o
 | .cond c a b => (c.ev e h).bind fun v => match v with
  | .b true => run a e h n
  | .b false => run b e h n
  | _ => none
 | .block id c => (run c e h n).bind fun o => match o with
  | (.x i, e, h, n) => bif Nat.beq i id then some (.n, e, h, n) else some (.x i, e, h, n)
  | o => some o
 | .loop c => xLoop run c m e h n
 | .scope c => run c e h n
 | .exit id => some (.x id, e, h, n)
 | .ret => some (.r, e, h, n)
 | .bad => none
 | .rfunc _ _ _ _ => none
def xrun (T : List (Nat × IFn)) (fuel : Nat) : XR :=
 Nat.rec (fun _ _ _ _ => none) (fun m run => xBody T m run) fuel
end Go.Ab
end
section
/- The abstract layer, part 24: running closed code by computation is sound. -/
namespace Go.Ab
set_option linter.unusedVariables false
set_option linter.unusedSimpArgs false
section
variable {P : Program} {N n0 : Nat}
theorem WP.seq {a b : Code} {K : Kont} {e : Env} {h : Hp} {n : Nat} (hw : WP P N n0 a (thenK K fun e h n => WP P N n0 b K e h n) e h n) : WP P N n0 (.seq a b) K e h n := by
 intro ro hro B D0 φ0 H0 w0 h1 h2 D φ a w hR hS
 refine wpIn_seq (wpIn_mono (hw ro (hro.imp _root_.id (fun h => by simp only [noRF, Bool.and_eq_true] at h; exact h.1)) B D0 φ0 H0 w0 h1 h2 D φ a w hR hS) (fun ex a' w' hp => ?_))
 obtain ⟨D', φ', e', h', n', hk, hn', hR', hS'⟩ := hp
 cases ex with
 | normal => exact hk ro (hro.imp _root_.id (fun h => by simp only [noRF, Bool.and_eq_true] at h; exact h.2)) B D0 φ0 H0 w0 h1 hn' D' φ' a' w' hR' hS'
 | exit id => exact ⟨D', φ', e', h', n', hk, hn', hR', hS'⟩
 | goto l => exact ⟨D', φ', e', h', n', hk, hn', hR', hS'⟩
 | ret => exact ⟨D', φ', e', h', n', hk, hn', hR', hS'⟩
 | panic ch => exact ⟨D', φ', e', h', n', hk, hn', hR', hS'⟩
 | outgrown => exact ⟨D', φ', e', h', n', hk, hn', hR', hS'⟩
theorem WP.scope {c : Code} {K : Kont} {e : Env} {h : Hp} {n : Nat} (hw : WP P N n0 c (scopeK K) e h n) : WP P N n0 (.scope c) K e h n := by
 intro ro hro B D0 φ0 H0 w0 h1 h2 D φ a w hR hS
 refine wpIn_scope_straight (wpIn_mono (hw ro hro B D0 φ0 H0 w0 h1 h2 D φ a w hR hS) (fun ex a' w' hp => ?_))
 obtain ⟨D', φ', e', h', n', hk, hn', hR', hS'⟩ := hp
 cases ex with
 | goto l => exact hk.elim
 | _ => exact ⟨D', φ', e', h', n', hk, hn', hR', hS'⟩
theorem WP.block {c : Code} {id : Nat} {K : Kont} {e : Env} {h : Hp} {n : Nat} (hw : WP P N n0 c (blockK id K) e h n) : WP P N n0 (.block id c) K e h n := by
 intro ro hro B D0 φ0 H0 w0 h1 h2 D φ a w hR hS
 refine wpIn_block (wpIn_mono (hw ro hro B D0 φ0 H0 w0 h1 h2 D φ a w hR hS) (fun ex a' w' hp => ?_))
 obtain ⟨D', φ', e', h', n', hk, hn', hR', hS'⟩ := hp
 cases ex with
 | exit i =>
  simp only [blockK] at hk
  simp only [Exit.inBlock]
  split
  · rename_i hid; rw [if_pos hid] at hk; exact ⟨D', φ', e', h', n', hk, hn', hR', hS'⟩
  · rename_i hid; rw [if_neg hid] at hk; exact ⟨D', φ', e', h', n', hk, hn', hR', hS'⟩
 | normal => exact ⟨D', φ', e', h', n', hk, hn', hR', hS'⟩
 | goto l => exact ⟨D', φ', e', h', n', hk, hn', hR', hS'⟩
 | ret => exact ⟨D', φ', e', h', n', hk, hn', hR', hS'⟩
 | panic ch => exact ⟨D', φ', e', h', n', hk, hn', hR', hS'⟩
 | outgrown => exact ⟨D', φ', e', h', n', hk, hn', hR', hS'⟩
theorem WP.cond {c : Operand} {x : Opd} {a b : Code} {K : Kont} {e : Env} {h : Hp} {n : Nat} {v : Bool} (hc : cO c = some x) (hg : ∀ g, x ≠ .g g) (hv : x.ev e h = some (.b v))
 (hw : match v with | true => WP P N n0 a K e h n | false => WP P N n0 b K e h n) : WP P N n0 (.cond c a b) K e h n := by
 intro ro hro B D0 φ0 H0 w0 h1 h2 D φ a w hR hS
 have hvr : VRel D φ (.b v) (a.eval c) := opd_rel (fun t v _ hv => hR.env t v hv) hc (fun g hgg => by subst hgg; simp only [cO, Option.some.injEq] at hc; exact hg g hc.symm) hv
 generalize hu : a.eval c = u at hvr
 cases hvr
 cases v
 · exact wpIn_cond_false hu (hw ro (hro.imp _root_.id (fun h => by simp only [noRF, Bool.and_eq_true] at h; exact h.2)) B D0 φ0 H0 w0 h1 h2 D φ a w hR hS)
 · exact wpIn_cond_true hu (hw ro (hro.imp _root_.id (fun h => by simp only [noRF, Bool.and_eq_true] at h; exact h.1)) B D0 φ0 H0 w0 h1 h2 D φ a w hR hS)
end
section
variable {P : Program} {ct : List Nat} {N : Nat}
theorem inv_seq {c : Code} {a b : ICode} (h : compC P ct N c = .seq a b) : ∃ a' b', c = .seq a' b' ∧ compC P ct N a' = a ∧ compC P ct N b' = b := by
 cases c with
 | seq a' b' => simp only [compC, ICode.seq.injEq] at h; exact ⟨a', b', rfl, h.1, h.2⟩
 | region id ops draw => simp only [compC] at h; split at h <;> (try split at h) <;> cases h
 | cond x y z => simp only [compC] at h; split at h <;> cases h
 | rangeFunc g ps x y => simp only [compC] at h; split at h <;> cases h
 | _ => simp [compC] at h
theorem inv_block {c : Code} {id : Nat} {a : ICode} (h : compC P ct N c = .block id a) : ∃ a', c = .block id a' ∧ compC P ct N a' = a := by
 cases c with
 | block i a' => simp only [compC, ICode.block.injEq] at h; obtain ⟨rfl, h⟩ := h; exact ⟨a', rfl, h⟩
 | region id ops draw => simp only [compC] at h; split at h <;> (try split at h) <;> cases h
 | cond x y z => simp only [compC] at h; split at h <;> cases h
 | rangeFunc g ps x y => simp only [compC] at h; split at h <;> cases h
 | _ => simp [compC] at h
theorem inv_loop {c : Code} {a : ICode} (h : compC P ct N c = .loop a) : ∃ a', c = .loop a' ∧ compC P ct N a' = a := by
 cases c with
 | loop a' => simp only [compC, ICode.loop.injEq] at h; exact ⟨a', rfl, h⟩
 | region id ops draw => simp only [compC] at h; split at h <;> (try split at h) <;> cases h
 | cond x y z => simp only [compC] at h; split at h <;> cases h
 | rangeFunc g ps x y => simp only [compC] at h; split at h <;> cases h
 | _ => simp [compC] at h
theorem inv_scope {c : Code} {a : ICode} (h : compC P ct N c = .scope a) : ∃ a', c = .scope a' ∧ compC P ct N a' = a := by
 cases c with
 | scope a' => simp only [compC, ICode.scope.injEq] at h; exact ⟨a', rfl, h⟩
 | region id ops draw => simp only [compC] at h; split at h <;> (try split at h) <;> cases h
 | cond x y z => simp only [compC] at h; split at h <;> cases h
 | rangeFunc g ps x y => simp only [compC] at h; split at h <;> cases h
 | _ => simp [compC] at h
theorem inv_cond {c : Code} {x : Opd} {a b : ICode} (h : compC P ct N c = .cond x a b) : ∃ y a' b', c = .cond y a' b' ∧ cO y = some x ∧ (∀ g, x ≠ .g g) ∧ compC P ct N a' = a ∧ compC P ct N b' = b := by
 cases c with
 | cond y a' b' =>
  simp only [compC] at h
  split at h
  · cases h
  · rename_i x' hng hc
    simp only [ICode.cond.injEq] at h
    obtain ⟨rfl, h1, h2⟩ := h
    exact ⟨y, a', b', rfl, hc, fun g hg => hng g hg, h1, h2⟩
  · cases h
 | region id ops draw => simp only [compC] at h; split at h <;> (try split at h) <;> cases h
 | rangeFunc g ps x y => simp only [compC] at h; split at h <;> cases h
 | _ => simp [compC] at h
end
def RunOK (P : Program) (run : XR) : Prop := ∀ ct N n0 c e h n out, run c e h n = some out → ∀ c', compC P ct N c' = c → WP P N n0 c' (isOut out) e h n
def Valid (P : Program) (T : List (Nat × IFn)) : Prop := ∀ f I, iget T f = some I → ∃ fn, P.funcs[f]? = some fn ∧ compF P fn = some I ∧ callable P f = true
theorem Valid.nil {P : Program} : Valid P [] := fun f I h => by cases h
theorem Valid.cons {P : Program} {T : List (Nat × IFn)} {f : Nat} {I : IFn} {fn : Func} (h1 : P.funcs[f]? = some fn) (h2 : compF P fn = some I) (h3 : callable P f = true) (h : Valid P T) : Valid P ((f, I) :: T) := fun g J hg => by
 simp only [iget] at hg
 cases hfg : Nat.beq f g
 · rw [hfg] at hg; exact h g J hg
 · rw [hfg] at hg
   have := Nat.eq_of_beq_eq_true hfg
   subst this
   simp only [cond_true, Option.some.injEq] at hg
   subst hg
   exact ⟨fn, h1, h2, h3⟩
theorem mdOf_spec {χ : Nat → Nat} {hL hR : Hp} : ∀ {r : List Nat} {i : Nat} {c : Nat} {x : Option Blk}, nodup r = true → mget (mdOf χ hL hR r i) c = some x → inl r c = true ∧ x = (hget hR (i + idx r c)).map (Blk.ren χ)
 | [], i, c, x, _, h => by simp [mdOf, mget] at h
 | b :: r, i, c, x, hnd, h => by
  simp only [nodup, Bool.and_eq_true, Bool.not_eq_true'] at hnd
  have tail : mget (mdOf χ hL hR r (i + 1)) c = some x → inl (b :: r) c = true ∧ x = (hget hR (i + idx (b :: r) c)).map (Blk.ren χ) := fun h => by
   obtain ⟨h1, h2⟩ := mdOf_spec hnd.2 h
   simp only [inl, idx]
   cases hb : Nat.beq b c
   · refine ⟨by simp [h1], ?_⟩
     simp only [cond_false]
     rw [h2, show i + (idx r c + 1) = i + 1 + idx r c by omega]
   · have := Nat.eq_of_beq_eq_true hb
     subst this
     rw [hnd.1] at h1; cases h1
  have head : ∀ y, y = (hget hR i).map (Blk.ren χ) → mget ((b, y) :: mdOf χ hL hR r (i + 1)) c = some x → inl (b :: r) c = true ∧ x = (hget hR (i + idx (b :: r) c)).map (Blk.ren χ) := fun y hy h => by
   simp only [mget] at h
   cases hb : Nat.beq b c
   · rw [hb] at h
     exact tail h
   · rw [hb] at h
     simp only [cond_true, Option.some.injEq] at h
     simp only [inl, idx, hb]
     exact ⟨by simp, by simp [← h, hy]⟩
  simp only [mdOf] at h
  split at h
  · rename_i k hk
    split at h
    · exact tail h
    · exact head _ (by rw [hk]; rfl) h
  · rename_i hk
    exact head _ (by rw [hk]; rfl) h
theorem mdOf_none {χ : Nat → Nat} {hL hR : Hp} : ∀ {r : List Nat} {i : Nat} {c : Nat}, nodup r = true → mget (mdOf χ hL hR r i) c = none → inl r c = false ∨ ∃ k, hget hR (i + idx r c) = some k ∧ hget hL (i + idx r c) = some k
 | [], i, c, _, h => .inl rfl
 | b :: r, i, c, hnd, h => by
  simp only [nodup, Bool.and_eq_true, Bool.not_eq_true'] at hnd
  have tail : Nat.beq b c = false → mget (mdOf χ hL hR r (i + 1)) c = none → inl (b :: r) c = false ∨ ∃ k, hget hR (i + idx (b :: r) c) = some k ∧ hget hL (i + idx (b :: r) c) = some k := fun hb h => by
   rcases mdOf_none hnd.2 h with h1 | ⟨k, h1, h2⟩
   · left; simp [inl, hb, h1]
   · right
     refine ⟨k, ?_, ?_⟩
     · simp only [idx, hb, cond_false]
       rw [show i + (idx r c + 1) = i + 1 + idx r c by omega]; exact h1
     · simp only [idx, hb, cond_false]
       rw [show i + (idx r c + 1) = i + 1 + idx r c by omega]; exact h2
  simp only [mdOf] at h
  cases hb : Nat.beq b c
  · refine tail hb ?_
    split at h
    · split at h
      · exact h
      · simp only [mget, hb, cond_false] at h; exact h
    · simp only [mget, hb, cond_false] at h; exact h
  · right
    simp only [idx, hb, cond_true, Nat.add_zero]
    split at h
    · rename_i k hk
      split at h
      · rename_i hr; exact ⟨k, hk, asWas_spec hr⟩
      · simp only [mget, hb, cond_true] at h; cases h
    · simp only [mget, hb, cond_true] at h; cases h
theorem nwOf_spec {χ : Nat → Nat} {m n : Nat} (hχ : ∀ b, m ≤ b → χ b = n + (b - m)) : ∀ {hR : Hp} {c : Nat} {kk : Blk}, hget (nwOf χ m hR) c = some kk → ∃ b kb, hget hR b = some kb ∧ m ≤ b ∧ c = χ b ∧ kk = kb.ren χ
 | [], c, kk, h => by simp [nwOf, hget] at h
 | (b0, k0) :: r, c, kk, h => by
  simp only [nwOf] at h
  cases hb : Nat.blt b0 m
  · rw [hb] at h
    simp only [cond_false, hget] at h
    have hm : m ≤ b0 := by
     rcases Nat.lt_or_ge b0 m with h' | h'
     · have : Nat.blt b0 m = true := by rw [Nat.blt_eq]; exact h'
       rw [this] at hb; cases hb
     · exact h'
    by_cases hc : c = χ b0
    · subst hc
      simp at h
      exact ⟨b0, k0, by simp [hget], hm, rfl, h.symm⟩
    · rw [beq_ne hc] at h
      obtain ⟨b, kb, h1, h2, h3, h4⟩ := nwOf_spec hχ h
      refine ⟨b, kb, ?_, h2, h3, h4⟩
      have : b ≠ b0 := fun e => hc (by rw [h3, e])
      simp only [hget, beq_ne this]; exact h1
  · rw [hb] at h
    simp only [cond_true] at h
    obtain ⟨b, kb, h1, h2, h3, h4⟩ := nwOf_spec hχ h
    refine ⟨b, kb, ?_, h2, h3, h4⟩
    have : b ≠ b0 := fun e => by have := blt_lt hb; omega
    simp only [hget, beq_ne this]; exact h1
theorem xFn_FTL {P : Program} {run : XR} (hrun : RunOK P run) {f : FuncId} {fn : Func} {I : IFn} (hf : P.funcs[f]? = some fn) (hI : compF P fn = some I) {args : List AV} {h : Hp} {n : Nat} {v : AV} {hR : Hp} {k : Nat}
 (hx : xFn run I args h n = some (v, hR, k)) : FTL P f args h n v hR k ∧ n ≤ k ∧ v.bel k = true ∧ hOK h n k hR = true := by
 simp only [xFn] at hx
 split at hx
 · rename_i hlen
   simp only [Option.bind_eq_some_iff] at hx
   obtain ⟨o, ho, hx⟩ := hx
   have main : ∀ (x : XE) (e : Env) (h' : Hp) (n' : Nat), (x = .n ∨ x = .r) → o = (x, e, h', n') → (∃ q, retV I.res e h' = some q ∧ (match q with
    | (true, v) =>
     (match Nat.ble n n' && v.bel n' && hOK h n n' (keepH (reach h' 100000 [] (v.names ++ List.range n)) h') with
     | true => some (v, keepH (reach h' 100000 [] (v.names ++ List.range n)) h', n')
     | false => none)
    | _ => none) = some (v, hR, k)) → FTL P f args h n v hR k ∧ n ≤ k ∧ v.bel k = true ∧ hOK h n k hR = true := by
    rintro x e h' n' hxx rfl ⟨q, hq, hr⟩
    split at hr
    · rename_i v1
      split at hr
      · rename_i hc
        simp only [Option.some.injEq, Prod.mk.injEq] at hr
        obtain ⟨rfl, rfl, rfl⟩ := hr
        simp only [Bool.and_eq_true] at hc
        refine ⟨FTL.of_wp hf hI (Nat.le_of_ble_eq_true hlen) (fun c hc' => WP.mono ?_ (hrun _ _ _ _ _ _ _ _ ho c hc')), Nat.le_of_ble_eq_true hc.1.1, hc.1.2, hc.2⟩
        rintro ex e2 h2 n2 ⟨rfl, rfl, rfl, rfl⟩
        rcases hxx with rfl | rfl
        · show gd (retV I.res e2 h2) _
          rw [hq]
          exact ⟨rfl, Ends.prune (Nat.le_of_ble_eq_true hc.1.1) hc.1.2 hc.2 (fun b k hb => keepH_spec hb)⟩
        · show gd (retV I.res e2 h2) _
          rw [hq]
          exact ⟨rfl, Ends.prune (Nat.le_of_ble_eq_true hc.1.1) hc.1.2 hc.2 (fun b k hb => keepH_spec hb)⟩
      · cases hr
    · cases hr
   obtain ⟨x, e, h', n'⟩ := o
   cases x with
   | x i => cases hx
   | n => simp only [Option.bind_eq_some_iff] at hx; exact main _ _ _ _ (.inl rfl) rfl hx
   | r => simp only [Option.bind_eq_some_iff] at hx; exact main _ _ _ _ (.inr rfl) rfl hx
 · cases hx
theorem call_sound {P : Program} {f : FuncId} {args : List AV} {h : Hp} {n : Nat} {R : List Nat} {hL : Hp} {v : AV} {hR : Hp} {k : Nat} (hcall : callable P f = true) (hnd : nodup R = true) (hin : inRL R args = true) (hmk : mkL R h R 0 = some hL)
 (hft : FTL P f (renL (idx R) args) hL R.length v hR k) (hk : R.length ≤ k) (hok : hOK hL R.length k hR = true) :
 CallOK P f args h n { v := v.ren (chi R n), n := n + (k - R.length), rd := R, md := mdOf (chi R n) hL hR R 0, nw := nwOf (chi R n) R.length hR } := by
 obtain ⟨g1, g2⟩ := mkL_spec hmk
 have hchi : chi R n = fun b => if b < R.length then nth R b else n + (b - R.length) := rfl
 have hχ : ∀ b, R.length ≤ b → chi R n b = n + (b - R.length) := fun b hb => by simp only [chi]; rw [if_neg (by omega)]
 refine CallOK.of_FTL (ψ := nth R) hcall hft hk (renL_idx args hin).2 (fun b hb => g2 b (Nat.zero_le _) (by omega)) (fun b kk hb => ?_) (renL_idx args hin).1.symm (fun b kk hb => ?_) (fun b1 b2 k1 k2 hb1 hb2 _ he => ?_) rfl rfl (fun b r hb => (mdOf_spec hnd hb).1)
  (fun b kk hb => ?_) (fun c kk hc => ?_)
 · obtain ⟨q1, q2, k0, q3, rfl, q5⟩ := g1 b kk hb
   exact ⟨by omega, (renL_idx k0.cells q5).2⟩
 · obtain ⟨q1, q2, k0, q3, rfl, q5⟩ := g1 b kk hb
   have hb' : b < R.length := by omega
   simp only [only, nth_inl hb', cond_true]
   simp only [Nat.sub_zero] at q3
   rw [q3]
   simp only [Blk.ren, (renL_idx k0.cells q5).1]
 · obtain ⟨q1, q2, _⟩ := g1 b1 k1 hb1
   obtain ⟨r1, r2, _⟩ := g1 b2 k2 hb2
   have h1 := idx_nth (R := R) (i := b1) hnd (by omega)
   have h2 := idx_nth (R := R) (i := b2) hnd (by omega)
   rw [← h1, ← h2, he]
 · obtain ⟨b', kb, h1, h2, rfl, _⟩ := nwOf_spec hχ hb
   have := (hOK_spec hok b' kb h1).1
   rw [hχ b' h2]
   exact ⟨by omega, by show _ < n + (k - R.length); omega⟩
 · simp only [Eff.app] at hc
   split at hc
   · rename_i r hr
     obtain ⟨h1, rfl⟩ := mdOf_spec hnd hr
     rw [Nat.zero_add] at hc
     obtain ⟨kb, hkb, rfl⟩ := Option.map_eq_some_iff.1 hc
     obtain ⟨h2, h3⟩ := inl_idx h1
     obtain ⟨h4, _, h6⟩ := hOK_spec hok _ kb hkb
     exact ⟨idx R c, kb, hkb, h4, by rw [if_pos h2, h3], rfl, h6⟩
   · rename_i hmn
     split at hc
     · rename_i k1 hnw
       cases hc
       obtain ⟨b', kb, h1, h2, rfl, rfl⟩ := nwOf_spec hχ hnw
       obtain ⟨h4, _, h6⟩ := hOK_spec hok _ kb h1
       exact ⟨b', kb, h1, h4, rfl, rfl, h6⟩
     · rcases mdOf_none hnd hmn with hi | ⟨kb, hkb, hro⟩
       · simp only [only, hi, cond_false] at hc
         cases hc
       · rw [Nat.zero_add] at hkb hro
         cases hi : inl R c
         · simp only [only, hi, cond_false] at hc
           cases hc
         · obtain ⟨h2, h3⟩ := inl_idx hi
           obtain ⟨h4, _, h6⟩ := hOK_spec hok _ kb hkb
           obtain ⟨q1, q2, k0, q3, q4, q5⟩ := g1 _ kb hro
           simp only [Nat.sub_zero] at q3
           rw [h3] at q3
           simp only [only, hi, cond_true] at hc
           rw [q3] at hc
           have hkk : kk = k0 := (Option.some.inj hc).symm
           rw [hkk]
           refine ⟨idx R c, kb, hkb, h4, by rw [if_pos h2, h3], ?_, h6⟩
           have hbk := (renL_idx k0.cells q5).1
           have hfix : renL (fun b => if b < R.length then nth R b else n + (b - R.length)) (renL (idx R) k0.cells) = renL (nth R) (renL (idx R) k0.cells) :=
            renL_congr (m := R.length) (fun b hb => by simp [hb]) _ (renL_idx k0.cells q5).2
           rw [q4]
           simp only [Blk.ren]
           show k0 = { cells := renL (fun b => if b < R.length then nth R b else n + (b - R.length)) (renL (idx R) k0.cells), ro := k0.ro, gr := k0.gr, gid := k0.gid }
           rw [hfix, hbk]
theorem xCx_sound {P : Program} {T : List (Nat × IFn)} (hT : Valid P T) {run : XR} (hrun : RunOK P run) : Sound P (xCx T run) := by
 intro f args h n c E hx hc
 simp only [xCx, Option.bind_eq_some_iff] at hx
 obtain ⟨I, hI, hx⟩ := hx
 obtain ⟨fn, hf, hcomp, hcall⟩ := hT f I hI
 generalize hR0 : reach h 100000 [] (gidsOf h ++ namesL args) = R at hx
 split at hx
 · rename_i hnd
   simp only [Bool.and_eq_true] at hnd
   obtain ⟨hnd, hin⟩ := hnd
   simp only [Option.bind_eq_some_iff] at hx
   obtain ⟨hL, hmk, ⟨v, hR, k⟩, hxf, hx⟩ := hx
   simp only [Option.some.injEq, Prod.mk.injEq] at hx
   obtain ⟨_, rfl⟩ := hx
   obtain ⟨hft, hk, hvb, hok⟩ := xFn_FTL hrun hf hcomp hxf
   exact call_sound hcall hnd hin hmk hft hk hok
 · cases hx
theorem xBody_ok {P : Program} {T : List (Nat × IFn)} (hm : P.follows .mixedOrders = true) (hT : Valid P T) (m : Nat) {run : XR} (hrun : RunOK P run) : RunOK P (xBody T m run) := by
 intro ct N n0 c e h n out hx c' hc'
 have hcx := xCx_sound hT hrun
 have viaI : iw ⟨P, xCx T run, ct, N, n0⟩ c (isOut out) e h n → WP P N n0 c' (isOut out) e h n := fun hi =>
  iw_sound ⟨P, xCx T run, ct, N, n0⟩ hcx hm c' _ _ _ _ (by show iw _ (compC P ct N c') _ _ _ _; rw [hc']; exact hi)
 cases c with
 | skip => simp only [xBody, Option.some.injEq] at hx; subst hx; exact viaI ⟨rfl, rfl, rfl, rfl⟩
 | reg ops =>
  simp only [xBody, Option.bind_eq_some_iff, Option.some.injEq] at hx
  obtain ⟨⟨e', h', n'⟩, ho, rfl⟩ := hx
  exact viaI (xOps_run ho ⟨rfl, rfl, rfl, rfl⟩)
 | dreg ops =>
  simp only [xBody, Option.bind_eq_some_iff, Option.some.injEq] at hx
  obtain ⟨⟨e', h', n'⟩, ho, rfl⟩ := hx
  exact viaI (xDr_run ho ⟨rfl, rfl, rfl, rfl⟩)
 | exit id => simp only [xBody, Option.some.injEq] at hx; subst hx; exact viaI ⟨rfl, rfl, rfl, rfl⟩
 | ret => simp only [xBody, Option.some.injEq] at hx; subst hx; exact viaI ⟨rfl, rfl, rfl, rfl⟩
 | bad => cases hx
 | rfunc g ps x y => cases hx
 | seq a b =>
  simp only [xBody, Option.bind_eq_some_iff] at hx
  obtain ⟨⟨x, e1, h1, n1⟩, ho, hx⟩ := hx
  obtain ⟨a', b', rfl, ha, hb⟩ := inv_seq hc'
  refine WP.seq (WP.mono ?_ (hrun _ _ _ _ _ _ _ _ ho a' ha))
  rintro ex e2 h2 n2 ⟨rfl, rfl, rfl, rfl⟩
  cases x with
  | n => exact hrun _ _ _ _ _ _ _ _ hx b' hb
  | x i => simp only [Option.some.injEq] at hx; subst hx; exact ⟨rfl, rfl, rfl, rfl⟩
  | r => simp only [Option.some.injEq] at hx; subst hx; exact ⟨rfl, rfl, rfl, rfl⟩
 | cond x a b =>
  simp only [xBody, Option.bind_eq_some_iff] at hx
  obtain ⟨v, hv, hx⟩ := hx
  obtain ⟨y, a', b', rfl, hy, hg, ha, hb⟩ := inv_cond hc'
  split at hx
  · exact WP.cond hy hg hv (hrun _ _ _ _ _ _ _ _ hx a' ha)
  · exact WP.cond hy hg hv (hrun _ _ _ _ _ _ _ _ hx b' hb)
  · cases hx
 | block id a =>
  simp only [xBody, Option.bind_eq_some_iff] at hx
  obtain ⟨⟨x, e1, h1, n1⟩, ho, hx⟩ := hx
  obtain ⟨a', rfl, ha⟩ := inv_block hc'
  refine WP.block (WP.mono ?_ (hrun _ _ _ _ _ _ _ _ ho a' ha))
  rintro ex e2 h2 n2 ⟨rfl, rfl, rfl, rfl⟩
  cases x with
  | n => simp only [Option.some.injEq] at hx; subst hx; exact ⟨rfl, rfl, rfl, rfl⟩
  | r => simp only [Option.some.injEq] at hx; subst hx; exact ⟨rfl, rfl, rfl, rfl⟩
  | x i =>
   simp only at hx
   simp only [XE.toExit, blockK]
   by_cases hid : i = id
   · subst hid
     have hii : Nat.beq i i = true := by simp
     rw [hii] at hx
     simp only [cond_true, Option.some.injEq] at hx
     subst hx
     rw [if_pos rfl]
     exact ⟨rfl, rfl, rfl, rfl⟩
   · rw [beq_ne (fun e => hid e.symm)] at hx
     simp only [cond_false, Option.some.injEq] at hx
     subst hx
     rw [if_neg hid]
     exact ⟨rfl, rfl, rfl, rfl⟩
 | scope a =>
  simp only [xBody] at hx
  obtain ⟨a', rfl, ha⟩ := inv_scope hc'
  refine WP.scope (WP.mono ?_ (hrun _ _ _ _ _ _ _ _ hx a' ha))
  rintro ex e2 h2 n2 ⟨rfl, rfl, rfl, rfl⟩
  obtain ⟨x, e3, h3, n3⟩ := out
  cases x <;> exact ⟨rfl, rfl, rfl, rfl⟩
 | loop a =>
  simp only [xBody] at hx
  obtain ⟨a', rfl, ha⟩ := inv_loop hc'
  intro ro hro B D0 φ0 H0 w0 h1 h2 D φ ac w hR hS
  refine wpIn_loop_rounds m ?_
  clear viaI hc' 
  induction m generalizing e h n D φ ac w with
  | zero => cases hx
  | succ m ih =>
   simp only [xLoop, Option.bind_eq_some_iff] at hx
   obtain ⟨⟨x, e1, h1', n1⟩, ho, hx⟩ := hx
   refine wpIn_mono (hrun _ N n0 _ _ _ _ _ ho a' ha ro hro B D0 φ0 H0 w0 h1 h2 D φ ac w hR hS) (fun ex ac' w' hp => ?_)
   obtain ⟨D', φ', e', h', n', ⟨rfl, rfl, rfl, rfl⟩, hn', hR', hS'⟩ := hp
   cases x with
   | n => exact ih e' h' n' hx hn' D' φ' ac' w' hR' hS'
   | x i => simp only [Option.some.injEq] at hx; subst hx; exact ⟨D', φ', _, _, _, ⟨rfl, rfl, rfl, rfl⟩, hn', hR', hS'⟩
   | r => simp only [Option.some.injEq] at hx; subst hx; exact ⟨D', φ', _, _, _, ⟨rfl, rfl, rfl, rfl⟩, hn', hR', hS'⟩
theorem xrun_ok {P : Program} {T : List (Nat × IFn)} (hm : P.follows .mixedOrders = true) (hT : Valid P T) : ∀ fuel, RunOK P (xrun T fuel)
 | 0 => fun ct N n0 c e h n out hx => by cases hx
 | m + 1 => xBody_ok hm hT m (xrun_ok hm hT m)
theorem FTL.of_run {P : Program} {T : List (Nat × IFn)} (fuel : Nat) (hm : P.follows .mixedOrders = true) (hT : Valid P T) {f : FuncId} {fn : Func} {I : IFn} (hf : P.funcs[f]? = some fn) (hI : compF P fn = some I) {args : List AV} {h : Hp} {n : Nat} {v : AV} {hR : Hp} {k : Nat}
 (hx : xFn (xrun T fuel) I args h n = some (v, hR, k)) : FTL P f args h n v hR k := (xFn_FTL (xrun_ok hm hT fuel) hf hI hx).1
end Go.Ab
end
section
/- The abstract layer, part 25: functions that hand out a plain value. -/
namespace Go.Ab
set_option linter.unusedVariables false
mutual
theorem AV.bel_mono0 {m : Nat} : ∀ v : AV, v.bel 0 = true → v.bel m = true
 | .p b o, h => by simp [AV.bel, Nat.blt] at h
 | .sl b o l c, h => by simp [AV.bel, Nat.blt] at h
 | .sg b o l, h => by simp [AV.bel, Nat.blt] at h
 | .fn f l, h => belL_mono0 l h
 | .bm f l, h => belL_mono0 l h
 | .agg l, h => belL_mono0 l h
 | .tup l, h => belL_mono0 l h
 | .b x, _ => rfl
 | .i k n, _ => rfl
 | .s l, _ => rfl
 | .np, _ => rfl
 | .ns, _ => rfl
 | .nf, _ => rfl
 | .ni, _ => rfl
 | .fz l _, h => belL_mono0 l h
 | .fp l _, h => belL_mono0 l h
 | .ze, _ => rfl
 | .en, _ => rfl
 | .any, _ => rfl
 | .k _ _, _ => rfl
 | .yl _ _ _ l, h => belL_mono0 l h
theorem belL_mono0 {m : Nat} : ∀ l : List AV, belL 0 l = true → belL m l = true
 | [], _ => rfl
 | v :: r, h => by
  simp only [belL, Bool.and_eq_true] at h ⊢
  exact ⟨AV.bel_mono0 v h.1, belL_mono0 r h.2⟩
end
theorem FTL.forget {P : Program} {f : FuncId} {args : List AV} {h hR : Hp} {n k : Nat} {v : AV} (hf : FTL P f args h n v hR k) (hv : v.bel n = true) : FTL P f args h n v [] n := by
 intro D φ w us hD hH hA
 refine (hf D φ w us hD hH hA).mono fun e w' hx => ?_
 obtain ⟨D', φ', u, rfl, hlt, hr, hS⟩ := hx
 refine ⟨fun b => b < n ∧ D' b, φ', u, rfl, fun b hb => hb.1, ?_, ⟨fun b hb => ⟨hD b hb, hS.sub b hb⟩, ⟨hS.agree.at_, hS.agree.fz, hS.agree.lp⟩, ⟨⟨fun b k hb => by simp [hget] at hb, fun b1 b2 k1 k2 _ hb => by simp [hget] at hb⟩, hS.hr.fz, hS.hr.lp, fun b k B vs hb => by simp [hget] at hb⟩, hS.frm, fun b k hb => by simp [hget] at hb, hS.fnew⟩⟩
 have hren : v = v.ren _root_.id := (AV.ren_fix (m := n) (fun _ _ => rfl) v hv).symm
 exact VRel.unren (ψ := _root_.id) hr v hren hv
theorem FTL.of_val {P : Program} {T : List (Nat × IFn)} (fuel : Nat) (hm : P.follows .mixedOrders = true) (hT : Valid P T) {f : FuncId} {fn : Func} {I : IFn} (hf : P.funcs[f]? = some fn) (hI : compF P fn = some I) {args : List AV} {v : AV}
 (hx : (xFn (xrun T fuel) I args [] 0).map (·.1) = some v) (hv : v.bel 0 = true) : FTL P f args [] 0 v [] 0 := by
 obtain ⟨⟨v', hR, k⟩, h1, rfl⟩ := Option.map_eq_some_iff.1 hx
 exact FTL.forget (FTL.of_run fuel hm hT hf hI h1) hv
end Go.Ab
end
