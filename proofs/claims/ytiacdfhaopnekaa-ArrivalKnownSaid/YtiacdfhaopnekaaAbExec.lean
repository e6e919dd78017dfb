/- The abstract layer, part 23: running closed code by computation. -/
import Derived.Test.YtiacdfhaopnekaaAbTab
namespace Go.Ab
set_option linter.unusedVariables false
set_option linter.unusedSimpArgs false

inductive XE where
  | n
  | x (i : Nat)
  | r

def XE.toExit : XE → Exit
  | .n => .normal
  | .x i => .exit i
  | .r => .ret

abbrev XO := XE × Env × Hp × Nat
abbrev XR := ICode → Env → Hp → Nat → Option XO

def isOut (o : XO) : Kont := fun ex e h n => ex = o.1.toExit ∧ e = o.2.1 ∧ h = o.2.2.1 ∧ n = o.2.2.2

def xOps (cx : Cx) : List IOper → Env → Hp → Nat → Option (Env × Hp × Nat)
  | [], e, h, n => some (e, h, n)
  | o :: os, e, h, n => match wantedI e o.guard with
    | some true => match stepC cx o.op e h n with
      | some (true, E) => xOps cx os (eput o.dst E.v e) (E.appL h) E.n
      | _ => none
    | some false => xOps cx os (eput o.dst (.tup []) e) h n
    | none => none

theorem fin1_all {s : Bool} {v : AV} {k : AV → Prop} (h : k v) : fin1 s v k := by
  unfold fin1
  split
  · rename_i c
    exact ⟨fun hc => by subst hc; exact h, fun hc => by subst hc; exact h⟩
  · exact h

theorem xOps_run {cx : Cx} : ∀ {l : List IOper} {e : Env} {h : Hp} {n : Nat} {e' : Env} {h' : Hp} {n' : Nat} {K : Env → Hp → Nat → Prop}, xOps cx l e h n = some (e', h', n') → K e' h' n' → runOps cx l e h n K
  | [], e, h, n, e', h', n', K, hx, hk => by simp only [xOps, Option.some.injEq, Prod.mk.injEq] at hx; obtain ⟨rfl, rfl, rfl⟩ := hx; exact hk
  | o :: os, e, h, n, e', h', n', K, hx, hk => by
    simp only [xOps] at hx
    rw [runOps]
    split at hx
    · rename_i hw
      rw [hw]
      split at hx
      · rename_i E hs
        show gd (stepC cx o.op e h n) _
        rw [hs]
        exact ⟨rfl, fin1_all (xOps_run hx hk)⟩
      · cases hx
    · rename_i hw; rw [hw]; exact xOps_run hx hk
    · cases hx

def xDr (cx : Cx) : List (IOper × List Nat) → Nat → List (Nat × Eff) → Env → Hp → Nat → Option (Env × Hp × Nat)
  | [], _, _, e, h, n => some (e, h, n)
  | (o, un) :: os, i, dn, e, h, n => match wantedI e o.guard with
    | some true => match stepC cx o.op e h n with
      | some (true, E) => match effOK h n E && okAll un E dn with
        | true => xDr cx os (i + 1) (pushD i E dn) (eput o.dst E.v e) (E.appL h) E.n
        | false => none
      | _ => none
    | some false => xDr cx os (i + 1) dn (eput o.dst (.tup []) e) h n
    | none => none

theorem xDr_run {cx : Cx} : ∀ {l : List (IOper × List Nat)} {i : Nat} {dn : List (Nat × Eff)} {e : Env} {h : Hp} {n : Nat} {e' : Env} {h' : Hp} {n' : Nat} {K : Env → Hp → Nat → Prop}, xDr cx l i dn e h n = some (e', h', n') → K e' h' n' → runD cx l i dn e h n K
  | [], i, dn, e, h, n, e', h', n', K, hx, hk => by simp only [xDr, Option.some.injEq, Prod.mk.injEq] at hx; obtain ⟨rfl, rfl, rfl⟩ := hx; exact hk
  | (o, un) :: os, i, dn, e, h, n, e', h', n', K, hx, hk => by
    simp only [xDr] at hx
    rw [runD]
    split at hx
    · rename_i hw
      rw [hw]
      split at hx
      · rename_i E hs
        split at hx
        · rename_i hc
          show gd (stepC cx o.op e h n) _
          rw [hs]
          exact ⟨by show (true && effOK h n E && okAll un E dn) = true; rw [Bool.true_and]; exact hc, fin1_all (xDr_run hx hk)⟩
        · cases hx
      · cases hx
    · rename_i hw; rw [hw]; exact xDr_run hx hk
    · cases hx

mutual
def AV.names : AV → List Nat
  | .p b _ => [b]
  | .sl b _ _ _ => [b]
  | .sg b _ _ => [b]
  | .fn _ l => namesL l
  | .agg l => namesL l
  | .tup l => namesL l
  | .b _ => []
  | .i _ _ => []
  | .s _ => []
  | .np => []
  | .ns => []
  | .nf => []
  | .ni => []
def namesL : List AV → List Nat
  | [] => []
  | v :: r => v.names ++ namesL r
end

mutual
def AV.inR (R : List Nat) : AV → Bool
  | .p b _ => inl R b
  | .sl b _ _ _ => inl R b
  | .sg b _ _ => inl R b
  | .fn _ l => inRL R l
  | .agg l => inRL R l
  | .tup l => inRL R l
  | .b _ => true
  | .i _ _ => true
  | .s _ => true
  | .np => true
  | .ns => true
  | .nf => true
  | .ni => true
def inRL (R : List Nat) : List AV → Bool
  | [] => true
  | v :: r => v.inR R && inRL R r
end

def reach (h : Hp) : Nat → List Nat → List Nat → List Nat
  | _, done, [] => done
  | 0, done, _ => done
  | k + 1, done, b :: todo => match inl done b with
    | true => reach h k done todo
    | false => match hget h b with
      | some blk => reach h k (b :: done) (namesL blk.cells ++ todo)
      | none => reach h k done todo

def idx : List Nat → Nat → Nat
  | [], _ => 0
  | c :: r, b => bif Nat.beq c b then 0 else idx r b + 1

def nth : List Nat → Nat → Nat
  | [], _ => 0
  | c :: _, 0 => c
  | _ :: r, i + 1 => nth r i

def nodup : List Nat → Bool
  | [] => true
  | c :: r => !(inl r c) && nodup r

theorem inl_idx : ∀ {R : List Nat} {b : Nat}, inl R b = true → idx R b < R.length ∧ nth R (idx R b) = b
  | [], b, h => by simp [inl] at h
  | c :: r, b, h => by
    simp only [inl, Bool.or_eq_true] at h
    simp only [idx]
    cases hc : Nat.beq c b
    · rw [hc] at h
      obtain ⟨h1, h2⟩ := inl_idx (h.resolve_left (by simp))
      simp only [cond_false]
      exact ⟨by simp; omega, h2⟩
    · have := Nat.eq_of_beq_eq_true hc
      exact ⟨by simp, by simp [nth, this]⟩

theorem nth_inl : ∀ {R : List Nat} {i : Nat}, i < R.length → inl R (nth R i) = true
  | [], i, h => by simp at h
  | c :: r, 0, h => by simp [inl, nth]
  | c :: r, i + 1, h => by
    simp only [nth, inl, Bool.or_eq_true]
    exact .inr (nth_inl (by simpa using h))

theorem idx_nth : ∀ {R : List Nat} {i : Nat}, nodup R = true → i < R.length → idx R (nth R i) = i
  | [], i, _, h => by simp at h
  | c :: r, 0, _, h => by simp [idx, nth]
  | c :: r, i + 1, hn, h => by
    simp only [nodup, Bool.and_eq_true, Bool.not_eq_true'] at hn
    have h1 := nth_inl (R := r) (i := i) (by simpa using h)
    simp only [nth, idx]
    cases hc : Nat.beq c (nth r i)
    · simp only [cond_false]; rw [idx_nth hn.2 (by simpa using h)]
    · have := Nat.eq_of_beq_eq_true hc
      rw [this, h1] at hn
      exact absurd hn.1 (by simp)

mutual
theorem AV.ren_idx {R : List Nat} : ∀ v : AV, v.inR R = true → (v.ren (idx R)).ren (nth R) = v ∧ (v.ren (idx R)).bel R.length = true
  | .p b o, h => by obtain ⟨h1, h2⟩ := inl_idx h; simp only [AV.ren, AV.bel, h2]; exact ⟨trivial, by rw [Nat.blt_eq]; exact h1⟩
  | .sl b o l c, h => by obtain ⟨h1, h2⟩ := inl_idx h; simp only [AV.ren, AV.bel, h2]; exact ⟨trivial, by rw [Nat.blt_eq]; exact h1⟩
  | .sg b o l, h => by obtain ⟨h1, h2⟩ := inl_idx h; simp only [AV.ren, AV.bel, h2]; exact ⟨trivial, by rw [Nat.blt_eq]; exact h1⟩
  | .fn f l, h => by obtain ⟨h1, h2⟩ := renL_idx l h; simp only [AV.ren, AV.bel, h1]; exact ⟨trivial, h2⟩
  | .agg l, h => by obtain ⟨h1, h2⟩ := renL_idx l h; simp only [AV.ren, AV.bel, h1]; exact ⟨trivial, h2⟩
  | .tup l, h => by obtain ⟨h1, h2⟩ := renL_idx l h; simp only [AV.ren, AV.bel, h1]; exact ⟨trivial, h2⟩
  | .b x, _ => ⟨rfl, rfl⟩
  | .i k n, _ => ⟨rfl, rfl⟩
  | .s l, _ => ⟨rfl, rfl⟩
  | .np, _ => ⟨rfl, rfl⟩
  | .ns, _ => ⟨rfl, rfl⟩
  | .nf, _ => ⟨rfl, rfl⟩
  | .ni, _ => ⟨rfl, rfl⟩
theorem renL_idx {R : List Nat} : ∀ l : List AV, inRL R l = true → renL (nth R) (renL (idx R) l) = l ∧ belL R.length (renL (idx R) l) = true
  | [], _ => ⟨rfl, rfl⟩
  | v :: r, h => by
    simp only [inRL, Bool.and_eq_true] at h
    obtain ⟨h1, h2⟩ := AV.ren_idx v h.1
    obtain ⟨h3, h4⟩ := renL_idx r h.2
    exact ⟨by simp only [renL, h1, h3], by simp only [renL, belL, h2, h4, Bool.and_self]⟩
end

/-- The callee's heap: the blocks of R, numbered from i. -/
def mkL (R : List Nat) (h : Hp) : List Nat → Nat → Option Hp
  | [], _ => some []
  | b :: r, i => match hget h b with
    | some k => match inRL R k.cells with
      | true => (mkL R h r (i + 1)).bind fun l => some ((i, k.ren (idx R)) :: l)
      | false => none
    | none => none

theorem mkL_spec {R : List Nat} {h : Hp} : ∀ {r : List Nat} {i : Nat} {l : Hp}, mkL R h r i = some l →
    (∀ b kk, hget l b = some kk → i ≤ b ∧ b < i + r.length ∧ ∃ k, hget h (nth r (b - i)) = some k ∧ kk = k.ren (idx R) ∧ inRL R k.cells = true) ∧ (∀ b, i ≤ b → b < i + r.length → ∃ kk, hget l b = some kk)
  | [], i, l, hl => by
    simp only [mkL, Option.some.injEq] at hl; subst hl
    exact ⟨fun b kk hb => by simp [hget] at hb, fun b h1 h2 => by simp at h2; omega⟩
  | c :: r, i, l, hl => by
    simp only [mkL] at hl
    split at hl
    · rename_i k hk
      split at hl
      · rename_i hin
        simp only [Option.bind_eq_some_iff, Option.some.injEq] at hl
        obtain ⟨l', hl', rfl⟩ := hl
        obtain ⟨g1, g2⟩ := mkL_spec hl'
        refine ⟨fun b kk hb => ?_, fun b h1 h2 => ?_⟩
        · simp only [hget] at hb
          by_cases hbi : b = i
          · subst hbi
            simp at hb; subst hb
            exact ⟨Nat.le_refl _, by simp, k, by simpa [nth] using hk, rfl, hin⟩
          · rw [beq_ne hbi] at hb
            obtain ⟨q1, q2, k', q3, q4, q5⟩ := g1 b kk hb
            refine ⟨by omega, by simp; omega, k', ?_, q4, q5⟩
            rw [show b - i = (b - (i + 1)) + 1 by omega]
            exact q3
        · simp only [hget]
          by_cases hbi : b = i
          · subst hbi; simp
          · rw [beq_ne hbi]
            exact g2 b (by omega) (by simp at h2; omega)
      · cases hl
    · cases hl

def kdEq : IntKind → IntKind → Bool
  | .i8, .i8 => true
  | .i16, .i16 => true
  | .i32, .i32 => true
  | .i64, .i64 => true
  | .u8, .u8 => true
  | .u16, .u16 => true
  | .u32, .u32 => true
  | .u64, .u64 => true
  | _, _ => false
theorem kdEq_eq {k j : IntKind} (h : kdEq k j = true) : k = j := by
  cases k <;> cases j <;> first | rfl | cases h

mutual
def AV.same : AV → AV → Bool
  | .b x, .b y => x == y
  | .i k x, .i j y => kdEq k j && x == y
  | .s x, .s y => x == y
  | .np, .np => true
  | .p b o, .p c q => Nat.beq b c && Nat.beq o q
  | .ns, .ns => true
  | .sl b o l c, .sl b' o' l' c' => Nat.beq b b' && Nat.beq o o' && Nat.beq l l' && Nat.beq c c'
  | .sg b o l, .sg b' o' l' => Nat.beq b b' && Nat.beq o o' && Nat.beq l l'
  | .fn f l, .fn g m => Nat.beq f g && sameL l m
  | .nf, .nf => true
  | .ni, .ni => true
  | .agg l, .agg m => sameL l m
  | .tup l, .tup m => sameL l m
  | _, _ => false
def sameL : List AV → List AV → Bool
  | [], [] => true
  | x :: l, y :: m => x.same y && sameL l m
  | _, _ => false
end

mutual
theorem AV.same_eq : ∀ {x y : AV}, x.same y = true → x = y
  | .b x, y, h => by cases y <;> simp_all [AV.same]
  | .i k x, y, h => by
    cases y <;> simp [AV.same] at h
    obtain ⟨h1, h2⟩ := h
    rw [kdEq_eq h1, h2]
  | .s x, y, h => by cases y <;> simp_all [AV.same]
  | .np, y, h => by cases y <;> simp_all [AV.same]
  | .p b o, y, h => by cases y <;> simp_all [AV.same]
  | .ns, y, h => by cases y <;> simp_all [AV.same]
  | .sl b o l c, y, h => by cases y <;> simp_all [AV.same]
  | .sg b o l, y, h => by cases y <;> simp_all [AV.same]
  | .fn f l, y, h => by
    cases y <;> simp [AV.same] at h
    rw [h.1, sameL_eq h.2]
  | .nf, y, h => by cases y <;> simp_all [AV.same]
  | .ni, y, h => by cases y <;> simp_all [AV.same]
  | .agg l, y, h => by
    cases y <;> simp [AV.same] at h
    rw [sameL_eq h]
  | .tup l, y, h => by
    cases y <;> simp [AV.same] at h
    rw [sameL_eq h]
theorem sameL_eq : ∀ {l m : List AV}, sameL l m = true → l = m
  | [], [], _ => rfl
  | x :: l, y :: m, h => by
    simp only [sameL, Bool.and_eq_true] at h
    rw [AV.same_eq h.1, sameL_eq h.2]
  | [], _ :: _, h => by cases h
  | _ :: _, [], h => by cases h
end

def onEq : Option Nat → Option Nat → Bool
  | none, none => true
  | some a, some b => Nat.beq a b
  | _, _ => false
theorem onEq_eq {a b : Option Nat} (h : onEq a b = true) : a = b := by
  cases a <;> cases b <;> simp_all [onEq]

/-- A block is as it was. -/
def asWas (h0 : Hp) (b : Nat) (k : Blk) : Bool :=
  match hget h0 b with
  | some j => (j.ro == k.ro) && sameL j.cells k.cells && onEq j.gr k.gr && onEq j.gid k.gid
  | none => false
theorem asWas_spec {h0 : Hp} {b : Nat} {k : Blk} (h : asWas h0 b k = true) : hget h0 b = some k := by
  unfold asWas at h
  split at h
  · rename_i j hj
    simp only [Bool.and_eq_true, beq_iff_eq] at h
    rw [hj]
    obtain ⟨c, r, g, d⟩ := k
    obtain ⟨c', r', g', d'⟩ := j
    simp only at h
    rw [sameL_eq h.1.1.2, onEq_eq h.1.2, onEq_eq h.2, h.1.1.1]
  · cases h

/-- A read-only block is an old one, as it was. -/
def roSame (h0 : Hp) (n0 b : Nat) (k : Blk) : Bool :=
  match k.ro with
  | false => true
  | true => Nat.blt b n0 && (match hget h0 b with
    | some j => j.ro && sameL j.cells k.cells && onEq j.gr k.gr && onEq j.gid k.gid
    | none => false)
theorem roSame_spec {h0 : Hp} {n0 b : Nat} {k : Blk} (h : roSame h0 n0 b k = true) (hr : k.ro = true) : b < n0 ∧ hget h0 b = some k := by
  unfold roSame at h
  rw [hr] at h
  simp only [Bool.and_eq_true] at h
  obtain ⟨h1, h2⟩ := h
  refine ⟨blt_lt h1, ?_⟩
  split at h2
  · rename_i j hj
    simp only [Bool.and_eq_true] at h2
    rw [hj]
    obtain ⟨c, r, g, d⟩ := k
    obtain ⟨c', r', g', d'⟩ := j
    simp only at h2 hr
    rw [sameL_eq h2.1.1.2, onEq_eq h2.1.2, onEq_eq h2.2, h2.1.1.1, hr]
  · cases h2

def hOK (h0 : Hp) (n0 n : Nat) : Hp → Bool
  | [] => true
  | (b, k) :: r => Nat.blt b n && belL n k.cells && roSame h0 n0 b k && hOK h0 n0 n r

theorem hOK_spec {h0 : Hp} {n0 n : Nat} : ∀ {h : Hp}, hOK h0 n0 n h = true → ∀ b k, hget h b = some k → b < n ∧ belL n k.cells = true ∧ (k.ro = true → b < n0 ∧ hget h0 b = some k)
  | [], _, b, k, hb => by simp [hget] at hb
  | (c, j) :: r, h, b, k, hb => by
    simp only [hOK, Bool.and_eq_true] at h
    simp only [hget] at hb
    by_cases hc : b = c
    · subst hc; simp at hb; subst hb; exact ⟨blt_lt h.1.1.1, h.1.1.2, fun hr => roSame_spec h.1.2 hr⟩
    · rw [beq_ne hc] at hb; exact hOK_spec h.2 b k hb

def keepH (L : List Nat) : Hp → Hp
  | [] => []
  | (b, k) :: r => bif inl L b then (b, k) :: keepH L r else keepH L r

theorem keepH_spec {L : List Nat} : ∀ {h : Hp} {b : Nat} {k : Blk}, hget (keepH L h) b = some k → hget h b = some k
  | [], b, k, hb => by simp [keepH, hget] at hb
  | (c, j) :: r, b, k, hb => by
    simp only [keepH] at hb
    cases hi : inl L c
    · rw [hi] at hb
      simp only [cond_false] at hb
      have := keepH_spec hb
      simp only [hget]
      by_cases hc : b = c
      · subst hc
        -- a name that is not kept is found nowhere
        exfalso
        clear this
        induction r with
        | nil => simp [keepH, hget] at hb
        | cons x r ih =>
          obtain ⟨d, jj⟩ := x
          simp only [keepH] at hb
          cases hd : inl L d
          · rw [hd] at hb; exact ih hb
          · rw [hd] at hb
            simp only [cond_true, hget] at hb
            by_cases hbd : b = d
            · subst hbd; rw [hi] at hd; cases hd
            · rw [beq_ne hbd] at hb; exact ih hb
      · rw [beq_ne hc]; exact this
    · rw [hi] at hb
      simp only [cond_true, hget] at hb ⊢
      by_cases hc : b = c
      · subst hc; simpa using hb
      · rw [beq_ne hc] at hb ⊢; exact keepH_spec hb

theorem Ends.prune {h00 : Hp} {n00 n0 n : Nat} {v : AV} {h h2 : Hp} (hn : n0 ≤ n) (hv : v.bel n = true) (hok : hOK h00 n00 n h2 = true) (hk : ∀ b k, hget h2 b = some k → hget h b = some k) : Ends n0 v h n v h2 n := by
  refine ⟨_root_.id, hn, fun _ _ => rfl, fun t x hx => ?_, fun b k hb => ?_, fun b1 b2 k1 k2 _ _ _ he => he⟩
  · simp only [eget] at hx
    by_cases ht : t = 0
    · subst ht
      simp at hx; subst hx
      exact ⟨by simp [eget, AV.ren_fix (ψ := _root_.id) (fun _ _ => rfl) v hv], hv⟩
    · rw [beq_ne ht] at hx; simp at hx
  · obtain ⟨h1, h2, h3⟩ := hOK_spec hok b k hb
    refine ⟨?_, h2, h1⟩
    simp only [_root_.id, Blk.ren, renL_fix (ψ := _root_.id) (fun _ _ => rfl) k.cells h2]
    exact hk b k hb

def iget : List (Nat × IFn) → Nat → Option IFn
  | [], _ => none
  | (g, I) :: r, f => bif Nat.beq g f then some I else iget r f

/-- The names of a result's blocks below m, as the caller calls them. -/
def mdOf (χ : Nat → Nat) (hL hR : Hp) : List Nat → Nat → List (Nat × Option Blk)
  | [], _ => []
  | b :: r, i => match hget hR i with
    | some k => match asWas hL i k with
      | true => mdOf χ hL hR r (i + 1)
      | false => (b, some (k.ren χ)) :: mdOf χ hL hR r (i + 1)
    | none => (b, none) :: mdOf χ hL hR r (i + 1)

/-- The blocks of package variables. -/
def gidsOf : Hp → List Nat
  | [] => []
  | (b, k) :: r => match k.gid with
    | some _ => b :: gidsOf r
    | none => gidsOf r

def nwOf (χ : Nat → Nat) (m : Nat) : Hp → List (Nat × Blk)
  | [] => []
  | (b, k) :: r => bif Nat.blt b m then nwOf χ m r else (χ b, k.ren χ) :: nwOf χ m r

def chi (R : List Nat) (n : Nat) : Nat → Nat := fun b => if b < R.length then nth R b else n + (b - R.length)

/-- One call: the callee's own heap and names. -/
def xFn (run : XR) (I : IFn) (args : List AV) (h : Hp) (n : Nat) : Option (AV × Hp × Nat) :=
  match Nat.ble args.length I.N with
  | true => (run I.code (argEnv 0 args) h n).bind fun o => match o with
    | (.x _, _) => none
    | (_, e, h', n') => (retV I.res e h').bind fun q => match q with
      | (true, v) =>
        let hP := keepH (reach h' 100000 [] (v.names ++ List.range n)) h'
        match Nat.ble n n' && v.bel n' && hOK h n n' hP with
        | true => some (v, hP, n')
        | false => none
      | _ => none
  | false => none

def xCx (T : List (Nat × IFn)) (run : XR) : Cx := fun f args h n =>
  (iget T f).bind fun I =>
    let R := reach h 100000 [] (gidsOf h ++ namesL args)
    match nodup R && inRL R args with
    | true => (mkL R h R 0).bind fun hL => (xFn run I (renL (idx R) args) hL R.length).bind fun o =>
      match o with
      | (v, hR, k) => some (true, { v := v.ren (chi R n), n := n + (k - R.length), rd := R, md := mdOf (chi R n) hL hR R 0, nw := nwOf (chi R n) R.length hR })
    | false => none

def xLoop (run : XR) (c : ICode) : Nat → Env → Hp → Nat → Option XO
  | 0, _, _, _ => none
  | m + 1, e, h, n => (run c e h n).bind fun o => match o with
    | (.n, e, h, n) => xLoop run c m e h n
    | o => some o

def xBody (T : List (Nat × IFn)) (m : Nat) (run : XR) : XR := fun c e h n =>
  match c with
  | .skip => some (.n, e, h, n)
  | .reg ops => (xOps (xCx T run) ops e h n).bind fun o => some (.n, o)
  | .dreg ops => (xDr (xCx T run) ops 0 [] e h n).bind fun o => some (.n, o)
  | .seq a b => (run a e h n).bind fun o => match o with
    | (.n, e, h, n) => run b e h n
    | o => some o
  | .cond c a b => (c.ev e h).bind fun v => match v with
    | .b true => run a e h n
    | .b false => run b e h n
    | _ => none
  | .block id c => (run c e h n).bind fun o => match o with
    | (.x i, e, h, n) => bif Nat.beq i id then some (.n, e, h, n) else some (.x i, e, h, n)
    | o => some o
  | .loop c => xLoop run c m e h n
  | .scope c => run c e h n
  | .exit id => some (.x id, e, h, n)
  | .ret => some (.r, e, h, n)
  | .bad => none

def xrun (T : List (Nat × IFn)) (fuel : Nat) : XR :=
  Nat.rec (fun _ _ _ _ => none) (fun m run => xBody T m run) fuel

end Go.Ab
