/- The abstract layer, part 51: a body cut in two, the state renamed at the seam; appends of whole open slices; one row changed. -/
import Derived.Test.YtiacdfhaopnekaaAbShs
import Derived.Test.YtiacdfhaopnekaaAbExecs
namespace Go.Ab
set_option linter.unusedVariables false
set_option linter.unusedSimpArgs false

/-- What stands behind a seam: to be run from a state that may be renamed. -/
def Seam (F : Fx) (c : ICode) (K : Kont) (e : Env) (h : Hp) (n : Nat) : Prop := ∀ c', compC F.P F.ct F.N c' = c → WP F.P F.N F.n0 c' K e h n
section
variable {F : Fx} {a b c : ICode} {K : Kont} {e : Env} {h : Hp} {n : Nat}
theorem Seam.run (hcx : Sound F.P F.cx) (hm : F.P.follows .mixedOrders = true) (hi : jw F c K e h n) : Seam F c K e h n := fun c' hc' => iw_sound F hcx hm c' _ _ _ _ (by rw [hc']; exact iw_of_jw hi)
theorem Seam.seq (hi : Seam F a (thenK K (Seam F b K)) e h n) : Seam F (.seq a b) K e h n := fun c' hc' => by
  obtain ⟨x, y, rfl, hx, hy⟩ := inv_seq hc'
  intro D0 φ0 H0 w0 h1 h2 D φ a w hR hS
  refine wp_seq (wp_mono (hi x hx D0 φ0 H0 w0 h1 h2 D φ a w hR hS) (fun ex a' w' hp => ?_))
  obtain ⟨D', φ', e', h', n', hk, hn', hR', hS'⟩ := hp
  cases ex with
  | normal => exact hk y hy D0 φ0 H0 w0 h1 hn' D' φ' a' w' hR' hS'
  | exit id => exact ⟨D', φ', e', h', n', hk, hn', hR', hS'⟩
  | goto l => exact ⟨D', φ', e', h', n', hk, hn', hR', hS'⟩
  | ret => exact ⟨D', φ', e', h', n', hk, hn', hR', hS'⟩
  | panic ch => exact ⟨D', φ', e', h', n', hk, hn', hR', hS'⟩
  | outgrown => exact ⟨D', φ', e', h', n', hk, hn', hR', hS'⟩
theorem Seam.part (hcx : Sound F.P F.cx) (hm : F.P.follows .mixedOrders = true) (hi : jw F a (thenK K (Seam F b K)) e h n) : Seam F (.seq a b) K e h n := Seam.seq (Seam.run hcx hm hi)
theorem Seam.block {id : Nat} (hi : Seam F a (blockK id K) e h n) : Seam F (.block id a) K e h n := fun c' hc' => by
  obtain ⟨x, rfl, hx⟩ := inv_block hc'
  intro D0 φ0 H0 w0 h1 h2 D φ a w hR hS
  refine wp_block (wp_mono (hi x hx D0 φ0 H0 w0 h1 h2 D φ a w hR hS) (fun ex a' w' hp => ?_))
  obtain ⟨D', φ', e', h', n', hk, hn', hR', hS'⟩ := hp
  cases ex with
  | exit i =>
    simp only [blockK] at hk
    simp only [Exit.inBlock]
    split
    · rename_i hid; rw [if_pos hid] at hk; exact ⟨D', φ', e', h', n', hk, hn', hR', hS'⟩
    · rename_i hid; rw [if_neg hid] at hk; exact ⟨D', φ', e', h', n', hk, hn', hR', hS'⟩
  | normal => exact ⟨D', φ', e', h', n', hk, hn', hR', hS'⟩
  | goto l => exact ⟨D', φ', e', h', n', hk, hn', hR', hS'⟩
  | ret => exact ⟨D', φ', e', h', n', hk, hn', hR', hS'⟩
  | panic ch => exact ⟨D', φ', e', h', n', hk, hn', hR', hS'⟩
  | outgrown => exact ⟨D', φ', e', h', n', hk, hn', hR', hS'⟩
theorem Seam.ren {e2 : Env} {h2 : Hp} {n2 : Nat} (m : List (Nat × Nat)) (hs : Seam F c K e2 h2 n2) (hn : F.n0 ≤ n2) (hm : rnOK m F.n0 n2 = true) (he : EnvR n2 m e e2) (hh : HpR n2 m h h2) : Seam F c K e h n :=
  fun c' hc' => WP.weaken (Wk.ofR hn hm he hh) (hs c' hc')
end
theorem FTL.of_seam {P : Program} {f : FuncId} {fn : Func} {I : IFn} {cx : Cx} {args : List AV} {h : Hp} {n : Nat} {v2 : AV} {h2 : Hp} {n2 : Nat} (hf : P.funcs[f]? = some fn) (hI : compF P fn = some I) (hnp : args.length ≤ I.N)
    (hi : Seam ⟨P, cx, I.ct, I.N, n⟩ I.code (retK I.res fun v h' n' => Ends n v h' n' v2 h2 n2) (argEnv 0 args) h n) : FTL P f args h n v2 h2 n2 :=
  FTL.of_wp hf hI hnp (fun c hc => hi c hc)

section
variable {α : Type} {f : α → List AV} {z : Nat} {l : List α} {s : Sh} {b : Nat} {h : Hp}
theorem oneAll_append {x y : List AV} : oneAll (x ++ y) = (oneAll x && oneAll y) := by
  induction x with
  | nil => rfl
  | cons a x ih => simp only [List.cons_append, oneAll, ih, Bool.and_assoc]
theorem rows_one1 (h1 : ∀ a, oneAll (f a) = true) : ∀ l : List α, oneAll (rows f l) = true
  | [] => rfl
  | a :: l => by rw [rows_cons, oneAll_append, h1, rows_one1 h1 l]; rfl
/-- The cells of an open slice, as the source of an append. -/
theorem srcK_v {k : List Nat → Nat → List AV → Bool → Option (Bool × Eff)} (hh : hasS h s b) (hs : s.is f z l) (hf : ∀ a, (f a).length = z) : srcK h z (s.v b) k = k (s.bl b) l.length (rows f l) true := by
  have h1 := hs.ln
  have h2 := hs.cs
  cases s with
  | nil =>
    simp only [Sh.len] at h1
    have : l = [] := List.eq_nil_of_length_eq_zero h1.symm
    subst this; rfl
  | sl q o len cap =>
    simp only [Sh.len, Sh.cs] at h1 h2
    subst h1
    show srcK h z (.sl b o l.length cap) k = _
    rw [srcK_sl, hh b q (by simp [Sh.h, hget]), bind_some', h2, rows_len hf, decide_eq_true rfl]; rfl
  | sg q o len =>
    simp only [Sh.len, Sh.cs] at h1 h2
    subst h1
    show srcK h z (.sg b o l.length) k = _
    rw [srcK_sg, hh b q (by simp [Sh.h, hget]), bind_some', h2, rows_len hf, decide_eq_true rfl]; rfl
/-- One cell of one row changed. -/
theorem splice_row (hf : ∀ a, (f a).length = z) {i j : Nat} {a a' : α} {v : AV} (hi : l[i]? = some a) (hj : j < z) (ha : f a' = splice (f a) j [v]) : splice (rows f l) (i * z + j) [v] = rows f (l.set i a') := by
  induction l generalizing i with
  | nil => simp at hi
  | cons x l ih =>
    cases i with
    | zero =>
      simp at hi
      subst hi
      rw [List.set_cons_zero, rows_cons, rows_cons, ha, Nat.zero_mul, Nat.zero_add]
      unfold splice
      rw [List.take_append_of_le_length (by rw [hf]; omega), List.drop_append_of_le_length (by rw [hf]; simp; omega)]
      simp
    | succ i =>
      simp at hi
      have := ih hi
      rw [List.set_cons_succ, rows_cons, rows_cons, ← this]
      unfold splice
      rw [show (i + 1) * z + j = z + (i * z + j) by rw [Nat.add_mul]; omega]
      have e1 : List.take (z + (i * z + j)) (f x ++ rows f l) = f x ++ List.take (i * z + j) (rows f l) := by
        rw [List.take_append, hf, List.take_of_length_le (by rw [hf]; omega)]
        congr 2; omega
      have e2 : List.drop (z + (i * z + j) + [v].length) (f x ++ rows f l) = List.drop (i * z + j + [v].length) (rows f l) := by
        rw [List.drop_append, hf, List.drop_of_length_le (by rw [hf]; simp; omega), List.nil_append]
        congr 1; simp; omega
      rw [e1, e2]; simp
end
end Go.Ab
