/- The abstract layer, part 80: slices.Delete of one element of a slice that is given up (whatever its capacity). -/
import Derived.Test.YtndbgcmgjnjnhaaAbAnys
namespace Go.Ab
set_option maxRecDepth 100000
set_option maxHeartbeats 4000000
set_option linter.unusedSimpArgs false
set_option linter.unusedVariables false
abbrev dltC (z bytes : Nat) (zs : List AV) : ICode :=
 (.seq (.reg [oo 6 (.mv (.c (.ns)))])
 (.seq (.reg [oo 8 (.mv (.t 0)), oo 9 (.mv (.t 1)), oo 10 (.mv (.t 2)), oo 11 (.mv (.t 0)), oo 12 (.lenV (.t 11)), oo 13 (.slV z (.t 8) (some (.t 9)) (some (.t 10)) (some (.t 12)))])
 (.seq (.seq (.reg [oo 14 (.mv (.t 1)), oo 15 (.mv (.t 2)), ot 16 (.bin .eql (.t 14) (.t 15))]) (.cond (.t 16) (.seq (.reg [oo 17 (.mv (.t 0)), oo 6 (.mv (.t 17))]) .ret) .skip))
 (.seq (.reg [oo 18 (.mv (.t 0)), oo 19 (.lenV (.t 18)), oo 7 (.mv (.t 19))])
 (.seq (.dreg [(oo 20 (.mv (.t 0)), []), (oo 21 (.mv (.t 1)), [0]), (oo 22 (.slV z (.t 20) none (some (.t 21)) none), []), (oo 23 (.mv (.t 0)), [0, 1, 2]), (oo 24 (.mv (.t 2)), [0, 1, 2, 3]), (oo 25 (.slV z (.t 23) (some (.t 24)) none none), [0, 1, 2]), (oo 26 (.app z bytes zs (.t 22) (.t 25)), []), (oo 0 (.mv (.t 26)), [])])
 (.seq (.reg [oo 27 (.mv (.t 0)), oo 28 (.mv (.t 0)), oo 29 (.lenV (.t 28)), oo 30 (.mv (.t 7)), oo 31 (.slV z (.t 27) (some (.t 29)) (some (.t 30)) none), on_ (.clr z zs (.t 31))])
 (.seq (.reg [oo 32 (.mv (.t 0)), oo 6 (.mv (.t 32))]) .ret)))))))
def dltI (z bytes : Nat) (zs : List AV) : IFn := { np := 3, N := 33, ct := [16], code := dltC z bytes zs, res := [.t 6] }
section
variable {P : Program} {α : Type} {row : α → List AV} {z bytes : Nat} {zs : List AV} {f : FuncId} {fn : Func}
theorem dlt_sl (hm : P.follows .mixedOrders = true) (hf : P.funcs[f]? = some fn) (hI : compF P fn = some (dltI z bytes zs)) (hlen : ∀ a, (row a).length = z) (hz0 : 0 < z) (hzl : zs.length = z) (hz1 : oneAll zs = true) (hbel : ∀ a, belL 0 (row a) = true) (hone : ∀ a, oneAll (row a) = true)
 (l : List α) (i p c : Nat) (hi : i < l.length) (hc : l.length ≤ c) (hbig : l.length ≤ 9223372036854775807) :
 FTL P f [.sl 0 p l.length c, .i .i64 i, .i .i64 ((i : Int) + 1)] [(0, { cells := anys p ++ (rows row l ++ anys ((c - l.length) * z)) })] 1 (.fz (rows row (l.take i ++ l.drop (i + 1))) (l.length - 1)) [] 1 := by
 have hlL : (rows row l).length = l.length * z := rows_len hlen
 have h1B : oneAll (rows row (l.drop (i + 1))) = true := rows_one1 hone _
 have hA : (rows row (l.take i)).length = i * z := by rw [rows_len hlen, List.length_take, Nat.min_eq_left (by omega)]
 have hB : (rows row (l.drop (i + 1))).length = (l.length - (i + 1)) * z := by rw [rows_len hlen, List.length_drop]
 obtain ⟨a, ha⟩ : ∃ a, l[i]? = some a := ⟨_, List.getElem?_eq_getElem hi⟩
 have hX : (row a).length = z := hlen a
 have hAB : rows row l = rows row (l.take i) ++ (row a ++ rows row (l.drop (i + 1))) := by
  conv => lhs; rw [← List.take_append_drop i l]
  rw [rows_append, List.drop_eq_getElem_cons hi, rows_cons]
  rw [List.getElem?_eq_getElem hi] at ha
  rw [Option.some.inj ha]
 have hb3 : belL 0 (rows row (l.take i ++ l.drop (i + 1))) = true := rows_bel hbel
 rw [rows_append] at hb3 ⊢
 rw [hAB] at hlL ⊢
 have hb3 := belL_mono0 (m := 1) _ hb3
 generalize rows row (l.take i) = A at *
 generalize rows row (l.drop (i + 1)) = B at *
 generalize row a = X at *
 generalize l.length = N at *
 clear hAB ha
 have hAn : (anys p).length = p := anys_len
 have hSn : (anys ((c - N) * z)).length = (c - N) * z := anys_len
 generalize anys ((c - N) * z) = S at *
 generalize anys p = Q at *
 obtain ⟨r, rfl⟩ : ∃ r, N = i + 1 + r := ⟨N - (i + 1), by omega⟩
 have g1 : i + 1 + r - (i + 1) = r := by omega
 have g2 : i + 1 + r - 1 = i + r := by omega
 rw [g1] at hB
 have e0 : ((i : Int) == (i : Int) + 1) = false := by rw [beq_eq_false_iff_ne]; omega
 have t1 : ((i : Int) + 1).toNat = i + 1 := by omega
 have c1 : decide (0 ≤ (i : Int) ∧ (i : Int) ≤ (i : Int) + 1 ∧ 0 ≤ (i : Int) + 1 ∧ (i : Int) + 1 ≤ ((i + 1 + r : Nat) : Int) ∧ 0 ≤ ((i + 1 + r : Nat) : Int) ∧ ((i + 1 + r : Nat) : Int) ≤ (c : Int)) = true := decide_eq_true (by omega)
 have c2 : decide (0 ≤ (i : Int) ∧ (i : Int) ≤ (c : Int)) = true := decide_eq_true (by omega)
 have c3 : decide (0 ≤ (i : Int) + 1 ∧ (i : Int) + 1 ≤ ((i + 1 + r : Nat) : Int) ∧ 0 ≤ ((i + 1 + r : Nat) : Int) ∧ ((i + 1 + r : Nat) : Int) ≤ (c : Int)) = true := decide_eq_true (by omega)
 have c4 : decide (i ≤ c) = true := decide_eq_true (by omega)
 have m1 : (i + 1) * z = i * z + z := by rw [Nat.add_mul, Nat.one_mul]
 have m2 : (i + r) * z = i * z + r * z := Nat.add_mul _ _ _
 have hzz : (zeros zs 1).length = z := by simp [zeros, hzl]
 generalize hZe : zeros zs 1 = Z at hzz
 refine FTL.of_cov (cx := cxT []) Sound.nil hm hf hI (by simp [dltI]) (iw_of_jw ?_)
 dsimp only [dltI]
 by_cases hr : r = 0
 · subst hr
   have hBn : B = [] := List.eq_nil_of_length_eq_zero (by rw [hB]; simp)
   subst hBn
   have q1 : decide (0 ≤ (i : Int) + 1 ∧ (i : Int) + 1 ≤ ((i + 1 : Nat) : Int) ∧ 0 ≤ ((i + 1 : Nat) : Int) ∧ ((i + 1 : Nat) : Int) ≤ (c : Int) ∧ 0 ≤ (c : Int)) = true := decide_eq_true (by omega)
   have q2 : decide (0 ≤ (i : Int) ∧ (i : Int) ≤ ((i + 1 : Nat) : Int) ∧ 0 ≤ ((i + 1 : Nat) : Int) ∧ ((i + 1 : Nat) : Int) ≤ (c : Int) ∧ 0 ≤ (c : Int)) = true := decide_eq_true (by omega)
   have a2 : ¬ c = i := by omega
   have a3 : i + 1 - i = 1 := by omega
   have k1 : List.take (p + i * z) (Q ++ (A ++ X ++ S)) = Q ++ A := by
    rw [show Q ++ (A ++ X ++ S) = (Q ++ A) ++ (X ++ S) by simp only [List.append_assoc]]; exact tk1 (by rw [List.length_append]; omega)
   have k2 : List.drop (p + i * z + z) (Q ++ (A ++ X ++ S)) = S := by
    rw [show Q ++ (A ++ X ++ S) = (Q ++ (A ++ X)) ++ S by simp only [List.append_assoc]]; exact dr1 (by simp only [List.length_append]; omega)
   have q3 : decide (p + i * z + z ≤ (Q ++ (A ++ X ++ S)).length) = true := decide_eq_true (by simp only [List.length_append]; omega)
   simp (maxSteps := 400000) only [go_sem, e0, t1, g1, g2, c1, c2, c3, c4, hA, hB, hX, q1, q2, q3, a2, a3, k1, k2, hZe, hzz, hzl, hz1, Nat.zero_mul, List.take_zero, if_false, Nat.one_mul, simprocAttr]
   simp only [List.append_nil] at hb3
   refine CovS.frz (b := 0) (k := { cells := Q ++ A ++ zs ++ S }) (h' := []) (o := p) (m := i) (cs := A) (v' := .fz A i) rfl rfl (.inl ⟨c, rfl, by omega⟩) (.inr ?_) FzV.hit (fun c kk hc => by simp [hget] at hc) ?_
   · rw [show Q ++ A ++ zs ++ S = Q ++ (A ++ (zs ++ S)) by simp only [List.append_assoc], dr1 hAn, tk1 rfl]
   · exact CovS.ends (Ends.pureE hb3 rfl)
 · have d0 : decide (r = 0) = false := decide_eq_false hr
   have q1 : decide (0 ≤ (i : Int) + 1 ∧ (i : Int) + 1 ≤ ((i + 1 + r : Nat) : Int) ∧ 0 ≤ ((i + 1 + r : Nat) : Int) ∧ ((i + 1 + r : Nat) : Int) ≤ (c : Int) ∧ 0 ≤ (c : Int)) = true := decide_eq_true (by omega)
   have d1 : decide (i + r ≤ c) = true := decide_eq_true (by omega)
   have a1 : ¬ c = i + 1 := by omega
   have k1 : List.take (r * z) (List.drop (p + (i + 1) * z) (Q ++ (A ++ (X ++ B) ++ S))) = B := by
    rw [show Q ++ (A ++ (X ++ B) ++ S) = (Q ++ (A ++ X)) ++ (B ++ S) by simp only [List.append_assoc], dr1 (by simp only [List.length_append]; omega), tk1 hB]
   have a3 : i + 1 + r - (i + r) = 1 := by omega
   have q2 : decide (0 ≤ ((i + r : Nat) : Int) ∧ ((i + r : Nat) : Int) ≤ ((i + 1 + r : Nat) : Int) ∧ 0 ≤ ((i + 1 + r : Nat) : Int) ∧ ((i + 1 + r : Nat) : Int) ≤ (c : Int) ∧ 0 ≤ (c : Int)) = true := decide_eq_true (by omega)
   have a2 : ¬ c = i + r := by omega
   obtain ⟨W, V, hWV, hW, hV⟩ := cut1 (X ++ B) (a := r * z) (b := z) (by rw [List.length_append]; omega)
   have k2 : List.take (p + i * z) (Q ++ (A ++ (X ++ B) ++ S)) = Q ++ A := by
    rw [show Q ++ (A ++ (X ++ B) ++ S) = (Q ++ A) ++ (X ++ B ++ S) by simp only [List.append_assoc]]; exact tk1 (by rw [List.length_append]; omega)
   have k3 : List.drop (p + i * z + r * z) (Q ++ (A ++ (X ++ B) ++ S)) = V ++ S := by
    rw [hWV, show Q ++ (A ++ (W ++ V) ++ S) = (Q ++ (A ++ W)) ++ (V ++ S) by simp only [List.append_assoc]]; exact dr1 (by simp only [List.length_append]; omega)
   have q3 : decide (p + i * z + r * z ≤ (Q ++ (A ++ (X ++ B) ++ S)).length) = true := decide_eq_true (by simp only [List.length_append]; omega)
   have k4 : List.take (p + (i + r) * z) (Q ++ A ++ B ++ (V ++ S)) = Q ++ A ++ B := tk1 (by simp only [List.length_append]; omega)
   have k5 : List.drop (p + (i + r) * z + z) (Q ++ A ++ B ++ (V ++ S)) = S := by
    rw [← List.append_assoc]; exact dr1 (by simp only [List.length_append]; omega)
   have q4 : decide (p + (i + r) * z + z ≤ (Q ++ A ++ B ++ (V ++ S)).length) = true := decide_eq_true (by simp only [List.length_append]; omega)
   simp (maxSteps := 400000) only [go_sem, e0, t1, g1, g2, c1, c2, c3, c4, d0, hA, hB, hX, q1, q2, q3, q4, d1, a1, a2, a3, k1, k2, k3, k4, k5, h1B, hZe, hzz, hzl, hz1, if_false, Nat.one_mul, simprocAttr]
   refine CovS.frz (b := 0) (k := { cells := Q ++ A ++ B ++ zs ++ S }) (h' := []) (o := p) (m := i + r) (cs := A ++ B) (v' := .fz (A ++ B) (i + r)) rfl rfl (.inl ⟨c, rfl, by omega⟩) (.inr ?_) FzV.hit (fun c kk hc => by simp [hget] at hc) ?_
   · rw [show Q ++ A ++ B ++ zs ++ S = Q ++ (A ++ B ++ (zs ++ S)) by simp only [List.append_assoc], dr1 hAn, tk1 rfl]
   · exact CovS.ends (Ends.pureE hb3 rfl)
end
end Go.Ab
