/- The abstract layer, part 81: slices.Repeat of one element (with bits.Mul). -/
import Derived.Test.YtndbgcmgjnjnhaaAbDlt
namespace Go.Ab
set_option maxRecDepth 100000
set_option maxHeartbeats 4000000
set_option linter.unusedSimpArgs false
set_option linter.unusedVariables false
abbrev mul64C : ICode := (.seq (.reg [oo 4 (.mv (.c (.i .u64 0))), oo 5 (.mv (.c (.i .u64 0)))]) (.seq (.reg [oo 14 (.mv (.t 0)), oo 15 (.bin .and (.t 14) (.c (.i .u64 4294967295))), oo 6 (.mv (.t 15))]) (.seq (.reg [oo 16 (.mv (.t 0)), oo 17 (.bin .shr (.t 16) (.c (.i .u64 32))), oo 7 (.mv (.t 17))]) (.seq (.reg [oo 18 (.mv (.t 1)), oo 19 (.bin .and (.t 18) (.c (.i .u64 4294967295))), oo 8 (.mv (.t 19))]) (.seq (.reg [oo 20 (.mv (.t 1)), oo 21 (.bin .shr (.t 20) (.c (.i .u64 32))), oo 9 (.mv (.t 21))]) (.seq (.reg [oo 22 (.mv (.t 6)), oo 23 (.mv (.t 8)), oo 24 (.bin .mul (.t 22) (.t 23)), oo 10 (.mv (.t 24))]) (.seq (.reg [oo 25 (.mv (.t 7)), oo 26 (.mv (.t 8)), oo 27 (.bin .mul (.t 25) (.t 26)), oo 28 (.mv (.t 10)), oo 29 (.bin .shr (.t 28) (.c (.i .u64 32))), oo 30 (.bin .add (.t 27) (.t 29)), oo 11 (.mv (.t 30))]) (.seq (.reg [oo 31 (.mv (.t 11)), oo 32 (.bin .and (.t 31) (.c (.i .u64 4294967295))), oo 12 (.mv (.t 32))]) (.seq (.reg [oo 33 (.mv (.t 11)), oo 34 (.bin .shr (.t 33) (.c (.i .u64 32))), oo 13 (.mv (.t 34))]) (.seq (.reg [oo 35 (.mv (.t 12)), oo 36 (.mv (.t 6)), oo 37 (.mv (.t 9)), oo 38 (.bin .mul (.t 36) (.t 37)), oo 39 (.bin .add (.t 35) (.t 38)), oo 12 (.mv (.t 39))]) (.seq (.reg [oo 40 (.mv (.t 7)), oo 41 (.mv (.t 9)), oo 42 (.bin .mul (.t 40) (.t 41)), oo 43 (.mv (.t 13)), oo 44 (.bin .add (.t 42) (.t 43)), oo 45 (.mv (.t 12)), oo 46 (.bin .shr (.t 45) (.c (.i .u64 32))), oo 47 (.bin .add (.t 44) (.t 46)), oo 4 (.mv (.t 47))]) (.seq (.reg [oo 48 (.mv (.t 0)), oo 49 (.mv (.t 1)), oo 50 (.bin .mul (.t 48) (.t 49)), oo 5 (.mv (.t 50))]) .ret))))))))))))
def mul64I : IFn := { np := 2, N := 51, ct := [], code := mul64C, res := [.t 4, .t 5] }
abbrev mulC (f32 f64 : FuncId) : ICode := (.seq (.reg [oo 4 (.mv (.c (.i .u64 0))), oo 5 (.mv (.c (.i .u64 0)))]) (.seq (.cond (.c (.b false)) (.seq (.reg [oo 11 (.mv (.t 0)), oo 12 (.i2i .u32 (.t 11)), oo 13 (.mv (.t 1)), oo 14 (.i2i .u32 (.t 13)), oo 15 (.call (.c (.fn f32 [])) [.t 12, .t 14]), oo 10 (.mv (.t 15)), oo 16 (.ext (.t 10) 0), oo 17 (.ext (.t 10) 1), oo 6 (.mv (.t 16)), oo 7 (.mv (.t 17))]) (.seq (.reg [oo 18 (.mv (.t 6)), oo 19 (.i2i .u64 (.t 18)), oo 20 (.mv (.t 7)), oo 21 (.i2i .u64 (.t 20)), oo 4 (.mv (.t 19)), oo 5 (.mv (.t 21))]) .ret)) .skip) (.seq (.reg [oo 23 (.mv (.t 0)), oo 24 (.mv (.t 1)), oo 25 (.call (.c (.fn f64 [])) [.t 23, .t 24]), oo 22 (.mv (.t 25)), oo 26 (.ext (.t 22) 0), oo 27 (.ext (.t 22) 1), oo 8 (.mv (.t 26)), oo 9 (.mv (.t 27))]) (.seq (.reg [oo 28 (.mv (.t 8)), oo 29 (.mv (.t 9)), oo 4 (.mv (.t 28)), oo 5 (.mv (.t 29))]) .ret))))
def mulI (f32 f64 : FuncId) : IFn := { np := 2, N := 30, ct := [], code := mulC f32 f64, res := [.t 4, .t 5] }
def mulK : Ct
 | [.i .u64 1, .i .u64 c], _, n => some (decide (0 ≤ c ∧ c ≤ 255), { v := .tup [.i .u64 0, .i .u64 c], n })
 | _, _, _ => none
theorem and256 {c : Int} (hc : 0 ≤ c ∧ c ≤ 255) : andI .u64 c 4294967295 = c := by
 obtain ⟨k, rfl⟩ := Int.eq_ofNat_of_zero_le hc.1
 have h : ∀ k : Fin 256, andI .u64 ((k.1 : Nat) : Int) 4294967295 = ((k.1 : Nat) : Int) := by decide
 exact h ⟨k, by omega⟩
section
variable {P : Program} {f f32 f64 fm : FuncId} {fn : Func}
theorem w_mul64 (hm : P.follows .mixedOrders = true) (hf : P.funcs[f]? = some fn) (hI : compF P fn = some mul64I) (c : Int) (hc : 0 ≤ c ∧ c ≤ 255) :
 FTL P f [.i .u64 1, .i .u64 c] [] 0 (.tup [.i .u64 0, .i .u64 c]) [] 0 := by
 refine FTL.of_iw (cx := cxT []) Sound.nil hm hf hI (by simp [mul64I]) (iw_of_jw ?_)
 dsimp only [mul64I]
 have e1 := and256 hc
 have e2 : (c).fdiv 4294967296 = 0 := by rw [Int.fdiv_eq_ediv_of_nonneg _ (by decide)]; omega
 have e3 : IntKind.u64.wrap c = c := by rw [wrapU64]; omega
 have e4 : andI .u64 1 4294967295 = 1 := by decide
 have e5 : andI .u64 0 4294967295 = 0 := by decide
 have e6 : IntKind.u64.wrap 0 = 0 := by decide
 simp (maxSteps := 400000) only [go_sem, e1, e2, e3, e4, e5, e6, Int.zero_mul, Int.one_mul, Int.zero_add, Int.add_zero, Int.zero_fdiv, simprocAttr]
 exact Ends.pureE rfl rfl
theorem s_mul64 (hm : P.follows .mixedOrders = true) (hc : Go.Ab.callable P f = true) (hf : P.funcs[f]? = some fn) (hI : compF P fn = some mul64I) : SoundAt P f mulK := fun args h n c E hk ht => by
 unfold mulK at hk
 split at hk
 · cases hk
   exact CallOK.pure hc rfl rfl (w_mul64 hm hf hI _ (of_decide_eq_true ht)) _ _
 · cases hk
theorem w_mul (hm : P.follows .mixedOrders = true) (hf : P.funcs[f]? = some fn) (hI : compF P fn = some (mulI f32 f64)) (h64 : SoundAt P f64 mulK) (c : Int) (hc : 0 ≤ c ∧ c ≤ 255) :
 FTL P f [.i .u64 1, .i .u64 c] [] 0 (.tup [.i .u64 0, .i .u64 c]) [] 0 := by
 refine FTL.of_iw (cx := cxT [(f64, mulK)]) (Sound.cons h64 Sound.nil) hm hf hI (by simp [mulI]) (iw_of_jw ?_)
 dsimp only [mulI]
 have e1 : decide (0 ≤ c ∧ c ≤ 255) = true := decide_eq_true hc
 simp (maxSteps := 400000) only [go_sem, e1, mulK, simprocAttr]
 exact Ends.pureE rfl rfl
theorem s_mul (hm : P.follows .mixedOrders = true) (hc : Go.Ab.callable P f = true) (hf : P.funcs[f]? = some fn) (hI : compF P fn = some (mulI f32 f64)) (h64 : SoundAt P f64 mulK) : SoundAt P f mulK := fun args h n c E hk ht => by
 unfold mulK at hk
 split at hk
 · cases hk
   exact CallOK.pure hc rfl rfl (w_mul hm hf hI h64 _ (of_decide_eq_true ht)) _ _
 · cases hk
end
/-! Repeat -/
def neg1 : List UInt8 := [99, 97, 110, 110, 111, 116, 32, 98, 101, 32, 110, 101, 103, 97, 116, 105, 118, 101]
def neg2 : List UInt8 := [116, 104, 101, 32, 114, 101, 115, 117, 108, 116, 32, 111, 102, 32, 40, 108, 101, 110, 40, 120, 41, 32, 42, 32, 99, 111, 117, 110, 116, 41, 32, 111, 118, 101, 114, 102, 108, 111, 119, 115]
abbrev rptL (z : Nat) : ICode := (.seq (.seq (.reg [oo 34 (.mv (.t 8)), oo 35 (.mv (.t 7)), oo 36 (.lenV (.t 35)), ot 37 (.bin .lss (.t 34) (.t 36))]) (.cond (.t 37) .skip (.exit 0))) (.block 1 (.dreg [(oo 38 (.mv (.t 8)), []), (oo 39 (.mv (.t 7)), [0]), (oo 40 (.mv (.t 8)), [0, 1]), (oo 41 (.slV z (.t 39) (some (.t 40)) none none), [0]), (oo 42 (.mv (.t 7)), [0, 1, 2, 3]), (oo 43 (.mv (.t 8)), [0, 1, 2, 3, 4]), (oo 44 (.slV z (.t 42) none (some (.t 43)) none), [0, 1, 2, 3]), (oo 45 (.cpy z (.t 41) (.t 44)), [0]), (oo 46 (.bin .add (.t 38) (.t 45)), []), (oo 8 (.mv (.t 46)), [])])))
abbrev rptC (z bytes : Nat) (zs : List AV) (ts : TypeId) (fm : FuncId) : ICode := (.seq (.reg [oo 4 (.mv (.c (.ns)))])
 (.seq (.seq (.reg [oo 9 (.mv (.t 1)), ot 10 (.bin .lss (.t 9) (.c (.i .i64 0)))]) (.cond (.t 10) (.reg [oo 11 (.mki ts (.c (.s neg1))), on_ (.pan (.t 11))]) .skip))
 (.seq (.reg [oo 13 (.mv (.t 0)), oo 14 (.lenV (.t 13)), oo 15 (.i2i .u64 (.t 14)), oo 16 (.mv (.t 1)), oo 17 (.i2i .u64 (.t 16)), oo 18 (.call (.c (.fn fm [])) [.t 15, .t 17]), oo 12 (.mv (.t 18)), oo 19 (.ext (.t 12) 0), oo 20 (.ext (.t 12) 1), oo 5 (.mv (.t 19)), oo 6 (.mv (.t 20))])
 (.seq (.seq (.reg [oo 21 (.mv (.t 5)), oo 22 (.bin .gtr (.t 21) (.c (.i .u64 0))), ot 23 (.mv (.t 22)), og 24 (.mv (.t 6)) 23 false false, og 25 (.bin .gtr (.t 24) (.c (.i .u64 9223372036854775807))) 23 false false, ot 26 (.pick (.t 23) (.c (.b true)) (.t 25))]) (.cond (.t 26) (.reg [oo 27 (.mki ts (.c (.s neg2))), on_ (.pan (.t 27))]) .skip))
 (.seq (.reg [oo 28 (.mv (.t 6)), oo 29 (.i2i .i64 (.t 28)), oo 30 (.mks z bytes zs (.t 29) (.t 29)), oo 7 (.mv (.t 30))])
 (.seq (.reg [oo 31 (.mv (.t 7)), oo 32 (.mv (.t 0)), oo 33 (.cpy z (.t 31) (.t 32)), oo 8 (.mv (.t 33))])
 (.seq (.block 0 (.loop (rptL z)))
 (.seq (.reg [oo 47 (.mv (.t 7)), oo 4 (.mv (.t 47))]) .ret))))))))
def rptI (z bytes : Nat) (zs : List AV) (ts : TypeId) (fm : FuncId) : IFn := { np := 2, N := 48, ct := [10, 26, 37], code := rptC z bytes zs ts fm, res := [.t 4] }
section
variable {P : Program} {α : Type} {row : α → List AV} {z bytes : Nat} {zs : List AV} {ts : TypeId} {f fm : FuncId} {fn : Func}
theorem zeros_len : ∀ {m : Nat}, zs.length = z → (zeros zs m).length = m * z
 | 0, _ => by simp [zeros]
 | m + 1, h => by rw [zeros_s, List.length_append, zeros_len h, h, Nat.add_mul, Nat.one_mul, Nat.add_comm]
theorem zeros_add (m n : Nat) : zeros zs (m + n) = zeros zs m ++ zeros zs n := by
 induction m with
 | zero => simp [zeros]
 | succ m ih => rw [Nat.succ_add, zeros_s, zeros_s, ih, List.append_assoc]
theorem rpt_one (hm : P.follows .mixedOrders = true) (hf : P.funcs[f]? = some fn) (hI : compF P fn = some (rptI z bytes zs ts fm)) (hmul : SoundAt P fm mulK) (hlen : ∀ a, (row a).length = z) (hzl : zs.length = z) (hbel : ∀ a, belL 0 (row a) = true) (hone : ∀ a, oneAll (row a) = true) (hzb : belL 0 zs = true)
 (a : α) (k : Nat) (hk : k ≤ 255) (hg : bytes * k ≤ 281474976710656) :
 FTL P f [.fz (row a) 1, .i .i64 k] [] 0 (.fz (rows row (List.replicate k a)) k) [] 0 := by
 have hR : ∀ j, (rows row (List.replicate j a)).length = j * z := fun j => by rw [rows_len hlen, List.length_replicate]
 have hRa : ∀ i j, rows row (List.replicate (i + j) a) = rows row (List.replicate i a) ++ rows row (List.replicate j a) := fun i j => by rw [← rows_append, List.replicate_append_replicate]
 have hR1 : rows row (List.replicate 1 a) = row a := by simp [rows]
 have hRb : ∀ n j, belL n (rows row (List.replicate j a)) = true := fun n j => belL_mono0 _ (rows_bel hbel)
 have hRo : ∀ j, oneAll (rows row (List.replicate j a)) = true := fun j => rows_one1 hone _
 generalize hRR : (fun j => rows row (List.replicate j a)) = R at *
 have hRe : ∀ j, rows row (List.replicate j a) = R j := fun j => by rw [← hRR]
 simp only [hRe] at *
 rw [← hR1]
 have hZ : ∀ m, (zeros zs m).length = m * z := fun m => zeros_len hzl
 have hZa := zeros_add (zs := zs)
 have hZb : ∀ n m, belL n (zeros zs m) = true := fun n m => by
  induction m with
  | zero => rfl
  | succ m ih => rw [zeros_s, belL_append, ih, belL_mono0 _ hzb]; rfl
 generalize hZZ : (fun m => zeros zs m) = Z at *
 have hZe : ∀ m, zeros zs m = Z m := fun m => by rw [← hZZ]
 simp only [hZe] at hZ hZa hZb
 refine FTL.of_cov (cx := cxT [(fm, mulK)]) (Sound.cons hmul Sound.nil) hm hf hI (by simp [rptI]) (iw_of_jw ?_)
 dsimp only [rptI]
 have c0 : decide ((k : Int) < 0) = false := decide_eq_false (by omega)
 have w1 : IntKind.u64.wrap 1 = 1 := by decide
 have w2 : IntKind.u64.wrap (k : Int) = (k : Int) := by rw [wrapU64]; omega
 have w3 : IntKind.i64.wrap (k : Int) = (k : Int) := wrapL (by omega) (by omega)
 have c1 : decide (0 ≤ (k : Int) ∧ (k : Int) ≤ 255) = true := decide_eq_true (by omega)
 have c2 : decide ((0 : Int) < 0) = false := by decide
 have c3 : decide (9223372036854775807 < (k : Int)) = false := decide_eq_false (by omega)
 have c4 : decide (0 ≤ (k : Int) ∧ (k : Int) ≤ (k : Int) ∧ bytes * k ≤ 281474976710656 ∧ (k : Int) ≤ 9223372036854775807) = true := decide_eq_true (by omega)
 have t1 : List.take (1 * z) (R 1) = R 1 := List.take_of_length_le (by rw [hR]; omega)
 have c4' : decide (0 ≤ (k : Int) ∧ (bytes : Int) * (k : Int) ≤ 281474976710656 ∧ (k : Int) ≤ 9223372036854775807) = true := decide_eq_true (by
  refine ⟨by omega, ?_, by omega⟩
  have : ((bytes * k : Nat) : Int) ≤ 281474976710656 := by omega
  rwa [Int.natCast_mul] at this)
 obtain ⟨j0, hj0⟩ : ∃ j0, (if 1 ≤ k then 1 else k) = j0 := ⟨_, rfl⟩
 have hj0k : j0 ≤ 1 ∧ j0 ≤ k ∧ (1 ≤ j0 ∨ k = 0) := by rw [← hj0]; split <;> omega
 have hcut : ∀ i j, i ≤ j → List.take (i * z) (R j) = R i := fun i j h => by
  rw [show j = i + (j - i) by omega, hRa]; exact tk1 (hR i)
 have hzm : ∀ i j, i ≤ j → i * z ≤ j * z := fun i j h => Nat.mul_le_mul_right _ h
 have hzd : ∀ i j, i ≤ j → List.drop (i * z) (Z j) = Z (j - i) := fun i j h => by
  conv => lhs; rw [show j = i + (j - i) by omega, hZa]
  exact dr1 (hZ i)
 have t2 := hcut j0 1 hj0k.1
 have t3 : decide (j0 * z ≤ k * z) = true := decide_eq_true (hzm _ _ hj0k.2.1)
 have t4 := hzd j0 k hj0k.2.1
 simp (maxSteps := 400000) only [go_sem, mulK, c0, c1, c2, c3, c4, c4', w1, w2, w3, hR, hZe, hZ, hRo, List.drop_zero, List.take_zero, t1, t2, t3, t4, hj0, simprocAttr]
 refine Loop.by (F := ⟨P, cxT [(fm, mulK)], [10, 26, 37], 48, 0⟩) (Sound.cons hmul Sound.nil) hm (X := Nat) (fun j => j ≤ k ∧ (1 ≤ j ∨ k = 0)) (fun j => k - j)
  (fun j => [(8, .i .i64 (j : Int)), (7, .sl 0 0 k k)]) (fun j => [(0, { cells := R j ++ Z (k - j) })]) 1 j0 (Nat.zero_le _) hj0k.2 ?_ ?_ (fun j hj => ?_)
 · simp (maxSteps := 400000) only [go_sem, AV.bel, belL, nblt, simprocAttr]
 · simp (maxSteps := 400000) only [go_sem, belL_append, hRb, hZb, AV.bel, belL, simprocAttr]
 by_cases hlt : j < k
 · have d1 : decide ((j : Int) < (k : Int)) = true := decide_eq_true (by omega)
   have d2 : decide (0 ≤ (j : Int) ∧ (j : Int) ≤ (k : Int) ∧ 0 ≤ (k : Int)) = true := decide_eq_true (by omega)
   have d3 : decide (0 ≤ (j : Int) ∧ (j : Int) ≤ (k : Int)) = true := decide_eq_true (by omega)
   obtain ⟨mn, hmn⟩ : ∃ mn, (if j ≤ k - j then j else k - j) = mn := ⟨_, rfl⟩
   have hmn' : 1 ≤ mn ∧ mn ≤ j ∧ j + mn ≤ k := by rw [← hmn]; split <;> omega
   have u1 : List.take (j * z) (R j ++ Z (k - j)) = R j := tk1 (hR j)
   have u2 := hcut mn j hmn'.2.1
   have a1 : ¬ k = j := by omega
   have u3 : List.drop (j * z + mn * z) (R j ++ Z (k - j)) = Z (k - (j + mn)) := by
    rw [show k - j = mn + (k - (j + mn)) by omega, hZa, ← List.append_assoc]
    exact dr1 (by rw [List.length_append, hR, hZ])
   have u4 : decide (j * z + mn * z ≤ (R j ++ Z (k - j)).length) = true := decide_eq_true (by
    rw [List.length_append, hR, hZ, ← Nat.add_mul, ← Nat.add_mul]
    exact hzm _ _ (by omega))
   have w4 : IntKind.i64.wrap ((j : Int) + (mn : Int)) = ((j + mn : Nat) : Int) := by rw [wrapL (by omega) (by omega)]; omega
   simp (maxSteps := 400000) only [go_sem, d1, d2, d3, hR, hZ, hRo, hmn, u1, u2, u3, u4, a1, w4, if_false, List.drop_zero, AV.bel, belL, nblt, simprocAttr]

   refine ⟨j + mn, ⟨⟨hmn'.2.2, .inl (by omega)⟩, by omega⟩, rfl, ?_, ?_⟩
   · rw [hRa]
   · simp only [belL_append, hRb, hZb, Bool.and_self]
 · have d1 : decide ((j : Int) < (k : Int)) = false := decide_eq_false (by omega)
   obtain rfl : j = k := by omega
   simp (maxSteps := 400000) only [go_sem, d1, simprocAttr]
   have hz0 : Z (j - j) = [] := List.eq_nil_of_length_eq_zero (by rw [hZ]; simp)
   rw [hz0, List.append_nil]
   refine CovS.frz (b := 0) (k := { cells := R j }) (h' := []) (o := 0) (m := j) (cs := R j) (v' := .fz (R j) j) rfl rfl (.inl ⟨j, rfl, Nat.le_refl _⟩) (.inl (by simp)) FzV.hit (fun c kk hc => by simp [hget] at hc) ?_
   exact CovS.ends (Ends.pureE (hRb 0 j) rfl)
end
end Go.Ab
