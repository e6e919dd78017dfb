/- Contracts of 'within': are all of some numbers from a least to a greatest one? -/
import Derived.Test.YtiacdfhaopnekaaArrS
import Derived.Test.YtiacdfhaopnekaaArrT
import Derived.Test.YtiacdfhaopnekaaAbShs
import Derived.Test.YtiacdfhaopnekaaAbRead
namespace Go.Proofs.Arr
open Go.Ab
set_option maxRecDepth 100000
set_option maxHeartbeats 4000000
set_option linter.unusedSimpArgs false
set_option linter.unusedVariables false

theorem wCl (x lo hi : Int) : FTL Try.prog 41 [.i .i64 x, .p 0 0, .p 1 0] [(0, { cells := int1 lo }), (1, { cells := int1 hi })] 2 (.b !(inI lo hi x)) [(0, { cells := int1 lo }), (1, { cells := int1 hi })] 2 := by
  refine FTL.of_iw Sound.nil mo Try.func41 i41_eq (by simp [i41]) (iw_of_jw ?_)
  dsimp only [i41]
  simp (config := { maxSteps := 400000 }) only [go_sem, int1, simprocAttr]
  repeat' (first | refine spB_i (fun _ => ?_) (fun _ => ?_) | refine andB_i ?_ ?_)
  all_goals (refine Ends.keepL rfl (congrArg _ ?_) ?_)
  all_goals first
    | (simp only [inI, decide_eq_true_eq, decide_eq_false_iff_not] at *; grind)
    | (refine ⟨rfl, rfl, by decide, rfl, rfl, by decide, trivial⟩)
def kCl : Ct
  | [.i .i64 x, .p b 0, .p c 0], h, n => (hget h b).bind fun k => (oneB k).bind fun lo => (hget h c).bind fun j => (oneB j).bind fun hi => some (!Nat.beq b c, { v := .b !(inI lo hi x), n, rd := [b, c] })
  | _, _, _ => none
theorem sCl : SoundAt Try.prog 41 kCl := fun args h n c E hc ht => by
  unfold kCl at hc
  split at hc
  · rename_i x b c'
    simp only [Option.bind_eq_some_iff] at hc
    obtain ⟨k, hk, lo, hlo, j, hj, hi, hhi, he⟩ := hc
    cases he
    rw [oneB_eq hlo] at hk
    rw [oneB_eq hhi] at hj
    have hne : b ≠ c' := fun e => by subst e; simp at ht
    refine CallOK.readL (argsL := [.i .i64 x, .p 0 0, .p 1 0]) (hL := [(0, { cells := int1 lo }), (1, { cells := int1 hi })]) (k := 2) (fun i => if i = 0 then b else c') (by kernel_rfl) rfl rfl (wCl x lo hi) (fun i hi' => ?_) (fun i kk hh => ?_) (fun i kk hh => ?_) (fun i1 i2 k1 k2 h1 h2 _ e => ?_) _ rfl
    · match i, hi' with
      | 0, _ => exact ⟨_, rfl⟩
      | 1, _ => exact ⟨_, rfl⟩
    · have hm := hget_mem hh
      simp only [List.mem_cons, Prod.mk.injEq, List.not_mem_nil, or_false] at hm
      rcases hm with ⟨rfl, rfl⟩ | ⟨rfl, rfl⟩ <;> exact ⟨by decide, rfl⟩
    · have hm := hget_mem hh
      simp only [List.mem_cons, Prod.mk.injEq, List.not_mem_nil, or_false] at hm
      rcases hm with ⟨rfl, rfl⟩ | ⟨rfl, rfl⟩
      · exact hk
      · exact hj
    · have hm := hget_mem h1
      have hm2 := hget_mem h2
      simp only [List.mem_cons, Prod.mk.injEq, List.not_mem_nil, or_false] at hm hm2
      rcases hm with ⟨rfl, rfl⟩ | ⟨rfl, rfl⟩ <;> rcases hm2 with ⟨rfl, _⟩ | ⟨rfl, _⟩ <;> simp_all
  · cases hc
def TCl : List (Nat × Ct) := [(41, kCl)]
theorem hTCl : Sound Try.prog (cxT TCl) := Sound.cons sCl Sound.nil

/-- The list's block, and those of the two bounds. -/
def hW3 (L : List AV) (lo hi : Int) (ro : Bool) : Hp := [(0, { cells := L, ro := ro }), (1, { cells := int1 lo }), (2, { cells := int1 hi })]
/-- Where the first number lies that is not within. -/
def firstOut (lo hi : Int) : List Int → Int → Int
  | [], _ => -1
  | x :: r, i => if inI lo hi x then firstOut lo hi r (i + 1) else i
theorem firstOut_neg (lo hi : Int) : ∀ (l : List Int) (i : Int), 0 ≤ i → (decide (0 ≤ firstOut lo hi l i) = !(l.all (inI lo hi)))
  | [], i, _ => rfl
  | x :: r, i, h => by
    simp only [firstOut, List.all_cons]
    by_cases hx : inI lo hi x = true
    · simp [hx, firstOut_neg lo hi r (i + 1) (by omega)]
    · simp [hx, h]
theorem firstOut_drop {lo hi : Int} : ∀ {l : List Int} {k : Nat} (i : Int), (∀ x ∈ l.take k, inI lo hi x = true) → firstOut lo hi l i = firstOut lo hi (l.drop k) (i + k)
  | l, 0, i, _ => by simp
  | [], k + 1, i, _ => rfl
  | x :: r, k + 1, i, h => by
    simp only [firstOut, h x (by simp), if_true, List.drop_succ_cons]
    rw [firstOut_drop (l := r) (k := k) (i + 1) (fun y hy => h y (by simp [hy]))]
    congr 1
    omega
theorem wIx (l : List Int) (o cap : Nat) (lo hi : Int) (ro : Bool) (hlen : l.length ≤ 1000000000000) : FTL Try.prog 55 [.sl 0 0 l.length cap, .fn 41 [.p 1 0, .p 2 0]] (hW3 (rows int1 l) lo hi ro) 3 (.i .i64 (firstOut lo hi l 0)) (hW3 (rows int1 l) lo hi ro) 3 := by
  refine FTL.of_iw hTCl mo Try.func55 i55_eq (by simp [i55]) (iw_of_jw ?_)
  dsimp only [i55, TCl, hW3]
  generalize hR : firstOut lo hi l 0 = R
  have hLb3 : belL 3 (rows int1 l) = true := belL_mono0 _ (rows_bel int1_bel)
  have hL : ∀ (k : Nat) x, l[k]? = some x → (rows int1 l)[k * 1]? = some (.i .i64 x) := fun k x hk => rows_get (j := 0) int1_len hk rfl
  generalize rows int1 l = L at hL hLb3 ⊢
  simp (config := { maxSteps := 400000 }) only [go_sem, simprocAttr]
  refine Loop.countI (F := ⟨Try.prog, cxT TCl, [9, 16], 19, 3⟩) hTCl mo l.length (fun k => ∀ x ∈ l.take k, inI lo hi x = true)
    (fun k => [(0, .sl 0 0 l.length cap), (1, .fn 41 [.p 1 0, .p 2 0]), (7, .i .i64 (l.length : Int)), (8, .i .i64 (k : Int))])
    (fun k => [(0, { cells := L, ro := ro }), (1, { cells := int1 lo }), (2, { cells := int1 hi })]) 3 (by decide) (by simp) ?_ ?_ (fun k hk ho => ?_)
  · simp (config := { maxSteps := 400000 }) only [go_sem, AV.bel, belL, nblt, simprocAttr]
  · simp (config := { maxSteps := 400000 }) only [go_sem, int1, AV.bel, belL, nblt, hLb3, simprocAttr]
  · dsimp only [TCl]
    by_cases hlt : k < l.length
    · have c1 : decide ((k : Int) < (l.length : Int)) = true := decide_eq_true (by omega)
      have c2 : decide (0 ≤ (k : Int) ∧ (k : Int) < (l.length : Int)) = true := decide_eq_true (by omega)
      have hx := hL k l[k] (List.getElem?_eq_getElem hlt)
      have hw : IntKind.i64.wrap ((k : Int) + 1) = ((k + 1 : Nat) : Int) := by rw [wrapL (by omega) (by omega)]; omega
      rw [Nat.mul_one] at hx
      have hdr : l.drop k = l[k] :: l.drop (k + 1) := List.drop_eq_getElem_cons hlt
      cases hin : inI lo hi l[k]
      · have hfo : R = (k : Int) := by
          rw [← hR, firstOut_drop 0 ho, hdr]
          simp [firstOut, hin]
        simp (config := { maxSteps := 400000 }) only [go_sem, c1, c2, hx, kCl, oneB, int1, hin, Nat.mul_one, simprocAttr]
        exact Ends.keepL rfl (by rw [hfo]) ⟨rfl, hLb3, by decide, rfl, rfl, by decide, rfl, rfl, by decide, trivial⟩
      · have hnext : ∀ x ∈ l.take (k + 1), inI lo hi x = true := by
          intro x hx
          rw [List.take_add_one, List.getElem?_eq_getElem hlt] at hx
          rcases List.mem_append.1 hx with hx | hx
          · exact ho x hx
          · simp at hx; subst hx; exact hin
        simp (config := { maxSteps := 400000 }) only [go_sem, c1, c2, hx, kCl, oneB, int1, hin, hw, hlt, AV.bel, belL, nblt, hLb3, Nat.mul_one, simprocAttr]
        exact hnext
    · have c1 : decide ((k : Int) < (l.length : Int)) = false := decide_eq_false (by omega)
      have hkl : k = l.length := by omega
      have hfo : R = -1 := by
        rw [← hR, firstOut_drop 0 ho, hkl, List.drop_length]
        rfl
      simp (config := { maxSteps := 400000 }) only [go_sem, c1, simprocAttr]
      exact Ends.keepL rfl (by rw [hfo]) ⟨rfl, hLb3, by decide, rfl, rfl, by decide, rfl, rfl, by decide, trivial⟩
/-- A list's block (not grown). -/
def intsB (len : Nat) : Blk → Option (List Int)
  | ⟨c, _, none, none⟩ => unrows 1 intV len c
  | _ => none
theorem intsB_eq {len : Nat} {k : Blk} {l : List Int} (h : intsB len k = some l) : k = { cells := rows int1 l, ro := k.ro } ∧ l.length = len := by
  unfold intsB at h
  split at h
  · obtain ⟨h1, h2⟩ := unrows_eq (f := int1) intV_eq h
    subst h1
    exact ⟨rfl, h2⟩
  · cases h
theorem intsB_rows (l : List Int) (ro : Bool) : intsB l.length { cells := rows int1 l, ro := ro } = some l := unrows_rows int1_len (fun _ => rfl) l
def kIx : Ct
  | [.sl b 0 len cap, .fn 41 [.p x 0, .p y 0]], h, n => (hget h b).bind fun k => (intsB len k).bind fun l => (hget h x).bind fun k1 => (oneB k1).bind fun lo => (hget h y).bind fun k2 => (oneB k2).bind fun hi =>
    some (decide (len ≤ 1000000000000) && (!Nat.beq b x && (!Nat.beq b y && !Nat.beq x y)), { v := .i .i64 (firstOut lo hi l 0), n, rd := [b, x, y] })
  | _, _, _ => none
theorem beq_no {a b : Nat} (h : (!Nat.beq a b) = true) : a ≠ b := fun e => by subst e; simp at h
theorem read3 {f : FuncId} {argsL : List AV} {v : AV} {b x y n : Nat} {h : Hp} {L : List AV} {lo hi : Int} {ro : Bool} (hc : Go.Ab.callable Try.prog f = true) (ha : belL 3 argsL = true) (hv : v.bel 0 = true) (hL : belL 0 L = true)
    (hf : FTL Try.prog f argsL (hW3 L lo hi ro) 3 v (hW3 L lo hi ro) 3) (hb : hget h b = some { cells := L, ro := ro }) (hx : hget h x = some { cells := int1 lo }) (hy : hget h y = some { cells := int1 hi }) (h1 : b ≠ x) (h2 : b ≠ y) (h3 : x ≠ y) :
    CallOK Try.prog f (renL (fun i => if i = 0 then b else if i = 1 then x else y) argsL) h n { v, n, rd := [b, x, y] } := by
  refine CallOK.readL (hL := hW3 L lo hi ro) (k := 3) (fun i => if i = 0 then b else if i = 1 then x else y) hc ha hv hf (fun i hi' => ?_) (fun i kk hh => ?_) (fun i kk hh => ?_) (fun i1 i2 k1 k2 g1 g2 _ e => ?_) _ rfl
  · match i, hi' with
    | 0, _ => exact ⟨_, rfl⟩
    | 1, _ => exact ⟨_, rfl⟩
    | 2, _ => exact ⟨_, rfl⟩
  · have hm := hget_mem hh
    simp only [hW3, List.mem_cons, Prod.mk.injEq, List.not_mem_nil, or_false] at hm
    rcases hm with ⟨rfl, rfl⟩ | ⟨rfl, rfl⟩ | ⟨rfl, rfl⟩
    · exact ⟨by decide, hL⟩
    · exact ⟨by decide, rfl⟩
    · exact ⟨by decide, rfl⟩
  · have hm := hget_mem hh
    simp only [hW3, List.mem_cons, Prod.mk.injEq, List.not_mem_nil, or_false] at hm
    rcases hm with ⟨rfl, rfl⟩ | ⟨rfl, rfl⟩ | ⟨rfl, rfl⟩
    · exact hb
    · exact hx
    · exact hy
  · have hm := hget_mem g1
    have hm2 := hget_mem g2
    simp only [hW3, List.mem_cons, Prod.mk.injEq, List.not_mem_nil, or_false] at hm hm2
    rcases hm with ⟨rfl, _⟩ | ⟨rfl, _⟩ | ⟨rfl, _⟩ <;> rcases hm2 with ⟨rfl, _⟩ | ⟨rfl, _⟩ | ⟨rfl, _⟩ <;> simp_all
theorem sIx : SoundAt Try.prog 55 kIx := fun args h n c E hc ht => by
  unfold kIx at hc
  split at hc
  · rename_i b len cap x y
    simp only [Option.bind_eq_some_iff] at hc
    obtain ⟨k, hk, l, hl, k1, hk1, lo, hlo, k2, hk2, hi, hhi, he⟩ := hc
    cases he
    simp only [Bool.and_eq_true, decide_eq_true_eq] at ht
    obtain ⟨e1, rfl⟩ := intsB_eq hl
    rw [e1] at hk
    rw [oneB_eq hlo] at hk1
    rw [oneB_eq hhi] at hk2
    exact read3 (argsL := [.sl 0 0 l.length cap, .fn 41 [.p 1 0, .p 2 0]]) (by kernel_rfl) rfl rfl (rows_bel int1_bel) (wIx l 0 cap lo hi _ ht.1) hk hk1 hk2 (beq_no ht.2.1) (beq_no ht.2.2.1) (beq_no ht.2.2.2)
  · cases hc
def TIx : List (Nat × Ct) := [(55, kIx)]
theorem hTIx : Sound Try.prog (cxT TIx) := Sound.cons sIx Sound.nil
theorem wCF (l : List Int) (cap : Nat) (lo hi : Int) (ro : Bool) (hlen : l.length ≤ 1000000000000) : FTL Try.prog 40 [.sl 0 0 l.length cap, .fn 41 [.p 1 0, .p 2 0]] (hW3 (rows int1 l) lo hi ro) 3 (.b !(l.all (inI lo hi))) (hW3 (rows int1 l) lo hi ro) 3 := by
  refine FTL.of_iw hTIx mo Try.func40 i40_eq (by simp [i40]) (iw_of_jw ?_)
  dsimp only [i40, TIx, hW3]
  have hLb3 : belL 3 (rows int1 l) = true := belL_mono0 _ (rows_bel int1_bel)
  have hu := intsB_rows l ro
  have hf := firstOut_neg lo hi l 0 (by decide)
  have hc : decide (l.length ≤ 1000000000000) = true := decide_eq_true hlen
  generalize rows int1 l = L at hu hLb3 ⊢
  simp (config := { maxSteps := 400000 }) only [go_sem, kIx, hu, oneB, int1, hc, hf, simprocAttr]
  exact Ends.keepL rfl rfl ⟨rfl, hLb3, by decide, rfl, rfl, by decide, rfl, rfl, by decide, trivial⟩
def kCF : Ct
  | [.sl b 0 len cap, .fn 41 [.p x 0, .p y 0]], h, n => (hget h b).bind fun k => (intsB len k).bind fun l => (hget h x).bind fun k1 => (oneB k1).bind fun lo => (hget h y).bind fun k2 => (oneB k2).bind fun hi =>
    some (decide (len ≤ 1000000000000) && (!Nat.beq b x && (!Nat.beq b y && !Nat.beq x y)), { v := .b !(l.all (inI lo hi)), n, rd := [b, x, y] })
  | _, _, _ => none
theorem sCF : SoundAt Try.prog 40 kCF := fun args h n c E hc ht => by
  unfold kCF at hc
  split at hc
  · rename_i b len cap x y
    simp only [Option.bind_eq_some_iff] at hc
    obtain ⟨k, hk, l, hl, k1, hk1, lo, hlo, k2, hk2, hi, hhi, he⟩ := hc
    cases he
    simp only [Bool.and_eq_true, decide_eq_true_eq] at ht
    obtain ⟨e1, rfl⟩ := intsB_eq hl
    rw [e1] at hk
    rw [oneB_eq hlo] at hk1
    rw [oneB_eq hhi] at hk2
    exact read3 (argsL := [.sl 0 0 l.length cap, .fn 41 [.p 1 0, .p 2 0]]) (by kernel_rfl) rfl rfl (rows_bel int1_bel) (wCF l cap lo hi _ ht.1) hk hk1 hk2 (beq_no ht.2.1) (beq_no ht.2.2.1) (beq_no ht.2.2.2)
  · cases hc
def TCF : List (Nat × Ct) := [(40, kCF)]
theorem hTCF : Sound Try.prog (cxT TCF) := Sound.cons sCF Sound.nil
theorem wWi (l : List Int) (cap : Nat) (lo hi : Int) (ro : Bool) (hlen : l.length ≤ 1000000000000) : FTL Try.prog 27 [.i .i64 lo, .i .i64 hi, .sl 0 0 l.length cap] [(0, { cells := rows int1 l, ro := ro })] 1 (.b (l.all (inI lo hi))) [(0, { cells := rows int1 l, ro := ro })] 1 := by
  refine FTL.of_iw hTCF mo Try.func27 i27_eq (by simp [i27]) (iw_of_jw ?_)
  dsimp only [i27, TCF]
  have hLb1 : belL 1 (rows int1 l) = true := belL_mono0 _ (rows_bel int1_bel)
  have hu := intsB_rows l ro
  have hc : decide (l.length ≤ 1000000000000) = true := decide_eq_true hlen
  generalize rows int1 l = L at hu hLb1 ⊢
  simp (config := { maxSteps := 400000 }) only [go_sem, kCF, hu, oneB, int1, hc, Bool.not_not, simprocAttr]
  exact Ends.keepL rfl rfl ⟨rfl, hLb1, by decide, trivial⟩
/-- within: the contract. -/
def kWi : Ct
  | [.i .i64 lo, .i .i64 hi, .sl b 0 len cap], h, n => (hget h b).bind fun k => (intsB len k).bind fun l => some (decide (len ≤ 1000000000000), { v := .b (l.all (inI lo hi)), n, rd := [b] })
  | _, _, _ => none
theorem sWi : SoundAt Try.prog 27 kWi := fun args h n c E hc ht => by
  unfold kWi at hc
  split at hc
  · rename_i lo hi b len cap
    simp only [Option.bind_eq_some_iff] at hc
    obtain ⟨k, hk, l, hl, he⟩ := hc
    cases he
    simp only [decide_eq_true_eq] at ht
    obtain ⟨e1, rfl⟩ := intsB_eq hl
    rw [e1] at hk
    exact CallOK.read1 (argsL := [.i .i64 lo, .i .i64 hi, .sl 0 0 l.length cap]) (by kernel_rfl) rfl (rows_bel int1_bel) rfl hk (wWi l cap lo hi _ ht)
  · cases hc
end Go.Proofs.Arr
