/- Contracts of chapter 40: decoders. -/
import Derived.Test.YtndbgcmgjnjnhaaPicP1
import Derived.Test.YtndbgcmgjnjnhaaAbPtr
import Derived.Test.YtndbgcmgjnjnhaaAbLoops
namespace Go.Proofs.Pic
open Go.Ab
set_option maxRecDepth 100000
set_option maxHeartbeats 4000000
set_option linter.unusedSimpArgs false
set_option linter.unusedVariables false

structure Ly where
  lv : Bool
  id : Int
  ba : Int
  op : Int
structure Dc where
  x : Ly
  y : Ly
  z : Ly
def zLy : Ly := ⟨false, 0, 0, 0⟩
def zDc : Dc := ⟨zLy, zLy, zLy⟩
def Ly.fit (q : Ly) : Bool := decide (0 ≤ q.id) && decide (q.id ≤ 32767) && (decide (0 ≤ q.ba) && decide (q.ba ≤ 255)) && (decide (0 ≤ q.op) && decide (q.op ≤ 3)) && (q.lv || (q.id == 0 && (q.ba == 0 && q.op == 0)))
def Dc.good (d : Dc) : Bool := d.x.fit && d.y.fit && d.z.fit && (!d.y.lv || d.x.lv) && (!d.z.lv || d.y.lv)
def Dc.l (d : Dc) : List AV := [.b d.x.lv, .i .i64 d.x.id, .i .i64 d.x.ba, .i .i64 d.x.op, .b d.y.lv, .i .i64 d.y.id, .i .i64 d.y.ba, .i .i64 d.y.op, .b d.z.lv, .i .i64 d.z.id, .i .i64 d.z.ba, .i .i64 d.z.op]
def Dc.get (d : Dc) (i : Int) : Ly := if i == 0 then d.x else if i == 1 then d.y else d.z
def Dc.set (d : Dc) (i : Int) (q : Ly) : Dc := if i == 0 then { d with x := q } else if i == 1 then { d with y := q } else { d with z := q }
def Dc.cut (d : Dc) (i : Int) : Dc := if i == 0 then zDc else if i == 1 then { d with y := zLy, z := zLy } else { d with z := zLy }
/-- How far the number a is ahead of b (15 bits). -/
def lead (a b : Int) : Int := if (a - b) % 32768 ≥ 16384 then (a - b) % 32768 - 32768 else (a - b) % 32768
def fitsS (d : Dc) (s : Sh) : Bool := s.sp == 0 || ((d.get (s.sp - 1)).lv && (d.get (s.sp - 1)).id == s.id)
def showS (d : Dc) (s : Sh) : Dc × Bool :=
  let q := d.get s.sp
  let later := q.lv && decide (lead s.id q.id > 0)
  if s.ky then (if fitsS d s then ((d.cut s.sp).set s.sp ⟨true, s.id, s.ba, 0⟩, true) else (d, false))
  else if s.te == 0 then
    if fitsS d s && later && s.ba == (q.ba + 1) % 256 then (d.set s.sp { q with id := s.id, ba := s.ba }, true)
    else if later then (d.cut s.sp, false) else (d, false)
  else if fitsS d s && later && s.ba == q.ba && (decide (s.te ≤ q.op) || (s.sy && s.te == q.op + 1)) then (d.set s.sp { q with id := s.id, op := max q.op s.te }, true)
  else (d, false)

theorem w69 (x y : Int) (hx : 0 ≤ x ∧ x ≤ 32767) (hy : 0 ≤ y ∧ y ≤ 32767) : FTL Try.prog 69 [.i .i64 x, .i .i64 y, .i .i64 15] [] 0 (.tup [.i .i64 (lead x y), .i .i64 0]) [] 0 := by
  refine FTL.of_iw Sound.nil mo Try.func69 i69_eq (by simp [i69]) (iw_of_jw ?_)
  dsimp only [i69]
  have f1 : x.fdiv 32768 = 0 := by rw [Int.fdiv_eq_ediv_of_nonneg _ (by omega)]; omega
  have f2 : y.fdiv 32768 = 0 := by rw [Int.fdiv_eq_ediv_of_nonneg _ (by omega)]; omega
  have c1 : decide (x < 0) = false := decide_eq_false (by omega)
  have c2 : decide (y < 0) = false := decide_eq_false (by omega)
  have g1 : IntKind.i64.wrap (x - y) = x - y := wrap64 _ (by omega) (by omega)
  have g2 : IntKind.i64.wrap 32768 = 32768 := rfl
  have g3 : IntKind.i64.wrap 32767 = 32767 := rfl
  have g4 : ((x - y) % 32768).fdiv 16384 = (x - y) % 32768 / 16384 := Int.fdiv_eq_ediv_of_nonneg _ (by omega)
  have g5 : IntKind.i64.wrap ((x - y) % 32768 - 32768) = (x - y) % 32768 - 32768 := wrap64 _ (by omega) (by omega)
  simp only [go_sem, f1, f2, c1, c2, g1, g2, g3, and15, g4, g5, ↓reduceIte, beq_self_eq_true, bne_self_eq_false, Int.reduceAdd, Int.reduceSub, Int.reduceMul, Int.reduceNeg, Int.reduceEq, Int.reduceNe, Int.cast_ofNat_Int, Int.lt_irrefl, Int.le_refl, Nat.reduceEqDiff, Nat.reduceLeDiff, Nat.reduceLT, Int.reducePow, IntKind.bits, Nat.reduceAdd, Nat.reduceMul, Nat.reduceSub, Int.reduceBNe, Int.reduceBEq, Int.reduceLE, Int.reduceLT, Int.reduceToNat, reduceCtorEq, Nat.zero_ne_one, Nat.one_ne_zero, and_self, and_true, true_and, Option.getD_some, Option.isSome_some, wrapL, gt_iff_lt, ge_iff_le]
  repeat' (first | refine spB_i (fun _ => ?_) (fun _ => ?_) | refine andB_i ?_ ?_)
  all_goals first
    | (refine Ends.pureE rfl ?_
       simp only [lead]
       grind)
    | rfl
def k69 : Ct
  | [.i .i64 x, .i .i64 y, .i .i64 15], _, n => some (decide ((0 ≤ x ∧ x ≤ 32767) ∧ (0 ≤ y ∧ y ≤ 32767)), { v := .tup [.i .i64 (lead x y), .i .i64 0], n })
  | _, _, _ => none
theorem s69 : SoundAt Try.prog 69 k69 := fun args h n c E hc ht => by
  unfold k69 at hc
  split at hc
  · cases hc
    simp only [decide_eq_true_eq] at ht
    exact CallOK.pure (by kernel_rfl) rfl rfl (w69 _ _ ht.1 ht.2) _ _
  · cases hc
end Go.Proofs.Pic
