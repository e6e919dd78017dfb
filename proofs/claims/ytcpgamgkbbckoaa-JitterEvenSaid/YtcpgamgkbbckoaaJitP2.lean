/- JitterEven's plain law: packets that all take the same time. -/
import Derived.Test.YtcpgamgkbbckoaaJitP1
namespace Go.Proofs.Jit
open Go.Ab
set_option maxRecDepth 100000
set_option linter.unusedSimpArgs false
set_option linter.unusedVariables false
def pkE (sq tm : Int) : Md := ⟨true, 0, sq, tm, 0, [], [], 0, []⟩
def evA (ck at_ nx st tr : Int) : Bf := ⟨ck, at_, true, true, nx, st, tr, tr, 0, 0, []⟩
def evX (ck now sq tm S T : Int) : Bf := ⟨ck, now, true, true, sq, S, T, T, 0, 0, [⟨pkE sq tm, S⟩]⟩
def evZ (ck : Int) : Bf := ⟨ck, 0, false, false, 0, 0, 0, 0, 0, 0, []⟩
theorem pkE_md {sq tm : Int} (hq : 0 ≤ sq ∧ sq ≤ 65535) (ht : 0 ≤ tm ∧ tm ≤ 4294967295) : mdB (pkE sq tm) = true := by
 have h1 : inZ 0 65535 sq = true := inZ_iff.2 hq
 have h2 : inZ 0 4294967295 tm = true := inZ_iff.2 ht
 simp only [mdB, mdPre, pkE, h1, h2]
 rfl
theorem lead_self (a : Int) : lead a a = 0 := by simp [lead]
theorem evX_good {ck now sq tm S T : Int} (hc : 1 ≤ ck ∧ ck ≤ 96) (hn : 0 ≤ now ∧ now ≤ 1099511627776) (hq : 0 ≤ sq ∧ sq ≤ 65535) (ht : 0 ≤ tm ∧ tm ≤ 4294967295) (hS : 0 ≤ S ∧ S ≤ 1152921504606846976) (hm : S % 4294967296 = tm) (hT : -1152921504606846976 ≤ T ∧ T ≤ 1152921504606846976) : goodB (evX ck now sq tm S T) = true := by
 have g1 := inI_of hc
 have g2 := inI_of hn
 have g3 := inI_of hq
 have g4 := inI_of hS
 have g5 : inI 0 S S = true := inI_of (by omega)
 have g6 : inI (-1152921504606846976) T T = true := inI_of (by omega)
 have g7 : decide (T ≤ 1152921504606846976) = true := decide_eq_true hT.2
 have g8 := pkE_md hq ht
 have g9 : (S % 4294967296 == tm) = true := beq_iff_eq.2 hm
 have h1 : headB (evX ck now sq tm S T) = true := by
  show (inI 1 96 ck && (inI 0 1099511627776 now && (inI 0 1048576 0 && inI 0 1099511627776 0))) = true
  rw [g1, g2]; rfl
 have h2 : midB (evX ck now sq tm S T) = true := by
  show (inI 0 65535 sq && (inI 0 1152921504606846976 S && (inI (-1152921504606846976) T T && decide (T ≤ 1152921504606846976)))) = true
  rw [g3, g4, g6, g7]; rfl
 have h3 : heldB sq S (-1) [⟨pkE sq tm, S⟩] = true := by
  show (mdB (pkE sq tm) && (inI 0 S S && ((S % 4294967296 == tm) && (inI (-1 + 1) 511 (lead sq sq) && true)))) = true
  rw [g8, g5, g9, lead_self]; rfl
 show (headB (evX ck now sq tm S T) && (midB (evX ck now sq tm S T) && (heldB sq S (-1) [⟨pkE sq tm, S⟩] && true))) = true
 rw [h1, h2, h3]; rfl
theorem evA_good {ck at_ nx st tr : Int} (hc : 1 ≤ ck ∧ ck ≤ 96) (hn : 0 ≤ at_ ∧ at_ ≤ 1099511627776) (hq : 0 ≤ nx ∧ nx ≤ 65535) (hS : 0 ≤ st ∧ st ≤ 1152921504606846976) (hT : -1152921504606846976 ≤ tr ∧ tr ≤ 1152921504606846976) : goodB (evA ck at_ nx st tr) = true := by
 have g1 := inI_of hc
 have g2 := inI_of hn
 have g3 := inI_of hq
 have g4 := inI_of hS
 have g6 : inI (-1152921504606846976) tr tr = true := inI_of (by omega)
 have g7 : decide (tr ≤ 1152921504606846976) = true := decide_eq_true hT.2
 have h1 : headB (evA ck at_ nx st tr) = true := by
  show (inI 1 96 ck && (inI 0 1099511627776 at_ && (inI 0 1048576 0 && inI 0 1099511627776 0))) = true
  rw [g1, g2]; rfl
 have h2 : midB (evA ck at_ nx st tr) = true := by
  show (inI 0 65535 nx && (inI 0 1152921504606846976 st && (inI (-1152921504606846976) tr tr && decide (tr ≤ 1152921504606846976)))) = true
  rw [g3, g4, g6, g7]; rfl
 show (headB (evA ck at_ nx st tr) && (midB (evA ck at_ nx st tr) && (true && true))) = true
 rw [h1, h2]; rfl
theorem evZ_good {ck : Int} (hc : 1 ≤ ck ∧ ck ≤ 96) : goodB (evZ ck) = true := by
 have g1 := inI_of hc
 simp only [goodB, headB, emptyB, zerosB, evZ, g1]
 rfl
theorem late_ok {b : Bf} {now : Int} (hg : goodB b = true) (hn : b.ti ≤ now ∧ now ≤ 1099511627776) : lateB b now = 0 := by
 have g : inI b.ti 1099511627776 now = true := inI_of hn
 simp only [lateB, hg, g, cond_true]
theorem put_first {ck now sq tm : Int} (hc : 1 ≤ ck ∧ ck ≤ 96) (hn : 0 ≤ now ∧ now ≤ 1099511627776) (hq : 0 ≤ sq ∧ sq ≤ 65535) (ht : 0 ≤ tm ∧ tm ≤ 4294967295) :
 putS (evZ ck) now (pkE sq tm) = (evX ck now sq tm (1099511627776 + tm) (now * ck - (1099511627776 + tm)), 0) := by
 unfold putS
 rw [if_pos (late_ok (evZ_good hc) hn), pkE_md hq ht]
 rfl
theorem put_next {ck at_ nx st tr now tm : Int} (hc : 1 ≤ ck ∧ ck ≤ 96) (ha : 0 ≤ at_) (hn : at_ ≤ now ∧ now ≤ 1099511627776) (hq : 0 ≤ nx ∧ nx ≤ 65535) (ht : 0 ≤ tm ∧ tm ≤ 4294967295) (hS : 0 ≤ st ∧ st + 20 * ck ≤ 1152921504606846976) (hT : -1152921504606846976 ≤ tr ∧ tr ≤ 1152921504606846976)
 (htm : (st + 20 * ck) % 4294967296 = tm) (htr : now * ck - (st + 20 * ck) = tr) :
 putS (evA ck at_ nx st tr) now (pkE nx tm) = (evX ck now nx tm (st + 20 * ck) tr, 0) := by
 unfold putS
 have hl : lead (pkE nx tm).sq (evA ck at_ nx st tr).nx = 0 := lead_self nx
 have hst : stampS (evA ck at_ nx st tr) (pkE nx tm) = st + 20 * ck := by
  show st + lead32 tm (st % 4294967296) = st + 20 * ck
  have : lead32 tm (st % 4294967296) = 20 * ck := by
   unfold lead32
   have : (tm - st % 4294967296) % 4294967296 = 20 * ck := by omega
   rw [this, if_neg (by omega)]
  rw [this]
 rw [if_pos (late_ok (evA_good hc ⟨ha, by omega⟩ hq ⟨hS.1, by omega⟩ hT) hn), pkE_md hq ht, hl, hst]
 have c1 : decide (st + 20 * ck < 0) = false := decide_eq_false (by omega)
 have c2 : decide (st + 20 * ck > 1152921504606846976) = false := decide_eq_false (by omega)
 show (bif true then bif true then _ else _ else _) = _
 simp only [cond_true, evA, pos, dupB, c1, c2]
 show (putAt _ _ _ _ _, (0 : Int)) = _
 simp only [putAt, cond_true, htr, evX, insL]
 have e1 : (0 : Int) + min (max (tr - tr) (tr - tr)) 65535 - (0 + 8) / 16 = 0 := by
  rw [show tr - tr = 0 by omega]; decide
 have e2 : min tr tr = tr := by omega
 have e3 : max st (st + 20 * ck) = st + 20 * ck := by omega
 rw [e1, e2, e3]
 rfl
theorem due_one {ck now sq tm S T : Int} (hc : 1 ≤ ck ∧ ck ≤ 96) (hn : 0 ≤ now ∧ now ≤ 1000000000) (hg : goodB (evX ck now sq tm S T) = true) (hST : S + T = now * ck) : dueS (evX ck now sq tm S T) = now + 10 ∧ dueE (evX ck now sq tm S T) = (now + 10, 0) := by
 have h1 : dueS (evX ck now sq tm S T) = now + 10 := by
  show dueF S T 0 ck = now + 10
  unfold dueF upZ
  rw [hST]
  have e1 : -(-(now * ck) / ck) = now := by
   rw [← Int.neg_mul, Int.mul_ediv_cancel _ (by omega)]; omega
  rw [e1]
  simp
  omega
 refine ⟨h1, ?_⟩
 unfold dueE
 rw [hg, h1]
 have c1 : decide (now + 10 > 1099511627776) = false := decide_eq_false (by omega)
 rw [c1]
 rfl
theorem take_one {ck now sq tm S T : Int} (hc : 1 ≤ ck ∧ ck ≤ 96) (hn : 0 ≤ now ∧ now ≤ 1000000000) (hg : goodB (evX ck now sq tm S T) = true) (hST : S + T = now * ck) :
 tkS (evX ck now sq tm S T) (now + 10) = (evA ck (now + 10) ((sq + 1) % 65536) S T, [pkE sq tm], 0) := by
 unfold tkS
 have hl : lateB (evX ck now sq tm S T) (now + 10) = 0 := late_ok hg ⟨by show now ≤ now + 10; omega, by omega⟩
 rw [if_pos hl, (due_one hc hn hg hST).1]
 have c1 : decide (now + 10 < now + 10) = false := decide_eq_false (by omega)
 rw [c1]
 show tkF _ _ _ _ = _
 simp only [tkF]
 have c2 : (sq == sq) = true := beq_self_eq_true _
 show (bif true && ((sq == sq) && true) then _ else _) = _
 rw [c2]
 rfl
end Go.Proofs.Jit
