/- The contract of a frame's packets. -/
import Derived.Test.YtndbgcmgjnjnhaaPicM5
namespace Go.Proofs.Pic
open Go.Ab
set_option maxRecDepth 100000
set_option maxHeartbeats 4000000
set_option linter.unusedSimpArgs false
set_option linter.unusedVariables false
def pkM (S : Sh) (fm : Md) (ps : List (List UInt8)) (m k : Nat) : Md :=
 ⟨((k : Int) == (m : Int) - 1), fm.ty, (fm.sq + (k : Int)) % 65536, fm.tm, fm.ss, fm.cs, fm.xs, fm.pd,
   (Sh.mk ((k : Int) == 0) S.ky S.sy ((k : Int) == (m : Int) - 1) S.id S.ba S.te S.sp).enc ++ (ps.getD k []).take 20⟩
def partsOf (ps : List (List UInt8)) : List (List UInt8) := if ps = [] then [[]] else ps.take 8
def packets (S : Sh) (fm : Md) (ps : List (List UInt8)) : List Md := mapN (pkM S fm (partsOf ps) (partsOf ps).length) (partsOf ps).length
theorem good_any {S : Sh} (h : S.good = true) (a b : Bool) : (Sh.mk a S.ky S.sy b S.id S.ba S.te S.sp).good = true := h
def TM6 : List (Nat × Ct) := [(12, k12), (17, k45)]
theorem hTM6 : Sound Try.prog (cxT TM6) := Sound.cons s12 (Sound.cons s17 Sound.nil)
end Go.Proofs.Pic
