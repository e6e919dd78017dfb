/- The abstract layer, part 36: functions that look at several blocks. -/
import Derived.Test.YtkpiibllomjeaaaAbPtr
import Derived.Test.YtkpiibllomjeaaaAbChunk
namespace Go.Ab
set_option linter.unusedVariables false
def int1 (x : Int) : List AV := [.i .i64 x]
def intV : List AV → Option Int
 | [.i .i64 x] => some x
 | _ => none
theorem intV_eq (c : List AV) (a : Int) (h : intV c = some a) : c = int1 a := by
 unfold intV at h
 split at h
 · cases h; rfl
 · cases h
theorem int1_len (x : Int) : (int1 x).length = 1 := rfl
theorem int1_bel (x : Int) : belL 0 (int1 x) = true := rfl
def oneB : Blk → Option Int
 | ⟨[.i .i64 x], false, none, none⟩ => some x
 | _ => none
theorem oneB_eq {k : Blk} {x : Int} (h : oneB k = some x) : k = { cells := int1 x } := by
 unfold oneB at h
 split at h
 · cases h; rfl
 · cases h
end Go.Ab
