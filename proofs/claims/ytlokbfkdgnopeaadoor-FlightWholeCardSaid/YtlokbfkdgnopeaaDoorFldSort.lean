/-
 DERIVED: THE SHELF's CONTRACTS AT THIS DUMP, IN PLAIN WORDS (tools/lay-plain.mjs out of 'FldSortS.lean', which tools/lay-shelf.mjs wrote): THE SAME DECLARATIONS UNDER THE SAME NAMES: 'import', 'namespace', 'open', 'def', 'theorem' AND NOTHING ELSE: no command of the shelf's: FOR A HAND-IN. Each laying: the table of numbers ('.._ren') and one theorem, a field a fact of the dump's own or the kernel's comparison; each contract: ONE APPLICATION.
-/
import Derived.Shelf.SlSortCmp.WholeK
import Derived.Shelf.SlicesG.Cmp
import Derived.Test.YtlokbfkdgnopeaaDoorProg
namespace Go.Proofs
open Go.Shelf
def Tryd.sortG_ren : Go.Shelf.Ren := ⟨fun | 6 => 54 | 15 => 63 | 14 => 62 | 28 => 80 | 29 => 81 | 20 => 72 | 21 => 73 | 22 => 74 | 23 => 75 | 24 => 76 | 25 => 77 | 26 => 78 | 27 => 79 | 46 => 86 | 47 => 87 | 48 => 88 | 49 => 89 | 50 => 90 | 57 => 94 | n => n, fun | 22 => 85 | 24 => 89 | 25 => 117 | 3 => 3 | 39 => 58 | 0 => 0 | 53 => 37 | 55 => 100 | 4 => 4 | 46 => 137 | 45 => 136 | 50 => 90 | 5 => 5 | 9 => 9 | 66 => 148 | 70 => 106 | 76 => 154 | 77 => 155 | n => n, fun | n => n⟩
theorem Tryd.sortG : Go.Proofs.SlLaysF0.n6 Tryd.prog Tryd.sortG_ren := {
 mixed := by kernel_rfl
 f6 := ⟨Tryd.f54.name, by decide, Tryd.func54.trans (congrArg some (by kernel_rfl))⟩
 f14 := ⟨Tryd.f62.name, by decide, Tryd.func62.trans (congrArg some (by kernel_rfl))⟩
 f15 := Tryd.func63.trans (congrArg some (by kernel_rfl))
 f20 := ⟨Tryd.f72.name, by decide, Tryd.func72.trans (congrArg some (by kernel_rfl))⟩
 f21 := ⟨Tryd.f73.name, by decide, Tryd.func73.trans (congrArg some (by kernel_rfl))⟩
 f22 := ⟨Tryd.f74.name, by decide, Tryd.func74.trans (congrArg some (by kernel_rfl))⟩
 f23 := ⟨Tryd.f75.name, by decide, Tryd.func75.trans (congrArg some (by kernel_rfl))⟩
 f24 := ⟨Tryd.f76.name, by decide, Tryd.func76.trans (congrArg some (by kernel_rfl))⟩
 f25 := ⟨Tryd.f77.name, by decide, Tryd.func77.trans (congrArg some (by kernel_rfl))⟩
 f26 := ⟨Tryd.f78.name, by decide, Tryd.func78.trans (congrArg some (by kernel_rfl))⟩
 f27 := ⟨Tryd.f79.name, by decide, Tryd.func79.trans (congrArg some (by kernel_rfl))⟩
 f28 := Tryd.func80.trans (congrArg some (by kernel_rfl))
 f29 := Tryd.func81.trans (congrArg some (by kernel_rfl))
 f46 := ⟨Tryd.f86.name, by decide, Tryd.func86.trans (congrArg some (by kernel_rfl))⟩
 f47 := Tryd.func87.trans (congrArg some (by kernel_rfl))
 f48 := Tryd.func88.trans (congrArg some (by kernel_rfl))
 f49 := ⟨Tryd.f89.name, by decide, Tryd.func89.trans (congrArg some (by kernel_rfl))⟩
 f50 := ⟨Tryd.f90.name, by decide, Tryd.func90.trans (congrArg some (by kernel_rfl))⟩
 f57 := ⟨Tryd.f94.name, by decide, Tryd.func94.trans (congrArg some (by kernel_rfl))⟩
 t0 := Tryd.underlying0
 a0 := Tryd.isAgg0
 z0 := Tryd.sizeOf0
 v0 := Tryd.zeroValue0
 t3 := Tryd.underlying3
 a3 := Tryd.isAgg3
 z3 := Tryd.sizeOf3
 v3 := Tryd.zeroValue3
 t4 := Tryd.underlying4
 a4 := Tryd.isAgg4
 z4 := Tryd.sizeOf4
 v4 := Tryd.zeroValue4
 t5 := Tryd.underlying5
 a5 := Tryd.isAgg5
 z5 := Tryd.sizeOf5
 v5 := Tryd.zeroValue5
 t9 := Tryd.underlying9
 a9 := Tryd.isAgg9
 z9 := Tryd.sizeOf9
 v9 := Tryd.zeroValue9
 t22 := Tryd.underlying85
 a22 := Tryd.isAgg85
 z22 := Tryd.sizeOf85
 v22 := Tryd.zeroValue85
 t25 := Tryd.underlying117
 a25 := Tryd.isAgg117
 z25 := Tryd.sizeOf117
 v25 := Tryd.zeroValue117
 t39 := Tryd.underlying58
 a39 := Tryd.isAgg58
 z39 := Tryd.sizeOf58
 v39 := Tryd.zeroValue58
 t45 := Tryd.underlying136
 a45 := Tryd.isAgg136
 z45 := Tryd.sizeOf136
 v45 := Tryd.zeroValue136
 t46 := Tryd.underlying137
 a46 := Tryd.isAgg137
 z46 := Tryd.sizeOf137
 v46 := Tryd.zeroValue137
 t50 := Tryd.underlying90
 a50 := Tryd.isAgg90
 z50 := Tryd.sizeOf90
 v50 := Tryd.zeroValue90
 t53 := Tryd.underlying37
 a53 := Tryd.isAgg37
 z53 := Tryd.sizeOf37
 v53 := Tryd.zeroValue37
 t55 := Tryd.underlying100
 a55 := Tryd.isAgg100
 z55 := Tryd.sizeOf100
 v55 := Tryd.zeroValue100
 t66 := Tryd.underlying148
 a66 := Tryd.isAgg148
 z66 := Tryd.sizeOf148
 v66 := Tryd.zeroValue148
 t70 := Tryd.underlying106
 a70 := Tryd.isAgg106
 z70 := Tryd.sizeOf106
 v70 := Tryd.zeroValue106
 t76 := Tryd.underlying154
 a76 := Tryd.isAgg154
 z76 := Tryd.sizeOf154
 v76 := Tryd.zeroValue154
 t77 := Tryd.underlying155
 a77 := Tryd.isAgg155
 z77 := Tryd.sizeOf155
 v77 := Tryd.zeroValue155 }
def Tryd.cmpInt_ren : Go.Shelf.Ren := ⟨fun | 5 => 37 | 7 => 51 | n => n, fun | 22 => 3 | 3 => 3 | 4 => 4 | n => n, fun | n => n⟩
theorem Tryd.cmpInt : Go.Proofs.SlLaysC2.n5 Tryd.prog Tryd.cmpInt_ren := {
 mixed := by kernel_rfl
 f5 := ⟨Tryd.f37.name, by decide, Tryd.func37.trans (congrArg some (by kernel_rfl))⟩
 f7 := ⟨Tryd.f51.name, by decide, Tryd.func51.trans (congrArg some (by kernel_rfl))⟩
 t3 := Tryd.underlying3
 a3 := Tryd.isAgg3
 z3 := Tryd.sizeOf3
 v3 := Tryd.zeroValue3
 t4 := Tryd.underlying4
 a4 := Tryd.isAgg4
 z4 := Tryd.sizeOf4
 v4 := Tryd.zeroValue4
 t22 := Tryd.underlying3
 a22 := Tryd.isAgg3
 z22 := Tryd.sizeOf3
 v22 := Tryd.zeroValue3 }
end Go.Proofs
