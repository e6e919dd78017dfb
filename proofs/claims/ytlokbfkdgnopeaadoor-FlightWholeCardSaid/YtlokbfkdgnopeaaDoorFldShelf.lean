/-
 DERIVED: THE SHELF's CONTRACTS AT THIS DUMP, IN PLAIN WORDS (tools/lay-plain.mjs out of 'FldShelf.lean', which tools/lay-shelf.mjs wrote): THE SAME DECLARATIONS UNDER THE SAME NAMES: 'import', 'namespace', 'open', 'def', 'theorem' AND NOTHING ELSE: no command of the shelf's: FOR A HAND-IN. Each laying: the table of numbers ('.._ren') and one theorem, a field a fact of the dump's own or the kernel's comparison; each contract: ONE APPLICATION.
-/
import Derived.Shelf.Strings.Builder1
import Derived.Shelf.Strings.Builder2
import Derived.Shelf.Strings.Trim
import Derived.Shelf.Strings.BuilderF
import Derived.Shelf.Strings.Prefix
import Derived.Shelf.Bits.Mul64
import Derived.Shelf.Strings.Repeat
import Derived.Test.YtlokbfkdgnopeaaDoorProg
namespace Go.Proofs
open Go.Shelf
def Tryd.lays160_ren : Go.Shelf.Ren := ⟨fun | 160 => 60 | 232 => 65 | 231 => 64 | 227 => 66 | 234 => 68 | 233 => 67 | 236 => 70 | 235 => 69 | 228 => 82 | 271 => 85 | 151 => 84 | 197 => 83 | 120 => 93 | 152 => 92 | 260 => 91 | 137 => 95 | 119 => 96 | 224 => 97 | 225 => 98 | 217 => 99 | 266 => 100 | n => n, fun | 9 => 9 | 4 => 4 | 3 => 3 | 5 => 5 | 117 => 130 | 116 => 129 | 0 => 0 | 124 => 133 | 21 => 21 | 105 => 145 | 46 => 58 | 119 => 157 | 139 => 160 | 138 => 159 | n => n, fun | 3 => 1 | 4 => 2 | n => n⟩
theorem Tryd.lays160 : Go.Proofs.Lays.n160 Tryd.prog Tryd.lays160_ren := {
 mixed := by kernel_rfl
 f119 := Tryd.func96.trans (congrArg some (by kernel_rfl))
 f120 := Tryd.func93.trans (congrArg some (by kernel_rfl))
 f137 := Tryd.func95.trans (congrArg some (by kernel_rfl))
 f151 := Tryd.func84.trans (congrArg some (by kernel_rfl))
 f152 := Tryd.func92.trans (congrArg some (by kernel_rfl))
 f160 := Tryd.func60.trans (congrArg some (by kernel_rfl))
 f197 := Tryd.func83.trans (congrArg some (by kernel_rfl))
 f217 := Tryd.func99.trans (congrArg some (by kernel_rfl))
 f224 := Tryd.func97.trans (congrArg some (by kernel_rfl))
 f225 := Tryd.func98.trans (congrArg some (by kernel_rfl))
 f227 := Tryd.func66.trans (congrArg some (by kernel_rfl))
 f228 := Tryd.func82.trans (congrArg some (by kernel_rfl))
 f231 := Tryd.func64.trans (congrArg some (by kernel_rfl))
 f232 := Tryd.func65.trans (congrArg some (by kernel_rfl))
 f233 := Tryd.func67.trans (congrArg some (by kernel_rfl))
 f234 := Tryd.func68.trans (congrArg some (by kernel_rfl))
 f235 := Tryd.func69.trans (congrArg some (by kernel_rfl))
 f236 := Tryd.func70.trans (congrArg some (by kernel_rfl))
 f260 := Tryd.func91.trans (congrArg some (by kernel_rfl))
 f266 := Tryd.func100.trans (congrArg some (by kernel_rfl))
 f271 := Tryd.func85.trans (congrArg some (by kernel_rfl))
 t0 := Tryd.underlying0
 a0 := Tryd.isAgg0
 z0 := Tryd.sizeOf0
 v0 := Tryd.zeroValue0
 t3 := Tryd.underlying3
 a3 := Tryd.isAgg3
 z3 := Tryd.sizeOf3
 v3 := Tryd.zeroValue3
 t4 := Tryd.underlying4
 a4 := Tryd.isAgg4
 z4 := Tryd.sizeOf4
 v4 := Tryd.zeroValue4
 t5 := Tryd.underlying5
 a5 := Tryd.isAgg5
 z5 := Tryd.sizeOf5
 v5 := Tryd.zeroValue5
 t9 := Tryd.underlying9
 a9 := Tryd.isAgg9
 z9 := Tryd.sizeOf9
 v9 := Tryd.zeroValue9
 t21 := Tryd.underlying21
 a21 := Tryd.isAgg21
 z21 := Tryd.sizeOf21
 v21 := Tryd.zeroValue21
 t46 := Tryd.underlying58
 a46 := Tryd.isAgg58
 z46 := Tryd.sizeOf58
 v46 := Tryd.zeroValue58
 t105 := Tryd.underlying145
 a105 := Tryd.isAgg145
 z105 := Tryd.sizeOf145
 v105 := Tryd.zeroValue145
 t116 := Tryd.underlying129
 a116 := Tryd.isAgg129
 z116 := Tryd.sizeOf129
 t117 := Tryd.underlying130
 a117 := Tryd.isAgg130
 z117 := Tryd.sizeOf130
 v117 := Tryd.zeroValue130
 t119 := Tryd.underlying157
 a119 := Tryd.isAgg157
 z119 := Tryd.sizeOf157
 t124 := Tryd.underlying133
 a124 := Tryd.isAgg133
 z124 := Tryd.sizeOf133
 v124 := Tryd.zeroValue133
 t138 := Tryd.underlying159
 a138 := Tryd.isAgg159
 z138 := Tryd.sizeOf159
 v138 := Tryd.zeroValue159
 t139 := Tryd.underlying160
 a139 := Tryd.isAgg160
 z139 := Tryd.sizeOf160
 v139 := Tryd.zeroValue160
 g3 := by kernel_rfl
 g4 := by kernel_rfl }
open Go.RowKit in
theorem Tryd.strings_Trim_one (s : ByteArray) (c : UInt8) (hc : c.toNat < 128) (w : World) (hs : s.size ≤ 9223372036854775807) :
 Calls Tryd.prog 60 #[.string s, .string ⟨#[c]⟩] w fun e w' => e = .returned (.string ⟨(Lib.trimB s.data.toList c).toArray⟩) ∧ (w' = w ∨ w' = w.drew) := Any.strings_Trim_one Tryd.lays160 s c hc w hs
def Tryd.lays105_ren : Go.Shelf.Ren := ⟨fun | 105 => 6 | 212 => 18 | 99 => 19 | 165 => 20 | 166 => 21 | 170 => 22 | 169 => 23 | 263 => 41 | 264 => 42 | 206 => 43 | 240 => 44 | 241 => 45 | 276 => 56 | 277 => 57 | n => n, fun | 9 => 9 | 3 => 3 | 4 => 4 | 20 => 20 | 0 => 0 | 46 => 58 | 109 => 59 | 5 => 5 | 72 => 64 | 76 => 68 | 51 => 37 | 146 => 98 | 53 => 100 | 148 => 101 | 70 => 62 | 37 => 23 | 75 => 67 | 127 => 103 | 164 => 118 | 80 => 71 | n => n, fun | n => n⟩
theorem Tryd.lays105 : Go.Proofs.Lays.n105 Tryd.prog Tryd.lays105_ren := {
 mixed := by kernel_rfl
 f99 := Tryd.func19.trans (congrArg some (by kernel_rfl))
 f105 := Tryd.func6.trans (congrArg some (by kernel_rfl))
 f165 := Tryd.func20.trans (congrArg some (by kernel_rfl))
 f166 := Tryd.func21.trans (congrArg some (by kernel_rfl))
 f169 := Tryd.func23.trans (congrArg some (by kernel_rfl))
 f170 := Tryd.func22.trans (congrArg some (by kernel_rfl))
 f206 := Tryd.func43.trans (congrArg some (by kernel_rfl))
 f212 := Tryd.func18.trans (congrArg some (by kernel_rfl))
 f240 := Tryd.func44.trans (congrArg some (by kernel_rfl))
 f241 := Tryd.func45.trans (congrArg some (by kernel_rfl))
 f263 := Tryd.func41.trans (congrArg some (by kernel_rfl))
 f264 := Tryd.func42.trans (congrArg some (by kernel_rfl))
 f276 := Tryd.func56.trans (congrArg some (by kernel_rfl))
 f277 := Tryd.func57.trans (congrArg some (by kernel_rfl))
 t0 := Tryd.underlying0
 a0 := Tryd.isAgg0
 z0 := Tryd.sizeOf0
 v0 := Tryd.zeroValue0
 t3 := Tryd.underlying3
 a3 := Tryd.isAgg3
 z3 := Tryd.sizeOf3
 v3 := Tryd.zeroValue3
 t4 := Tryd.underlying4
 a4 := Tryd.isAgg4
 z4 := Tryd.sizeOf4
 v4 := Tryd.zeroValue4
 t5 := Tryd.underlying5
 a5 := Tryd.isAgg5
 z5 := Tryd.sizeOf5
 v5 := Tryd.zeroValue5
 t9 := Tryd.underlying9
 a9 := Tryd.isAgg9
 z9 := Tryd.sizeOf9
 v9 := Tryd.zeroValue9
 t20 := Tryd.underlying20
 a20 := Tryd.isAgg20
 z20 := Tryd.sizeOf20
 v20 := Tryd.zeroValue20
 t37 := Tryd.underlying23
 a37 := Tryd.isAgg23
 z37 := Tryd.sizeOf23
 v37 := Tryd.zeroValue23
 t46 := Tryd.underlying58
 a46 := Tryd.isAgg58
 z46 := Tryd.sizeOf58
 v46 := Tryd.zeroValue58
 t51 := Tryd.underlying37
 a51 := Tryd.isAgg37
 z51 := Tryd.sizeOf37
 v51 := Tryd.zeroValue37
 t53 := Tryd.underlying100
 a53 := Tryd.isAgg100
 z53 := Tryd.sizeOf100
 v53 := Tryd.zeroValue100
 t70 := Tryd.underlying62
 a70 := Tryd.isAgg62
 z70 := Tryd.sizeOf62
 v70 := Tryd.zeroValue62
 t72 := Tryd.underlying64
 a72 := Tryd.isAgg64
 z72 := Tryd.sizeOf64
 v72 := Tryd.zeroValue64
 t75 := Tryd.underlying67
 a75 := Tryd.isAgg67
 z75 := Tryd.sizeOf67
 v75 := Tryd.zeroValue67
 t76 := Tryd.underlying68
 a76 := Tryd.isAgg68
 z76 := Tryd.sizeOf68
 v76 := Tryd.zeroValue68
 t109 := Tryd.underlying59
 a109 := Tryd.isAgg59
 z109 := Tryd.sizeOf59
 v109 := Tryd.zeroValue59
 t127 := Tryd.underlying103
 a127 := Tryd.isAgg103
 z127 := Tryd.sizeOf103
 v127 := Tryd.zeroValue103
 t146 := Tryd.underlying98
 a146 := Tryd.isAgg98
 z146 := Tryd.sizeOf98
 v146 := Tryd.zeroValue98
 t148 := Tryd.underlying101
 a148 := Tryd.isAgg101
 z148 := Tryd.sizeOf101
 v148 := Tryd.zeroValue101
 t164 := Tryd.underlying118
 a164 := Tryd.isAgg118
 z164 := Tryd.sizeOf118
 v164 := Tryd.zeroValue118 }
theorem Tryd.Builder_Extra_105 : Builder.Extra Tryd.prog Tryd.lays105_ren := {
 sizeBuilder := by kernel_rfl
 liesBuilder := by kernel_rfl
 t5 := Tryd.underlying5
 a5 := Tryd.isAgg5
 z5 := Tryd.sizeOf5
 v5 := Tryd.zeroValue5
 infoByte := by kernel_rfl
 cellsByte := by kernel_rfl
 sizeByte := by kernel_rfl
 neB5 := by decide }
open Go.RowKit Go.Lib in
theorem Tryd.strings_Repeat (s : ByteArray) (c : Nat) (w : World) (hc : c ≤ 9223372036854775807) (hlen : s.size * c ≤ 140737488355328) :
 Calls Tryd.prog 6 #[.string s, .int .i64 c] w fun e w' => e = .returned (.string ⟨(Lib.repeatL s.data.toList c).toArray⟩) ∧ Below w.heap.size w w' := Any.strings_Repeat Tryd.lays105 Tryd.Builder_Extra_105 s c w hc hlen
end Go.Proofs
