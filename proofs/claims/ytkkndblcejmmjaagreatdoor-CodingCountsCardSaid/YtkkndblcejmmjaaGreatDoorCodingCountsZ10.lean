/- Texts of the proof of CodingCounts, put together: LayBld, LayB2. -/
import Derived.Ground.NamesProg
import Derived.Shelf.Strings.BuilderK
import Derived.Shelf.Strings.Repeat
import Derived.Shelf.Strings.Prefix
import Derived.Test.YtkkndblcejmmjaaGreatDoorProg
/-
 DERIVED: THE SHELF's CONTRACTS AT THIS DUMP, IN PLAIN WORDS (tools/lay-plain.mjs out of 'YtkkndblcejmmjaaGreatDoorLayBld.lean', which tools/lay-shelf.mjs wrote): THE SAME DECLARATIONS UNDER THE SAME NAMES: 'import', 'namespace', 'open', 'def', 'theorem' AND NOTHING ELSE: no command of the shelf's: FOR A HAND-IN. Each laying: the table of numbers ('.._ren') and one theorem, a field a fact of the dump's own or the kernel's comparison; each contract: ONE APPLICATION.
-/
namespace Go.Proofs
open Go.Shelf
def Tryz.lays105_ren : Go.Shelf.Ren := ⟨fun | 105 => 123 | 212 => 162 | 99 => 163 | 165 => 164 | 166 => 165 | 170 => 166 | 169 => 167 | 263 => 206 | 264 => 207 | 206 => 208 | 240 => 209 | 241 => 210 | 276 => 241 | 277 => 242 | n => n, fun | 9 => 9 | 3 => 3 | 4 => 4 | 20 => 20 | 0 => 0 | 46 => 178 | 109 => 195 | 5 => 5 | 72 => 200 | 76 => 204 | 51 => 220 | 146 => 241 | 53 => 222 | 148 => 243 | 70 => 197 | 37 => 198 | 75 => 203 | 127 => 245 | 164 => 271 | 80 => 168 | n => n, fun | n => n⟩
theorem Tryz.lays105 : Go.Proofs.Lays.n105 Tryz.prog Tryz.lays105_ren := {
 mixed := by kernel_rfl
 f99 := Tryz.func163.trans (congrArg some (by kernel_rfl))
 f105 := Tryz.func123.trans (congrArg some (by kernel_rfl))
 f165 := Tryz.func164.trans (congrArg some (by kernel_rfl))
 f166 := Tryz.func165.trans (congrArg some (by kernel_rfl))
 f169 := Tryz.func167.trans (congrArg some (by kernel_rfl))
 f170 := Tryz.func166.trans (congrArg some (by kernel_rfl))
 f206 := Tryz.func208.trans (congrArg some (by kernel_rfl))
 f212 := Tryz.func162.trans (congrArg some (by kernel_rfl))
 f240 := Tryz.func209.trans (congrArg some (by kernel_rfl))
 f241 := Tryz.func210.trans (congrArg some (by kernel_rfl))
 f263 := Tryz.func206.trans (congrArg some (by kernel_rfl))
 f264 := Tryz.func207.trans (congrArg some (by kernel_rfl))
 f276 := Tryz.func241.trans (congrArg some (by kernel_rfl))
 f277 := Tryz.func242.trans (congrArg some (by kernel_rfl))
 t0 := Tryz.underlying0
 a0 := Tryz.isAgg0
 z0 := Tryz.sizeOf0
 v0 := Tryz.zeroValue0
 t3 := Tryz.underlying3
 a3 := Tryz.isAgg3
 z3 := Tryz.sizeOf3
 v3 := Tryz.zeroValue3
 t4 := Tryz.underlying4
 a4 := Tryz.isAgg4
 z4 := Tryz.sizeOf4
 v4 := Tryz.zeroValue4
 t5 := Tryz.underlying5
 a5 := Tryz.isAgg5
 z5 := Tryz.sizeOf5
 v5 := Tryz.zeroValue5
 t9 := Tryz.underlying9
 a9 := Tryz.isAgg9
 z9 := Tryz.sizeOf9
 v9 := Tryz.zeroValue9
 t20 := Tryz.underlying20
 a20 := Tryz.isAgg20
 z20 := Tryz.sizeOf20
 v20 := Tryz.zeroValue20
 t37 := Tryz.underlying198
 a37 := Tryz.isAgg198
 z37 := Tryz.sizeOf198
 v37 := Tryz.zeroValue198
 t46 := Tryz.underlying178
 a46 := Tryz.isAgg178
 z46 := Tryz.sizeOf178
 v46 := Tryz.zeroValue178
 t51 := Tryz.underlying220
 a51 := Tryz.isAgg220
 z51 := Tryz.sizeOf220
 v51 := Tryz.zeroValue220
 t53 := Tryz.underlying222
 a53 := Tryz.isAgg222
 z53 := Tryz.sizeOf222
 v53 := Tryz.zeroValue222
 t70 := Tryz.underlying197
 a70 := Tryz.isAgg197
 z70 := Tryz.sizeOf197
 v70 := Tryz.zeroValue197
 t72 := Tryz.underlying200
 a72 := Tryz.isAgg200
 z72 := Tryz.sizeOf200
 v72 := Tryz.zeroValue200
 t75 := Tryz.underlying203
 a75 := Tryz.isAgg203
 z75 := Tryz.sizeOf203
 v75 := Tryz.zeroValue203
 t76 := Tryz.underlying204
 a76 := Tryz.isAgg204
 z76 := Tryz.sizeOf204
 v76 := Tryz.zeroValue204
 t109 := Tryz.underlying195
 a109 := Tryz.isAgg195
 z109 := Tryz.sizeOf195
 v109 := Tryz.zeroValue195
 t127 := Tryz.underlying245
 a127 := Tryz.isAgg245
 z127 := Tryz.sizeOf245
 v127 := Tryz.zeroValue245
 t146 := Tryz.underlying241
 a146 := Tryz.isAgg241
 z146 := Tryz.sizeOf241
 v146 := Tryz.zeroValue241
 t148 := Tryz.underlying243
 a148 := Tryz.isAgg243
 z148 := Tryz.sizeOf243
 v148 := Tryz.zeroValue243
 t164 := Tryz.underlying271
 a164 := Tryz.isAgg271
 z164 := Tryz.sizeOf271
 v164 := Tryz.zeroValue271 }
end Go.Proofs

/- The contracts of strings.Builder's writers, laid at this program. -/
namespace Go.Proofs.YtkkndblcejmmjaaGreatDoor
set_option linter.unusedVariables false
set_option linter.unusedSimpArgs false
open Go.RowKit Go.Shelf

end Go.Proofs.YtkkndblcejmmjaaGreatDoor
