/- Texts of the proof of ItemTexts, put together: LayFie. -/
import Derived.Ground.NamesProg
import Derived.Shelf.Strings.Fields
import Derived.Test.YtelpdjhkedhppaaGreatDoorProg
set_option linter.unusedVariables false
set_option linter.unusedSimpArgs false
/-
 DERIVED: THE SHELF's CONTRACTS AT THIS DUMP, IN PLAIN WORDS (tools/lay-plain.mjs out of 'YtelpdjhkedhppaaGreatDoorLayFie.lean', which tools/lay-shelf.mjs wrote): THE SAME DECLARATIONS UNDER THE SAME NAMES: 'import', 'namespace', 'open', 'def', 'theorem' AND NOTHING ELSE: no command of the shelf's: FOR A HAND-IN. Each laying: the table of numbers ('.._ren') and one theorem, a field a fact of the dump's own or the kernel's comparison; each contract: ONE APPLICATION.
-/
namespace Go.Proofs
open Go.Shelf
def Tryz.lays157_ren : Go.Shelf.Ren := ⟨fun | 157 => 135 | 229 => 184 | 199 => 185 | 261 => 239 | 311 => 269 | 312 => 270 | n => n, fun | 9 => 9 | 31 => 55 | 3 => 3 | 5 => 5 | 4 => 4 | 119 => 195 | 0 => 0 | 40 => 197 | 152 => 238 | 21 => 21 | 154 => 240 | 51 => 176 | 141 => 242 | 196 => 270 | 193 => 267 | 198 => 273 | 49 => 271 | 194 => 268 | 201 => 276 | 226 => 288 | 46 => 119 | 227 => 289 | n => n, fun | 0 => 1 | 6 => 4 | n => n⟩
theorem Tryz.lays157 : Go.Proofs.Lays.n157 Tryz.prog Tryz.lays157_ren := {
 mixed := by kernel_rfl
 f157 := Tryz.func135.trans (congrArg some (by kernel_rfl))
 f199 := Tryz.func185.trans (congrArg some (by kernel_rfl))
 f229 := Tryz.func184.trans (congrArg some (by kernel_rfl))
 f261 := Tryz.func239.trans (congrArg some (by kernel_rfl))
 f311 := Tryz.func269.trans (congrArg some (by kernel_rfl))
 f312 := Tryz.func270.trans (congrArg some (by kernel_rfl))
 t0 := Tryz.underlying0
 a0 := Tryz.isAgg0
 z0 := Tryz.sizeOf0
 v0 := Tryz.zeroValue0
 t3 := Tryz.underlying3
 a3 := Tryz.isAgg3
 z3 := Tryz.sizeOf3
 v3 := Tryz.zeroValue3
 t4 := Tryz.underlying4
 a4 := Tryz.isAgg4
 z4 := Tryz.sizeOf4
 v4 := Tryz.zeroValue4
 t5 := Tryz.underlying5
 a5 := Tryz.isAgg5
 z5 := Tryz.sizeOf5
 v5 := Tryz.zeroValue5
 t9 := Tryz.underlying9
 a9 := Tryz.isAgg9
 z9 := Tryz.sizeOf9
 v9 := Tryz.zeroValue9
 t21 := Tryz.underlying21
 a21 := Tryz.isAgg21
 z21 := Tryz.sizeOf21
 v21 := Tryz.zeroValue21
 t31 := Tryz.underlying55
 a31 := Tryz.isAgg55
 z31 := Tryz.sizeOf55
 v31 := Tryz.zeroValue55
 t40 := Tryz.underlying197
 a40 := Tryz.isAgg197
 z40 := Tryz.sizeOf197
 v40 := Tryz.zeroValue197
 t46 := Tryz.underlying119
 a46 := Tryz.isAgg119
 z46 := Tryz.sizeOf119
 v46 := Tryz.zeroValue119
 t49 := Tryz.underlying271
 a49 := Tryz.isAgg271
 z49 := Tryz.sizeOf271
 v49 := Tryz.zeroValue271
 t51 := Tryz.underlying176
 a51 := Tryz.isAgg176
 z51 := Tryz.sizeOf176
 v51 := Tryz.zeroValue176
 t119 := Tryz.underlying195
 a119 := Tryz.isAgg195
 z119 := Tryz.sizeOf195
 t141 := Tryz.underlying242
 a141 := Tryz.isAgg242
 z141 := Tryz.sizeOf242
 v141 := Tryz.zeroValue242
 t152 := Tryz.underlying238
 a152 := Tryz.isAgg238
 z152 := Tryz.sizeOf238
 v152 := Tryz.zeroValue238
 t154 := Tryz.underlying240
 a154 := Tryz.isAgg240
 z154 := Tryz.sizeOf240
 v154 := Tryz.zeroValue240
 t193 := Tryz.underlying267
 a193 := Tryz.isAgg267
 z193 := Tryz.sizeOf267
 v193 := Tryz.zeroValue267
 t194 := Tryz.underlying268
 a194 := Tryz.isAgg268
 z194 := Tryz.sizeOf268
 v194 := Tryz.zeroValue268
 t196 := Tryz.underlying270
 a196 := Tryz.isAgg270
 z196 := Tryz.sizeOf270
 v196 := Tryz.zeroValue270
 t198 := Tryz.underlying273
 a198 := Tryz.isAgg273
 z198 := Tryz.sizeOf273
 v198 := Tryz.zeroValue273
 t201 := Tryz.underlying276
 a201 := Tryz.isAgg276
 z201 := Tryz.sizeOf276
 v201 := Tryz.zeroValue276
 t226 := Tryz.underlying288
 a226 := Tryz.isAgg288
 z226 := Tryz.sizeOf288
 v226 := Tryz.zeroValue288
 t227 := Tryz.underlying289
 a227 := Tryz.isAgg289
 z227 := Tryz.sizeOf289
 v227 := Tryz.zeroValue289
 g0 := by kernel_rfl
 g6 := by kernel_rfl }
end Go.Proofs
