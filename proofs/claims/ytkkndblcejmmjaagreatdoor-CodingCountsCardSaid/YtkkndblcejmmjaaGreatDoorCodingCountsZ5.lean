/- Texts of the proof of CodingCounts, put together: LayFie. -/
import Derived.Ground.NamesProg
import Derived.Shelf.Strings.Fields
import Derived.Test.YtkkndblcejmmjaaGreatDoorProg
/-
 DERIVED: THE SHELF's CONTRACTS AT THIS DUMP, IN PLAIN WORDS (tools/lay-plain.mjs out of 'YtkkndblcejmmjaaGreatDoorLayFie.lean', which tools/lay-shelf.mjs wrote): THE SAME DECLARATIONS UNDER THE SAME NAMES: 'import', 'namespace', 'open', 'def', 'theorem' AND NOTHING ELSE: no command of the shelf's: FOR A HAND-IN. Each laying: the table of numbers ('.._ren') and one theorem, a field a fact of the dump's own or the kernel's comparison; each contract: ONE APPLICATION.
-/
namespace Go.Proofs
open Go.Shelf
def Tryz.lays157_ren : Go.Shelf.Ren := ⟨fun | 157 => 205 | 229 => 239 | 199 => 240 | 261 => 257 | 311 => 265 | 312 => 266 | n => n, fun | 9 => 9 | 31 => 35 | 3 => 3 | 5 => 5 | 4 => 4 | 119 => 247 | 0 => 0 | 40 => 270 | 152 => 284 | 21 => 21 | 154 => 286 | 51 => 220 | 141 => 288 | 196 => 293 | 193 => 290 | 198 => 296 | 49 => 294 | 194 => 291 | 201 => 299 | 226 => 302 | 46 => 178 | 227 => 303 | n => n, fun | 0 => 3 | 6 => 4 | n => n⟩
theorem Tryz.lays157 : Go.Proofs.Lays.n157 Tryz.prog Tryz.lays157_ren := {
 mixed := by kernel_rfl
 f157 := Tryz.func205.trans (congrArg some (by kernel_rfl))
 f199 := Tryz.func240.trans (congrArg some (by kernel_rfl))
 f229 := Tryz.func239.trans (congrArg some (by kernel_rfl))
 f261 := Tryz.func257.trans (congrArg some (by kernel_rfl))
 f311 := Tryz.func265.trans (congrArg some (by kernel_rfl))
 f312 := Tryz.func266.trans (congrArg some (by kernel_rfl))
 t0 := Tryz.underlying0
 a0 := Tryz.isAgg0
 z0 := Tryz.sizeOf0
 v0 := Tryz.zeroValue0
 t3 := Tryz.underlying3
 a3 := Tryz.isAgg3
 z3 := Tryz.sizeOf3
 v3 := Tryz.zeroValue3
 t4 := Tryz.underlying4
 a4 := Tryz.isAgg4
 z4 := Tryz.sizeOf4
 v4 := Tryz.zeroValue4
 t5 := Tryz.underlying5
 a5 := Tryz.isAgg5
 z5 := Tryz.sizeOf5
 v5 := Tryz.zeroValue5
 t9 := Tryz.underlying9
 a9 := Tryz.isAgg9
 z9 := Tryz.sizeOf9
 v9 := Tryz.zeroValue9
 t21 := Tryz.underlying21
 a21 := Tryz.isAgg21
 z21 := Tryz.sizeOf21
 v21 := Tryz.zeroValue21
 t31 := Tryz.underlying35
 a31 := Tryz.isAgg35
 z31 := Tryz.sizeOf35
 v31 := Tryz.zeroValue35
 t40 := Tryz.underlying270
 a40 := Tryz.isAgg270
 z40 := Tryz.sizeOf270
 v40 := Tryz.zeroValue270
 t46 := Tryz.underlying178
 a46 := Tryz.isAgg178
 z46 := Tryz.sizeOf178
 v46 := Tryz.zeroValue178
 t49 := Tryz.underlying294
 a49 := Tryz.isAgg294
 z49 := Tryz.sizeOf294
 v49 := Tryz.zeroValue294
 t51 := Tryz.underlying220
 a51 := Tryz.isAgg220
 z51 := Tryz.sizeOf220
 v51 := Tryz.zeroValue220
 t119 := Tryz.underlying247
 a119 := Tryz.isAgg247
 z119 := Tryz.sizeOf247
 t141 := Tryz.underlying288
 a141 := Tryz.isAgg288
 z141 := Tryz.sizeOf288
 v141 := Tryz.zeroValue288
 t152 := Tryz.underlying284
 a152 := Tryz.isAgg284
 z152 := Tryz.sizeOf284
 v152 := Tryz.zeroValue284
 t154 := Tryz.underlying286
 a154 := Tryz.isAgg286
 z154 := Tryz.sizeOf286
 v154 := Tryz.zeroValue286
 t193 := Tryz.underlying290
 a193 := Tryz.isAgg290
 z193 := Tryz.sizeOf290
 v193 := Tryz.zeroValue290
 t194 := Tryz.underlying291
 a194 := Tryz.isAgg291
 z194 := Tryz.sizeOf291
 v194 := Tryz.zeroValue291
 t196 := Tryz.underlying293
 a196 := Tryz.isAgg293
 z196 := Tryz.sizeOf293
 v196 := Tryz.zeroValue293
 t198 := Tryz.underlying296
 a198 := Tryz.isAgg296
 z198 := Tryz.sizeOf296
 v198 := Tryz.zeroValue296
 t201 := Tryz.underlying299
 a201 := Tryz.isAgg299
 z201 := Tryz.sizeOf299
 v201 := Tryz.zeroValue299
 t226 := Tryz.underlying302
 a226 := Tryz.isAgg302
 z226 := Tryz.sizeOf302
 v226 := Tryz.zeroValue302
 t227 := Tryz.underlying303
 a227 := Tryz.isAgg303
 z227 := Tryz.sizeOf303
 v227 := Tryz.zeroValue303
 g0 := by kernel_rfl
 g6 := by kernel_rfl }
end Go.Proofs
