/- Texts of the proof of DecisionTexts, put together: LayFie. -/
import Derived.Ground.NamesProg
import Derived.Shelf.Strings.Fields
import Derived.Test.YtaidkmnbjbnciaaGreatDoorProg
/-
 DERIVED: THE SHELF's CONTRACTS AT THIS DUMP, IN PLAIN WORDS (tools/lay-plain.mjs out of 'YtaidkmnbjbnciaaGreatDoorLayFie.lean', which tools/lay-shelf.mjs wrote): THE SAME DECLARATIONS UNDER THE SAME NAMES: 'import', 'namespace', 'open', 'def', 'theorem' AND NOTHING ELSE: no command of the shelf's: FOR A HAND-IN. Each laying: the table of numbers ('.._ren') and one theorem, a field a fact of the dump's own or the kernel's comparison; each contract: ONE APPLICATION.
-/
namespace Go.Proofs
open Go.Shelf
def Tryz.lays157_ren : Go.Shelf.Ren := ⟨fun | 157 => 126 | 229 => 174 | 199 => 175 | 261 => 203 | 311 => 243 | 312 => 244 | n => n, fun | 9 => 9 | 31 => 57 | 3 => 3 | 5 => 5 | 4 => 4 | 119 => 221 | 0 => 0 | 40 => 223 | 152 => 241 | 21 => 21 | 154 => 243 | 51 => 244 | 141 => 246 | 196 => 286 | 193 => 283 | 198 => 289 | 49 => 287 | 194 => 284 | 201 => 292 | 226 => 309 | 46 => 231 | 227 => 310 | n => n, fun | 0 => 0 | 6 => 1 | n => n⟩
theorem Tryz.lays157 : Go.Proofs.Lays.n157 Tryz.prog Tryz.lays157_ren := {
 mixed := by kernel_rfl
 f157 := Tryz.func126.trans (congrArg some (by kernel_rfl))
 f199 := Tryz.func175.trans (congrArg some (by kernel_rfl))
 f229 := Tryz.func174.trans (congrArg some (by kernel_rfl))
 f261 := Tryz.func203.trans (congrArg some (by kernel_rfl))
 f311 := Tryz.func243.trans (congrArg some (by kernel_rfl))
 f312 := Tryz.func244.trans (congrArg some (by kernel_rfl))
 t0 := Tryz.underlying0
 a0 := Tryz.isAgg0
 z0 := Tryz.sizeOf0
 v0 := Tryz.zeroValue0
 t3 := Tryz.underlying3
 a3 := Tryz.isAgg3
 z3 := Tryz.sizeOf3
 v3 := Tryz.zeroValue3
 t4 := Tryz.underlying4
 a4 := Tryz.isAgg4
 z4 := Tryz.sizeOf4
 v4 := Tryz.zeroValue4
 t5 := Tryz.underlying5
 a5 := Tryz.isAgg5
 z5 := Tryz.sizeOf5
 v5 := Tryz.zeroValue5
 t9 := Tryz.underlying9
 a9 := Tryz.isAgg9
 z9 := Tryz.sizeOf9
 v9 := Tryz.zeroValue9
 t21 := Tryz.underlying21
 a21 := Tryz.isAgg21
 z21 := Tryz.sizeOf21
 v21 := Tryz.zeroValue21
 t31 := Tryz.underlying57
 a31 := Tryz.isAgg57
 z31 := Tryz.sizeOf57
 v31 := Tryz.zeroValue57
 t40 := Tryz.underlying223
 a40 := Tryz.isAgg223
 z40 := Tryz.sizeOf223
 v40 := Tryz.zeroValue223
 t46 := Tryz.underlying231
 a46 := Tryz.isAgg231
 z46 := Tryz.sizeOf231
 v46 := Tryz.zeroValue231
 t49 := Tryz.underlying287
 a49 := Tryz.isAgg287
 z49 := Tryz.sizeOf287
 v49 := Tryz.zeroValue287
 t51 := Tryz.underlying244
 a51 := Tryz.isAgg244
 z51 := Tryz.sizeOf244
 v51 := Tryz.zeroValue244
 t119 := Tryz.underlying221
 a119 := Tryz.isAgg221
 z119 := Tryz.sizeOf221
 t141 := Tryz.underlying246
 a141 := Tryz.isAgg246
 z141 := Tryz.sizeOf246
 v141 := Tryz.zeroValue246
 t152 := Tryz.underlying241
 a152 := Tryz.isAgg241
 z152 := Tryz.sizeOf241
 v152 := Tryz.zeroValue241
 t154 := Tryz.underlying243
 a154 := Tryz.isAgg243
 z154 := Tryz.sizeOf243
 v154 := Tryz.zeroValue243
 t193 := Tryz.underlying283
 a193 := Tryz.isAgg283
 z193 := Tryz.sizeOf283
 v193 := Tryz.zeroValue283
 t194 := Tryz.underlying284
 a194 := Tryz.isAgg284
 z194 := Tryz.sizeOf284
 v194 := Tryz.zeroValue284
 t196 := Tryz.underlying286
 a196 := Tryz.isAgg286
 z196 := Tryz.sizeOf286
 v196 := Tryz.zeroValue286
 t198 := Tryz.underlying289
 a198 := Tryz.isAgg289
 z198 := Tryz.sizeOf289
 v198 := Tryz.zeroValue289
 t201 := Tryz.underlying292
 a201 := Tryz.isAgg292
 z201 := Tryz.sizeOf292
 v201 := Tryz.zeroValue292
 t226 := Tryz.underlying309
 a226 := Tryz.isAgg309
 z226 := Tryz.sizeOf309
 v226 := Tryz.zeroValue309
 t227 := Tryz.underlying310
 a227 := Tryz.isAgg310
 z227 := Tryz.sizeOf310
 v227 := Tryz.zeroValue310
 g0 := by kernel_rfl
 g6 := by kernel_rfl }
end Go.Proofs
