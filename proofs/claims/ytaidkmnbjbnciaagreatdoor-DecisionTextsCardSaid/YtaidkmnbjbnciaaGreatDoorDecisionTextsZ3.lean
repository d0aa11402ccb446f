/- Texts of the proof of DecisionTexts, put together: LayTrim. -/
import Derived.Ground.NamesProg
import Derived.Shelf.Strings.SlTrimAscii
import Derived.Test.YtaidkmnbjbnciaaGreatDoorProg
/-
 DERIVED: THE SHELF's CONTRACTS AT THIS DUMP, IN PLAIN WORDS (tools/lay-plain.mjs out of 'YtaidkmnbjbnciaaGreatDoorLayTrim.lean', which tools/lay-shelf.mjs wrote): THE SAME DECLARATIONS UNDER THE SAME NAMES: 'import', 'namespace', 'open', 'def', 'theorem' AND NOTHING ELSE: no command of the shelf's: FOR A HAND-IN. Each laying: the table of numbers ('.._ren') and one theorem, a field a fact of the dump's own or the kernel's comparison; each contract: ONE APPLICATION.
-/
namespace Go.Proofs
open Go.Shelf
def Tryz.lays160_ren : Go.Shelf.Ren := ⟨fun | 160 => 176 | 232 => 205 | 231 => 204 | 227 => 206 | 234 => 208 | 233 => 207 | 236 => 210 | 235 => 209 | 228 => 245 | 271 => 247 | 151 => 246 | 197 => 214 | 120 => 270 | 152 => 269 | 260 => 253 | 137 => 278 | 119 => 279 | 224 => 251 | 225 => 250 | 217 => 249 | 266 => 271 | n => n, fun | 9 => 9 | 4 => 4 | 3 => 3 | 5 => 5 | 117 => 250 | 116 => 249 | 0 => 0 | 124 => 253 | 21 => 21 | 105 => 255 | 46 => 231 | 119 => 221 | 139 => 281 | 138 => 280 | n => n, fun | 3 => 2 | 4 => 3 | n => n⟩
theorem Tryz.lays160 : Go.Proofs.Lays.n160 Tryz.prog Tryz.lays160_ren := {
 mixed := by kernel_rfl
 f119 := Tryz.func279.trans (congrArg some (by kernel_rfl))
 f120 := Tryz.func270.trans (congrArg some (by kernel_rfl))
 f137 := Tryz.func278.trans (congrArg some (by kernel_rfl))
 f151 := Tryz.func246.trans (congrArg some (by kernel_rfl))
 f152 := Tryz.func269.trans (congrArg some (by kernel_rfl))
 f160 := Tryz.func176.trans (congrArg some (by kernel_rfl))
 f197 := Tryz.func214.trans (congrArg some (by kernel_rfl))
 f217 := Tryz.func249.trans (congrArg some (by kernel_rfl))
 f224 := Tryz.func251.trans (congrArg some (by kernel_rfl))
 f225 := Tryz.func250.trans (congrArg some (by kernel_rfl))
 f227 := Tryz.func206.trans (congrArg some (by kernel_rfl))
 f228 := Tryz.func245.trans (congrArg some (by kernel_rfl))
 f231 := Tryz.func204.trans (congrArg some (by kernel_rfl))
 f232 := Tryz.func205.trans (congrArg some (by kernel_rfl))
 f233 := Tryz.func207.trans (congrArg some (by kernel_rfl))
 f234 := Tryz.func208.trans (congrArg some (by kernel_rfl))
 f235 := Tryz.func209.trans (congrArg some (by kernel_rfl))
 f236 := Tryz.func210.trans (congrArg some (by kernel_rfl))
 f260 := Tryz.func253.trans (congrArg some (by kernel_rfl))
 f266 := Tryz.func271.trans (congrArg some (by kernel_rfl))
 f271 := Tryz.func247.trans (congrArg some (by kernel_rfl))
 t0 := Tryz.underlying0
 a0 := Tryz.isAgg0
 z0 := Tryz.sizeOf0
 v0 := Tryz.zeroValue0
 t3 := Tryz.underlying3
 a3 := Tryz.isAgg3
 z3 := Tryz.sizeOf3
 v3 := Tryz.zeroValue3
 t4 := Tryz.underlying4
 a4 := Tryz.isAgg4
 z4 := Tryz.sizeOf4
 v4 := Tryz.zeroValue4
 t5 := Tryz.underlying5
 a5 := Tryz.isAgg5
 z5 := Tryz.sizeOf5
 v5 := Tryz.zeroValue5
 t9 := Tryz.underlying9
 a9 := Tryz.isAgg9
 z9 := Tryz.sizeOf9
 v9 := Tryz.zeroValue9
 t21 := Tryz.underlying21
 a21 := Tryz.isAgg21
 z21 := Tryz.sizeOf21
 v21 := Tryz.zeroValue21
 t46 := Tryz.underlying231
 a46 := Tryz.isAgg231
 z46 := Tryz.sizeOf231
 v46 := Tryz.zeroValue231
 t105 := Tryz.underlying255
 a105 := Tryz.isAgg255
 z105 := Tryz.sizeOf255
 v105 := Tryz.zeroValue255
 t116 := Tryz.underlying249
 a116 := Tryz.isAgg249
 z116 := Tryz.sizeOf249
 t117 := Tryz.underlying250
 a117 := Tryz.isAgg250
 z117 := Tryz.sizeOf250
 v117 := Tryz.zeroValue250
 t119 := Tryz.underlying221
 a119 := Tryz.isAgg221
 z119 := Tryz.sizeOf221
 t124 := Tryz.underlying253
 a124 := Tryz.isAgg253
 z124 := Tryz.sizeOf253
 v124 := Tryz.zeroValue253
 t138 := Tryz.underlying280
 a138 := Tryz.isAgg280
 z138 := Tryz.sizeOf280
 v138 := Tryz.zeroValue280
 t139 := Tryz.underlying281
 a139 := Tryz.isAgg281
 z139 := Tryz.sizeOf281
 v139 := Tryz.zeroValue281
 g3 := by kernel_rfl
 g4 := by kernel_rfl }
end Go.Proofs
