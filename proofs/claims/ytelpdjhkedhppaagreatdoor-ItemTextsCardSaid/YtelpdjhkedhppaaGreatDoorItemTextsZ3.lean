/- Texts of the proof of ItemTexts, put together: LayTrim. -/
import Derived.Ground.NamesProg
import Derived.Shelf.Strings.SlTrimAscii
import Derived.Test.YtelpdjhkedhppaaGreatDoorProg
set_option linter.unusedVariables false
set_option linter.unusedSimpArgs false
/-
 DERIVED: THE SHELF's CONTRACTS AT THIS DUMP, IN PLAIN WORDS (tools/lay-plain.mjs out of 'YtelpdjhkedhppaaGreatDoorLayTrim.lean', which tools/lay-shelf.mjs wrote): THE SAME DECLARATIONS UNDER THE SAME NAMES: 'import', 'namespace', 'open', 'def', 'theorem' AND NOTHING ELSE: no command of the shelf's: FOR A HAND-IN. Each laying: the table of numbers ('.._ren') and one theorem, a field a fact of the dump's own or the kernel's comparison; each contract: ONE APPLICATION.
-/
namespace Go.Proofs
open Go.Shelf
def Tryz.lays160_ren : Go.Shelf.Ren := ⟨fun | 160 => 176 | 232 => 227 | 231 => 226 | 227 => 228 | 234 => 230 | 233 => 229 | 236 => 232 | 235 => 231 | 228 => 248 | 271 => 266 | 151 => 265 | 197 => 238 | 120 => 284 | 152 => 246 | 260 => 268 | 137 => 128 | 119 => 275 | 224 => 235 | 225 => 234 | 217 => 180 | 266 => 237 | n => n, fun | 9 => 9 | 4 => 4 | 3 => 3 | 5 => 5 | 117 => 231 | 116 => 230 | 0 => 0 | 124 => 234 | 21 => 21 | 105 => 236 | 46 => 119 | 119 => 195 | 139 => 227 | 138 => 226 | n => n, fun | 3 => 2 | 4 => 3 | n => n⟩
theorem Tryz.lays160 : Go.Proofs.Lays.n160 Tryz.prog Tryz.lays160_ren := {
 mixed := by kernel_rfl
 f119 := Tryz.func275.trans (congrArg some (by kernel_rfl))
 f120 := Tryz.func284.trans (congrArg some (by kernel_rfl))
 f137 := Tryz.func128.trans (congrArg some (by kernel_rfl))
 f151 := Tryz.func265.trans (congrArg some (by kernel_rfl))
 f152 := Tryz.func246.trans (congrArg some (by kernel_rfl))
 f160 := Tryz.func176.trans (congrArg some (by kernel_rfl))
 f197 := Tryz.func238.trans (congrArg some (by kernel_rfl))
 f217 := Tryz.func180.trans (congrArg some (by kernel_rfl))
 f224 := Tryz.func235.trans (congrArg some (by kernel_rfl))
 f225 := Tryz.func234.trans (congrArg some (by kernel_rfl))
 f227 := Tryz.func228.trans (congrArg some (by kernel_rfl))
 f228 := Tryz.func248.trans (congrArg some (by kernel_rfl))
 f231 := Tryz.func226.trans (congrArg some (by kernel_rfl))
 f232 := Tryz.func227.trans (congrArg some (by kernel_rfl))
 f233 := Tryz.func229.trans (congrArg some (by kernel_rfl))
 f234 := Tryz.func230.trans (congrArg some (by kernel_rfl))
 f235 := Tryz.func231.trans (congrArg some (by kernel_rfl))
 f236 := Tryz.func232.trans (congrArg some (by kernel_rfl))
 f260 := Tryz.func268.trans (congrArg some (by kernel_rfl))
 f266 := Tryz.func237.trans (congrArg some (by kernel_rfl))
 f271 := Tryz.func266.trans (congrArg some (by kernel_rfl))
 t0 := Tryz.underlying0
 a0 := Tryz.isAgg0
 z0 := Tryz.sizeOf0
 v0 := Tryz.zeroValue0
 t3 := Tryz.underlying3
 a3 := Tryz.isAgg3
 z3 := Tryz.sizeOf3
 v3 := Tryz.zeroValue3
 t4 := Tryz.underlying4
 a4 := Tryz.isAgg4
 z4 := Tryz.sizeOf4
 v4 := Tryz.zeroValue4
 t5 := Tryz.underlying5
 a5 := Tryz.isAgg5
 z5 := Tryz.sizeOf5
 v5 := Tryz.zeroValue5
 t9 := Tryz.underlying9
 a9 := Tryz.isAgg9
 z9 := Tryz.sizeOf9
 v9 := Tryz.zeroValue9
 t21 := Tryz.underlying21
 a21 := Tryz.isAgg21
 z21 := Tryz.sizeOf21
 v21 := Tryz.zeroValue21
 t46 := Tryz.underlying119
 a46 := Tryz.isAgg119
 z46 := Tryz.sizeOf119
 v46 := Tryz.zeroValue119
 t105 := Tryz.underlying236
 a105 := Tryz.isAgg236
 z105 := Tryz.sizeOf236
 v105 := Tryz.zeroValue236
 t116 := Tryz.underlying230
 a116 := Tryz.isAgg230
 z116 := Tryz.sizeOf230
 t117 := Tryz.underlying231
 a117 := Tryz.isAgg231
 z117 := Tryz.sizeOf231
 v117 := Tryz.zeroValue231
 t119 := Tryz.underlying195
 a119 := Tryz.isAgg195
 z119 := Tryz.sizeOf195
 t124 := Tryz.underlying234
 a124 := Tryz.isAgg234
 z124 := Tryz.sizeOf234
 v124 := Tryz.zeroValue234
 t138 := Tryz.underlying226
 a138 := Tryz.isAgg226
 z138 := Tryz.sizeOf226
 v138 := Tryz.zeroValue226
 t139 := Tryz.underlying227
 a139 := Tryz.isAgg227
 z139 := Tryz.sizeOf227
 v139 := Tryz.zeroValue227
 g3 := by kernel_rfl
 g4 := by kernel_rfl }
end Go.Proofs
