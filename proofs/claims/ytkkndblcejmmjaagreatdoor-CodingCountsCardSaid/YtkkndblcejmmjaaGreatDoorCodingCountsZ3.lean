/- Texts of the proof of CodingCounts, put together: LayTrim. -/
import Derived.Ground.NamesProg
import Derived.Shelf.Strings.SlTrimAscii
import Derived.Test.YtkkndblcejmmjaaGreatDoorProg
/-
 DERIVED: THE SHELF's CONTRACTS AT THIS DUMP, IN PLAIN WORDS (tools/lay-plain.mjs out of 'YtkkndblcejmmjaaGreatDoorLayTrim.lean', which tools/lay-shelf.mjs wrote): THE SAME DECLARATIONS UNDER THE SAME NAMES: 'import', 'namespace', 'open', 'def', 'theorem' AND NOTHING ELSE: no command of the shelf's: FOR A HAND-IN. Each laying: the table of numbers ('.._ren') and one theorem, a field a fact of the dump's own or the kernel's comparison; each contract: ONE APPLICATION.
-/
namespace Go.Proofs
open Go.Shelf
def Tryz.lays160_ren : Go.Shelf.Ren := ⟨fun | 160 => 152 | 232 => 189 | 231 => 188 | 227 => 190 | 234 => 192 | 233 => 191 | 236 => 194 | 235 => 193 | 228 => 229 | 271 => 232 | 151 => 231 | 197 => 230 | 120 => 252 | 152 => 251 | 260 => 250 | 137 => 263 | 119 => 264 | 224 => 260 | 225 => 259 | 217 => 258 | 266 => 267 | n => n, fun | 9 => 9 | 4 => 4 | 3 => 3 | 5 => 5 | 117 => 228 | 116 => 227 | 0 => 0 | 124 => 231 | 21 => 21 | 105 => 263 | 46 => 178 | 119 => 247 | 139 => 250 | 138 => 249 | n => n, fun | 3 => 1 | 4 => 2 | n => n⟩
theorem Tryz.lays160 : Go.Proofs.Lays.n160 Tryz.prog Tryz.lays160_ren := {
 mixed := by kernel_rfl
 f119 := Tryz.func264.trans (congrArg some (by kernel_rfl))
 f120 := Tryz.func252.trans (congrArg some (by kernel_rfl))
 f137 := Tryz.func263.trans (congrArg some (by kernel_rfl))
 f151 := Tryz.func231.trans (congrArg some (by kernel_rfl))
 f152 := Tryz.func251.trans (congrArg some (by kernel_rfl))
 f160 := Tryz.func152.trans (congrArg some (by kernel_rfl))
 f197 := Tryz.func230.trans (congrArg some (by kernel_rfl))
 f217 := Tryz.func258.trans (congrArg some (by kernel_rfl))
 f224 := Tryz.func260.trans (congrArg some (by kernel_rfl))
 f225 := Tryz.func259.trans (congrArg some (by kernel_rfl))
 f227 := Tryz.func190.trans (congrArg some (by kernel_rfl))
 f228 := Tryz.func229.trans (congrArg some (by kernel_rfl))
 f231 := Tryz.func188.trans (congrArg some (by kernel_rfl))
 f232 := Tryz.func189.trans (congrArg some (by kernel_rfl))
 f233 := Tryz.func191.trans (congrArg some (by kernel_rfl))
 f234 := Tryz.func192.trans (congrArg some (by kernel_rfl))
 f235 := Tryz.func193.trans (congrArg some (by kernel_rfl))
 f236 := Tryz.func194.trans (congrArg some (by kernel_rfl))
 f260 := Tryz.func250.trans (congrArg some (by kernel_rfl))
 f266 := Tryz.func267.trans (congrArg some (by kernel_rfl))
 f271 := Tryz.func232.trans (congrArg some (by kernel_rfl))
 t0 := Tryz.underlying0
 a0 := Tryz.isAgg0
 z0 := Tryz.sizeOf0
 v0 := Tryz.zeroValue0
 t3 := Tryz.underlying3
 a3 := Tryz.isAgg3
 z3 := Tryz.sizeOf3
 v3 := Tryz.zeroValue3
 t4 := Tryz.underlying4
 a4 := Tryz.isAgg4
 z4 := Tryz.sizeOf4
 v4 := Tryz.zeroValue4
 t5 := Tryz.underlying5
 a5 := Tryz.isAgg5
 z5 := Tryz.sizeOf5
 v5 := Tryz.zeroValue5
 t9 := Tryz.underlying9
 a9 := Tryz.isAgg9
 z9 := Tryz.sizeOf9
 v9 := Tryz.zeroValue9
 t21 := Tryz.underlying21
 a21 := Tryz.isAgg21
 z21 := Tryz.sizeOf21
 v21 := Tryz.zeroValue21
 t46 := Tryz.underlying178
 a46 := Tryz.isAgg178
 z46 := Tryz.sizeOf178
 v46 := Tryz.zeroValue178
 t105 := Tryz.underlying263
 a105 := Tryz.isAgg263
 z105 := Tryz.sizeOf263
 v105 := Tryz.zeroValue263
 t116 := Tryz.underlying227
 a116 := Tryz.isAgg227
 z116 := Tryz.sizeOf227
 t117 := Tryz.underlying228
 a117 := Tryz.isAgg228
 z117 := Tryz.sizeOf228
 v117 := Tryz.zeroValue228
 t119 := Tryz.underlying247
 a119 := Tryz.isAgg247
 z119 := Tryz.sizeOf247
 t124 := Tryz.underlying231
 a124 := Tryz.isAgg231
 z124 := Tryz.sizeOf231
 v124 := Tryz.zeroValue231
 t138 := Tryz.underlying249
 a138 := Tryz.isAgg249
 z138 := Tryz.sizeOf249
 v138 := Tryz.zeroValue249
 t139 := Tryz.underlying250
 a139 := Tryz.isAgg250
 z139 := Tryz.sizeOf250
 v139 := Tryz.zeroValue250
 g3 := by kernel_rfl
 g4 := by kernel_rfl }
end Go.Proofs
