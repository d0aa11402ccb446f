/- Texts of the proof of CodingCounts, put together: LaySpl. -/
import Derived.Ground.NamesProg
import Derived.Shelf.Strings.Split
import Derived.Shelf.Small.Wraps
import Derived.Test.YtkkndblcejmmjaaGreatDoorProg
/-
 DERIVED: THE SHELF's CONTRACTS AT THIS DUMP, IN PLAIN WORDS (tools/lay-plain.mjs out of 'YtkkndblcejmmjaaGreatDoorLaySpl.lean', which tools/lay-shelf.mjs wrote): THE SAME DECLARATIONS UNDER THE SAME NAMES: 'import', 'namespace', 'open', 'def', 'theorem' AND NOTHING ELSE: no command of the shelf's: FOR A HAND-IN. Each laying: the table of numbers ('.._ren') and one theorem, a field a fact of the dump's own or the kernel's comparison; each contract: ONE APPLICATION.
-/
namespace Go.Proofs
open Go.Shelf
def Tryz.lays146_ren : Go.Shelf.Ren := ⟨fun | 146 => 160 | 221 => 204 | 268 => 237 | 138 => 238 | 143 => 212 | 195 => 255 | 197 => 230 | 218 => 256 | 219 => 243 | 260 => 250 | 217 => 258 | 225 => 259 | 224 => 260 | 267 => 261 | 266 => 267 | 314 => 268 | n => n, fun | 9 => 9 | 31 => 35 | 3 => 3 | 4 => 4 | 0 => 0 | 105 => 263 | 21 => 21 | 5 => 5 | 46 => 178 | 119 => 247 | 139 => 250 | 138 => 249 | 146 => 241 | 51 => 220 | n => n, fun | 1 => 0 | 3 => 1 | 4 => 2 | n => n⟩
theorem Tryz.lays146 : Go.Proofs.Lays.n146 Tryz.prog Tryz.lays146_ren := {
 mixed := by kernel_rfl
 f138 := Tryz.func238.trans (congrArg some (by kernel_rfl))
 f143 := Tryz.func212.trans (congrArg some (by kernel_rfl))
 f146 := Tryz.func160.trans (congrArg some (by kernel_rfl))
 f195 := Tryz.func255.trans (congrArg some (by kernel_rfl))
 f197 := Tryz.func230.trans (congrArg some (by kernel_rfl))
 f217 := Tryz.func258.trans (congrArg some (by kernel_rfl))
 f218 := Tryz.func256.trans (congrArg some (by kernel_rfl))
 f219 := Tryz.func243.trans (congrArg some (by kernel_rfl))
 f221 := Tryz.func204.trans (congrArg some (by kernel_rfl))
 f224 := Tryz.func260.trans (congrArg some (by kernel_rfl))
 f225 := Tryz.func259.trans (congrArg some (by kernel_rfl))
 f260 := Tryz.func250.trans (congrArg some (by kernel_rfl))
 f266 := Tryz.func267.trans (congrArg some (by kernel_rfl))
 f267 := Tryz.func261.trans (congrArg some (by kernel_rfl))
 f268 := Tryz.func237.trans (congrArg some (by kernel_rfl))
 f314 := Tryz.func268.trans (congrArg some (by kernel_rfl))
 t0 := Tryz.underlying0
 a0 := Tryz.isAgg0
 z0 := Tryz.sizeOf0
 v0 := Tryz.zeroValue0
 t3 := Tryz.underlying3
 a3 := Tryz.isAgg3
 z3 := Tryz.sizeOf3
 v3 := Tryz.zeroValue3
 t4 := Tryz.underlying4
 a4 := Tryz.isAgg4
 z4 := Tryz.sizeOf4
 v4 := Tryz.zeroValue4
 t5 := Tryz.underlying5
 a5 := Tryz.isAgg5
 z5 := Tryz.sizeOf5
 v5 := Tryz.zeroValue5
 t9 := Tryz.underlying9
 a9 := Tryz.isAgg9
 z9 := Tryz.sizeOf9
 v9 := Tryz.zeroValue9
 t21 := Tryz.underlying21
 a21 := Tryz.isAgg21
 z21 := Tryz.sizeOf21
 v21 := Tryz.zeroValue21
 t31 := Tryz.underlying35
 a31 := Tryz.isAgg35
 z31 := Tryz.sizeOf35
 v31 := Tryz.zeroValue35
 t46 := Tryz.underlying178
 a46 := Tryz.isAgg178
 z46 := Tryz.sizeOf178
 v46 := Tryz.zeroValue178
 t51 := Tryz.underlying220
 a51 := Tryz.isAgg220
 z51 := Tryz.sizeOf220
 v51 := Tryz.zeroValue220
 t105 := Tryz.underlying263
 a105 := Tryz.isAgg263
 z105 := Tryz.sizeOf263
 v105 := Tryz.zeroValue263
 t119 := Tryz.underlying247
 a119 := Tryz.isAgg247
 z119 := Tryz.sizeOf247
 t138 := Tryz.underlying249
 a138 := Tryz.isAgg249
 z138 := Tryz.sizeOf249
 v138 := Tryz.zeroValue249
 t139 := Tryz.underlying250
 a139 := Tryz.isAgg250
 z139 := Tryz.sizeOf250
 v139 := Tryz.zeroValue250
 t146 := Tryz.underlying241
 a146 := Tryz.isAgg241
 z146 := Tryz.sizeOf241
 v146 := Tryz.zeroValue241
 g1 := by kernel_rfl
 g3 := by kernel_rfl
 g4 := by kernel_rfl }
def Tryz.lays104_ren : Go.Shelf.Ren := ⟨fun | 104 => 203 | 211 => 236 | 207 => 254 | n => n, fun | 9 => 9 | 4 => 4 | 24 => 237 | 3 => 3 | n => n, fun | n => n⟩
theorem Tryz.lays104 : Go.Proofs.Lays.n104 Tryz.prog Tryz.lays104_ren := {
 mixed := by kernel_rfl
 f104 := Tryz.func203.trans (congrArg some (by kernel_rfl))
 f207 := Tryz.func254.trans (congrArg some (by kernel_rfl))
 f211 := Tryz.func236.trans (congrArg some (by kernel_rfl))
 t3 := Tryz.underlying3
 a3 := Tryz.isAgg3
 z3 := Tryz.sizeOf3
 v3 := Tryz.zeroValue3
 t4 := Tryz.underlying4
 a4 := Tryz.isAgg4
 z4 := Tryz.sizeOf4
 v4 := Tryz.zeroValue4
 t9 := Tryz.underlying9
 a9 := Tryz.isAgg9
 z9 := Tryz.sizeOf9
 v9 := Tryz.zeroValue9
 t24 := Tryz.underlying237
 a24 := Tryz.isAgg237
 z24 := Tryz.sizeOf237
 v24 := Tryz.zeroValue237 }
end Go.Proofs
