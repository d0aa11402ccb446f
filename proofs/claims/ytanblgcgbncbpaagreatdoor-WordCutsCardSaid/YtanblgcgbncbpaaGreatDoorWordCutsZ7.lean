/- Texts of the proof of WordCuts, put together: LaySpl. -/
import Derived.Ground.NamesProg
import Derived.Shelf.Strings.Split
import Derived.Shelf.Small.Wraps
import Derived.Test.YtanblgcgbncbpaaGreatDoorProg
/-
 DERIVED: THE SHELF's CONTRACTS AT THIS DUMP, IN PLAIN WORDS (tools/lay-plain.mjs out of 'YtanblgcgbncbpaaGreatDoorLaySpl.lean', which tools/lay-shelf.mjs wrote): THE SAME DECLARATIONS UNDER THE SAME NAMES: 'import', 'namespace', 'open', 'def', 'theorem' AND NOTHING ELSE: no command of the shelf's: FOR A HAND-IN. Each laying: the table of numbers ('.._ren') and one theorem, a field a fact of the dump's own or the kernel's comparison; each contract: ONE APPLICATION.
-/
namespace Go.Proofs
open Go.Shelf
def Tryz.lays146_ren : Go.Shelf.Ren := ⟨fun | 146 => 153 | 221 => 183 | 268 => 208 | 138 => 209 | 143 => 191 | 195 => 222 | 197 => 216 | 218 => 223 | 219 => 207 | 260 => 229 | 217 => 114 | 225 => 186 | 224 => 185 | 267 => 221 | 266 => 151 | 314 => 231 | n => n, fun | 9 => 9 | 31 => 41 | 3 => 3 | 4 => 4 | 0 => 0 | 105 => 222 | 21 => 21 | 5 => 5 | 46 => 81 | 119 => 214 | 139 => 217 | 138 => 216 | 146 => 120 | 51 => 119 | n => n, fun | 1 => 0 | 3 => 2 | 4 => 3 | n => n⟩
theorem Tryz.lays146 : Go.Proofs.Lays.n146 Tryz.prog Tryz.lays146_ren := {
 mixed := by kernel_rfl
 f138 := Tryz.func209.trans (congrArg some (by kernel_rfl))
 f143 := Tryz.func191.trans (congrArg some (by kernel_rfl))
 f146 := Tryz.func153.trans (congrArg some (by kernel_rfl))
 f195 := Tryz.func222.trans (congrArg some (by kernel_rfl))
 f197 := Tryz.func216.trans (congrArg some (by kernel_rfl))
 f217 := Tryz.func114.trans (congrArg some (by kernel_rfl))
 f218 := Tryz.func223.trans (congrArg some (by kernel_rfl))
 f219 := Tryz.func207.trans (congrArg some (by kernel_rfl))
 f221 := Tryz.func183.trans (congrArg some (by kernel_rfl))
 f224 := Tryz.func185.trans (congrArg some (by kernel_rfl))
 f225 := Tryz.func186.trans (congrArg some (by kernel_rfl))
 f260 := Tryz.func229.trans (congrArg some (by kernel_rfl))
 f266 := Tryz.func151.trans (congrArg some (by kernel_rfl))
 f267 := Tryz.func221.trans (congrArg some (by kernel_rfl))
 f268 := Tryz.func208.trans (congrArg some (by kernel_rfl))
 f314 := Tryz.func231.trans (congrArg some (by kernel_rfl))
 t0 := Tryz.underlying0
 a0 := Tryz.isAgg0
 z0 := Tryz.sizeOf0
 v0 := Tryz.zeroValue0
 t3 := Tryz.underlying3
 a3 := Tryz.isAgg3
 z3 := Tryz.sizeOf3
 v3 := Tryz.zeroValue3
 t4 := Tryz.underlying4
 a4 := Tryz.isAgg4
 z4 := Tryz.sizeOf4
 v4 := Tryz.zeroValue4
 t5 := Tryz.underlying5
 a5 := Tryz.isAgg5
 z5 := Tryz.sizeOf5
 v5 := Tryz.zeroValue5
 t9 := Tryz.underlying9
 a9 := Tryz.isAgg9
 z9 := Tryz.sizeOf9
 v9 := Tryz.zeroValue9
 t21 := Tryz.underlying21
 a21 := Tryz.isAgg21
 z21 := Tryz.sizeOf21
 v21 := Tryz.zeroValue21
 t31 := Tryz.underlying41
 a31 := Tryz.isAgg41
 z31 := Tryz.sizeOf41
 v31 := Tryz.zeroValue41
 t46 := Tryz.underlying81
 a46 := Tryz.isAgg81
 z46 := Tryz.sizeOf81
 v46 := Tryz.zeroValue81
 t51 := Tryz.underlying119
 a51 := Tryz.isAgg119
 z51 := Tryz.sizeOf119
 v51 := Tryz.zeroValue119
 t105 := Tryz.underlying222
 a105 := Tryz.isAgg222
 z105 := Tryz.sizeOf222
 v105 := Tryz.zeroValue222
 t119 := Tryz.underlying214
 a119 := Tryz.isAgg214
 z119 := Tryz.sizeOf214
 t138 := Tryz.underlying216
 a138 := Tryz.isAgg216
 z138 := Tryz.sizeOf216
 v138 := Tryz.zeroValue216
 t139 := Tryz.underlying217
 a139 := Tryz.isAgg217
 z139 := Tryz.sizeOf217
 v139 := Tryz.zeroValue217
 t146 := Tryz.underlying120
 a146 := Tryz.isAgg120
 z146 := Tryz.sizeOf120
 v146 := Tryz.zeroValue120
 g1 := by kernel_rfl
 g3 := by kernel_rfl
 g4 := by kernel_rfl }
def Tryz.lays104_ren : Go.Shelf.Ren := ⟨fun | 104 => 45 | 211 => 78 | 207 => 115 | n => n, fun | 9 => 9 | 4 => 4 | 24 => 71 | 3 => 3 | n => n, fun | n => n⟩
theorem Tryz.lays104 : Go.Proofs.Lays.n104 Tryz.prog Tryz.lays104_ren := {
 mixed := by kernel_rfl
 f104 := Tryz.func45.trans (congrArg some (by kernel_rfl))
 f207 := Tryz.func115.trans (congrArg some (by kernel_rfl))
 f211 := Tryz.func78.trans (congrArg some (by kernel_rfl))
 t3 := Tryz.underlying3
 a3 := Tryz.isAgg3
 z3 := Tryz.sizeOf3
 v3 := Tryz.zeroValue3
 t4 := Tryz.underlying4
 a4 := Tryz.isAgg4
 z4 := Tryz.sizeOf4
 v4 := Tryz.zeroValue4
 t9 := Tryz.underlying9
 a9 := Tryz.isAgg9
 z9 := Tryz.sizeOf9
 v9 := Tryz.zeroValue9
 t24 := Tryz.underlying71
 a24 := Tryz.isAgg71
 z24 := Tryz.sizeOf71
 v24 := Tryz.zeroValue71 }
end Go.Proofs
