/- Texts of the proof of CodingSpreads, put together: LaySpl. -/
import Derived.Ground.NamesProg
import Derived.Shelf.Strings.Split
import Derived.Shelf.Small.Wraps
import Derived.Test.YtpinlcapgoljfaaGreatDoorProg
set_option linter.unusedVariables false
set_option linter.unusedSimpArgs false
/-
 DERIVED: THE SHELF's CONTRACTS AT THIS DUMP, IN PLAIN WORDS (tools/lay-plain.mjs out of 'YtpinlcapgoljfaaGreatDoorLaySpl.lean', which tools/lay-shelf.mjs wrote): THE SAME DECLARATIONS UNDER THE SAME NAMES: 'import', 'namespace', 'open', 'def', 'theorem' AND NOTHING ELSE: no command of the shelf's: FOR A HAND-IN. Each laying: the table of numbers ('.._ren') and one theorem, a field a fact of the dump's own or the kernel's comparison; each contract: ONE APPLICATION.
-/
namespace Go.Proofs
open Go.Shelf
def Tryz.lays146_ren : Go.Shelf.Ren := ⟨fun | 146 => 130 | 221 => 151 | 268 => 181 | 138 => 182 | 143 => 176 | 195 => 197 | 197 => 191 | 218 => 198 | 219 => 196 | 260 => 201 | 217 => 208 | 225 => 209 | 224 => 210 | 267 => 211 | 266 => 220 | 314 => 221 | n => n, fun | 9 => 9 | 31 => 29 | 3 => 3 | 4 => 4 | 0 => 0 | 105 => 243 | 21 => 21 | 5 => 5 | 46 => 175 | 119 => 226 | 139 => 229 | 138 => 228 | 146 => 199 | 51 => 198 | n => n, fun | 1 => 3 | 3 => 0 | 4 => 1 | n => n⟩
theorem Tryz.lays146 : Go.Proofs.Lays.n146 Tryz.prog Tryz.lays146_ren := {
 mixed := by kernel_rfl
 f138 := Tryz.func182.trans (congrArg some (by kernel_rfl))
 f143 := Tryz.func176.trans (congrArg some (by kernel_rfl))
 f146 := Tryz.func130.trans (congrArg some (by kernel_rfl))
 f195 := Tryz.func197.trans (congrArg some (by kernel_rfl))
 f197 := Tryz.func191.trans (congrArg some (by kernel_rfl))
 f217 := Tryz.func208.trans (congrArg some (by kernel_rfl))
 f218 := Tryz.func198.trans (congrArg some (by kernel_rfl))
 f219 := Tryz.func196.trans (congrArg some (by kernel_rfl))
 f221 := Tryz.func151.trans (congrArg some (by kernel_rfl))
 f224 := Tryz.func210.trans (congrArg some (by kernel_rfl))
 f225 := Tryz.func209.trans (congrArg some (by kernel_rfl))
 f260 := Tryz.func201.trans (congrArg some (by kernel_rfl))
 f266 := Tryz.func220.trans (congrArg some (by kernel_rfl))
 f267 := Tryz.func211.trans (congrArg some (by kernel_rfl))
 f268 := Tryz.func181.trans (congrArg some (by kernel_rfl))
 f314 := Tryz.func221.trans (congrArg some (by kernel_rfl))
 t0 := Tryz.underlying0
 a0 := Tryz.isAgg0
 z0 := Tryz.sizeOf0
 v0 := Tryz.zeroValue0
 t3 := Tryz.underlying3
 a3 := Tryz.isAgg3
 z3 := Tryz.sizeOf3
 v3 := Tryz.zeroValue3
 t4 := Tryz.underlying4
 a4 := Tryz.isAgg4
 z4 := Tryz.sizeOf4
 v4 := Tryz.zeroValue4
 t5 := Tryz.underlying5
 a5 := Tryz.isAgg5
 z5 := Tryz.sizeOf5
 v5 := Tryz.zeroValue5
 t9 := Tryz.underlying9
 a9 := Tryz.isAgg9
 z9 := Tryz.sizeOf9
 v9 := Tryz.zeroValue9
 t21 := Tryz.underlying21
 a21 := Tryz.isAgg21
 z21 := Tryz.sizeOf21
 v21 := Tryz.zeroValue21
 t31 := Tryz.underlying29
 a31 := Tryz.isAgg29
 z31 := Tryz.sizeOf29
 v31 := Tryz.zeroValue29
 t46 := Tryz.underlying175
 a46 := Tryz.isAgg175
 z46 := Tryz.sizeOf175
 v46 := Tryz.zeroValue175
 t51 := Tryz.underlying198
 a51 := Tryz.isAgg198
 z51 := Tryz.sizeOf198
 v51 := Tryz.zeroValue198
 t105 := Tryz.underlying243
 a105 := Tryz.isAgg243
 z105 := Tryz.sizeOf243
 v105 := Tryz.zeroValue243
 t119 := Tryz.underlying226
 a119 := Tryz.isAgg226
 z119 := Tryz.sizeOf226
 t138 := Tryz.underlying228
 a138 := Tryz.isAgg228
 z138 := Tryz.sizeOf228
 v138 := Tryz.zeroValue228
 t139 := Tryz.underlying229
 a139 := Tryz.isAgg229
 z139 := Tryz.sizeOf229
 v139 := Tryz.zeroValue229
 t146 := Tryz.underlying199
 a146 := Tryz.isAgg199
 z146 := Tryz.sizeOf199
 v146 := Tryz.zeroValue199
 g1 := by kernel_rfl
 g3 := by kernel_rfl
 g4 := by kernel_rfl }
def Tryz.lays104_ren : Go.Shelf.Ren := ⟨fun | 104 => 150 | 211 => 180 | 207 => 194 | n => n, fun | 9 => 9 | 4 => 4 | 24 => 204 | 3 => 3 | n => n, fun | n => n⟩
theorem Tryz.lays104 : Go.Proofs.Lays.n104 Tryz.prog Tryz.lays104_ren := {
 mixed := by kernel_rfl
 f104 := Tryz.func150.trans (congrArg some (by kernel_rfl))
 f207 := Tryz.func194.trans (congrArg some (by kernel_rfl))
 f211 := Tryz.func180.trans (congrArg some (by kernel_rfl))
 t3 := Tryz.underlying3
 a3 := Tryz.isAgg3
 z3 := Tryz.sizeOf3
 v3 := Tryz.zeroValue3
 t4 := Tryz.underlying4
 a4 := Tryz.isAgg4
 z4 := Tryz.sizeOf4
 v4 := Tryz.zeroValue4
 t9 := Tryz.underlying9
 a9 := Tryz.isAgg9
 z9 := Tryz.sizeOf9
 v9 := Tryz.zeroValue9
 t24 := Tryz.underlying204
 a24 := Tryz.isAgg204
 z24 := Tryz.sizeOf204
 v24 := Tryz.zeroValue204 }
end Go.Proofs
