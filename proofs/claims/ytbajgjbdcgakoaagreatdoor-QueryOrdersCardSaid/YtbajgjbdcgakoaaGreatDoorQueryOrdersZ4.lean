/- Texts of the proof of QueryOrders, put together: LayTrim. -/
import Derived.Ground.NamesProg
import Derived.Shelf.Strings.SlTrimAscii
import Derived.Test.YtbajgjbdcgakoaaGreatDoorProg
/-
 DERIVED: THE SHELF's CONTRACTS AT THIS DUMP, IN PLAIN WORDS (tools/lay-plain.mjs out of 'YtbajgjbdcgakoaaGreatDoorLayTrim.lean', which tools/lay-shelf.mjs wrote): THE SAME DECLARATIONS UNDER THE SAME NAMES: 'import', 'namespace', 'open', 'def', 'theorem' AND NOTHING ELSE: no command of the shelf's: FOR A HAND-IN. Each laying: the table of numbers ('.._ren') and one theorem, a field a fact of the dump's own or the kernel's comparison; each contract: ONE APPLICATION.
-/
namespace Go.Proofs
open Go.Shelf
def Tryz.lays160_ren : Go.Shelf.Ren := ⟨fun | 160 => 139 | 232 => 172 | 231 => 171 | 227 => 144 | 234 => 174 | 233 => 173 | 236 => 176 | 235 => 175 | 228 => 145 | 271 => 201 | 151 => 200 | 197 => 199 | 120 => 214 | 152 => 142 | 260 => 213 | 137 => 138 | 119 => 179 | 224 => 180 | 225 => 181 | 217 => 170 | 266 => 198 | n => n, fun | 9 => 9 | 4 => 4 | 3 => 3 | 5 => 5 | 117 => 169 | 116 => 168 | 0 => 0 | 124 => 196 | 21 => 21 | 105 => 208 | 46 => 56 | 119 => 213 | 139 => 216 | 138 => 215 | n => n, fun | 3 => 2 | 4 => 3 | n => n⟩
theorem Tryz.lays160 : Go.Proofs.Lays.n160 Tryz.prog Tryz.lays160_ren := {
 mixed := by kernel_rfl
 f119 := Tryz.func179.trans (congrArg some (by kernel_rfl))
 f120 := Tryz.func214.trans (congrArg some (by kernel_rfl))
 f137 := Tryz.func138.trans (congrArg some (by kernel_rfl))
 f151 := Tryz.func200.trans (congrArg some (by kernel_rfl))
 f152 := Tryz.func142.trans (congrArg some (by kernel_rfl))
 f160 := Tryz.func139.trans (congrArg some (by kernel_rfl))
 f197 := Tryz.func199.trans (congrArg some (by kernel_rfl))
 f217 := Tryz.func170.trans (congrArg some (by kernel_rfl))
 f224 := Tryz.func180.trans (congrArg some (by kernel_rfl))
 f225 := Tryz.func181.trans (congrArg some (by kernel_rfl))
 f227 := Tryz.func144.trans (congrArg some (by kernel_rfl))
 f228 := Tryz.func145.trans (congrArg some (by kernel_rfl))
 f231 := Tryz.func171.trans (congrArg some (by kernel_rfl))
 f232 := Tryz.func172.trans (congrArg some (by kernel_rfl))
 f233 := Tryz.func173.trans (congrArg some (by kernel_rfl))
 f234 := Tryz.func174.trans (congrArg some (by kernel_rfl))
 f235 := Tryz.func175.trans (congrArg some (by kernel_rfl))
 f236 := Tryz.func176.trans (congrArg some (by kernel_rfl))
 f260 := Tryz.func213.trans (congrArg some (by kernel_rfl))
 f266 := Tryz.func198.trans (congrArg some (by kernel_rfl))
 f271 := Tryz.func201.trans (congrArg some (by kernel_rfl))
 t0 := Tryz.underlying0
 a0 := Tryz.isAgg0
 z0 := Tryz.sizeOf0
 v0 := Tryz.zeroValue0
 t3 := Tryz.underlying3
 a3 := Tryz.isAgg3
 z3 := Tryz.sizeOf3
 v3 := Tryz.zeroValue3
 t4 := Tryz.underlying4
 a4 := Tryz.isAgg4
 z4 := Tryz.sizeOf4
 v4 := Tryz.zeroValue4
 t5 := Tryz.underlying5
 a5 := Tryz.isAgg5
 z5 := Tryz.sizeOf5
 v5 := Tryz.zeroValue5
 t9 := Tryz.underlying9
 a9 := Tryz.isAgg9
 z9 := Tryz.sizeOf9
 v9 := Tryz.zeroValue9
 t21 := Tryz.underlying21
 a21 := Tryz.isAgg21
 z21 := Tryz.sizeOf21
 v21 := Tryz.zeroValue21
 t46 := Tryz.underlying56
 a46 := Tryz.isAgg56
 z46 := Tryz.sizeOf56
 v46 := Tryz.zeroValue56
 t105 := Tryz.underlying208
 a105 := Tryz.isAgg208
 z105 := Tryz.sizeOf208
 v105 := Tryz.zeroValue208
 t116 := Tryz.underlying168
 a116 := Tryz.isAgg168
 z116 := Tryz.sizeOf168
 t117 := Tryz.underlying169
 a117 := Tryz.isAgg169
 z117 := Tryz.sizeOf169
 v117 := Tryz.zeroValue169
 t119 := Tryz.underlying213
 a119 := Tryz.isAgg213
 z119 := Tryz.sizeOf213
 t124 := Tryz.underlying196
 a124 := Tryz.isAgg196
 z124 := Tryz.sizeOf196
 v124 := Tryz.zeroValue196
 t138 := Tryz.underlying215
 a138 := Tryz.isAgg215
 z138 := Tryz.sizeOf215
 v138 := Tryz.zeroValue215
 t139 := Tryz.underlying216
 a139 := Tryz.isAgg216
 z139 := Tryz.sizeOf216
 v139 := Tryz.zeroValue216
 g3 := by kernel_rfl
 g4 := by kernel_rfl }
end Go.Proofs
