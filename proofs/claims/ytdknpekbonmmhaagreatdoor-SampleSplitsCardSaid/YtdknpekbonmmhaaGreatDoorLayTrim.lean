/-
  DERIVED: THE SHELF's CONTRACTS AT THIS DUMP, IN PLAIN WORDS (tools/lay-plain.mjs out of 'YtdknpekbonmmhaaGreatDoorLayTrim.lean', which tools/lay-shelf.mjs wrote): THE SAME DECLARATIONS UNDER THE SAME NAMES: 'import', 'namespace', 'open', 'def', 'theorem' AND NOTHING ELSE: no command of the shelf's: FOR A HAND-IN. Each laying: the table of numbers ('.._ren') and one theorem, a field a fact of the dump's own or the kernel's comparison; each contract: ONE APPLICATION.
-/
import Derived.Ground.NamesProg
import Derived.Shelf.Strings.SlTrimAscii
import Derived.Test.YtdknpekbonmmhaaGreatDoorProg
namespace Go.Proofs
open Go.Shelf
def Tryz.lays160_ren : Go.Shelf.Ren := ⟨fun | 160 => 240 | 232 => 297 | 231 => 296 | 227 => 298 | 234 => 300 | 233 => 299 | 236 => 302 | 235 => 301 | 228 => 346 | 271 => 348 | 151 => 347 | 197 => 312 | 120 => 372 | 152 => 371 | 260 => 358 | 137 => 386 | 119 => 387 | 224 => 356 | 225 => 355 | 217 => 354 | 266 => 379 | n => n, fun | 9 => 9 | 4 => 4 | 3 => 3 | 5 => 5 | 117 => 304 | 116 => 303 | 0 => 0 | 124 => 307 | 21 => 21 | 105 => 319 | 46 => 173 | 119 => 267 | 139 => 346 | 138 => 345 | n => n, fun | 3 => 3 | 4 => 4 | n => n⟩
theorem Tryz.lays160 : Go.Proofs.Lays.n160 Tryz.prog Tryz.lays160_ren := {
  mixed := by kernel_rfl
  f119 := Tryz.func387.trans (congrArg some (by kernel_rfl))
  f120 := Tryz.func372.trans (congrArg some (by kernel_rfl))
  f137 := Tryz.func386.trans (congrArg some (by kernel_rfl))
  f151 := Tryz.func347.trans (congrArg some (by kernel_rfl))
  f152 := Tryz.func371.trans (congrArg some (by kernel_rfl))
  f160 := Tryz.func240.trans (congrArg some (by kernel_rfl))
  f197 := Tryz.func312.trans (congrArg some (by kernel_rfl))
  f217 := Tryz.func354.trans (congrArg some (by kernel_rfl))
  f224 := Tryz.func356.trans (congrArg some (by kernel_rfl))
  f225 := Tryz.func355.trans (congrArg some (by kernel_rfl))
  f227 := Tryz.func298.trans (congrArg some (by kernel_rfl))
  f228 := Tryz.func346.trans (congrArg some (by kernel_rfl))
  f231 := Tryz.func296.trans (congrArg some (by kernel_rfl))
  f232 := Tryz.func297.trans (congrArg some (by kernel_rfl))
  f233 := Tryz.func299.trans (congrArg some (by kernel_rfl))
  f234 := Tryz.func300.trans (congrArg some (by kernel_rfl))
  f235 := Tryz.func301.trans (congrArg some (by kernel_rfl))
  f236 := Tryz.func302.trans (congrArg some (by kernel_rfl))
  f260 := Tryz.func358.trans (congrArg some (by kernel_rfl))
  f266 := Tryz.func379.trans (congrArg some (by kernel_rfl))
  f271 := Tryz.func348.trans (congrArg some (by kernel_rfl))
  t0 := Tryz.underlying0
  a0 := Tryz.isAgg0
  z0 := Tryz.sizeOf0
  v0 := Tryz.zeroValue0
  t3 := Tryz.underlying3
  a3 := Tryz.isAgg3
  z3 := Tryz.sizeOf3
  v3 := Tryz.zeroValue3
  t4 := Tryz.underlying4
  a4 := Tryz.isAgg4
  z4 := Tryz.sizeOf4
  v4 := Tryz.zeroValue4
  t5 := Tryz.underlying5
  a5 := Tryz.isAgg5
  z5 := Tryz.sizeOf5
  v5 := Tryz.zeroValue5
  t9 := Tryz.underlying9
  a9 := Tryz.isAgg9
  z9 := Tryz.sizeOf9
  v9 := Tryz.zeroValue9
  t21 := Tryz.underlying21
  a21 := Tryz.isAgg21
  z21 := Tryz.sizeOf21
  v21 := Tryz.zeroValue21
  t46 := Tryz.underlying173
  a46 := Tryz.isAgg173
  z46 := Tryz.sizeOf173
  v46 := Tryz.zeroValue173
  t105 := Tryz.underlying319
  a105 := Tryz.isAgg319
  z105 := Tryz.sizeOf319
  v105 := Tryz.zeroValue319
  t116 := Tryz.underlying303
  a116 := Tryz.isAgg303
  z116 := Tryz.sizeOf303
  t117 := Tryz.underlying304
  a117 := Tryz.isAgg304
  z117 := Tryz.sizeOf304
  v117 := Tryz.zeroValue304
  t119 := Tryz.underlying267
  a119 := Tryz.isAgg267
  z119 := Tryz.sizeOf267
  t124 := Tryz.underlying307
  a124 := Tryz.isAgg307
  z124 := Tryz.sizeOf307
  v124 := Tryz.zeroValue307
  t138 := Tryz.underlying345
  a138 := Tryz.isAgg345
  z138 := Tryz.sizeOf345
  v138 := Tryz.zeroValue345
  t139 := Tryz.underlying346
  a139 := Tryz.isAgg346
  z139 := Tryz.sizeOf346
  v139 := Tryz.zeroValue346
  g3 := by kernel_rfl
  g4 := by kernel_rfl }
end Go.Proofs
