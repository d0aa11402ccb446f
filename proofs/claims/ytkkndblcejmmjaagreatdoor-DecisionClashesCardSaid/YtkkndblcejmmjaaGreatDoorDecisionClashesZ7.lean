/- Texts of the proof of DecisionClashes, put together: LaySco. -/
import Derived.Ground.NamesProg
import Derived.Shelf.SlIter.Nil
import Derived.Ground.GgzProg
import Derived.Test.YtkkndblcejmmjaaGreatDoorProg
/-
 DERIVED: THE SHELF's CONTRACTS AT THIS DUMP, IN PLAIN WORDS (tools/lay-plain.mjs out of 'YtkkndblcejmmjaaGreatDoorLaySco.lean', which tools/lay-shelf.mjs wrote): THE SAME DECLARATIONS UNDER THE SAME NAMES: 'import', 'namespace', 'open', 'def', 'theorem' AND NOTHING ELSE: no command of the shelf's: FOR A HAND-IN. Each laying: the table of numbers ('.._ren') and one theorem, a field a fact of the dump's own or the kernel's comparison; each contract: ONE APPLICATION.
-/
namespace Go.Proofs
open Go.Shelf
def Tryz.keysSO_ren : Go.Shelf.Ren := ⟨fun | 7 => 105 | 10 => 155 | n => n, fun | 23 => 152 | 26 => 9 | 3 => 96 | 28 => 142 | 0 => 0 | 27 => 141 | 33 => 74 | 4 => 4 | n => n, fun | n => n⟩
theorem Tryz.keysSO : Go.Proofs.SlLaysZ.n7 Tryz.prog Tryz.keysSO_ren := {
 mixed := by kernel_rfl
 f7 := ⟨Tryz.f105.name, by decide, Tryz.func105.trans (congrArg some (by kernel_rfl))⟩
 f10 := ⟨Tryz.f155.name, by decide, Tryz.func155.trans (congrArg some (by kernel_rfl))⟩
 t0 := Tryz.underlying0
 a0 := Tryz.isAgg0
 z0 := Tryz.sizeOf0
 v0 := Tryz.zeroValue0
 t4 := Tryz.underlying4
 a4 := Tryz.isAgg4
 z4 := Tryz.sizeOf4
 v4 := Tryz.zeroValue4
 t23 := Tryz.underlying152
 a23 := Tryz.isAgg152
 z23 := Tryz.sizeOf152
 v23 := Tryz.zeroValue152
 t26 := Tryz.underlying9
 a26 := Tryz.isAgg9
 z26 := Tryz.sizeOf9
 v26 := Tryz.zeroValue9
 t27 := Tryz.underlying141
 a27 := Tryz.isAgg141
 z27 := Tryz.sizeOf141
 v27 := Tryz.zeroValue141
 t28 := Tryz.underlying142
 a28 := Tryz.isAgg142
 z28 := Tryz.sizeOf142
 v28 := Tryz.zeroValue142
 t33 := Tryz.underlying74
 a33 := Tryz.isAgg74
 z33 := Tryz.sizeOf74
 v33 := Tryz.zeroValue74 }
end Go.Proofs
