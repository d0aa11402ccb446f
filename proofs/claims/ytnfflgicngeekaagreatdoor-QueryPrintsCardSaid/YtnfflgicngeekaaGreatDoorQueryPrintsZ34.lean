/- Texts of the proof of QueryPrints, put together: LayG. -/
import Derived.Test.YtnfflgicngeekaaGreatDoorQueryPrintsZ12
import Derived.Test.YtnfflgicngeekaaGreatDoorQueryPrintsZ32
import Derived.Deep.AppendLies
/- The rules that values break: program and reference. -/
namespace Go.Proofs.YtnfflgicngeekaaGreatDoor
set_option linter.unusedVariables false
set_option linter.unusedSimpArgs false
open Go.RowKit

theorem containsM_calls (w : World) (v : Value) (xs : List Str) (y : Str) (b : Bool) (h : decide (y ∈ xs) = b) (hv : Sl w 9 1 v (strsV xs)) : Calls Tryz.prog 174 #[v, .string ⟨y.toArray⟩] w (BoolPost w b) := by
 have := containsQs_calls w v xs y hv
 rw [any_memT, h] at this
 exact this
end Go.Proofs.YtnfflgicngeekaaGreatDoor
