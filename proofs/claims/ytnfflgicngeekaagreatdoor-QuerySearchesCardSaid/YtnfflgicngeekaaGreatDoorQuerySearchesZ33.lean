/- Texts of the proof of QuerySearches, put together: LayG. -/
import Derived.Test.YtnfflgicngeekaaGreatDoorQuerySearchesZ12
import Derived.Test.YtnfflgicngeekaaGreatDoorQuerySearchesZ31
import Derived.Deep.AppendLies
set_option linter.unusedVariables false
set_option linter.unusedSimpArgs false
namespace Go.Proofs.YtnfflgicngeekaaGreatDoor
open Go.RowKit
theorem containsM_calls (w:World) (v:Value) (xs:List Str) (y:Str) (b:Bool) (h:decide (y∈xs)=b) (hv:Sl w 9 1 v (strsV xs)):Calls Tryz.prog 174 #[v,.string ⟨y.toArray⟩] w (BoolPost w b):=by
 have:=containsQs_calls w v xs y hv;rw [any_memT,h] at this;exact this
end Go.Proofs.YtnfflgicngeekaaGreatDoor
