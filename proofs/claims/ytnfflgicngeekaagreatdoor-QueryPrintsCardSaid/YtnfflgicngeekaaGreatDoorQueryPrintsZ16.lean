/- Texts of the proof of QueryPrints, put together: RowQ. -/
import Derived.Test.YtnfflgicngeekaaGreatDoorQueryPrintsZ9
import Derived.Shelf.SlicesQ.Reverse
import Derived.Sort.OwnSorted
/- Rows of structs that the library turns round. -/
namespace Go.Proofs.YtnfflgicngeekaaGreatDoor
set_option linter.unusedVariables false
set_option linter.unusedSimpArgs false
open Go.RowKit Go.Sort Go.Shelf

section
variable {α : Type} {enc : α → List Value} {k : Nat}
variable [Inhabited α]
end

end Go.Proofs.YtnfflgicngeekaaGreatDoor
