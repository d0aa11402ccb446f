/- Texts of the proof of QueryPrints, put together: SrtP. -/
import Derived.Test.YtnfflgicngeekaaGreatDoorQueryPrintsZ9
import Derived.Sort.OwnSorted
import Derived.Lib.SlicesCompact
/- Sorted lists of strings, without doubles: plain. -/
namespace Go.Proofs.YtnfflgicngeekaaGreatDoor
set_option linter.unusedVariables false
set_option linter.unusedSimpArgs false
open Go.RowKit Go.Sort

end Go.Proofs.YtnfflgicngeekaaGreatDoor
