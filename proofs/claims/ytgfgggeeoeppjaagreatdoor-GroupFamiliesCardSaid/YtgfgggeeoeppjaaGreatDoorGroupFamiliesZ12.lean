/- Texts of the proof of GroupFamilies, put together: SrtP. -/
import Derived.Test.YtgfgggeeoeppjaaGreatDoorGroupFamiliesZ6
import Derived.Sort.OwnSorted
import Derived.Lib.SlicesCompact
set_option linter.unusedVariables false
set_option linter.unusedSimpArgs false
/- Sorted lists of strings, without doubles: plain. -/
namespace Go.Proofs.YtgfgggeeoeppjaaGreatDoor
open Go.RowKit Go.Sort
end Go.Proofs.YtgfgggeeoeppjaaGreatDoor
