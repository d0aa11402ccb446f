/- Texts of the proof of CodingCounts, put together: SrtP. -/
import Derived.Test.YtkkndblcejmmjaaGreatDoorCodingCountsZ12
import Derived.Sort.OwnSorted
import Derived.Lib.SlicesCompact
/- Sorted lists of strings, without doubles: plain. -/
namespace Go.Proofs.YtkkndblcejmmjaaGreatDoor
set_option linter.unusedVariables false
set_option linter.unusedSimpArgs false
open Go.RowKit Go.Sort

end Go.Proofs.YtkkndblcejmmjaaGreatDoor
