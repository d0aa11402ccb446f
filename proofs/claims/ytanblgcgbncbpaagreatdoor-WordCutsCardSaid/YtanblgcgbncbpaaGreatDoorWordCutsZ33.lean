/- Texts of the proof of WordCuts, put together: LayA, LayB, LayF. -/
import Derived.Test.YtanblgcgbncbpaaGreatDoorWordCutsZ13
import Derived.Test.YtanblgcgbncbpaaGreatDoorWordCutsZ18
import Derived.Test.YtanblgcgbncbpaaGreatDoorWordCutsZ30
import Derived.Deep.DeepCutAuto
import Derived.Deep.CutBlock
/- Fields of a layout: where they are, whether they have a choice (program and reference). -/
namespace Go.Proofs.YtanblgcgbncbpaaGreatDoor
set_option linter.unusedVariables false
set_option linter.unusedSimpArgs false
open Go.RowKit


end Go.Proofs.YtanblgcgbncbpaaGreatDoor

/- Where a field is, whether it has a choice: program and reference. -/
namespace Go.Proofs.YtanblgcgbncbpaaGreatDoor
set_option linter.unusedVariables false
set_option linter.unusedSimpArgs false
open Go.RowKit

end Go.Proofs.YtanblgcgbncbpaaGreatDoor

/- What was chosen for a field: program and reference. -/
namespace Go.Proofs.YtanblgcgbncbpaaGreatDoor
set_option linter.unusedVariables false
set_option linter.unusedSimpArgs false
open Go.RowKit

end Go.Proofs.YtanblgcgbncbpaaGreatDoor
