/- Texts of the proof of QueryPrints, put together: LayA, LayB, LayF. -/
import Derived.Test.YtnfflgicngeekaaGreatDoorQueryPrintsZ12
import Derived.Test.YtnfflgicngeekaaGreatDoorQueryPrintsZ18
import Derived.Test.YtnfflgicngeekaaGreatDoorQueryPrintsZ28
import Derived.Deep.DeepCutAuto
import Derived.Deep.CutBlock
/- Fields of a layout: where they are, whether they have a choice (program and reference). -/
namespace Go.Proofs.YtnfflgicngeekaaGreatDoor
set_option linter.unusedVariables false
set_option linter.unusedSimpArgs false
open Go.RowKit


end Go.Proofs.YtnfflgicngeekaaGreatDoor

/- Where a field is, whether it has a choice: program and reference. -/
namespace Go.Proofs.YtnfflgicngeekaaGreatDoor
set_option linter.unusedVariables false
set_option linter.unusedSimpArgs false
open Go.RowKit

end Go.Proofs.YtnfflgicngeekaaGreatDoor

/- What was chosen for a field: program and reference. -/
namespace Go.Proofs.YtnfflgicngeekaaGreatDoor
set_option linter.unusedVariables false
set_option linter.unusedSimpArgs false
open Go.RowKit

end Go.Proofs.YtnfflgicngeekaaGreatDoor
