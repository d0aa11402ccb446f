/- Texts of the proof of QueryOrders, put together: LayA, LayB, LayF. -/
import Derived.Test.YtbajgjbdcgakoaaGreatDoorQueryOrdersZ12
import Derived.Test.YtbajgjbdcgakoaaGreatDoorQueryOrdersZ17
import Derived.Test.YtbajgjbdcgakoaaGreatDoorQueryOrdersZ28
import Derived.Deep.DeepCutAuto
import Derived.Deep.CutBlock
/- Fields of a layout: where they are, whether they have a choice (program and reference). -/
namespace Go.Proofs.YtbajgjbdcgakoaaGreatDoor
set_option linter.unusedVariables false
set_option linter.unusedSimpArgs false
open Go.RowKit


end Go.Proofs.YtbajgjbdcgakoaaGreatDoor

/- Where a field is, whether it has a choice: program and reference. -/
namespace Go.Proofs.YtbajgjbdcgakoaaGreatDoor
set_option linter.unusedVariables false
set_option linter.unusedSimpArgs false
open Go.RowKit

end Go.Proofs.YtbajgjbdcgakoaaGreatDoor

/- What was chosen for a field: program and reference. -/
namespace Go.Proofs.YtbajgjbdcgakoaaGreatDoor
set_option linter.unusedVariables false
set_option linter.unusedSimpArgs false
open Go.RowKit

end Go.Proofs.YtbajgjbdcgakoaaGreatDoor
