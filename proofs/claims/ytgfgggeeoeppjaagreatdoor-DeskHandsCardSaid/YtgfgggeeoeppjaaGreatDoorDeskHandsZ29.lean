/- Texts of the proof of DeskHands, put together: LayD. -/
import Derived.Test.YtgfgggeeoeppjaaGreatDoorDeskHandsZ21
import Derived.Test.YtgfgggeeoeppjaaGreatDoorDeskHandsZ24
set_option linter.unusedVariables false
set_option linter.unusedSimpArgs false
/- LayoutFault of the reference. -/
namespace Go.Proofs.YtgfgggeeoeppjaaGreatDoor
open Go.RowKit
end Go.Proofs.YtgfgggeeoeppjaaGreatDoor
