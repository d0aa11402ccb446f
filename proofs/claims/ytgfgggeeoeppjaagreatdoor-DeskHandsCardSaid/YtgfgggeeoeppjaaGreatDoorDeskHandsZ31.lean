/- Texts of the proof of DeskHands, put together: DecA, DecC, DecD. -/
import Derived.Test.YtgfgggeeoeppjaaGreatDoorDeskHandsZ14
import Derived.Test.YtgfgggeeoeppjaaGreatDoorDeskHandsZ24
import Derived.Test.YtgfgggeeoeppjaaGreatDoorDeskHandsZ26
import Derived.Test.YtgfgggeeoeppjaaGreatDoorDeskHandsZ29
set_option linter.unusedVariables false
set_option linter.unusedSimpArgs false
/- One decision's errors: decisionFault of the reference. -/
namespace Go.Proofs.YtgfgggeeoeppjaaGreatDoor
open Go.RowKit
end Go.Proofs.YtgfgggeeoeppjaaGreatDoor
/- DecisionsFault of the reference. -/
namespace Go.Proofs.YtgfgggeeoeppjaaGreatDoor
open Go.RowKit
end Go.Proofs.YtgfgggeeoeppjaaGreatDoor
/- Check of the program. -/
namespace Go.Proofs.YtgfgggeeoeppjaaGreatDoor
open Go.RowKit
end Go.Proofs.YtgfgggeeoeppjaaGreatDoor
