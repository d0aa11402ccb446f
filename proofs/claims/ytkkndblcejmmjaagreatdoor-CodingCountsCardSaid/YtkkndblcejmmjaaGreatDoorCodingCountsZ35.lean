/- Texts of the proof of CodingCounts, put together: DecA, DecC, DecD. -/
import Derived.Test.YtkkndblcejmmjaaGreatDoorCodingCountsZ20
import Derived.Test.YtkkndblcejmmjaaGreatDoorCodingCountsZ30
import Derived.Test.YtkkndblcejmmjaaGreatDoorCodingCountsZ31
import Derived.Test.YtkkndblcejmmjaaGreatDoorCodingCountsZ34
/- One decision's errors: decisionFault of the reference. -/
namespace Go.Proofs.YtkkndblcejmmjaaGreatDoor
set_option linter.unusedVariables false
set_option linter.unusedSimpArgs false
open Go.RowKit

end Go.Proofs.YtkkndblcejmmjaaGreatDoor

/- DecisionsFault of the reference. -/
namespace Go.Proofs.YtkkndblcejmmjaaGreatDoor
set_option linter.unusedVariables false
set_option linter.unusedSimpArgs false
open Go.RowKit

end Go.Proofs.YtkkndblcejmmjaaGreatDoor

/- Check of the program. -/
namespace Go.Proofs.YtkkndblcejmmjaaGreatDoor
set_option linter.unusedVariables false
set_option linter.unusedSimpArgs false
open Go.RowKit

end Go.Proofs.YtkkndblcejmmjaaGreatDoor
