/- Texts of the proof of ItemTexts, put together: GroF. -/
import Derived.Test.YtelpdjhkedhppaaGreatDoorItemTextsZ25
import Derived.RangeFuncNested
import Derived.RangeFuncBound
import Derived.RangeFuncCalls
import Derived.RangeFuncLeaves
import Derived.Shelf.Abstract
import Derived.Shelf.RegionOpen
import Derived.WalkKit
import Derived.OwnWalkIn
import Derived.TacticsInMore
import Derived.LoopNIn
import Derived.LoopIn
set_option linter.unusedVariables false
set_option linter.unusedSimpArgs false
/- slices.Backward over strings. -/
namespace Go.Proofs.YtelpdjhkedhppaaGreatDoor
open Go.RowKit Go.Shelf
attribute [local go_sem] Oper.semAt_some
end Go.Proofs.YtelpdjhkedhppaaGreatDoor
