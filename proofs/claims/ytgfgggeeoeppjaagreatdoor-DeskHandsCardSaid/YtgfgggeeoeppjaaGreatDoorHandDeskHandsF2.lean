/- DeskHands: a part of its proof. -/
import Derived.Test.YtgfgggeeoeppjaaGreatDoorRows
import Derived.ProofKit
namespace Go.Proofs.YtgfgggeeoeppjaaGreatDoor
set_option linter.unusedVariables false
set_option linter.unusedSimpArgs false
namespace DeskHandsFrame

set_option maxRecDepth 100000 in
theorem fact2 : (Rows.deskHandsRow.unfollowed == Tryz.pinned.checked.prog.unfollowed 3) = true := by kernel_rfl

end DeskHandsFrame
end Go.Proofs.YtgfgggeeoeppjaaGreatDoor
