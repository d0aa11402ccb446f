/- DeskHands: a part of its proof. -/
import Derived.Test.YtgfgggeeoeppjaaGreatDoorCards
import Derived.ProofKit
namespace Go.Proofs.YtgfgggeeoeppjaaGreatDoor
set_option linter.unusedVariables false
set_option linter.unusedSimpArgs false
namespace DeskHandsFrame

set_option maxRecDepth 100000 in
theorem wfT : Rows.deskHandsRow.wfByText (OpenSpec.ofChange Rows.deskHandsSpec) = true := by kernel_rfl
set_option maxRecDepth 100000 in
theorem mainT : Tryz.pinned.checked.prog.mainIs = some (Rows.deskHandsCard.stood.harness.1, Rows.deskHandsCard.stood.harness.2.toList) := by kernel_rfl

end DeskHandsFrame
end Go.Proofs.YtgfgggeeoeppjaaGreatDoor
