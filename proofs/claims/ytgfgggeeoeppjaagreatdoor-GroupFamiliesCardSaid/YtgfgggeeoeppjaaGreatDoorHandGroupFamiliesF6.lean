/- GroupFamilies: a part of its proof. -/
import Derived.Test.YtgfgggeeoeppjaaGreatDoorCards
import Derived.ProofKit
namespace Go.Proofs.YtgfgggeeoeppjaaGreatDoor
set_option linter.unusedVariables false
set_option linter.unusedSimpArgs false
namespace GroupFamiliesFrame

set_option maxRecDepth 100000 in
theorem wfT : Rows.groupFamiliesRow.wfByText (OpenSpec.ofChange Rows.groupFamiliesSpec) = true := by kernel_rfl
set_option maxRecDepth 100000 in
theorem mainT : Tryz.pinned.checked.prog.mainIs = some (Rows.groupFamiliesCard.stood.harness.1, Rows.groupFamiliesCard.stood.harness.2.toList) := by kernel_rfl

end GroupFamiliesFrame
end Go.Proofs.YtgfgggeeoeppjaaGreatDoor
