/- FamilySums: a part of its proof. -/
import Derived.Test.YtglekmflcaacjaaGreatDoorCards
import Derived.ProofKit
namespace Go.Proofs.YtglekmflcaacjaaGreatDoor
set_option linter.unusedVariables false
set_option linter.unusedSimpArgs false
namespace FamilySumsFrame

set_option maxRecDepth 100000 in
theorem wfT : Rows.familySumsRow.wfByText (OpenSpec.ofChange Rows.familySumsSpec) = true := by kernel_rfl
set_option maxRecDepth 100000 in
theorem mainT : Tryz.pinned.checked.prog.mainIs = some (Rows.familySumsCard.stood.harness.1, Rows.familySumsCard.stood.harness.2.toList) := by kernel_rfl

end FamilySumsFrame
end Go.Proofs.YtglekmflcaacjaaGreatDoor
