/- FilterKeeps: a part of its proof. -/
import Derived.Test.YtofkkenmkflmiaaGreatDoorCards
import Derived.ProofKit
namespace Go.Proofs.YtofkkenmkflmiaaGreatDoor
set_option linter.unusedVariables false
set_option linter.unusedSimpArgs false
namespace FilterKeepsFrame

set_option maxRecDepth 100000 in
theorem wfT : Rows.filterKeepsRow.wfByText (OpenSpec.ofChange Rows.filterKeepsSpec) = true := by kernel_rfl
set_option maxRecDepth 100000 in
theorem mainT : Tryz.pinned.checked.prog.mainIs = some (Rows.filterKeepsCard.stood.harness.1, Rows.filterKeepsCard.stood.harness.2.toList) := by kernel_rfl

end FilterKeepsFrame
end Go.Proofs.YtofkkenmkflmiaaGreatDoor
