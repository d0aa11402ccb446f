/- SampleStrata: a part of its proof. -/
import Derived.Test.YtkchninlhemioaaGreatDoorCards
import Derived.ProofKit
namespace Go.Proofs.YtkchninlhemioaaGreatDoor
set_option linter.unusedVariables false
set_option linter.unusedSimpArgs false
namespace SampleStrataFrame

set_option maxRecDepth 100000 in
theorem wfT : Rows.sampleStrataRow.wfByText (OpenSpec.ofChange Rows.sampleStrataSpec) = true := by kernel_rfl
set_option maxRecDepth 100000 in
theorem mainT : Tryz.pinned.checked.prog.mainIs = some (Rows.sampleStrataCard.stood.harness.1, Rows.sampleStrataCard.stood.harness.2.toList) := by kernel_rfl

end SampleStrataFrame
end Go.Proofs.YtkchninlhemioaaGreatDoor
