/- SampleLeasts: a part of its proof. -/
import Derived.Test.YtkchninlhemioaaGreatDoorCards
import Derived.ProofKit
namespace Go.Proofs.YtkchninlhemioaaGreatDoor
set_option linter.unusedVariables false
set_option linter.unusedSimpArgs false
namespace SampleLeastsFrame

set_option maxRecDepth 100000 in
theorem wfT : Rows.sampleLeastsRow.wfByText (OpenSpec.ofChange Rows.sampleLeastsSpec) = true := by kernel_rfl
set_option maxRecDepth 100000 in
theorem mainT : Tryz.pinned.checked.prog.mainIs = some (Rows.sampleLeastsCard.stood.harness.1, Rows.sampleLeastsCard.stood.harness.2.toList) := by kernel_rfl

end SampleLeastsFrame
end Go.Proofs.YtkchninlhemioaaGreatDoor
