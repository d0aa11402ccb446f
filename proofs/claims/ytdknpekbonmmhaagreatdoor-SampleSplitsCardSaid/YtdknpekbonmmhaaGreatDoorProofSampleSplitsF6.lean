/- SampleSplits: a part of its proof. -/
import Derived.Test.YtdknpekbonmmhaaGreatDoorCards
import Derived.ProofKit
namespace Go.Proofs.YtdknpekbonmmhaaGreatDoor
set_option linter.unusedVariables false
set_option linter.unusedSimpArgs false
namespace SampleSplitsFrame

set_option maxRecDepth 100000 in
theorem wfT : Rows.sampleSplitsRow.wfByText (OpenSpec.ofChange Rows.sampleSplitsSpec) = true := by kernel_rfl
set_option maxRecDepth 100000 in
theorem mainT : Tryz.pinned.checked.prog.mainIs = some (Rows.sampleSplitsCard.stood.harness.1, Rows.sampleSplitsCard.stood.harness.2.toList) := by kernel_rfl

end SampleSplitsFrame
end Go.Proofs.YtdknpekbonmmhaaGreatDoor
