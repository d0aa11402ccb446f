/- SampleSplits: a part of its proof. -/
import Derived.Test.YtdknpekbonmmhaaGreatDoorCards
import Derived.ProofKit
namespace Go.Proofs.YtdknpekbonmmhaaGreatDoor
set_option linter.unusedVariables false
set_option linter.unusedSimpArgs false
namespace SampleSplitsFrame

set_option maxRecDepth 100000 in
theorem goes : false = Rows.sampleSplitsRow.goesBy Tryz.pinned.checked.prog := by kernel_rfl

end SampleSplitsFrame
end Go.Proofs.YtdknpekbonmmhaaGreatDoor
