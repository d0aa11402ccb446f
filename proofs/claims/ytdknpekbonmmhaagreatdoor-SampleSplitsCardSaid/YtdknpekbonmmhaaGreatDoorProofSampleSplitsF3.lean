/- SampleSplits: a part of its proof. -/
import Derived.Test.YtdknpekbonmmhaaGreatDoorRows
import Derived.ProofKit
namespace Go.Proofs.YtdknpekbonmmhaaGreatDoor
set_option linter.unusedVariables false
set_option linter.unusedSimpArgs false
namespace SampleSplitsFrame

set_option maxRecDepth 100000 in
theorem fact3 : (Rows.sampleSplitsRow.recurses == Tryz.pinned.checked.prog.recurses 5) = true := by kernel_rfl

end SampleSplitsFrame
end Go.Proofs.YtdknpekbonmmhaaGreatDoor
