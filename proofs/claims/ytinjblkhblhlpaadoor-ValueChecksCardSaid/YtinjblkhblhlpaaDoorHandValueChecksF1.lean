/- ValueChecks: a part of its proof. -/
import Derived.Test.YtinjblkhblhlpaaDoorRows
import Derived.ProofKit
namespace Go.Proofs.YtinjblkhblhlpaaDoor
set_option linter.unusedVariables false
set_option linter.unusedSimpArgs false
namespace ValueChecksFrame

set_option maxRecDepth 100000 in
theorem fact1 : (Rows.valueChecksRow.inPlace == Tryd.pinned.checked.prog.inPlace 3) = true := by kernel_rfl

end ValueChecksFrame
end Go.Proofs.YtinjblkhblhlpaaDoor
