/- ValueChecks: a part of its proof. -/
import Derived.Test.YtinjblkhblhlpaaDoorCards
import Derived.ProofKit
namespace Go.Proofs.YtinjblkhblhlpaaDoor
set_option linter.unusedVariables false
set_option linter.unusedSimpArgs false
namespace ValueChecksFrame

set_option maxRecDepth 100000 in
theorem goes : false = Rows.valueChecksRow.goesBy Tryd.pinned.checked.prog := by kernel_rfl

end ValueChecksFrame
end Go.Proofs.YtinjblkhblhlpaaDoor
