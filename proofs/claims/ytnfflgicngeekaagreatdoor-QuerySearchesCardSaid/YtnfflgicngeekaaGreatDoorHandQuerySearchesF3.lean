/- QuerySearches: a part of its proof. -/
import Derived.Test.YtnfflgicngeekaaGreatDoorRows
import Derived.ProofKit
namespace Go.Proofs.YtnfflgicngeekaaGreatDoor
set_option linter.unusedVariables false
set_option linter.unusedSimpArgs false
namespace QuerySearchesFrame

set_option maxRecDepth 100000 in
theorem fact3 : (Rows.querySearchesRow.recurses == Tryz.pinned.checked.prog.recurses 4) = true := by kernel_rfl

end QuerySearchesFrame
end Go.Proofs.YtnfflgicngeekaaGreatDoor
