/- QuerySearches: a part of its proof. -/
import Derived.Test.YtnfflgicngeekaaGreatDoorCards
import Derived.ProofKit
namespace Go.Proofs.YtnfflgicngeekaaGreatDoor
set_option linter.unusedVariables false
set_option linter.unusedSimpArgs false
namespace QuerySearchesFrame

set_option maxRecDepth 100000 in
theorem goes : false = Rows.querySearchesRow.goesBy Tryz.pinned.checked.prog := by kernel_rfl

end QuerySearchesFrame
end Go.Proofs.YtnfflgicngeekaaGreatDoor
