/- QueryPatterns: a part of its proof. -/
import Derived.Test.YtbajgjbdcgakoaaGreatDoorCards
import Derived.ProofKit
namespace Go.Proofs.YtbajgjbdcgakoaaGreatDoor
set_option linter.unusedVariables false
set_option linter.unusedSimpArgs false
namespace QueryPatternsFrame

set_option maxRecDepth 100000 in
theorem goes : false = Rows.queryPatternsRow.goesBy Tryz.pinned.checked.prog := by kernel_rfl

end QueryPatternsFrame
end Go.Proofs.YtbajgjbdcgakoaaGreatDoor
