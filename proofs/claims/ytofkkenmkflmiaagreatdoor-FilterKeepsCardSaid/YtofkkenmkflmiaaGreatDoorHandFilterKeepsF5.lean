/- FilterKeeps: a part of its proof. -/
import Derived.Test.YtofkkenmkflmiaaGreatDoorCards
import Derived.ProofKit
namespace Go.Proofs.YtofkkenmkflmiaaGreatDoor
set_option linter.unusedVariables false
set_option linter.unusedSimpArgs false
namespace FilterKeepsFrame

set_option maxRecDepth 100000 in
theorem goes : false = Rows.filterKeepsRow.goesBy Tryz.pinned.checked.prog := by kernel_rfl

end FilterKeepsFrame
end Go.Proofs.YtofkkenmkflmiaaGreatDoor
