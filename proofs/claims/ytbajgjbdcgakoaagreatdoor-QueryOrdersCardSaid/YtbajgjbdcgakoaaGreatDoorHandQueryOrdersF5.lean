/- QueryOrders: a part of its proof. -/
import Derived.Test.YtbajgjbdcgakoaaGreatDoorCards
import Derived.ProofKit
namespace Go.Proofs.YtbajgjbdcgakoaaGreatDoor
set_option linter.unusedVariables false
set_option linter.unusedSimpArgs false
namespace QueryOrdersFrame

set_option maxRecDepth 100000 in
theorem goes : false = Rows.queryOrdersRow.goesBy Tryz.pinned.checked.prog := by kernel_rfl

end QueryOrdersFrame
end Go.Proofs.YtbajgjbdcgakoaaGreatDoor
