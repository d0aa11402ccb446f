/- QueryOrders: a part of its proof. -/
import Derived.Test.YtbajgjbdcgakoaaGreatDoorRows
import Derived.ProofKit
namespace Go.Proofs.YtbajgjbdcgakoaaGreatDoor
set_option linter.unusedVariables false
set_option linter.unusedSimpArgs false
namespace QueryOrdersFrame

set_option maxRecDepth 100000 in
theorem fact3 : (Rows.queryOrdersRow.recurses == Tryz.pinned.checked.prog.recurses 5) = true := by kernel_rfl

end QueryOrdersFrame
end Go.Proofs.YtbajgjbdcgakoaaGreatDoor
