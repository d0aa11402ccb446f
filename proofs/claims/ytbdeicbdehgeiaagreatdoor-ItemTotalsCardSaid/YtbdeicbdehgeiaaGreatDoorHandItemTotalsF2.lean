/- ItemTotals: a part of its proof. -/
import Derived.Test.YtbdeicbdehgeiaaGreatDoorRows
import Derived.ProofKit
namespace Go.Proofs.YtbdeicbdehgeiaaGreatDoor
set_option linter.unusedVariables false
set_option linter.unusedSimpArgs false
namespace ItemTotalsFrame

set_option maxRecDepth 100000 in
theorem fact2 : (Rows.itemTotalsRow.unfollowed == Tryz.pinned.checked.prog.unfollowed 4) = true := by kernel_rfl

end ItemTotalsFrame
end Go.Proofs.YtbdeicbdehgeiaaGreatDoor
