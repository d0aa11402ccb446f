/- ItemTotals: a part of its proof. -/
import Derived.Test.YtbdeicbdehgeiaaGreatDoorRows
import Derived.ProofKit
namespace Go.Proofs.YtbdeicbdehgeiaaGreatDoor
set_option linter.unusedVariables false
set_option linter.unusedSimpArgs false
namespace ItemTotalsFrame

set_option maxRecDepth 100000 in
theorem fact4 : (Rows.itemTotalsRow.named == Tryz.pinned.checked.prog.varsNamed 4) = true := by kernel_rfl

end ItemTotalsFrame
end Go.Proofs.YtbdeicbdehgeiaaGreatDoor
