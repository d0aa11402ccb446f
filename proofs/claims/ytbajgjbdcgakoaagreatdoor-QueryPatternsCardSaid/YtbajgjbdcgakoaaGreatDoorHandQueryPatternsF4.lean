/- QueryPatterns: a part of its proof. -/
import Derived.Test.YtbajgjbdcgakoaaGreatDoorRows
import Derived.ProofKit
namespace Go.Proofs.YtbajgjbdcgakoaaGreatDoor
set_option linter.unusedVariables false
set_option linter.unusedSimpArgs false
namespace QueryPatternsFrame

set_option maxRecDepth 100000 in
theorem fact4 : (Rows.queryPatternsRow.named == Tryz.pinned.checked.prog.varsNamed 4) = true := by kernel_rfl

end QueryPatternsFrame
end Go.Proofs.YtbajgjbdcgakoaaGreatDoor
