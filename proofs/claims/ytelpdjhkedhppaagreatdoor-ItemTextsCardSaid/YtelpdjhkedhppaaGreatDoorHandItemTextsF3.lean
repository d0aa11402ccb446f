/- ItemTexts: a part of its proof. -/
import Derived.Test.YtelpdjhkedhppaaGreatDoorRows
import Derived.ProofKit
namespace Go.Proofs.YtelpdjhkedhppaaGreatDoor
set_option linter.unusedVariables false
set_option linter.unusedSimpArgs false
namespace ItemTextsFrame

set_option maxRecDepth 100000 in
theorem fact3 : (Rows.itemTextsRow.recurses == Tryz.pinned.checked.prog.recurses 3) = true := by kernel_rfl

end ItemTextsFrame
end Go.Proofs.YtelpdjhkedhppaaGreatDoor
