/- ItemTexts: a part of its proof. -/
import Derived.Test.YtelpdjhkedhppaaGreatDoorRows
import Derived.ProofKit
namespace Go.Proofs.YtelpdjhkedhppaaGreatDoor
set_option linter.unusedVariables false
set_option linter.unusedSimpArgs false
namespace ItemTextsFrame

set_option maxRecDepth 100000 in
theorem fact4 : (Rows.itemTextsRow.named == Tryz.pinned.checked.prog.varsNamed 3) = true := by kernel_rfl

end ItemTextsFrame
end Go.Proofs.YtelpdjhkedhppaaGreatDoor
