/- ItemTexts: a part of its proof. -/
import Derived.Test.YtelpdjhkedhppaaGreatDoorCards
import Derived.ProofKit
namespace Go.Proofs.YtelpdjhkedhppaaGreatDoor
set_option linter.unusedVariables false
set_option linter.unusedSimpArgs false
namespace ItemTextsFrame

set_option maxRecDepth 100000 in
theorem goes : false = Rows.itemTextsRow.goesBy Tryz.pinned.checked.prog := by kernel_rfl

end ItemTextsFrame
end Go.Proofs.YtelpdjhkedhppaaGreatDoor
