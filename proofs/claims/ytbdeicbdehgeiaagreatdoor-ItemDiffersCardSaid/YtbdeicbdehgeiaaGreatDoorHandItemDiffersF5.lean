/- ItemDiffers: a part of its proof. -/
import Derived.Test.YtbdeicbdehgeiaaGreatDoorCards
import Derived.ProofKit
namespace Go.Proofs.YtbdeicbdehgeiaaGreatDoor
set_option linter.unusedVariables false
set_option linter.unusedSimpArgs false
namespace ItemDiffersFrame

set_option maxRecDepth 100000 in
theorem goes : false = Rows.itemDiffersRow.goesBy Tryz.pinned.checked.prog := by kernel_rfl

end ItemDiffersFrame
end Go.Proofs.YtbdeicbdehgeiaaGreatDoor
