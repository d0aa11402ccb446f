/- ItemDiffers: a part of its proof. -/
import Derived.Test.YtbdeicbdehgeiaaGreatDoorRows
import Derived.ProofKit
namespace Go.Proofs.YtbdeicbdehgeiaaGreatDoor
set_option linter.unusedVariables false
set_option linter.unusedSimpArgs false
namespace ItemDiffersFrame

set_option maxRecDepth 100000 in
theorem fact4 : (Rows.itemDiffersRow.named == Tryz.pinned.checked.prog.varsNamed 5) = true := by kernel_rfl

end ItemDiffersFrame
end Go.Proofs.YtbdeicbdehgeiaaGreatDoor
