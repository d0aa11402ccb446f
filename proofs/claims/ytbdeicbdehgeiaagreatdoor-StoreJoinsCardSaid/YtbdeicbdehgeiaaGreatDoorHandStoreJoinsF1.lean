/- StoreJoins: a part of its proof. -/
import Derived.Test.YtbdeicbdehgeiaaGreatDoorRows
import Derived.ProofKit
namespace Go.Proofs.YtbdeicbdehgeiaaGreatDoor
set_option linter.unusedVariables false
set_option linter.unusedSimpArgs false
namespace StoreJoinsFrame

set_option maxRecDepth 100000 in
theorem fact1 : (Rows.storeJoinsRow.inPlace == Tryz.pinned.checked.prog.inPlace 7) = true := by kernel_rfl

end StoreJoinsFrame
end Go.Proofs.YtbdeicbdehgeiaaGreatDoor
