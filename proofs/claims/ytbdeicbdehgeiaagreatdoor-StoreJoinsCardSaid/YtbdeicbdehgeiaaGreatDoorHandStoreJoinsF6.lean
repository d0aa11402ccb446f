/- StoreJoins: a part of its proof. -/
import Derived.Test.YtbdeicbdehgeiaaGreatDoorCards
import Derived.ProofKit
namespace Go.Proofs.YtbdeicbdehgeiaaGreatDoor
set_option linter.unusedVariables false
set_option linter.unusedSimpArgs false
namespace StoreJoinsFrame

set_option maxRecDepth 100000 in
theorem wfT : Rows.storeJoinsRow.wfByText (OpenSpec.ofChange Rows.storeJoinsSpec) = true := by kernel_rfl
set_option maxRecDepth 100000 in
theorem mainT : Tryz.pinned.checked.prog.mainIs = some (Rows.storeJoinsCard.stood.harness.1, Rows.storeJoinsCard.stood.harness.2.toList) := by kernel_rfl

end StoreJoinsFrame
end Go.Proofs.YtbdeicbdehgeiaaGreatDoor
