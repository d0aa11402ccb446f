/- StoreAdds: a part of its proof. -/
import Derived.Test.YtbdeicbdehgeiaaGreatDoorCards
import Derived.ProofKit
namespace Go.Proofs.YtbdeicbdehgeiaaGreatDoor
set_option linter.unusedVariables false
set_option linter.unusedSimpArgs false
namespace StoreAddsFrame

set_option maxRecDepth 100000 in
theorem wfT : Rows.storeAddsRow.wfByText (OpenSpec.ofChange Rows.storeAddsSpec) = true := by kernel_rfl
set_option maxRecDepth 100000 in
theorem mainT : Tryz.pinned.checked.prog.mainIs = some (Rows.storeAddsCard.stood.harness.1, Rows.storeAddsCard.stood.harness.2.toList) := by kernel_rfl

end StoreAddsFrame
end Go.Proofs.YtbdeicbdehgeiaaGreatDoor
