/- StoreAdds: a part of its proof. -/
import Derived.Test.YtbdeicbdehgeiaaGreatDoorCards
import Derived.ProofKit
namespace Go.Proofs.YtbdeicbdehgeiaaGreatDoor
set_option linter.unusedVariables false
set_option linter.unusedSimpArgs false
namespace StoreAddsFrame

set_option maxRecDepth 100000 in
theorem goes : false = Rows.storeAddsRow.goesBy Tryz.pinned.checked.prog := by kernel_rfl

end StoreAddsFrame
end Go.Proofs.YtbdeicbdehgeiaaGreatDoor
