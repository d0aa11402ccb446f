/- StoreJoins: a part of its proof. -/
import Derived.Test.YtbdeicbdehgeiaaGreatDoorCards
import Derived.ProofKit
namespace Go.Proofs.YtbdeicbdehgeiaaGreatDoor
set_option linter.unusedVariables false
set_option linter.unusedSimpArgs false
namespace StoreJoinsFrame

set_option maxRecDepth 100000 in
theorem goes : false = Rows.storeJoinsRow.goesBy Tryz.pinned.checked.prog := by kernel_rfl

end StoreJoinsFrame
end Go.Proofs.YtbdeicbdehgeiaaGreatDoor
