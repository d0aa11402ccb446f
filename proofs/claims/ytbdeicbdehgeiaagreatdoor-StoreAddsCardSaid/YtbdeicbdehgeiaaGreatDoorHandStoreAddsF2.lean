/- StoreAdds: a part of its proof. -/
import Derived.Test.YtbdeicbdehgeiaaGreatDoorRows
import Derived.ProofKit
namespace Go.Proofs.YtbdeicbdehgeiaaGreatDoor
set_option linter.unusedVariables false
set_option linter.unusedSimpArgs false
namespace StoreAddsFrame

set_option maxRecDepth 100000 in
theorem fact2 : (Rows.storeAddsRow.unfollowed == Tryz.pinned.checked.prog.unfollowed 6) = true := by kernel_rfl

end StoreAddsFrame
end Go.Proofs.YtbdeicbdehgeiaaGreatDoor
