/- Texts of the proof of DecisionClashes, put together: LatA. -/
import Derived.Test.YtkkndblcejmmjaaGreatDoorDecisionClashesZ21
import Derived.Test.YtkkndblcejmmjaaGreatDoorDecisionClashesZ27
import Derived.Test.YtkkndblcejmmjaaGreatDoorDecisionClashesZ28
import Derived.Test.YtkkndblcejmmjaaGreatDoorDecisionClashesZ40
/- The latest decisions on items: latest of the program. -/
namespace Go.Proofs.YtkkndblcejmmjaaGreatDoor
set_option linter.unusedVariables false
set_option linter.unusedSimpArgs false
open Go.RowKit

theorem zero_dec (W : World) : (zeroValue 40).run Tryz.prog W = .ok (DecVal decN) W := by kernel_rfl
theorem MapS.al {w : World} {b n : Nat} {f : Str → Option Value} (h : MapS w b n f) (o : Obj) : MapS (w.alloc o) b n f := h.pure (pure_alloc _ _)
end Go.Proofs.YtkkndblcejmmjaaGreatDoor
