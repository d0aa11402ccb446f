/- DecisionClashes: a part of its proof. -/
import Derived.Test.YtkkndblcejmmjaaGreatDoorHandDecisionClashesA
import Derived.Test.YtkkndblcejmmjaaGreatDoorHandDecisionClashesF1
import Derived.Test.YtkkndblcejmmjaaGreatDoorHandDecisionClashesF2
import Derived.Test.YtkkndblcejmmjaaGreatDoorHandDecisionClashesF3
import Derived.Test.YtkkndblcejmmjaaGreatDoorHandDecisionClashesF4
namespace Go.Proofs.YtkkndblcejmmjaaGreatDoor
set_option linter.unusedVariables false
set_option linter.unusedSimpArgs false
namespace DecisionClashesFrame
open Go.ChangeShapes Go.WideShapes Go.ChangeAt Go.RowKit

theorem closed : joinedFacts Tryz.pinned.checked.prog 7 Tryz.f7 (OpenSpec.ofChange Rows.decisionClashesSpec).bare Rows.decisionClashesRow = true := by
  unfold joinedFacts
  rw [fact1, fact2, fact3, fact4]
  kernel_rfl
theorem said : Rows.DecisionClashesSaid :=
  OpenClaim.holds_of_cond 7 Tryz.f7 rfl rfl rfl rfl rfl rfl rfl ⟨rfl, rfl, rfl, rfl, rfl⟩ rfl rfl rfl rfl rfl (by kernel_rfl) Tryz.func7 closed
    (of_decide_eq_true (by kernel_rfl)) (by unfold Func.isWrapper; first | (rw [if_pos (by decide +kernel)]; kernel_rfl) | (rw [if_neg (by decide +kernel)]; exact ⟨rfl, rfl⟩))
    (fun os started H enc _ F => by rw [OpenClaim.pre_eq_preRow]; exact lifted os started H enc F)


end DecisionClashesFrame
end Go.Proofs.YtkkndblcejmmjaaGreatDoor
