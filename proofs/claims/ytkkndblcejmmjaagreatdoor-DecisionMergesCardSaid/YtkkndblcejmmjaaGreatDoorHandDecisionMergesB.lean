/- DecisionMerges: a part of its proof. -/
import Derived.Test.YtkkndblcejmmjaaGreatDoorHandDecisionMergesA
import Derived.Test.YtkkndblcejmmjaaGreatDoorHandDecisionMergesF1
import Derived.Test.YtkkndblcejmmjaaGreatDoorHandDecisionMergesF2
import Derived.Test.YtkkndblcejmmjaaGreatDoorHandDecisionMergesF3
import Derived.Test.YtkkndblcejmmjaaGreatDoorHandDecisionMergesF4
namespace Go.Proofs.YtkkndblcejmmjaaGreatDoor
set_option linter.unusedVariables false
set_option linter.unusedSimpArgs false
namespace DecisionMergesFrame
open Go.ChangeShapes Go.WideShapes Go.ChangeAt Go.RowKit

theorem closed : joinedFacts Tryz.pinned.checked.prog 5 Tryz.f5 (OpenSpec.ofChange Rows.decisionMergesSpec).bare Rows.decisionMergesRow = true := by
  unfold joinedFacts
  rw [fact1, fact2, fact3, fact4]
  kernel_rfl
theorem said : Rows.DecisionMergesSaid :=
  OpenClaim.holds_of_cond 5 Tryz.f5 rfl rfl rfl rfl rfl rfl rfl ⟨rfl, rfl, rfl, rfl, rfl⟩ rfl rfl rfl rfl rfl (by kernel_rfl) Tryz.func5 closed
    (of_decide_eq_true (by kernel_rfl)) (by unfold Func.isWrapper; first | (rw [if_pos (by decide +kernel)]; kernel_rfl) | (rw [if_neg (by decide +kernel)]; exact ⟨rfl, rfl⟩))
    (fun os started H enc _ F => by rw [OpenClaim.pre_eq_preRow]; exact lifted os started H enc F)


end DecisionMergesFrame
end Go.Proofs.YtkkndblcejmmjaaGreatDoor
