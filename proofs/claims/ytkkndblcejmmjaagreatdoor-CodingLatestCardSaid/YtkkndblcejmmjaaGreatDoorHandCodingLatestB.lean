/- CodingLatest: a part of its proof. -/
import Derived.Test.YtkkndblcejmmjaaGreatDoorHandCodingLatestA
import Derived.Test.YtkkndblcejmmjaaGreatDoorHandCodingLatestF1
import Derived.Test.YtkkndblcejmmjaaGreatDoorHandCodingLatestF2
import Derived.Test.YtkkndblcejmmjaaGreatDoorHandCodingLatestF3
import Derived.Test.YtkkndblcejmmjaaGreatDoorHandCodingLatestF4
namespace Go.Proofs.YtkkndblcejmmjaaGreatDoor
set_option linter.unusedVariables false
set_option linter.unusedSimpArgs false
namespace CodingLatestFrame
open Go.ChangeShapes Go.WideShapes Go.ChangeAt Go.RowKit

theorem closed : joinedFacts Tryz.pinned.checked.prog 6 Tryz.f6 (OpenSpec.ofChange Rows.codingLatestSpec).bare Rows.codingLatestRow = true := by
  unfold joinedFacts
  rw [fact1, fact2, fact3, fact4]
  kernel_rfl
theorem said : Rows.CodingLatestSaid :=
  OpenClaim.holds_of_cond 6 Tryz.f6 rfl rfl rfl rfl rfl rfl rfl ⟨rfl, rfl, rfl, rfl, rfl⟩ rfl rfl rfl rfl rfl (by kernel_rfl) Tryz.func6 closed
    (of_decide_eq_true (by kernel_rfl)) (by unfold Func.isWrapper; first | (rw [if_pos (by decide +kernel)]; kernel_rfl) | (rw [if_neg (by decide +kernel)]; exact ⟨rfl, rfl⟩))
    (fun os started H enc _ F => by rw [OpenClaim.pre_eq_preRow]; exact lifted os started H enc F)


end CodingLatestFrame
end Go.Proofs.YtkkndblcejmmjaaGreatDoor
