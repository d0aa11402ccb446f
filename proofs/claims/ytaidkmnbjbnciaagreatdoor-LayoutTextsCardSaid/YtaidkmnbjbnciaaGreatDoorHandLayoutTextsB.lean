/- LayoutTexts: a part of its proof. -/
import Derived.Test.YtaidkmnbjbnciaaGreatDoorHandLayoutTextsA
import Derived.Test.YtaidkmnbjbnciaaGreatDoorHandLayoutTextsF1
import Derived.Test.YtaidkmnbjbnciaaGreatDoorHandLayoutTextsF2
import Derived.Test.YtaidkmnbjbnciaaGreatDoorHandLayoutTextsF3
import Derived.Test.YtaidkmnbjbnciaaGreatDoorHandLayoutTextsF4
namespace Go.Proofs.YtaidkmnbjbnciaaGreatDoor
set_option linter.unusedVariables false
set_option linter.unusedSimpArgs false
namespace LayoutTextsFrame
open Go.ChangeShapes Go.WideShapes Go.ChangeAt Go.RowKit

theorem closed : joinedFacts Tryz.pinned.checked.prog 3 Tryz.f3 (OpenSpec.ofChange Rows.layoutTextsSpec).bare Rows.layoutTextsRow = true := by
  unfold joinedFacts
  rw [fact1, fact2, fact3, fact4]
  kernel_rfl
theorem said : Rows.LayoutTextsSaid :=
  OpenClaim.holds_of_cond 3 Tryz.f3 rfl rfl rfl rfl rfl rfl rfl ⟨rfl, rfl, rfl, rfl, rfl⟩ rfl rfl rfl rfl rfl (by kernel_rfl) Tryz.func3 closed
    (of_decide_eq_true (by kernel_rfl)) (by unfold Func.isWrapper; first | (rw [if_pos (by decide +kernel)]; kernel_rfl) | (rw [if_neg (by decide +kernel)]; exact ⟨rfl, rfl⟩))
    (fun os started H enc _ F => by rw [OpenClaim.pre_eq_preRow]; exact lifted os started H enc F)


end LayoutTextsFrame
end Go.Proofs.YtaidkmnbjbnciaaGreatDoor
