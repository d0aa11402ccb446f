/- QueryOrders: a part of its proof. -/
import Derived.Test.YtbajgjbdcgakoaaGreatDoorHandQueryOrdersA
import Derived.Test.YtbajgjbdcgakoaaGreatDoorHandQueryOrdersF1
import Derived.Test.YtbajgjbdcgakoaaGreatDoorHandQueryOrdersF2
import Derived.Test.YtbajgjbdcgakoaaGreatDoorHandQueryOrdersF3
import Derived.Test.YtbajgjbdcgakoaaGreatDoorHandQueryOrdersF4
namespace Go.Proofs.YtbajgjbdcgakoaaGreatDoor
set_option linter.unusedVariables false
set_option linter.unusedSimpArgs false
namespace QueryOrdersFrame
open Go.ChangeShapes Go.WideShapes Go.ChangeAt Go.RowKit

theorem closed : joinedFacts Tryz.pinned.checked.prog 5 Tryz.f5 (OpenSpec.ofChange Rows.queryOrdersSpec).bare Rows.queryOrdersRow = true := by
  unfold joinedFacts
  rw [fact1, fact2, fact3, fact4]
  kernel_rfl
theorem said : Rows.QueryOrdersSaid :=
  OpenClaim.holds_of_cond 5 Tryz.f5 rfl rfl rfl rfl rfl rfl rfl ⟨rfl, rfl, rfl, rfl, rfl⟩ rfl rfl rfl rfl rfl (by kernel_rfl) Tryz.func5 closed
    (of_decide_eq_true (by kernel_rfl)) (by unfold Func.isWrapper; first | (rw [if_pos (by decide +kernel)]; kernel_rfl) | (rw [if_neg (by decide +kernel)]; exact ⟨rfl, rfl⟩))
    (fun os started H enc _ F => by rw [OpenClaim.pre_eq_preRow]; exact lifted os started H enc F)


end QueryOrdersFrame
end Go.Proofs.YtbajgjbdcgakoaaGreatDoor
