/- QueryChecks: a part of its proof. -/
import Derived.Test.YtbajgjbdcgakoaaGreatDoorHandQueryChecksA
import Derived.Test.YtbajgjbdcgakoaaGreatDoorHandQueryChecksF1
import Derived.Test.YtbajgjbdcgakoaaGreatDoorHandQueryChecksF2
import Derived.Test.YtbajgjbdcgakoaaGreatDoorHandQueryChecksF3
import Derived.Test.YtbajgjbdcgakoaaGreatDoorHandQueryChecksF4
namespace Go.Proofs.YtbajgjbdcgakoaaGreatDoor
set_option linter.unusedVariables false
set_option linter.unusedSimpArgs false
namespace QueryChecksFrame
open Go.ChangeShapes Go.WideShapes Go.ChangeAt Go.RowKit

theorem closed : joinedFacts Tryz.pinned.checked.prog 3 Tryz.f3 (OpenSpec.ofChange Rows.queryChecksSpec).bare Rows.queryChecksRow = true := by
  unfold joinedFacts
  rw [fact1, fact2, fact3, fact4]
  kernel_rfl
theorem said : Rows.QueryChecksSaid :=
  OpenClaim.holds_of_cond 3 Tryz.f3 rfl rfl rfl rfl rfl rfl rfl ⟨rfl, rfl, rfl, rfl, rfl⟩ rfl rfl rfl rfl rfl (by kernel_rfl) Tryz.func3 closed
    (of_decide_eq_true (by kernel_rfl)) (by unfold Func.isWrapper; first | (rw [if_pos (by decide +kernel)]; kernel_rfl) | (rw [if_neg (by decide +kernel)]; exact ⟨rfl, rfl⟩))
    (fun os started H enc _ F => by rw [OpenClaim.pre_eq_preRow]; exact lifted os started H enc F)


end QueryChecksFrame
end Go.Proofs.YtbajgjbdcgakoaaGreatDoor
