/- QuerySearches: a part of its proof. -/
import Derived.Test.YtnfflgicngeekaaGreatDoorHandQuerySearchesA
import Derived.Test.YtnfflgicngeekaaGreatDoorHandQuerySearchesF1
import Derived.Test.YtnfflgicngeekaaGreatDoorHandQuerySearchesF2
import Derived.Test.YtnfflgicngeekaaGreatDoorHandQuerySearchesF3
import Derived.Test.YtnfflgicngeekaaGreatDoorHandQuerySearchesF4
namespace Go.Proofs.YtnfflgicngeekaaGreatDoor
set_option linter.unusedVariables false
set_option linter.unusedSimpArgs false
namespace QuerySearchesFrame
open Go.ChangeShapes Go.WideShapes Go.ChangeAt Go.RowKit

theorem closed : joinedFacts Tryz.pinned.checked.prog 4 Tryz.f4 (OpenSpec.ofChange Rows.querySearchesSpec).bare Rows.querySearchesRow = true := by
  unfold joinedFacts
  rw [fact1, fact2, fact3, fact4]
  kernel_rfl
theorem said : Rows.QuerySearchesSaid :=
  OpenClaim.holds_of_cond 4 Tryz.f4 rfl rfl rfl rfl rfl rfl rfl ⟨rfl, rfl, rfl, rfl, rfl⟩ rfl rfl rfl rfl rfl (by kernel_rfl) Tryz.func4 closed
    (of_decide_eq_true (by kernel_rfl)) (by unfold Func.isWrapper; first | (rw [if_pos (by decide +kernel)]; kernel_rfl) | (rw [if_neg (by decide +kernel)]; exact ⟨rfl, rfl⟩))
    (fun os started H enc _ F => by rw [OpenClaim.pre_eq_preRow]; exact lifted os started H enc F)


end QuerySearchesFrame
end Go.Proofs.YtnfflgicngeekaaGreatDoor
