/- QueryPrints: a part of its proof. -/
import Derived.Test.YtnfflgicngeekaaGreatDoorHandQueryPrintsA
import Derived.Test.YtnfflgicngeekaaGreatDoorHandQueryPrintsF1
import Derived.Test.YtnfflgicngeekaaGreatDoorHandQueryPrintsF2
import Derived.Test.YtnfflgicngeekaaGreatDoorHandQueryPrintsF3
import Derived.Test.YtnfflgicngeekaaGreatDoorHandQueryPrintsF4
namespace Go.Proofs.YtnfflgicngeekaaGreatDoor
set_option linter.unusedVariables false
set_option linter.unusedSimpArgs false
namespace QueryPrintsFrame
open Go.ChangeShapes Go.WideShapes Go.ChangeAt Go.RowKit

theorem closed : joinedFacts Tryz.pinned.checked.prog 3 Tryz.f3 (OpenSpec.ofChange Rows.queryPrintsSpec).bare Rows.queryPrintsRow = true := by
  unfold joinedFacts
  rw [fact1, fact2, fact3, fact4]
  kernel_rfl
theorem said : Rows.QueryPrintsSaid :=
  OpenClaim.holds_of_cond 3 Tryz.f3 rfl rfl rfl rfl rfl rfl rfl ⟨rfl, rfl, rfl, rfl, rfl⟩ rfl rfl rfl rfl rfl (by kernel_rfl) Tryz.func3 closed
    (of_decide_eq_true (by kernel_rfl)) (by unfold Func.isWrapper; first | (rw [if_pos (by decide +kernel)]; kernel_rfl) | (rw [if_neg (by decide +kernel)]; exact ⟨rfl, rfl⟩))
    (fun os started H enc _ F => by rw [OpenClaim.pre_eq_preRow]; exact lifted os started H enc F)


end QueryPrintsFrame
end Go.Proofs.YtnfflgicngeekaaGreatDoor
