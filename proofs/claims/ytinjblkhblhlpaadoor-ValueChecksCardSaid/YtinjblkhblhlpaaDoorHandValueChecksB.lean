/- ValueChecks: a part of its proof. -/
import Derived.Test.YtinjblkhblhlpaaDoorHandValueChecksA
import Derived.Test.YtinjblkhblhlpaaDoorHandValueChecksF1
import Derived.Test.YtinjblkhblhlpaaDoorHandValueChecksF2
import Derived.Test.YtinjblkhblhlpaaDoorHandValueChecksF3
import Derived.Test.YtinjblkhblhlpaaDoorHandValueChecksF4
namespace Go.Proofs.YtinjblkhblhlpaaDoor
set_option linter.unusedVariables false
set_option linter.unusedSimpArgs false
namespace ValueChecksFrame
open Go.ChangeShapes Go.WideShapes Go.ChangeAt Go.RowKit

theorem closed : joinedFacts Tryd.pinned.checked.prog 3 Tryd.f3 (OpenSpec.ofChange Rows.valueChecksSpec).bare Rows.valueChecksRow = true := by
  unfold joinedFacts
  rw [fact1, fact2, fact3, fact4]
  kernel_rfl
theorem said : Rows.ValueChecksSaid :=
  OpenClaim.holds_of_cond 3 Tryd.f3 rfl rfl rfl rfl rfl rfl rfl ⟨rfl, rfl, rfl, rfl, rfl⟩ rfl rfl rfl rfl rfl (by kernel_rfl) Tryd.func3 closed
    (of_decide_eq_true (by kernel_rfl)) (by unfold Func.isWrapper; first | (rw [if_pos (by decide +kernel)]; kernel_rfl) | (rw [if_neg (by decide +kernel)]; exact ⟨rfl, rfl⟩))
    (fun os started H enc _ F => by rw [OpenClaim.pre_eq_preRow]; exact lifted os started H enc F)


end ValueChecksFrame
end Go.Proofs.YtinjblkhblhlpaaDoor
