/- WordCuts: a part of its proof. -/
import Derived.Test.YtanblgcgbncbpaaGreatDoorHandWordCutsA
import Derived.Test.YtanblgcgbncbpaaGreatDoorHandWordCutsF1
import Derived.Test.YtanblgcgbncbpaaGreatDoorHandWordCutsF2
import Derived.Test.YtanblgcgbncbpaaGreatDoorHandWordCutsF3
import Derived.Test.YtanblgcgbncbpaaGreatDoorHandWordCutsF4
namespace Go.Proofs.YtanblgcgbncbpaaGreatDoor
set_option linter.unusedVariables false
set_option linter.unusedSimpArgs false
namespace WordCutsFrame
open Go.ChangeShapes Go.WideShapes Go.ChangeAt Go.RowKit

theorem closed : joinedFacts Tryz.pinned.checked.prog 3 Tryz.f3 (OpenSpec.ofChange Rows.wordCutsSpec).bare Rows.wordCutsRow = true := by
  unfold joinedFacts
  rw [fact1, fact2, fact3, fact4]
  kernel_rfl
theorem said : Rows.WordCutsSaid :=
  OpenClaim.holds_of_cond 3 Tryz.f3 rfl rfl rfl rfl rfl rfl rfl ⟨rfl, rfl, rfl, rfl, rfl⟩ rfl rfl rfl rfl rfl (by kernel_rfl) Tryz.func3 closed
    (of_decide_eq_true (by kernel_rfl)) (by unfold Func.isWrapper; first | (rw [if_pos (by decide +kernel)]; kernel_rfl) | (rw [if_neg (by decide +kernel)]; exact ⟨rfl, rfl⟩))
    (fun os started H enc _ F => by rw [OpenClaim.pre_eq_preRow]; exact lifted os started H enc F)


end WordCutsFrame
end Go.Proofs.YtanblgcgbncbpaaGreatDoor
