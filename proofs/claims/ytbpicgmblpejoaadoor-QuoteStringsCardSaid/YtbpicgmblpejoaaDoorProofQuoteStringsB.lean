/- QuoteStrings: a part of its proof. -/
import Derived.Test.YtbpicgmblpejoaaDoorProofQuoteStringsA
import Derived.Test.YtbpicgmblpejoaaDoorProofQuoteStringsF1
import Derived.Test.YtbpicgmblpejoaaDoorProofQuoteStringsF2
import Derived.Test.YtbpicgmblpejoaaDoorProofQuoteStringsF3
import Derived.Test.YtbpicgmblpejoaaDoorProofQuoteStringsF4
namespace Go.Proofs.YtbpicgmblpejoaaDoor
set_option linter.unusedVariables false
set_option linter.unusedSimpArgs false
namespace QuoteStringsFrame
open Go.ChangeShapes Go.WideShapes Go.ChangeAt Go.RowKit

theorem closed : joinedFacts Tryd.pinned.checked.prog 3 Tryd.f3 (OpenSpec.ofChange Rows.quoteStringsSpec).bare Rows.quoteStringsRow = true := by
  unfold joinedFacts
  rw [fact1, fact2, fact3, fact4]
  kernel_rfl
theorem said : Rows.QuoteStringsSaid :=
  OpenClaim.holds_of_cond 3 Tryd.f3 rfl rfl rfl rfl rfl rfl rfl ⟨rfl, rfl, rfl, rfl, rfl⟩ rfl rfl rfl rfl rfl (by kernel_rfl) Tryd.func3 closed
    (of_decide_eq_true (by kernel_rfl)) (by unfold Func.isWrapper; first | (rw [if_pos (by decide +kernel)]; kernel_rfl) | (rw [if_neg (by decide +kernel)]; exact ⟨rfl, rfl⟩))
    (fun os started H enc _ F => by rw [OpenClaim.pre_eq_preRow]; exact lifted os started H enc F)


end QuoteStringsFrame
end Go.Proofs.YtbpicgmblpejoaaDoor
