/- QuoteStrings: a part of its proof. -/
import Derived.Test.YtbpicgmblpejoaaDoorCards
import Derived.ProofKit
namespace Go.Proofs.YtbpicgmblpejoaaDoor
set_option linter.unusedVariables false
set_option linter.unusedSimpArgs false
namespace QuoteStringsFrame

set_option maxRecDepth 100000 in
theorem wfT : Rows.quoteStringsRow.wfByText (OpenSpec.ofChange Rows.quoteStringsSpec) = true := by kernel_rfl
set_option maxRecDepth 100000 in
theorem mainT : Tryd.pinned.checked.prog.mainIs = some (Rows.quoteStringsCard.stood.harness.1, Rows.quoteStringsCard.stood.harness.2.toList) := by kernel_rfl

end QuoteStringsFrame
end Go.Proofs.YtbpicgmblpejoaaDoor
