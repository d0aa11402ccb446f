/- QuoteStrings: a part of its proof. -/
import Derived.Test.YtbpicgmblpejoaaDoorCards
import Derived.ProofKit
namespace Go.Proofs.YtbpicgmblpejoaaDoor
set_option linter.unusedVariables false
set_option linter.unusedSimpArgs false
namespace QuoteStringsFrame

set_option maxRecDepth 100000 in
theorem goes : false = Rows.quoteStringsRow.goesBy Tryd.pinned.checked.prog := by kernel_rfl

end QuoteStringsFrame
end Go.Proofs.YtbpicgmblpejoaaDoor
