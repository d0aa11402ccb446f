/- QuoteStrings: a part of its proof. -/
import Derived.Test.YtbpicgmblpejoaaDoorRows
import Derived.ProofKit
namespace Go.Proofs.YtbpicgmblpejoaaDoor
set_option linter.unusedVariables false
set_option linter.unusedSimpArgs false
namespace QuoteStringsFrame

set_option maxRecDepth 100000 in
theorem fact3 : (Rows.quoteStringsRow.recurses == Tryd.pinned.checked.prog.recurses 3) = true := by kernel_rfl

end QuoteStringsFrame
end Go.Proofs.YtbpicgmblpejoaaDoor
