/- QuoteStrings: for every list of numbers the law's call returns true, and the list reads afterwards as it read before. Condition: the listed tables of the library hold what the program's text lays (the card ties that). -/
import Derived.Test.YtbpicgmblpejoaaDoorProofQuoteStringsB
import Derived.Test.YtbpicgmblpejoaaDoorProofQuoteStringsC
import Derived.Test.YtbpicgmblpejoaaDoorProofQuoteStringsF5
import Derived.Test.YtbpicgmblpejoaaDoorProofQuoteStringsF6
namespace Go.Proofs.YtbpicgmblpejoaaDoor
set_option linter.unusedVariables false
set_option linter.unusedSimpArgs false

/-- The card. -/
theorem QuoteStrings_holds : Rows.QuoteStringsCardSaid :=
  Claim7.holds_tied_plain_at .later [] _ _ _ _ QuoteStringsFrame.said (fun _ h => by cases h) QuoteStringsFrame.wfT (fun _ h => by cases h) quoteStrings_row_tie rfl ⟨rfl, rfl⟩ QuoteStringsFrame.mainT rfl QuoteStringsFrame.plain QuoteStringsFrame.goes

end Go.Proofs.YtbpicgmblpejoaaDoor
