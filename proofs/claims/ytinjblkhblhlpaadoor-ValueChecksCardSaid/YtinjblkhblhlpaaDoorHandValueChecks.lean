/- ValueChecks: for every list of numbers the law's call returns true, and the list reads afterwards as it read before. Condition: the listed tables of the library hold what the program's text lays (the card ties that). -/
import Derived.Test.YtinjblkhblhlpaaDoorHandValueChecksB
import Derived.Test.YtinjblkhblhlpaaDoorHandValueChecksC
import Derived.Test.YtinjblkhblhlpaaDoorHandValueChecksF5
import Derived.Test.YtinjblkhblhlpaaDoorHandValueChecksF6
namespace Go.Proofs.YtinjblkhblhlpaaDoor
set_option linter.unusedVariables false
set_option linter.unusedSimpArgs false

/-- The card. -/
theorem ValueChecks_holds : Rows.ValueChecksCardSaid :=
  Claim7.holds_tied_plain_at .later [] _ _ _ _ ValueChecksFrame.said (fun _ h => by cases h) ValueChecksFrame.wfT (fun _ h => by cases h) valueChecks_row_tie rfl ⟨rfl, rfl⟩ ValueChecksFrame.mainT rfl ValueChecksFrame.plain ValueChecksFrame.goes

end Go.Proofs.YtinjblkhblhlpaaDoor
