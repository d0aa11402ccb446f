/- ItemTexts: for every list of numbers the law's call returns true, and the list reads afterwards as it read before. Condition: the listed tables of the library hold what the program's text lays (the card ties that). -/
import Derived.Test.YtelpdjhkedhppaaGreatDoorHandItemTextsB
import Derived.Test.YtelpdjhkedhppaaGreatDoorHandItemTextsC
import Derived.Test.YtelpdjhkedhppaaGreatDoorHandItemTextsF5
import Derived.Test.YtelpdjhkedhppaaGreatDoorHandItemTextsF6
namespace Go.Proofs.YtelpdjhkedhppaaGreatDoor
set_option linter.unusedVariables false
set_option linter.unusedSimpArgs false

/-- The card. -/
theorem ItemTexts_holds : Rows.ItemTextsCardSaid :=
  Claim7.holds_tied_plain_at .later [] _ _ _ _ ItemTextsFrame.said (fun _ h => by cases h) ItemTextsFrame.wfT (fun _ h => by cases h) itemTexts_row_tie rfl ⟨rfl, rfl⟩ ItemTextsFrame.mainT rfl ItemTextsFrame.plain ItemTextsFrame.goes

end Go.Proofs.YtelpdjhkedhppaaGreatDoor
