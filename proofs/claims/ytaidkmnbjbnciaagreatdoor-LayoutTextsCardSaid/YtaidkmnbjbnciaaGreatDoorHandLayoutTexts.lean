/- LayoutTexts: for every list of numbers the law's call returns true, and the list reads afterwards as it read before. Condition: the listed tables of the library hold what the program's text lays (the card ties that). -/
import Derived.Test.YtaidkmnbjbnciaaGreatDoorHandLayoutTextsB
import Derived.Test.YtaidkmnbjbnciaaGreatDoorHandLayoutTextsC
import Derived.Test.YtaidkmnbjbnciaaGreatDoorHandLayoutTextsF5
import Derived.Test.YtaidkmnbjbnciaaGreatDoorHandLayoutTextsF6
namespace Go.Proofs.YtaidkmnbjbnciaaGreatDoor
set_option linter.unusedVariables false
set_option linter.unusedSimpArgs false

/-- The card. -/
theorem LayoutTexts_holds : Rows.LayoutTextsCardSaid :=
  Claim7.holds_tied_plain_at .later [] _ _ _ _ LayoutTextsFrame.said (fun _ h => by cases h) LayoutTextsFrame.wfT (fun _ h => by cases h) layoutTexts_row_tie rfl ⟨rfl, rfl⟩ LayoutTextsFrame.mainT rfl LayoutTextsFrame.plain LayoutTextsFrame.goes

end Go.Proofs.YtaidkmnbjbnciaaGreatDoor
