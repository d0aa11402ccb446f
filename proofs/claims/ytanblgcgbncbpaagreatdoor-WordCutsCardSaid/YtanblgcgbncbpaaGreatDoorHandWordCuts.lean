/- WordCuts: for every list of numbers the law's call returns true, and the list reads afterwards as it read before. Condition: the listed tables of the library hold what the program's text lays (the card ties that). -/
import Derived.Test.YtanblgcgbncbpaaGreatDoorHandWordCutsB
import Derived.Test.YtanblgcgbncbpaaGreatDoorHandWordCutsC
import Derived.Test.YtanblgcgbncbpaaGreatDoorHandWordCutsF5
import Derived.Test.YtanblgcgbncbpaaGreatDoorHandWordCutsF6
namespace Go.Proofs.YtanblgcgbncbpaaGreatDoor
set_option linter.unusedVariables false
set_option linter.unusedSimpArgs false

/-- The card. -/
theorem WordCuts_holds : Rows.WordCutsCardSaid :=
  Claim7.holds_tied_plain_at .later [] _ _ _ _ WordCutsFrame.said (fun _ h => by cases h) WordCutsFrame.wfT (fun _ h => by cases h) wordCuts_row_tie rfl ⟨rfl, rfl⟩ WordCutsFrame.mainT rfl WordCutsFrame.plain WordCutsFrame.goes

end Go.Proofs.YtanblgcgbncbpaaGreatDoor
