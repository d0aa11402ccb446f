/- SampleStrata: for every list of numbers the law's call returns true, and the list reads afterwards as it read before. Condition: the listed tables of the library hold what the program's text lays (the card ties that). -/
import Derived.Test.YtkchninlhemioaaGreatDoorHandSampleStrataB
import Derived.Test.YtkchninlhemioaaGreatDoorHandSampleStrataC
import Derived.Test.YtkchninlhemioaaGreatDoorHandSampleStrataF5
import Derived.Test.YtkchninlhemioaaGreatDoorHandSampleStrataF6
namespace Go.Proofs.YtkchninlhemioaaGreatDoor
set_option linter.unusedVariables false
set_option linter.unusedSimpArgs false

/-- The card. -/
theorem SampleStrata_holds : Rows.SampleStrataCardSaid :=
  Claim7.holds_tied_plain_at .later [] _ _ _ _ SampleStrataFrame.said (fun _ h => by cases h) SampleStrataFrame.wfT (fun _ h => by cases h) sampleStrata_row_tie rfl ⟨rfl, rfl⟩ SampleStrataFrame.mainT rfl SampleStrataFrame.plain SampleStrataFrame.goes

end Go.Proofs.YtkchninlhemioaaGreatDoor
