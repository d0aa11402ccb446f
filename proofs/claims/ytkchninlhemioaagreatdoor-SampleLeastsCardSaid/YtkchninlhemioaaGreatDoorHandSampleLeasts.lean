/- SampleLeasts: for every list of numbers the law's call returns true, and the list reads afterwards as it read before. Condition: the listed tables of the library hold what the program's text lays (the card ties that). -/
import Derived.Test.YtkchninlhemioaaGreatDoorHandSampleLeastsB
import Derived.Test.YtkchninlhemioaaGreatDoorHandSampleLeastsC
import Derived.Test.YtkchninlhemioaaGreatDoorHandSampleLeastsF5
import Derived.Test.YtkchninlhemioaaGreatDoorHandSampleLeastsF6
namespace Go.Proofs.YtkchninlhemioaaGreatDoor
set_option linter.unusedVariables false
set_option linter.unusedSimpArgs false

/-- The card. -/
theorem SampleLeasts_holds : Rows.SampleLeastsCardSaid :=
  Claim7.holds_tied_plain_at .later [] _ _ _ _ SampleLeastsFrame.said (fun _ h => by cases h) SampleLeastsFrame.wfT (fun _ h => by cases h) sampleLeasts_row_tie rfl ⟨rfl, rfl⟩ SampleLeastsFrame.mainT rfl SampleLeastsFrame.plain SampleLeastsFrame.goes

end Go.Proofs.YtkchninlhemioaaGreatDoor
