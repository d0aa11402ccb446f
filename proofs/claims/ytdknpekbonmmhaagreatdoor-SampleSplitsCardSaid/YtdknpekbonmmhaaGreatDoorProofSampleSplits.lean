/- SampleSplits: for every list of numbers the law's call returns true, and the list reads afterwards as it read before. Condition: the listed tables of the library hold what the program's text lays (the card ties that). -/
import Derived.Test.YtdknpekbonmmhaaGreatDoorProofSampleSplitsB
import Derived.Test.YtdknpekbonmmhaaGreatDoorProofSampleSplitsC
import Derived.Test.YtdknpekbonmmhaaGreatDoorProofSampleSplitsF5
import Derived.Test.YtdknpekbonmmhaaGreatDoorProofSampleSplitsF6
namespace Go.Proofs.YtdknpekbonmmhaaGreatDoor
set_option linter.unusedVariables false
set_option linter.unusedSimpArgs false

/-- The card. -/
theorem SampleSplits_holds : Rows.SampleSplitsCardSaid :=
  Claim7.holds_tied_plain_at .later [] _ _ _ _ SampleSplitsFrame.said (fun _ h => by cases h) SampleSplitsFrame.wfT (fun _ h => by cases h) sampleSplits_row_tie rfl ⟨rfl, rfl⟩ SampleSplitsFrame.mainT rfl SampleSplitsFrame.plain SampleSplitsFrame.goes

end Go.Proofs.YtdknpekbonmmhaaGreatDoor
