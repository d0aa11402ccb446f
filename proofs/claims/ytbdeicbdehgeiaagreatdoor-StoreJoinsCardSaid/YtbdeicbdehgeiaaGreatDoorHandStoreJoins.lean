/- StoreJoins: for every list of numbers the law's call returns true, and the list reads afterwards as it read before. Condition: the listed tables of the library hold what the program's text lays (the card ties that). -/
import Derived.Test.YtbdeicbdehgeiaaGreatDoorHandStoreJoinsB
import Derived.Test.YtbdeicbdehgeiaaGreatDoorHandStoreJoinsC
import Derived.Test.YtbdeicbdehgeiaaGreatDoorHandStoreJoinsF5
import Derived.Test.YtbdeicbdehgeiaaGreatDoorHandStoreJoinsF6
namespace Go.Proofs.YtbdeicbdehgeiaaGreatDoor
set_option linter.unusedVariables false
set_option linter.unusedSimpArgs false

/-- The card. -/
theorem StoreJoins_holds : Rows.StoreJoinsCardSaid :=
  Claim7.holds_tied_plain_at .later [] _ _ _ _ StoreJoinsFrame.said (fun _ h => by cases h) StoreJoinsFrame.wfT (fun _ h => by cases h) storeJoins_row_tie rfl ⟨rfl, rfl⟩ StoreJoinsFrame.mainT rfl StoreJoinsFrame.plain StoreJoinsFrame.goes

end Go.Proofs.YtbdeicbdehgeiaaGreatDoor
