/- StoreAdds: for every list of numbers the law's call returns true, and the list reads afterwards as it read before. Condition: the listed tables of the library hold what the program's text lays (the card ties that). -/
import Derived.Test.YtbdeicbdehgeiaaGreatDoorHandStoreAddsB
import Derived.Test.YtbdeicbdehgeiaaGreatDoorHandStoreAddsC
import Derived.Test.YtbdeicbdehgeiaaGreatDoorHandStoreAddsF5
import Derived.Test.YtbdeicbdehgeiaaGreatDoorHandStoreAddsF6
namespace Go.Proofs.YtbdeicbdehgeiaaGreatDoor
set_option linter.unusedVariables false
set_option linter.unusedSimpArgs false

/-- The card. -/
theorem StoreAdds_holds : Rows.StoreAddsCardSaid :=
  Claim7.holds_tied_plain_at .later [] _ _ _ _ StoreAddsFrame.said (fun _ h => by cases h) StoreAddsFrame.wfT (fun _ h => by cases h) storeAdds_row_tie rfl ⟨rfl, rfl⟩ StoreAddsFrame.mainT rfl StoreAddsFrame.plain StoreAddsFrame.goes

end Go.Proofs.YtbdeicbdehgeiaaGreatDoor
