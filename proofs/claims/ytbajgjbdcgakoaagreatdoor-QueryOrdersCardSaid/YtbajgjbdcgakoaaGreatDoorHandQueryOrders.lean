/- QueryOrders: for every list of numbers the law's call returns true, and the list reads afterwards as it read before. Condition: the listed tables of the library hold what the program's text lays (the card ties that). -/
import Derived.Test.YtbajgjbdcgakoaaGreatDoorHandQueryOrdersB
import Derived.Test.YtbajgjbdcgakoaaGreatDoorHandQueryOrdersC
import Derived.Test.YtbajgjbdcgakoaaGreatDoorHandQueryOrdersF5
import Derived.Test.YtbajgjbdcgakoaaGreatDoorHandQueryOrdersF6
namespace Go.Proofs.YtbajgjbdcgakoaaGreatDoor
set_option linter.unusedVariables false
set_option linter.unusedSimpArgs false

/-- The card. -/
theorem QueryOrders_holds : Rows.QueryOrdersCardSaid :=
  Claim7.holds_tied_plain_at .later [] _ _ _ _ QueryOrdersFrame.said (fun _ h => by cases h) QueryOrdersFrame.wfT (fun _ h => by cases h) queryOrders_row_tie rfl ⟨rfl, rfl⟩ QueryOrdersFrame.mainT rfl QueryOrdersFrame.plain QueryOrdersFrame.goes

end Go.Proofs.YtbajgjbdcgakoaaGreatDoor
