/- ItemTotals: for every list of numbers the law's call returns true, and the list reads afterwards as it read before. Condition: the listed tables of the library hold what the program's text lays (the card ties that). -/
import Derived.Test.YtbdeicbdehgeiaaGreatDoorHandItemTotalsB
import Derived.Test.YtbdeicbdehgeiaaGreatDoorHandItemTotalsC
import Derived.Test.YtbdeicbdehgeiaaGreatDoorHandItemTotalsF5
import Derived.Test.YtbdeicbdehgeiaaGreatDoorHandItemTotalsF6
namespace Go.Proofs.YtbdeicbdehgeiaaGreatDoor
set_option linter.unusedVariables false
set_option linter.unusedSimpArgs false

/-- The card. -/
theorem ItemTotals_holds : Rows.ItemTotalsCardSaid :=
  Claim7.holds_tied_plain_at .later [] _ _ _ _ ItemTotalsFrame.said (fun _ h => by cases h) ItemTotalsFrame.wfT (fun _ h => by cases h) itemTotals_row_tie rfl ⟨rfl, rfl⟩ ItemTotalsFrame.mainT rfl ItemTotalsFrame.plain ItemTotalsFrame.goes

end Go.Proofs.YtbdeicbdehgeiaaGreatDoor
