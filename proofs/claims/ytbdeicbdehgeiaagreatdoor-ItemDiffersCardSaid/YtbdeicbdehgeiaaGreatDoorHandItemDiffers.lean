/- ItemDiffers: for every list of numbers the law's call returns true, and the list reads afterwards as it read before. Condition: the listed tables of the library hold what the program's text lays (the card ties that). -/
import Derived.Test.YtbdeicbdehgeiaaGreatDoorHandItemDiffersB
import Derived.Test.YtbdeicbdehgeiaaGreatDoorHandItemDiffersC
import Derived.Test.YtbdeicbdehgeiaaGreatDoorHandItemDiffersF5
import Derived.Test.YtbdeicbdehgeiaaGreatDoorHandItemDiffersF6
namespace Go.Proofs.YtbdeicbdehgeiaaGreatDoor
set_option linter.unusedVariables false
set_option linter.unusedSimpArgs false

/-- The card. -/
theorem ItemDiffers_holds : Rows.ItemDiffersCardSaid :=
  Claim7.holds_tied_plain_at .later [] _ _ _ _ ItemDiffersFrame.said (fun _ h => by cases h) ItemDiffersFrame.wfT (fun _ h => by cases h) itemDiffers_row_tie rfl ⟨rfl, rfl⟩ ItemDiffersFrame.mainT rfl ItemDiffersFrame.plain ItemDiffersFrame.goes

end Go.Proofs.YtbdeicbdehgeiaaGreatDoor
