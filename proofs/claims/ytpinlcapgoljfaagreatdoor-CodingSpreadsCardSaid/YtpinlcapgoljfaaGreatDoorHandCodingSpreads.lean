/- CodingSpreads: for every list of numbers the law's call returns true, and the list reads afterwards as it read before. Condition: the listed tables of the library hold what the program's text lays (the card ties that). -/
import Derived.Test.YtpinlcapgoljfaaGreatDoorHandCodingSpreadsB
import Derived.Test.YtpinlcapgoljfaaGreatDoorHandCodingSpreadsC
import Derived.Test.YtpinlcapgoljfaaGreatDoorHandCodingSpreadsF5
import Derived.Test.YtpinlcapgoljfaaGreatDoorHandCodingSpreadsF6
namespace Go.Proofs.YtpinlcapgoljfaaGreatDoor
set_option linter.unusedVariables false
set_option linter.unusedSimpArgs false

/-- The card. -/
theorem CodingSpreads_holds : Rows.CodingSpreadsCardSaid :=
  Claim7.holds_tied_plain_at .later [] _ _ _ _ CodingSpreadsFrame.said (fun _ h => by cases h) CodingSpreadsFrame.wfT (fun _ h => by cases h) codingSpreads_row_tie rfl ⟨rfl, rfl⟩ CodingSpreadsFrame.mainT rfl CodingSpreadsFrame.plain CodingSpreadsFrame.goes

end Go.Proofs.YtpinlcapgoljfaaGreatDoor
