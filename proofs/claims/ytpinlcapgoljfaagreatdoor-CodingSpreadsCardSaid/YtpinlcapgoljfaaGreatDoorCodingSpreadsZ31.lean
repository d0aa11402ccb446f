/- Texts of the proof of CodingSpreads, put together: DecA, DecC, DecD. -/
import Derived.Test.YtpinlcapgoljfaaGreatDoorCodingSpreadsZ14
import Derived.Test.YtpinlcapgoljfaaGreatDoorCodingSpreadsZ24
import Derived.Test.YtpinlcapgoljfaaGreatDoorCodingSpreadsZ26
import Derived.Test.YtpinlcapgoljfaaGreatDoorCodingSpreadsZ29
set_option linter.unusedVariables false
set_option linter.unusedSimpArgs false
/- One decision's errors: decisionFault of the reference. -/
namespace Go.Proofs.YtpinlcapgoljfaaGreatDoor
open Go.RowKit

end Go.Proofs.YtpinlcapgoljfaaGreatDoor

/- DecisionsFault of the reference. -/
namespace Go.Proofs.YtpinlcapgoljfaaGreatDoor
open Go.RowKit

end Go.Proofs.YtpinlcapgoljfaaGreatDoor

/- Check of the program. -/
namespace Go.Proofs.YtpinlcapgoljfaaGreatDoor
open Go.RowKit

end Go.Proofs.YtpinlcapgoljfaaGreatDoor
