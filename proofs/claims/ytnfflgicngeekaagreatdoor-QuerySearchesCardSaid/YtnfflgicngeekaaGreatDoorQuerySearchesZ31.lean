/- Texts of the proof of QuerySearches, put together: LayA, LayB, LayF. -/
import Derived.Test.YtnfflgicngeekaaGreatDoorQuerySearchesZ12
import Derived.Test.YtnfflgicngeekaaGreatDoorQuerySearchesZ17
import Derived.Test.YtnfflgicngeekaaGreatDoorQuerySearchesZ27
import Derived.Deep.DeepCutAuto
import Derived.Deep.CutBlock
set_option linter.unusedVariables false
set_option linter.unusedSimpArgs false
namespace Go.Proofs.YtnfflgicngeekaaGreatDoor
open Go.RowKit
end Go.Proofs.YtnfflgicngeekaaGreatDoor
