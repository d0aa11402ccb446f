/- Texts of the proof of QuerySearches, put together: LnkP. -/
import Derived.Test.YtnfflgicngeekaaGreatDoorQuerySearchesZ19
import Derived.Lib.Bytealg
set_option linter.unusedVariables false
set_option linter.unusedSimpArgs false
namespace Go.Proofs.YtnfflgicngeekaaGreatDoor
open Go.RowKit
theorem fstL_len {c:UInt8} {s:Str} {p:Str × Str} (h:fstL c s=some p):s.length=p.1.length+1+p.2.length:=by
 have:=(fstL_some (x:=p.1) (y:=p.2) h).1;rw [this];simp
 omega
end Go.Proofs.YtnfflgicngeekaaGreatDoor
