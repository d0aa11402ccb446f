/- Texts of the proof of QuerySearches, put together: LnsA. -/
import Derived.Test.YtnfflgicngeekaaGreatDoorQuerySearchesZ9
import Derived.Test.YtnfflgicngeekaaGreatDoorQuerySearchesZ19
import Derived.Test.YtnfflgicngeekaaGreatDoorQuerySearchesZ23
import Derived.Test.YtnfflgicngeekaaGreatDoorQuerySearchesZ27
import Derived.Test.YtnfflgicngeekaaGreatDoorQuerySearchesZ30
set_option linter.unusedVariables false
set_option linter.unusedSimpArgs false
namespace Go.Proofs.YtnfflgicngeekaaGreatDoor
open Go.RowKit
def StrBk (w:World) (k:Nat):Prop:=∃ arr fr,w.heap[k]? = some (.cells arr 9 fr)
def KeepS (base:Nat) (w w':World):Prop:=Mod (fun k=>base≤k∧¬ StrBk w k) w w'
theorem KeepS.of_pure {base:Nat} {w w':World} (h:Pure w w'):KeepS base w w':=Mod.of_pure h
theorem KeepS.trans {base:Nat} {a b c:World} (h:KeepS base a b) (k:KeepS base b c):KeepS base a c :=
 Mod.trans' h k (fun i hi hlt=>⟨hi.1,fun hs=>hi.2 (by
  obtain ⟨arr,fr,h1⟩:=hs
  exact ⟨arr,fr,by rw [h.block i hlt (fun hh=>hh.2 ⟨arr,fr,h1⟩)]; exact h1⟩)⟩)
theorem KeepS.sl {base:Nat} {w w':World} {v:Value} {xs:List Value} {size:Nat} (h:KeepS base w w') (hs:Sl w 9 size v xs):Sl w' 9 size v xs:=Sl.mod hs h (fun g arr fr hg hh=>hh.2 ⟨arr,fr,hg⟩)
theorem KeepS.pure {base:Nat} {a b c:World} (h:KeepS base b c) (hp:Pure a b) (hb:a.heap.size≤base):Pure a c:=hp.trans' h (fun i hi hlt=>by have:=hi.1; omega)
end Go.Proofs.YtnfflgicngeekaaGreatDoor
