/- Texts of the proof of QueryPrints, put together: VisP. -/
import Derived.Test.YtnfflgicngeekaaGreatDoorQueryPrintsZ9
import Derived.Test.YtnfflgicngeekaaGreatDoorQueryPrintsZ27
import Derived.Lib.ValidU
import Derived.Lib.IndexMore
import Derived.Lib.Strings
/- Strings of items: what is visible, plain, a text; the error of one item. -/
namespace Go.Proofs.YtnfflgicngeekaaGreatDoor
set_option linter.unusedVariables false
set_option linter.unusedSimpArgs false
open Go.RowKit

def visC (feeds : Bool) (c : Nat) : Bool := !((decide (c < 32) && !(feeds && c == 10)) || c == 127)
/-- No bytes below 32 (but line feeds, if they are let by), no 127. -/
def visB (feeds : Bool) (s : Str) : Bool := s.all (fun c => visC feeds c.toNat)
def plainB (s : Str) : Bool := visB false s && (Lib.validD s && (!Lib.hasPrefix s [32] && (!Lib.hasSuffix s [32] && !Lib.contains s [32, 32])))
def textB (s : Str) : Bool := visB true s && (Lib.validD s && (s.isEmpty || Lib.hasSuffix s [10]))
/-- The error of an item. -/
def itemE (x : Itm) : Int :=
 if !(keyB x.id && keyB x.cust) then 5 else if !inB x.kind 1 4 then 4 else if 120 < x.name.length then 2 else if !plainB x.name then 3 else if !inB x.tm 0 5761439 then 1 else
 if decide (x.par ≠ []) && !keyB x.par then 5 else if x.par = x.id then 14 else if 20000 < x.text.length then 2 else if !textB x.text then 3 else 0
theorem visB_snoc (f : Bool) (s : Str) (k : Nat) (h : k < s.length) : visB f (s.take (k + 1)) = (visB f (s.take k) && visC f s[k].toNat) := by
 unfold visB
 rw [List.take_succ_eq_append_getElem h, List.all_append]
 simp

end Go.Proofs.YtnfflgicngeekaaGreatDoor
