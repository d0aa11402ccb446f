/- Texts of the proof of QuerySearches, put together: NatA, NatB, NatC, NatD, First. -/
import Derived.Test.YtnfflgicngeekaaGreatDoorQuerySearchesZ1
import Derived.Test.YtnfflgicngeekaaGreatDoorQuerySearchesZ8
import Derived.Deep.RegionHeld3
import Derived.Deep.DeepCutAuto
set_option linter.unusedVariables false
set_option linter.unusedSimpArgs false
namespace Go.Proofs.YtnfflgicngeekaaGreatDoor
open Go.RowKit
def u32s (ds:List Nat):List Value:=ds.map (fun (d:Nat)=>Value.int .u32 (d:Int))
def IsNat (w:World) (v:Value) (x L:Nat):Prop :=
 ∃ ds:List Nat,Sl w 221 1 v (u32s ds)∧(∀ d∈ds,d<4294967296)∧Norm ds∧val B32 ds=x∧ds.length≤L
theorem IsNat.pure {w w':World} {v:Value} {x L:Nat} (h:IsNat w v x L) (hm:Pure w w'):IsNat w' v x L:=by
 obtain ⟨ds,h1,h2⟩:=h;exact ⟨ds,h1.pure hm,h2⟩
theorem IsNat.more {w:World} {v:Value} {x L M:Nat} (h:IsNat w v x L) (hL:L≤M):IsNat w v x M:=by
 obtain ⟨ds,h1,h2,h3,h4,h5⟩:=h;exact ⟨ds,h1,h2,h3,h4,by omega⟩
def IntPost (w:World) (n:Int) (e:Ending) (w':World):Prop:=e = .returned (.int .i64 n)∧Pure w w'
theorem IntPost.of {w w':World} {n m:Int} (h:n=m) (hm:Pure w w'):IntPost w n (.returned (.int .i64 m)) w':=⟨by rw [h],hm⟩
def BoolPost (w:World) (b:Bool) (e:Ending) (w':World):Prop:=e = .returned (.bool b)∧Pure w w'
theorem BoolPost.of {w w':World} {n m:Bool} (h:n=m) (hm:Pure w w'):BoolPost w n (.returned (.bool m)) w':=⟨by rw [h],hm⟩
def Least (lo hi:Int) (P:Int→Bool) (x:Int):Prop:=lo≤x∧x≤hi∧(∀ y,lo≤y→y<x→P y=false)∧(x<hi→P x=true)
theorem Least.unique {lo hi:Int} {P:Int→Bool} {x y:Int} (hx:Least lo hi P x) (hy:Least lo hi P y):x=y:=by
 obtain ⟨a1,a2,a3,a4⟩:=hx;obtain ⟨b1,b2,b3,b4⟩:=hy
 rcases Int.lt_trichotomy x y with h | h | h
 ·have:=b3 x a1 h; rw [a4 (by omega)] at this; cases this
 ·exact h
 ·have:=a3 y b1 h; rw [b4 (by omega)] at this; cases this
end Go.Proofs.YtnfflgicngeekaaGreatDoor
