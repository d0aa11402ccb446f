/- Texts of the proof of QuerySearches, put together: SplA. -/
import Derived.Test.YtnfflgicngeekaaGreatDoorQuerySearchesZ7
import Derived.Test.YtnfflgicngeekaaGreatDoorQuerySearchesZ9
import Derived.Lib.SplitLaws
import Derived.Shelf.Strings.Split
import Derived.Shelf.Small.Wraps
set_option linter.unusedVariables false
set_option linter.unusedSimpArgs false
namespace Go.Proofs.YtnfflgicngeekaaGreatDoor
open Go.RowKit
def MlnS (w:World):Prop:=∃ m:Int,w.cell? ⟨3,0,none⟩=some (.int .i64 m)
theorem MlnS.mod {w w':World} {S:Nat→Prop} (h:MlnS w) (hm:Mod S w w') (hs:¬ S 3):MlnS w':=by
 obtain ⟨m,hc⟩:=h;exact ⟨m,hm.keep hc hs⟩
theorem MlnS.pure {w w':World} (h:MlnS w) (hm:Pure w w'):MlnS w':=h.mod hm id
theorem info_strS:(Tryz.prog.info? 9).map (fun i=>(i.zero,i.size,i.bytes))=some (some (.string ByteArray.empty),1,16):=by kernel_rfl
theorem split_cells (s sep:Str):((Lib.splitB ⟨sep.toArray⟩ 0 (Lib.countB ⟨s.toArray⟩ ⟨sep.toArray⟩) ⟨s.toArray⟩).map Value.string)=strsV (Lib.split s sep):=by
 have h:=Lib.splitB_data ⟨sep.toArray⟩ 0 (Lib.countB ⟨s.toArray⟩ ⟨sep.toArray⟩) ⟨s.toArray⟩;have h2:Lib.split s sep=(Lib.splitB ⟨sep.toArray⟩ 0 (Lib.countB ⟨s.toArray⟩ ⟨sep.toArray⟩) ⟨s.toArray⟩).map (·.data.toList):=h.symm;rw [h2];unfold strsV;rw [List.map_map]
 rfl
theorem split_len (s sep:Str) (h1:1≤sep.length):(Lib.split s sep).length=Lib.countB ⟨s.toArray⟩ ⟨sep.toArray⟩+1:=by
 have h:=Lib.splitB_all ⟨sep.toArray⟩ (by simpa [ByteArray.size] using h1) 0 _ ⟨s.toArray⟩ rfl;have h2:Lib.split s sep=(Lib.splitB ⟨sep.toArray⟩ 0 (Lib.countB ⟨s.toArray⟩ ⟨sep.toArray⟩) ⟨s.toArray⟩).map (·.data.toList):=(Lib.splitB_data ⟨sep.toArray⟩ 0 (Lib.countB ⟨s.toArray⟩ ⟨sep.toArray⟩) ⟨s.toArray⟩).symm;rw [h2,List.length_map,h]
theorem split_calls (w:World) (s sep:Str) (hM:MlnS w) (hs:s.length≤100000000) (h1:1≤sep.length):Calls Tryz.prog 192 #[.string ⟨s.toArray⟩,.string ⟨sep.toArray⟩] w (fun e w'=>e = .returned (.slice (some ⟨w.heap.size,0,none⟩) (Lib.split s sep).length (Lib.split s sep).length)∧w'=w.alloc (.cells (strsV (Lib.split s sep)).toArray 9)):=by
 obtain ⟨m,hm⟩:=hM;refine (Any.strings_Split Tryz.lays146 info_strS ⟨s.toArray⟩ ⟨sep.toArray⟩ m w (by simp [ByteArray.size]; omega) hm (by simpa [ByteArray.size] using h1)).mono ?_;rintro e w' ⟨rfl,rfl⟩;rw [split_len s sep h1,split_cells];exact ⟨rfl,rfl⟩
theorem cutSuffix_calls (w:World) (s p:Str) (hs:s.length≤100000000):Calls Tryz.prog 167 #[.string ⟨s.toArray⟩,.string ⟨p.toArray⟩] w (fun e w'=>e = .returned (.tuple #[.string ⟨(Lib.trimSuffix s p).toArray⟩,.bool (Lib.hasSuffix s p)])∧w'=w) :=
 Any.strings_CutSuffix Tryz.lays104 ⟨s.toArray⟩ ⟨p.toArray⟩ w (by simp [ByteArray.size]; omega)
end Go.Proofs.YtnfflgicngeekaaGreatDoor
