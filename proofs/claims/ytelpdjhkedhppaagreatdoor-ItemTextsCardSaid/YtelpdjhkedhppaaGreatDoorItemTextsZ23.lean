/- Texts of the proof of ItemTexts, put together: SplA. -/
import Derived.Test.YtelpdjhkedhppaaGreatDoorItemTextsZ8
import Derived.Test.YtelpdjhkedhppaaGreatDoorItemTextsZ11
import Derived.Lib.SplitLaws
import Derived.Shelf.Strings.Split
import Derived.Shelf.Small.Wraps
set_option linter.unusedVariables false
set_option linter.unusedSimpArgs false
set_option maxRecDepth 100000
/- strings.Split and strings.CutSuffix; lines of a string (package base). -/
namespace Go.Proofs.YtelpdjhkedhppaaGreatDoor
open Go.RowKit
def MlnS (w : World) : Prop := ∃ m : Int, w.cell? ⟨0, 0, none⟩ = some (.int .i64 m)
theorem MlnS.mod {w w' : World} {S : Nat → Prop} (h : MlnS w) (hm : Mod S w w') (hs : ¬ S 0) : MlnS w' := by
 obtain ⟨m, hc⟩ := h;exact ⟨m, hm.keep hc hs⟩
theorem MlnS.pure {w w' : World} (h : MlnS w) (hm : Pure w w') : MlnS w' := h.mod hm id
theorem info_strS : (Tryz.prog.info? 9).map (fun i => (i.zero, i.size, i.bytes)) = some (some (.string ByteArray.empty), 1, 16) := by kernel_rfl
theorem split_cells (s sep : Str) : ((Lib.splitB ⟨sep.toArray⟩ 0 (Lib.countB ⟨s.toArray⟩ ⟨sep.toArray⟩) ⟨s.toArray⟩).map Value.string) = strsV (Lib.split s sep) := by
 have h := Lib.splitB_data ⟨sep.toArray⟩ 0 (Lib.countB ⟨s.toArray⟩ ⟨sep.toArray⟩) ⟨s.toArray⟩;have h2 : Lib.split s sep = (Lib.splitB ⟨sep.toArray⟩ 0 (Lib.countB ⟨s.toArray⟩ ⟨sep.toArray⟩) ⟨s.toArray⟩).map (·.data.toList) := h.symm;rw [h2];unfold strsV;rw [List.map_map]
 rfl
theorem split_len (s sep : Str) (h1 : 1 ≤ sep.length) : (Lib.split s sep).length = Lib.countB ⟨s.toArray⟩ ⟨sep.toArray⟩ + 1 := by
 have h := Lib.splitB_all ⟨sep.toArray⟩ (by simpa [ByteArray.size] using h1) 0 _ ⟨s.toArray⟩ rfl;have h2 : Lib.split s sep = (Lib.splitB ⟨sep.toArray⟩ 0 (Lib.countB ⟨s.toArray⟩ ⟨sep.toArray⟩) ⟨s.toArray⟩).map (·.data.toList) := (Lib.splitB_data ⟨sep.toArray⟩ 0 (Lib.countB ⟨s.toArray⟩ ⟨sep.toArray⟩) ⟨s.toArray⟩).symm;rw [h2, List.length_map, h]
theorem split_calls (w : World) (s sep : Str) (hM : MlnS w) (hs : s.length ≤ 100000000) (h1 : 1 ≤ sep.length) : Calls Tryz.prog 68 #[.string ⟨s.toArray⟩, .string ⟨sep.toArray⟩] w (fun e w' => e = .returned (.slice (some ⟨w.heap.size, 0, none⟩) (Lib.split s sep).length (Lib.split s sep).length) ∧ w' = w.alloc (.cells (strsV (Lib.split s sep)).toArray 9)) := by
 obtain ⟨m, hm⟩ := hM;refine (Any.strings_Split Tryz.lays146 info_strS ⟨s.toArray⟩ ⟨sep.toArray⟩ m w (by simp [ByteArray.size]; omega) hm (by simpa [ByteArray.size] using h1)).mono ?_;rintro e w' ⟨rfl, rfl⟩;rw [split_len s sep h1, split_cells];exact ⟨rfl, rfl⟩
theorem cutSuffix_calls (w : World) (s p : Str) (hs : s.length ≤ 100000000) : Calls Tryz.prog 82 #[.string ⟨s.toArray⟩, .string ⟨p.toArray⟩] w (fun e w' => e = .returned (.tuple #[.string ⟨(Lib.trimSuffix s p).toArray⟩, .bool (Lib.hasSuffix s p)]) ∧ w' = w) :=
 Any.strings_CutSuffix Tryz.lays104 ⟨s.toArray⟩ ⟨p.toArray⟩ w (by simp [ByteArray.size]; omega)
def linesP (s : Str) : List Str := if s = [] then [] else Lib.split (Lib.trimSuffix s [10]) [10]
def wholeP (s : Str) : Bool := decide (s = []) || Lib.hasSuffix s [10]
theorem trimSuffix_len (s p : Str) : (Lib.trimSuffix s p).length ≤ s.length := by
 unfold Lib.trimSuffix
 split
 ·rw [List.length_take]; omega
 ·exact Nat.le_refl _
def LinesPost (w : World) (s : Str) (e : Ending) (w' : World) : Prop := ∃ A c, e = .returned (.tuple #[.slice A (linesP s).length c, .bool (wholeP s)]) ∧ Sl w' 9 1 (.slice A (linesP s).length c) (strsV (linesP s)) ∧ Pure w w'
set_option maxHeartbeats 2000000 in
theorem baseLines_calls (w : World) (s : Str) (hM : MlnS w) (hs : s.length ≤ 1000000) : Calls Tryz.prog 49 #[.string ⟨s.toArray⟩] w (LinesPost w s) := by
 by_cases h0 : s = []
 ·subst h0
  go_enter Tryz.func49, Tryz.ntmps49
  go_wp2_with fail
  refine bodyPost_ret (v := .tuple #[.slice none 0 0, .bool true]) (by simp [results, Tryz.results49, go_sem]) rfl ?_;exact ⟨none, 0, rfl, Sl.nil_, Mod.refl _ _⟩
 ·have hc := cutSuffix_calls w s [10] (by omega);have hsp := split_calls w (Lib.trimSuffix s [10]) [10] hM (by have := trimSuffix_len s [10]; omega) (by simp);have HC := Lib.hid hc;have HS := Lib.hid hsp
  have hl : linesP s = Lib.split (Lib.trimSuffix s [10]) [10] := by unfold linesP; rw [if_neg h0]
  have hw : wholeP s = Lib.hasSuffix s [10] := by unfold wholeP; simp [h0]
  have hsz : (Lib.split (Lib.trimSuffix s [10]) [10]).length ≤ 1000001 := by
   rw [split_len _ _ (by simp)];have h1 := Lib.countB_le ⟨#[10]⟩ (by simp [ByteArray.size]) _ ⟨(Lib.trimSuffix s [10]).toArray⟩ (Nat.le_refl _);have h2 := trimSuffix_len s [10];simp only [ByteArray.size, List.size_toArray] at h1;have h3 : Lib.countB ⟨(Lib.trimSuffix s [10]).toArray⟩ ⟨([10] : Str).toArray⟩ = Lib.countB ⟨(Lib.trimSuffix s [10]).toArray⟩ ⟨#[10]⟩ := rfl
   omega
  have hne : List.isEmpty s = false := by simpa using h0
  unfold LinesPost;rw [hl, hw];generalize Lib.split (Lib.trimSuffix s [10]) [10] = ls at *;generalize Lib.trimSuffix s [10] = ts at *;generalize Lib.hasSuffix s [10] = hb at *;clear hc hsp hl hw h0
  go_enter Tryz.func49, Tryz.ntmps49
  go_wp2_with fail
  refine HC.out.mono ?_;rintro e w1 ⟨rfl, rfl⟩
  go_wp2_with fail
  refine HS.out.mono ?_;rintro e w2 ⟨rfl, rfl⟩
  go_wp2_with fail
  refine bodyPost_ret (v := .tuple #[.slice (some ⟨w1.heap.size, 0, none⟩) ls.length ls.length, .bool hb]) (by simp [results, Tryz.results49, go_sem]) rfl ?_;have hB := Blk.new w1 9 (strsV ls).toArray;exact ⟨_, _, rfl, ⟨_, _, _, rfl, Nat.le_refl _, by omega, by simp [strsV], fun _ => ⟨w1.heap.size, 0, rfl, hB.row0⟩⟩, (Mod.refl _ _).alloc _⟩
end Go.Proofs.YtelpdjhkedhppaaGreatDoor
