/- Texts of the proof of ItemTexts, put together: RdA, RdC, RdD. -/
import Derived.Test.YtelpdjhkedhppaaGreatDoorItemTextsZ4
import Derived.Test.YtelpdjhkedhppaaGreatDoorItemTextsZ12
import Derived.Test.YtelpdjhkedhppaaGreatDoorItemTextsZ19
import Derived.Test.YtelpdjhkedhppaaGreatDoorItemTextsZ24
import Derived.Test.YtelpdjhkedhppaaGreatDoorItemTextsZ29
import Derived.Test.YtelpdjhkedhppaaGreatDoorItemTextsZ30
import Derived.Shelf.Strings.Fields
import Derived.Lib.LaidTab
import Derived.Deep.DeepCutAuto
import Derived.Deep.CutBlock
set_option linter.unusedVariables false
set_option linter.unusedSimpArgs false
/- The one line that the laws of reviews have read: its words, its field. -/
namespace Go.Proofs.YtelpdjhkedhppaaGreatDoor
open Go.RowKit
def Asc (w : World) : Prop := Lib.TabIs Tryz.prog w "strings.asciiSpace" .u8 Lib.asciiSpaceTab
theorem asc_g : Tryz.prog.globalNamed "strings.asciiSpace" = some 1 := by kernel_rfl
theorem Asc.mod {w w' : World} {S : Nat → Prop} (h : Asc w) (hm : Mod S w w') (hs : ¬ S 1) : Asc w' := by
 unfold Asc Lib.TabIs World.var? at h ⊢;rw [asc_g] at h ⊢;simp only [Option.bind_some] at h ⊢
 cases hh : w.heap[1]? with
 | none => rw [hh] at h; cases h
 | some o =>
  rw [hm.block _ (lt_of_heap hh) hs];exact h
theorem Asc.pure {w w' : World} (h : Asc w) (hm : Pure w w') : Asc w' := h.mod hm id
theorem blkSl3 {W : World} {g : Nat} {ss : List Str} (h : Blk W g 9 (strsV ss).toArray) (hl : ss.length ≤ 1000 := by decide) : Sl W 9 1 (.slice (some ⟨g, 0, none⟩) ss.length ss.length) (strsV ss) :=
 ⟨_, _, _, rfl, Nat.le_refl _, by omega, by simp [strsV], fun _ => ⟨g, 0, rfl, h.row0⟩⟩
end Go.Proofs.YtelpdjhkedhppaaGreatDoor
/- askLine of the program, for any words. -/
namespace Go.Proofs.YtelpdjhkedhppaaGreatDoor
open Go.RowKit
end Go.Proofs.YtelpdjhkedhppaaGreatDoor
/- ruleLine of the program, for any words. -/
namespace Go.Proofs.YtelpdjhkedhppaaGreatDoor
open Go.RowKit
def TwoB (Z : World) (g gr : Nat) (t1 t2 : TypeId) (c1 c2 : Array Value) : Prop := Blk Z g t1 c1 ∧ Blk Z gr t2 c2
theorem TwoB.far {Z : World} {g gr q : Nat} {t1 t2 : TypeId} {c1 c2 : Array Value} (h : TwoB Z g gr t1 t2 c1 c2) (h1 : g ≠ q) (h2 : gr ≠ q) (j : Nat) (u : Value) : TwoB (Z.setCell ⟨q, j, none⟩ u) g gr t1 t2 c1 c2 := ⟨h.1.far h1 u, h.2.far h2 u⟩
theorem inI_calls (w : World) (n lo hi : Int) : Calls Tryz.prog 80 #[.int .i64 n, .int .i64 lo, .int .i64 hi] w (BoolPost w (decide (lo ≤ n) && decide (n ≤ hi))) := by
 go_enter Tryz.func80, Tryz.ntmps80
 by_cases h : lo ≤ n
 ·go_wp2_with fail
  go_ret;exact BoolPost.of (by simp [h]) (Mod.refl _ _)
 ·go_wp2_with fail
  go_ret;exact BoolPost.of (by rw [decide_eq_false (show ¬ lo ≤ n by omega)]; rfl) (Mod.refl _ _)
end Go.Proofs.YtelpdjhkedhppaaGreatDoor
