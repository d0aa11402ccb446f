/- Texts of the proof of CodingCounts, put together: QuoA. -/
import Derived.Test.YtkkndblcejmmjaaGreatDoorCodingCountsZ10
import Derived.Test.YtkkndblcejmmjaaGreatDoorCodingCountsZ12
import Derived.Test.YtkkndblcejmmjaaGreatDoorCodingCountsZ13
import Derived.Deep.DeepCutAuto
/- Quoted strings: quoted and Quote of package intake. -/
namespace Go.Proofs.YtkkndblcejmmjaaGreatDoor
set_option linter.unusedVariables false
set_option linter.unusedSimpArgs false
open Go.RowKit

theorem enc_ascii (c : Nat) (h : c < 128) : Utf8.encode (c : Int) = ⟨#[UInt8.ofNat c]⟩ := by
 have key : ∀ n : Fin 128, Utf8.encode (n.val : Int) = ⟨#[UInt8.ofNat n.val]⟩ := by decide +kernel
 exact key ⟨c, h⟩
/-- A builder at block b that holds the bytes l. -/
def IsB (w : World) (b : Nat) (l : Str) : Prop := Lib.IsBuilderF 200 5 b b (Lib.byteCells l) w ∧ b ≤ w.heap.size
theorem ownF_pure {w w' : World} {base n size : Nat} {e : TypeId} {v : Value} {xs : List Value} (h : w.ownsRowF base e size v n xs) (hm : Pure w w') : w'.ownsRowF base e size v n xs := by
 obtain ⟨h1, h2⟩ := h
 refine ⟨h1, ?_⟩
 rcases h2 with h2 | ⟨g, cap, cur, fz, hv, hg, hh, r⟩
 ·exact .inl h2
 ·exact .inr ⟨g, cap, cur, fz, hv, hg, (hm.block g (lt_of_heap hh) id).trans hh, r⟩
theorem IsB.pure {w w' : World} {b : Nat} {l : Str} (h : IsB w b l) (hm : Pure w w') : IsB w' b l := by
 obtain ⟨h1, h2⟩ := h
 have key : ∀ p, Lib.BuilderAtF 200 5 b b p (Lib.byteCells l) w → Lib.BuilderAtF 200 5 b b p (Lib.byteCells l) w' := by
  rintro p ⟨k1, v, k2, k3, k4⟩
  exact ⟨k1, v, (hm.block b (lt_of_heap k2) id).trans k2, ownF_pure k3 hm, k4⟩
 exact ⟨h1.elim (fun x => .inl (key _ x)) (fun x => .inr (key _ x)), Nat.le_trans h2 hm.size⟩
end Go.Proofs.YtkkndblcejmmjaaGreatDoor
