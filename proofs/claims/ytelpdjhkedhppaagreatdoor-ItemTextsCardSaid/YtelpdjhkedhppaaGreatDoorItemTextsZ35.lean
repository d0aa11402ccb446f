/- Texts of the proof of ItemTexts, put together: LnsA. -/
import Derived.Test.YtelpdjhkedhppaaGreatDoorItemTextsZ11
import Derived.Test.YtelpdjhkedhppaaGreatDoorItemTextsZ20
import Derived.Test.YtelpdjhkedhppaaGreatDoorItemTextsZ23
import Derived.Test.YtelpdjhkedhppaaGreatDoorItemTextsZ26
import Derived.Test.YtelpdjhkedhppaaGreatDoorItemTextsZ29
set_option linter.unusedVariables false
set_option linter.unusedSimpArgs false
/- lines of the program, for any closure that takes the words of a line. -/
namespace Go.Proofs.YtelpdjhkedhppaaGreatDoor
open Go.RowKit
theorem Sl.capS0 {w : World} {e : TypeId} {size n c : Nat} {A : Option Addr} {xs : List Value} (h : Sl w e size (.slice A n c) xs) : n ≤ c ∧ c ≤ 9223372036854775807 := by
 obtain ⟨_, _, _, e, h1, h2, _⟩ := h
 cases e
 exact ⟨h1, h2⟩
def StrBk (w : World) (k : Nat) : Prop := ∃ arr fr, w.heap[k]? = some (.cells arr 9 fr)
def KeepS (base : Nat) (w w' : World) : Prop := Mod (fun k => base ≤ k ∧ ¬ StrBk w k) w w'
theorem KeepS.of_pure {base : Nat} {w w' : World} (h : Pure w w') : KeepS base w w' := Mod.of_pure h
theorem KeepS.trans {base : Nat} {a b c : World} (h : KeepS base a b) (k : KeepS base b c) : KeepS base a c :=
 Mod.trans' h k (fun i hi hlt => ⟨hi.1, fun hs => hi.2 (by
  obtain ⟨arr, fr, h1⟩ := hs
  exact ⟨arr, fr, by rw [h.block i hlt (fun hh => hh.2 ⟨arr, fr, h1⟩)]; exact h1⟩)⟩)
theorem KeepS.sl {base : Nat} {w w' : World} {v : Value} {xs : List Value} {size : Nat} (h : KeepS base w w') (hs : Sl w 9 size v xs) : Sl w' 9 size v xs := Sl.mod hs h (fun g arr fr hg hh => hh.2 ⟨arr, fr, hg⟩)
theorem KeepS.pure {base : Nat} {a b c : World} (h : KeepS base b c) (hp : Pure a b) (hb : a.heap.size ≤ base) : Pure a c := hp.trans' h (fun i hi hlt => by have := hi.1; omega)
def TkPost {σ : Type} (base : Nat) (R : σ → World → Prop) (o : Option σ) (W : World) (e : Ending) (W' : World) : Prop := e = .returned (.bool o.isSome) ∧ KeepS base W W' ∧ ∀ S', o = some S' → R S' W'
theorem rdG_at {σ : Type} (f : σ → Str → Option σ) (wh : Bool) {ls : List Str} {k : Nat} (h : k < ls.length) (S : σ) : rdG f wh (ls.drop k) k S = match f S ls[k] with
  | none => .inl k
  | some S2 => if k + 1 = ls.length ∧ wh = false then .inl k else rdG f wh (ls.drop (k + 1)) (k + 1) S2 := by
 rw [List.drop_eq_getElem_cons h]
 show (match f S ls[k] with | none => Sum.inl k | some S2 => if ls.drop (k + 1) = [] ∧ wh = false then Sum.inl k else rdG f wh (ls.drop (k + 1)) (k + 1) S2) = _
 cases f S ls[k] with
 | none => rfl
 | some S2 =>
  simp only
  have : (ls.drop (k + 1) = []) ↔ k + 1 = ls.length := by
   rw [List.drop_eq_nil_iff]; omega
  simp only [this]
theorem linesQ_P (s : Str) : linesP s = linesQ s := by
 unfold linesP linesQ;rw [split_byte]
theorem linesQ_len {s l : Str} (h : l ∈ linesQ s) : l.length ≤ s.length := by
 unfold linesQ at h
 split at h
 ·cases h
 ·have h1 := spl_len h;have h2 := trimSuffix_len s [10]
  omega
theorem linesQ_count (s : Str) : (linesQ s).length ≤ s.length + 1 := by
 unfold linesQ
 split
 ·simp
 ·have h1 := spl_count 10 (Lib.trimSuffix s [10]);have h2 := trimSuffix_len s [10]
  omega
end Go.Proofs.YtelpdjhkedhppaaGreatDoor
