/- Texts of the proof of QueryOrders, put together: DecQ. -/
import Derived.Test.YtbajgjbdcgakoaaGreatDoorQueryOrdersZ17
import Derived.Lib.Bytealg
/- The order of values and of decisions, and the latest one of some, in plain words. -/
namespace Go.Proofs.YtbajgjbdcgakoaaGreatDoor
set_option linter.unusedVariables false
set_option linter.unusedSimpArgs false
open Go.RowKit

/-- Two lists compared element by element; the beginning of another one is less. -/
def cmpQ {α β : Type} (f : α → β → Int) : List α → List β → Int
 | [], [] => 0
 | [], _ :: _ => -1
 | _ :: _, [] => 1
 | x :: s, y :: t => if f x y ≠ 0 then f x y else cmpQ f s t
def sgI (n : Int) : Int := if n < 0 then -1 else if 0 < n then 1 else 0
theorem sgI_cases (n : Int) : (n < 0 ∧ sgI n = -1) ∨ (n = 0 ∧ sgI n = 0) ∨ (0 < n ∧ sgI n = 1) := by
 unfold sgI
 by_cases h1 : n < 0
 ·rw [if_pos h1]; exact .inl ⟨h1, rfl⟩
 ·rw [if_neg h1]
  by_cases h2 : 0 < n
  ·rw [if_pos h2]; exact .inr (.inr ⟨h2, rfl⟩)
  ·rw [if_neg h2]; exact .inr (.inl ⟨by omega, rfl⟩)
theorem sgI_0 (n : Int) : sgI n = 0 ↔ n = 0 := by rcases sgI_cases n with h | h | h <;> omega
theorem cmpQ_take {α β : Type} (f : α → β → Int) {a : List α} {b : List β} {k : Nat} (ha : k < a.length) (hb : k < b.length) : cmpQ f (a.drop k) (b.drop k) = if f a[k] b[k] ≠ 0 then f a[k] b[k] else cmpQ f (a.drop (k + 1)) (b.drop (k + 1)) := by
 rw [List.drop_eq_getElem_cons ha, List.drop_eq_getElem_cons hb]
 rfl
theorem cmpQ_endR {α β : Type} (f : α → β → Int) {a : List α} {b : List β} {k : Nat} (ha : k < a.length) (hb : b.length ≤ k) : cmpQ f (a.drop k) (b.drop k) = 1 := by
 rw [List.drop_eq_getElem_cons ha, List.drop_of_length_le hb]
 rfl
theorem cmpQ_endL {α β : Type} (f : α → β → Int) {a : List α} {b : List β} {k : Nat} (ha : a.length ≤ k) : cmpQ f (a.drop k) (b.drop k) = if k < b.length then -1 else 0 := by
 rw [List.drop_of_length_le ha]
 by_cases hb : k < b.length
 ·rw [List.drop_eq_getElem_cons hb, if_pos hb]; rfl
 ·rw [List.drop_of_length_le (by omega), if_neg hb]; rfl
/-- The first one that is not 0. -/
def or2 (a b : Int) : Int := if a ≠ 0 then a else b
end Go.Proofs.YtbajgjbdcgakoaaGreatDoor
