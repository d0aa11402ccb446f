/- Texts of the proof of DeskHands, put together: DecQ, OrdP. -/
import Derived.Test.YtgfgggeeoeppjaaGreatDoorDeskHandsZ14
import Derived.Lib.Bytealg
set_option linter.unusedVariables false
set_option linter.unusedSimpArgs false
/- The order of values and of decisions, and the latest one of some, in plain words. -/
namespace Go.Proofs.YtgfgggeeoeppjaaGreatDoor
open Go.RowKit
def cmpQ {α β : Type} (f : α → β → Int) : List α → List β → Int
 | [], [] => 0
 | [], _ :: _ => -1
 | _ :: _, [] => 1
 | x :: s, y :: t => if f x y ≠ 0 then f x y else cmpQ f s t
def sgI (n : Int) : Int := if n < 0 then -1 else if 0 < n then 1 else 0
theorem sgI_cases (n : Int) : (n < 0 ∧ sgI n = -1) ∨ (n = 0 ∧ sgI n = 0) ∨ (0 < n ∧ sgI n = 1) := by
 unfold sgI
 by_cases h1 : n < 0
 ·rw [if_pos h1]; exact .inl ⟨h1, rfl⟩
 ·rw [if_neg h1]
  by_cases h2 : 0 < n
  ·rw [if_pos h2]; exact .inr (.inr ⟨h2, rfl⟩)
  ·rw [if_neg h2]; exact .inr (.inl ⟨by omega, rfl⟩)
theorem sgI_0 (n : Int) : sgI n = 0 ↔ n = 0 := by rcases sgI_cases n with h | h | h <;> omega
theorem sgI_pos (n : Int) : sgI n = 1 ↔ 0 < n := by rcases sgI_cases n with h | h | h <;> omega
theorem sgI_neg (n : Int) : sgI n = -1 ↔ n < 0 := by rcases sgI_cases n with h | h | h <;> omega
def or2 (a b : Int) : Int := if a ≠ 0 then a else b
theorem or2_0 {a b : Int} (h : a = 0) : or2 a b = b := if_neg (not_not_intro h)
theorem or2_n {a b : Int} (h : a ≠ 0) : or2 a b = a := if_pos h
end Go.Proofs.YtgfgggeeoeppjaaGreatDoor
/- Comparisons that order: three-way comparisons, one behind the other, and of lists; sorted lists without two alike. -/
namespace Go.Proofs.YtgfgggeeoeppjaaGreatDoor
open Go.RowKit
structure CmpG {α : Type} (f : α → α → Int) : Prop where
 anti : ∀ x y, sgI (f y x) = - sgI (f x y)
 tr : ∀ x y z, f x y ≤ 0 → f y z ≤ 0 → f x z ≤ 0
namespace CmpG
variable {α β : Type} {f g : α → α → Int}
theorem flip0 (h : CmpG f) {x y : α} (e : f x y = 0) : f y x = 0 := by
 have := h.anti x y;rw [← sgI_0, this, (sgI_0 _).2 e]; rfl
theorem flipN (h : CmpG f) {x y : α} (e : f x y < 0) : 0 < f y x := by
 have := h.anti x y;rw [← sgI_pos, this, (sgI_neg _).2 e]; rfl
theorem ltL (h : CmpG f) {x y z : α} (h1 : f x y < 0) (h2 : f y z ≤ 0) : f x z < 0 := by
 have h3 := h.tr x y z (by omega) h2
 rcases Int.lt_or_eq_of_le h3 with h4 | h4
 ·exact h4
 ·have h5 := h.tr y z x h2 (by rw [h.flip0 h4]; omega);have := h.flipN h1
  omega
theorem ltR (h : CmpG f) {x y z : α} (h1 : f x y ≤ 0) (h2 : f y z < 0) : f x z < 0 := by
 have h3 := h.tr x y z h1 (by omega)
 rcases Int.lt_or_eq_of_le h3 with h4 | h4
 ·exact h4
 ·have h5 := h.tr z x y (by rw [h.flip0 h4]; omega) h1;have := h.flipN h2
  omega
theorem on (hf : CmpG f) (k : β → α) : CmpG (fun x y => f (k x) (k y)) where
 anti x y := hf.anti _ _
 tr x y z := hf.tr _ _ _
theorem sub : CmpG (fun a b : Int => a - b) where
 anti x y := by rcases sgI_cases (x - y) with e | e | e <;> rcases sgI_cases (y - x) with e' | e' | e' <;> omega
 tr x y z h1 h2 := by omega
theorem bytes : CmpG (fun a b : Str => Lib.compareBytes a b) where
 anti x y := by
  induction x generalizing y with
  | nil => cases y <;> rfl
  | cons a s ih =>
   cases y with
   | nil => rfl
   | cons b t =>
    unfold Lib.compareBytes
    by_cases h1 : a < b
    ·have h2 : ¬ b < a := UInt8.not_lt.2 (UInt8.le_of_lt h1);rw [if_pos h1, if_neg h2, if_pos h1]; rfl
    ·by_cases h2 : b < a
     ·rw [if_pos h2, if_neg h1, if_pos h2]; rfl
     ·rw [if_neg h1, if_neg h2, if_neg h2, if_neg h1]; exact ih t
 tr x y z := by
  induction x generalizing y z with
  | nil => intro _ _; cases z <;> simp [Lib.compareBytes]
  | cons a s ih =>
   intro h1 h2
   cases y with
   | nil => exact absurd h1 (by simp [Lib.compareBytes])
   | cons b t =>
    cases z with
    | nil => exact absurd h2 (by simp [Lib.compareBytes])
    | cons c u =>
     unfold Lib.compareBytes at h1 h2 ⊢
     by_cases h3 : a < b
     ·by_cases h4 : b < c
      ·rw [if_pos (UInt8.lt_trans h3 h4)]; decide
      ·rw [if_neg h4] at h2
       by_cases h5 : c < b
       ·rw [if_pos h5] at h2; exact absurd h2 (by decide)
       ·have e : b = c := UInt8.le_antisymm (UInt8.not_lt.1 h5) (UInt8.not_lt.1 h4);subst e;rw [if_pos h3]; decide
     ·rw [if_neg h3] at h1
      by_cases h5 : b < a
      ·rw [if_pos h5] at h1; exact absurd h1 (by decide)
      ·have e : a = b := UInt8.le_antisymm (UInt8.not_lt.1 h5) (UInt8.not_lt.1 h3);subst e;rw [if_neg h5] at h1
       by_cases h4 : a < c
       ·rw [if_pos h4]; decide
       ·rw [if_neg h4] at h2 ⊢
        by_cases h6 : c < a
        ·rw [if_pos h6] at h2; exact absurd h2 (by decide)
        ·rw [if_neg h6] at h2 ⊢;exact ih t u h1 h2
theorem cmpQ_cons (x y : α) (s t : List α) : cmpQ f (x :: s) (y :: t) = or2 (f x y) (cmpQ f s t) := rfl
theorem list (hf : CmpG f) : CmpG (fun a b : List α => cmpQ f a b) where
 anti x y := by
  induction x generalizing y with
  | nil => cases y <;> rfl
  | cons a s ih =>
   cases y with
   | nil => rfl
   | cons b t =>
    rw [cmpQ_cons, cmpQ_cons]
    by_cases h : f a b = 0
    ·rw [or2_0 h, or2_0 (hf.flip0 h)]; exact ih t
    ·have h' : f b a ≠ 0 := fun e => h (hf.flip0 e);rw [or2_n h, or2_n h']; exact hf.anti _ _
 tr x y z := by
  induction x generalizing y z with
  | nil => intro _ _; cases z <;> simp [cmpQ]
  | cons a s ih =>
   intro h1 h2
   cases y with
   | nil => exact absurd h1 (by simp [cmpQ])
   | cons b t =>
    cases z with
    | nil => exact absurd h2 (by simp [cmpQ])
    | cons c u =>
     rw [cmpQ_cons] at h1 h2 ⊢
     by_cases e1 : f a b = 0
     ·rw [or2_0 e1] at h1
      by_cases e2 : f b c = 0
      ·rw [or2_0 e2] at h2;have h3 := hf.tr a b c (by omega) (by omega);have h4 := hf.tr c b a (by rw [hf.flip0 e2]; omega) (by rw [hf.flip0 e1]; omega)
       have h5 : f a c = 0 := by
        rcases Int.lt_or_eq_of_le h3 with h6 | h6
        ·have := hf.flipN h6; omega
        ·exact h6
       rw [or2_0 h5];exact ih t u h1 h2
      ·rw [or2_n e2] at h2;have := hf.ltR (x := a) (y := b) (z := c) (by omega) (by omega);rw [or2_n (by omega)]; omega
     ·rw [or2_n e1] at h1
      have h2' : f b c ≤ 0 := by
       by_cases e2 : f b c = 0
       ·omega
       ·rwa [or2_n e2] at h2
      have := hf.ltL (x := a) (y := b) (z := c) (by omega) h2';rw [or2_n (by omega)]; omega
theorem congr (hf : CmpG f) (h : ∀ x y, sgI (g x y) = sgI (f x y)) : CmpG g where
 anti x y := by rw [h, h]; exact hf.anti x y
 tr x y z h1 h2 := by
  have le : ∀ x y, g x y ≤ 0 ↔ f x y ≤ 0 := fun x y => by
   have := h x y
   rcases sgI_cases (g x y) with e | e | e <;> rcases sgI_cases (f x y) with e' | e' | e' <;> omega
  rw [le] at *;exact hf.tr x y z h1 h2
end CmpG
end Go.Proofs.YtgfgggeeoeppjaaGreatDoor
