/- Texts of the proof of QueryOrders, put together: QryO. -/
import Derived.Test.YtbajgjbdcgakoaaGreatDoorQueryOrdersZ20
import Derived.Test.YtbajgjbdcgakoaaGreatDoorQueryOrdersZ23
import Derived.Test.YtbajgjbdcgakoaaGreatDoorQueryOrdersZ37
/- How searches are compared, in plain words. -/
namespace Go.Proofs.YtbajgjbdcgakoaaGreatDoor
set_option linter.unusedVariables false
set_option linter.unusedSimpArgs false
open Go.RowKit
/-- Functions, each compared with an element. -/
def cmpF {β : Type} : List (β → Int) → List β → Int
 | [], [] => 0
 | [], _ :: _ => -1
 | _ :: _, [] => 1
 | f :: s, y :: t => if f y ≠ 0 then f y else cmpF s t
theorem cmpF_map {α β : Type} (f : α → β → Int) : ∀ (a : List α) (b : List β), cmpF (a.map f) b = cmpQ f a b
 | [], [] => rfl
 | [], _ :: _ => rfl
 | _ :: _, [] => rfl
 | x :: s, y :: t => by
  show (if f x y ≠ 0 then f x y else cmpF (s.map f) t) = if f x y ≠ 0 then f x y else cmpQ f s t
  rw [cmpF_map f s t]
/-- How the program compares two searches; how the reference does. -/
def ordQP : Qry → Qry → Int
 | .mk k ws n xs, b => or2 (k - b.kind) (or2 (n - b.num) (or2 (cmpL ws b.words) (cmpF (xs.map ordQP) b.args)))
def ordQR : Qry → Qry → Int
 | .mk k ws n xs, b => or2 (sgI (k - b.kind)) (or2 (sgI (n - b.num)) (or2 (cmpL ws b.words) (cmpF (xs.map ordQR) b.args)))
theorem ordQP_mk (k n k' n' : Int) (ws ws' : List Str) (xs bs : List Qry) : ordQP (.mk k ws n xs) (.mk k' ws' n' bs) = or2 (k - k') (or2 (n - n') (or2 (cmpL ws ws') (cmpQ ordQP xs bs))) := by
 rw [ordQP, cmpF_map]
 rfl
theorem ordQR_mk (k n k' n' : Int) (ws ws' : List Str) (xs bs : List Qry) : ordQR (.mk k ws n xs) (.mk k' ws' n' bs) = or2 (sgI (k - k')) (or2 (sgI (n - n')) (or2 (cmpL ws ws') (cmpQ ordQR xs bs))) := by
 rw [ordQR, cmpF_map]
 rfl
theorem sgI_id {n : Int} (h : n = -1 ∨ n = 0 ∨ n = 1) : sgI n = n := by rcases h with rfl | rfl | rfl <;> rfl
theorem or2_sg (a b : Int) : sgI (or2 a b) = or2 (sgI a) (sgI b) := by
 unfold or2
 by_cases h : a = 0
 ·subst h; rfl
 ·rw [if_pos h, if_pos (fun e => h ((sgI_0 _).1 e))]
theorem cmpL_sm : ∀ a b : List Str, cmpL a b = -1 ∨ cmpL a b = 0 ∨ cmpL a b = 1
 | [], [] => .inr (.inl rfl)
 | [], _ :: _ => .inl rfl
 | _ :: _, [] => .inr (.inr rfl)
 | a :: x, b :: y => by
  show (if cmpS a b ≠ 0 then cmpS a b else cmpL x y) = -1 ∨ (if cmpS a b ≠ 0 then cmpS a b else cmpL x y) = 0 ∨ (if cmpS a b ≠ 0 then cmpS a b else cmpL x y) = 1
  split
  ·unfold cmpS
   split
   ·exact .inl rfl
   ·split
    ·exact .inr (.inr rfl)
    ·exact .inr (.inl rfl)
  ·exact cmpL_sm x y
theorem cmpQ_sgR {α β : Type} {f g : α → β → Int} : ∀ (a : List α) (b : List β), (∀ x ∈ a, ∀ y ∈ b, sgI (f x y) = g x y) → sgI (cmpQ f a b) = cmpQ g a b
 | [], [], _ => rfl
 | [], _ :: _, _ => rfl
 | _ :: _, [], _ => rfl
 | x :: s, y :: t, h => by
  have h1 := h x (by simp) y (by simp)
  show sgI (if f x y ≠ 0 then f x y else cmpQ f s t) = if g x y ≠ 0 then g x y else cmpQ g s t
  by_cases h0 : f x y = 0
  ·rw [if_neg (not_not_intro h0), if_neg (by rw [← h1, h0]; simp [sgI])]
   exact cmpQ_sgR s t fun a ha b hb => h a (by simp [ha]) b (by simp [hb])
  ·rw [if_pos h0, if_pos (by rw [← h1]; exact fun e => h0 ((sgI_0 _).1 e)), h1]
theorem ord_sg : ∀ a b : Qry, sgI (ordQP a b) = ordQR a b := by
 refine Qry.ind (fun k ws n xs ih b => ?_)
 obtain ⟨k', ws', n', bs⟩ := b
 rw [ordQP_mk, ordQR_mk, or2_sg, or2_sg, or2_sg, sgI_id (cmpL_sm ws ws'), cmpQ_sgR xs bs fun x hx y _ => ih x hx y]
end Go.Proofs.YtbajgjbdcgakoaaGreatDoor
