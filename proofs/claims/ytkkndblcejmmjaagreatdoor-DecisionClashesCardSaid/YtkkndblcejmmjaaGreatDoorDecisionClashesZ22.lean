/- Texts of the proof of DecisionClashes, put together: DecQ, OrdP. -/
import Derived.Test.YtkkndblcejmmjaaGreatDoorDecisionClashesZ20
import Derived.Lib.Bytealg
/- The order of values and of decisions, and the latest one of some, in plain words. -/
namespace Go.Proofs.YtkkndblcejmmjaaGreatDoor
set_option linter.unusedVariables false
set_option linter.unusedSimpArgs false
open Go.RowKit

/-- Two lists compared element by element; the beginning of another one is less. -/
def cmpQ {α β : Type} (f : α → β → Int) : List α → List β → Int
 | [], [] => 0
 | [], _ :: _ => -1
 | _ :: _, [] => 1
 | x :: s, y :: t => if f x y ≠ 0 then f x y else cmpQ f s t
def sgI (n : Int) : Int := if n < 0 then -1 else if 0 < n then 1 else 0
theorem sgI_cases (n : Int) : (n < 0 ∧ sgI n = -1) ∨ (n = 0 ∧ sgI n = 0) ∨ (0 < n ∧ sgI n = 1) := by
 unfold sgI
 by_cases h1 : n < 0
 ·rw [if_pos h1]; exact .inl ⟨h1, rfl⟩
 ·rw [if_neg h1]
  by_cases h2 : 0 < n
  ·rw [if_pos h2]; exact .inr (.inr ⟨h2, rfl⟩)
  ·rw [if_neg h2]; exact .inr (.inl ⟨by omega, rfl⟩)
theorem sgI_0 (n : Int) : sgI n = 0 ↔ n = 0 := by rcases sgI_cases n with h | h | h <;> omega
theorem sgI_pos (n : Int) : sgI n = 1 ↔ 0 < n := by rcases sgI_cases n with h | h | h <;> omega
theorem sgI_neg (n : Int) : sgI n = -1 ↔ n < 0 := by rcases sgI_cases n with h | h | h <;> omega
theorem sgI_sgI (n : Int) : sgI (sgI n) = sgI n := by rcases sgI_cases n with h | h | h <;> rw [h.2] <;> rfl
theorem cmpQ_sg {α β α' β' : Type} {f : α → β → Int} {g : α' → β' → Int} {r : α → α'} {q : β → β'} : ∀ (a : List α) (b : List β), (∀ x ∈ a, ∀ y ∈ b, sgI (g (r x) (q y)) = sgI (f x y)) → sgI (cmpQ g (a.map r) (b.map q)) = sgI (cmpQ f a b)
 | [], [], _ => rfl
 | [], _ :: _, _ => rfl
 | _ :: _, [], _ => rfl
 | x :: s, y :: t, h => by
  have h0 := h x (by simp) y (by simp)
  have ih := cmpQ_sg (f := f) (g := g) (r := r) (q := q) s t (fun x hx y hy => h x (by simp [hx]) y (by simp [hy]))
  show sgI (if g (r x) (q y) ≠ 0 then g (r x) (q y) else cmpQ g (s.map r) (t.map q)) = sgI (if f x y ≠ 0 then f x y else cmpQ f s t)
  by_cases hf : f x y = 0
  ·have hg : g (r x) (q y) = 0 := by rw [← sgI_0, h0, sgI_0]; exact hf
   rw [if_neg (not_not_intro hf), if_neg (not_not_intro hg)]
   exact ih
  ·have hg : g (r x) (q y) ≠ 0 := fun e => hf (by rw [← sgI_0, ← h0, sgI_0]; exact e)
   rw [if_pos hf, if_pos hg]
   exact h0
theorem cmpQ_take {α β : Type} (f : α → β → Int) {a : List α} {b : List β} {k : Nat} (ha : k < a.length) (hb : k < b.length) : cmpQ f (a.drop k) (b.drop k) = if f a[k] b[k] ≠ 0 then f a[k] b[k] else cmpQ f (a.drop (k + 1)) (b.drop (k + 1)) := by
 rw [List.drop_eq_getElem_cons ha, List.drop_eq_getElem_cons hb]
 rfl
theorem cmpQ_endR {α β : Type} (f : α → β → Int) {a : List α} {b : List β} {k : Nat} (ha : k < a.length) (hb : b.length ≤ k) : cmpQ f (a.drop k) (b.drop k) = 1 := by
 rw [List.drop_eq_getElem_cons ha, List.drop_of_length_le hb]
 rfl
theorem cmpQ_endL {α β : Type} (f : α → β → Int) {a : List α} {b : List β} {k : Nat} (ha : a.length ≤ k) : cmpQ f (a.drop k) (b.drop k) = if k < b.length then -1 else 0 := by
 rw [List.drop_of_length_le ha]
 by_cases hb : k < b.length
 ·rw [List.drop_eq_getElem_cons hb, if_pos hb]; rfl
 ·rw [List.drop_of_length_le (by omega), if_neg hb]; rfl
def kIx (al : List AskR) (s : Str) : Int := match askIx al s with | none => -1 | some k => (k : Int)
/-- The choices of a field. -/
def chAt (al : List AskR) (s : Str) : List Str := (choOf al s).getD []
def chCmp (cs : List Str) (s t : Str) : Int := ixS cs s - ixS cs t
def ordQ (al : List AskR) (x y : ChoR) : Int := if kIx al x.field - kIx al y.field ≠ 0 then kIx al x.field - kIx al y.field else cmpQ (chCmp (chAt al x.field)) x.ch y.ch
def ordV (al : List AskR) (a b : List ChoR) : Int := cmpQ (ordQ al) a b
def rowV (al : List AskR) (x : ChoR) : List Int := kIx al x.field :: x.ch.map (ixS (chAt al x.field))
def cmpZ (a b : Int) : Int := if a < b then -1 else if b < a then 1 else 0
theorem cmpZ_sg (a b : Int) : cmpZ a b = sgI (a - b) := by unfold cmpZ sgI; split <;> split <;> (try split) <;> first | rfl | omega
theorem kIx_eq {al : List AskR} {s t : Str} (h : kIx al s = kIx al t) (hs : 0 ≤ kIx al s) : s = t := by
 unfold kIx at h hs
 cases h1 : askIx al s with
 | none => rw [h1] at hs; exact absurd hs (by decide)
 | some k =>
  rw [h1] at h
  cases h2 : askIx al t with
  | none => rw [h2] at h; simp only at h; omega
  | some j =>
   rw [h2] at h
   obtain ⟨hk, e1, _⟩ := askIx_some h1
   obtain ⟨hj, e2, _⟩ := askIx_some h2
   simp only at h
   have : k = j := by omega
   subst this
   rw [← e1, ← e2]
theorem rowV_sg (al : List AskR) (x y : ChoR) (hx : 0 ≤ kIx al x.field) : sgI (cmpQ cmpZ (rowV al x) (rowV al y)) = sgI (ordQ al x y) := by
 show sgI (if cmpZ _ _ ≠ 0 then cmpZ _ _ else cmpQ cmpZ _ _) = _
 unfold ordQ
 by_cases h : kIx al x.field - kIx al y.field = 0
 ·have e : x.field = y.field := kIx_eq (by omega) hx
  have h0 : cmpZ (kIx al x.field) (kIx al y.field) = 0 := by rw [cmpZ_sg, sgI_0]; exact h
  rw [if_neg (not_not_intro h0), if_neg (not_not_intro h), ← e]
  exact cmpQ_sg (f := chCmp (chAt al x.field)) _ _ (fun s _ t _ => by rw [cmpZ_sg, sgI_sgI]; rfl)
 ·have h0 : cmpZ (kIx al x.field) (kIx al y.field) ≠ 0 := by rw [cmpZ_sg]; intro e; exact h ((sgI_0 _).1 e)
  rw [if_pos h0, if_pos h, cmpZ_sg, sgI_sgI]
def ordR (al : List AskR) (a b : List ChoR) : Int := cmpQ (cmpQ cmpZ) (a.map (rowV al)) (b.map (rowV al))
theorem ordR_sg (al : List AskR) (a b : List ChoR) (h : ∀ x ∈ a, 0 ≤ kIx al x.field) : sgI (ordR al a b) = sgI (ordV al a b) :=
 cmpQ_sg _ _ (fun x hx y _ => rowV_sg al x y (h x hx))
theorem cmpB_self : ∀ a : Str, Lib.compareBytes a a = 0
 | [] => rfl
 | x :: a => by
  unfold Lib.compareBytes
  rw [if_neg (UInt8.lt_irrefl x), if_neg (UInt8.lt_irrefl x)]
  exact cmpB_self a
theorem cmpB_eq : ∀ {a b : Str}, Lib.compareBytes a b = 0 → a = b
 | [], [], _ => rfl
 | [], _ :: _, h => absurd h (by simp [Lib.compareBytes])
 | _ :: _, [], h => absurd h (by simp [Lib.compareBytes])
 | x :: a, y :: b, h => by
  unfold Lib.compareBytes at h
  by_cases h1 : x < y
  ·rw [if_pos h1] at h; exact absurd h (by decide)
  ·rw [if_neg h1] at h
   by_cases h2 : y < x
   ·rw [if_pos h2] at h; exact absurd h (by decide)
   ·rw [if_neg h2] at h
    have e : x = y := UInt8.le_antisymm (UInt8.not_lt.1 h2) (UInt8.not_lt.1 h1)
    rw [e, cmpB_eq h]
/-- The first one that is not 0. -/
def or2 (a b : Int) : Int := if a ≠ 0 then a else b
def secI (b : Bool) : Int := if b then 1 else 0
def laterP (al : List AskR) (a b : DecR) : Int := or2 (a.at_ - b.at_) (or2 (secI a.sec - secI b.sec) (or2 (Lib.compareBytes a.rev b.rev) (ordV al a.vals b.vals)))
def laterR (al : List AskR) (a b : DecR) : Int :=
 if a.at_ ≠ b.at_ then sgI (a.at_ - b.at_) else if a.sec ≠ b.sec then secI a.sec - secI b.sec else if a.rev ≠ b.rev then Lib.compareBytes a.rev b.rev else ordR al a.vals b.vals
/-- -1, 0 or 1: whether a is later than b. -/
def laterS (al : List AskR) (a b : DecR) : Int := sgI (laterP al a b)
theorem or2_0 {a b : Int} (h : a = 0) : or2 a b = b := if_neg (not_not_intro h)
theorem or2_n {a b : Int} (h : a ≠ 0) : or2 a b = a := if_pos h
theorem laterR_sg (al : List AskR) (a b : DecR) (h : ∀ x ∈ a.vals, 0 ≤ kIx al x.field) : sgI (laterR al a b) = laterS al a b := by
 unfold laterR laterS laterP
 by_cases h1 : a.at_ = b.at_
 ·rw [if_neg (not_not_intro h1), or2_0 (by omega)]
  by_cases h2 : a.sec = b.sec
  ·rw [if_neg (not_not_intro h2), or2_0 (by rw [h2]; omega)]
   by_cases h3 : a.rev = b.rev
   ·rw [if_neg (not_not_intro h3), or2_0 (by rw [h3]; exact cmpB_self _)]
    exact ordR_sg al _ _ h
   ·rw [if_pos h3, or2_n (fun h4 => h3 (cmpB_eq h4))]
  ·rw [if_pos h2, or2_n]
   revert h2
   cases a.sec <;> cases b.sec <;> simp [secI]
 ·rw [if_pos h1, or2_n (by omega), sgI_sgI]
/-- The latest one of some decisions. -/
def latF (al : List AskR) (p : DecR → Bool) (o : Option DecR) (x : DecR) : Option DecR :=
 if p x then (match o with | none => some x | some y => if laterS al x y = 1 then some x else o) else o
def latO (al : List AskR) (p : DecR → Bool) (ds : List DecR) : Option DecR := ds.foldl (latF al p) none
theorem latO_snoc (al : List AskR) (p : DecR → Bool) (ds : List DecR) (x : DecR) : latO al p (ds ++ [x]) = latF al p (latO al p ds) x := by
 unfold latO
 rw [List.foldl_append]
 rfl
theorem latO_mem (al : List AskR) (p : DecR → Bool) (ds : List DecR) {y : DecR} (h : latO al p ds = some y) : y ∈ ds ∧ p y = true := by
 suffices H : ∀ (l : List DecR) (o : Option DecR), (∀ z, o = some z → (z ∈ ds ∧ p z = true)) → (∀ z ∈ l, z ∈ ds) → ∀ z, l.foldl (latF al p) o = some z → z ∈ ds ∧ p z = true from H ds none (fun z h => by cases h) (fun z h => h) y h
 intro l
 induction l with
 | nil => intro o ho _ z hz; exact ho z hz
 | cons x t ih =>
  intro o ho hl z hz
  refine ih _ ?_ (fun z hz => hl z (by simp [hz])) z hz
  intro u hu
  unfold latF at hu
  by_cases hp : p x = true
  ·rw [if_pos hp] at hu
   cases o with
   | none => injection hu with hu; subst hu; exact ⟨hl _ (by simp), hp⟩
   | some y =>
    simp only at hu
    by_cases hs : laterS al x y = 1
    ·rw [if_pos hs] at hu; injection hu with hu; subst hu; exact ⟨hl _ (by simp), hp⟩
    ·rw [if_neg hs] at hu; exact ho u hu
  ·rw [if_neg hp] at hu; exact ho u hu

end Go.Proofs.YtkkndblcejmmjaaGreatDoor

/- Comparisons that order: three-way comparisons, one behind the other, and of lists; sorted lists without two alike. -/
namespace Go.Proofs.YtkkndblcejmmjaaGreatDoor
set_option linter.unusedVariables false
set_option linter.unusedSimpArgs false
open Go.RowKit

/-- A comparison that orders. -/
structure CmpG {α : Type} (f : α → α → Int) : Prop where
 anti : ∀ x y, sgI (f y x) = - sgI (f x y)
 tr : ∀ x y z, f x y ≤ 0 → f y z ≤ 0 → f x z ≤ 0
namespace CmpG
variable {α β : Type} {f g : α → α → Int}
theorem flip0 (h : CmpG f) {x y : α} (e : f x y = 0) : f y x = 0 := by
 have := h.anti x y
 rw [← sgI_0, this, (sgI_0 _).2 e]; rfl
theorem flipN (h : CmpG f) {x y : α} (e : f x y < 0) : 0 < f y x := by
 have := h.anti x y
 rw [← sgI_pos, this, (sgI_neg _).2 e]; rfl
theorem ltL (h : CmpG f) {x y z : α} (h1 : f x y < 0) (h2 : f y z ≤ 0) : f x z < 0 := by
 have h3 := h.tr x y z (by omega) h2
 rcases Int.lt_or_eq_of_le h3 with h4 | h4
 ·exact h4
 ·have h5 := h.tr y z x h2 (by rw [h.flip0 h4]; omega)
  have := h.flipN h1
  omega
theorem ltR (h : CmpG f) {x y z : α} (h1 : f x y ≤ 0) (h2 : f y z < 0) : f x z < 0 := by
 have h3 := h.tr x y z h1 (by omega)
 rcases Int.lt_or_eq_of_le h3 with h4 | h4
 ·exact h4
 ·have h5 := h.tr z x y (by rw [h.flip0 h4]; omega) h1
  have := h.flipN h2
  omega
theorem on (hf : CmpG f) (k : β → α) : CmpG (fun x y => f (k x) (k y)) where
 anti x y := hf.anti _ _
 tr x y z := hf.tr _ _ _
theorem sub : CmpG (fun a b : Int => a - b) where
 anti x y := by rcases sgI_cases (x - y) with e | e | e <;> rcases sgI_cases (y - x) with e' | e' | e' <;> omega
 tr x y z h1 h2 := by omega
theorem bytes : CmpG (fun a b : Str => Lib.compareBytes a b) where
 anti x y := by
  induction x generalizing y with
  | nil => cases y <;> rfl
  | cons a s ih =>
   cases y with
   | nil => rfl
   | cons b t =>
    unfold Lib.compareBytes
    by_cases h1 : a < b
    ·have h2 : ¬ b < a := UInt8.not_lt.2 (UInt8.le_of_lt h1)
     rw [if_pos h1, if_neg h2, if_pos h1]; rfl
    ·by_cases h2 : b < a
     ·rw [if_pos h2, if_neg h1, if_pos h2]; rfl
     ·rw [if_neg h1, if_neg h2, if_neg h2, if_neg h1]; exact ih t
 tr x y z := by
  induction x generalizing y z with
  | nil => intro _ _; cases z <;> simp [Lib.compareBytes]
  | cons a s ih =>
   intro h1 h2
   cases y with
   | nil => exact absurd h1 (by simp [Lib.compareBytes])
   | cons b t =>
    cases z with
    | nil => exact absurd h2 (by simp [Lib.compareBytes])
    | cons c u =>
     unfold Lib.compareBytes at h1 h2 ⊢
     by_cases h3 : a < b
     ·by_cases h4 : b < c
      ·rw [if_pos (UInt8.lt_trans h3 h4)]; decide
      ·rw [if_neg h4] at h2
       by_cases h5 : c < b
       ·rw [if_pos h5] at h2; exact absurd h2 (by decide)
       ·have e : b = c := UInt8.le_antisymm (UInt8.not_lt.1 h5) (UInt8.not_lt.1 h4)
        subst e
        rw [if_pos h3]; decide
     ·rw [if_neg h3] at h1
      by_cases h5 : b < a
      ·rw [if_pos h5] at h1; exact absurd h1 (by decide)
      ·have e : a = b := UInt8.le_antisymm (UInt8.not_lt.1 h5) (UInt8.not_lt.1 h3)
       subst e
       rw [if_neg h5] at h1
       by_cases h4 : a < c
       ·rw [if_pos h4]; decide
       ·rw [if_neg h4] at h2 ⊢
        by_cases h6 : c < a
        ·rw [if_pos h6] at h2; exact absurd h2 (by decide)
        ·rw [if_neg h6] at h2 ⊢
         exact ih t u h1 h2
theorem cmpQ_cons (x y : α) (s t : List α) : cmpQ f (x :: s) (y :: t) = or2 (f x y) (cmpQ f s t) := rfl
theorem list (hf : CmpG f) : CmpG (fun a b : List α => cmpQ f a b) where
 anti x y := by
  induction x generalizing y with
  | nil => cases y <;> rfl
  | cons a s ih =>
   cases y with
   | nil => rfl
   | cons b t =>
    rw [cmpQ_cons, cmpQ_cons]
    by_cases h : f a b = 0
    ·rw [or2_0 h, or2_0 (hf.flip0 h)]; exact ih t
    ·have h' : f b a ≠ 0 := fun e => h (hf.flip0 e)
     rw [or2_n h, or2_n h']; exact hf.anti _ _
 tr x y z := by
  induction x generalizing y z with
  | nil => intro _ _; cases z <;> simp [cmpQ]
  | cons a s ih =>
   intro h1 h2
   cases y with
   | nil => exact absurd h1 (by simp [cmpQ])
   | cons b t =>
    cases z with
    | nil => exact absurd h2 (by simp [cmpQ])
    | cons c u =>
     rw [cmpQ_cons] at h1 h2 ⊢
     by_cases e1 : f a b = 0
     ·rw [or2_0 e1] at h1
      by_cases e2 : f b c = 0
      ·rw [or2_0 e2] at h2
       have h3 := hf.tr a b c (by omega) (by omega)
       have h4 := hf.tr c b a (by rw [hf.flip0 e2]; omega) (by rw [hf.flip0 e1]; omega)
       have h5 : f a c = 0 := by
        rcases Int.lt_or_eq_of_le h3 with h6 | h6
        ·have := hf.flipN h6; omega
        ·exact h6
       rw [or2_0 h5]
       exact ih t u h1 h2
      ·rw [or2_n e2] at h2
       have := hf.ltR (x := a) (y := b) (z := c) (by omega) (by omega)
       rw [or2_n (by omega)]; omega
     ·rw [or2_n e1] at h1
      have h2' : f b c ≤ 0 := by
       by_cases e2 : f b c = 0
       ·omega
       ·rwa [or2_n e2] at h2
      have := hf.ltL (x := a) (y := b) (z := c) (by omega) h2'
      rw [or2_n (by omega)]; omega
theorem congr (hf : CmpG f) (h : ∀ x y, sgI (g x y) = sgI (f x y)) : CmpG g where
 anti x y := by rw [h, h]; exact hf.anti x y
 tr x y z h1 h2 := by
  have le : ∀ x y, g x y ≤ 0 ↔ f x y ≤ 0 := fun x y => by
   have := h x y
   rcases sgI_cases (g x y) with e | e | e <;> rcases sgI_cases (f x y) with e' | e' | e' <;> omega
  rw [le] at *
  exact hf.tr x y z h1 h2
end CmpG
/-- Two lists that rise and hold the same are the same. -/
theorem riseQ_unique {α : Type} {r : α → α → Prop} (hirr : ∀ x, ¬ r x x) (htr : ∀ x y z, r x y → r y z → r x z) : ∀ {xs ys : List α}, xs.Pairwise r → ys.Pairwise r → (∀ x, x ∈ xs ↔ x ∈ ys) → xs = ys
 | [], [], _, _, _ => rfl
 | [], y :: t, _, _, h => absurd ((h y).2 (by simp)) (by simp)
 | x :: s, [], _, _, h => absurd ((h x).1 (by simp)) (by simp)
 | x :: s, y :: t, hx, hy, h => by
  rw [List.pairwise_cons] at hx hy
  have e : x = y := by
   rcases List.mem_cons.1 ((h x).1 (by simp)) with e | e
   ·exact e
   ·rcases List.mem_cons.1 ((h y).2 (by simp)) with e' | e'
    ·exact e'.symm
    ·exact absurd (htr _ _ _ (hx.1 y e') (hy.1 x e)) (hirr x)
  subst e
  rw [riseQ_unique hirr htr hx.2 hy.2 (fun z => ?_)]
  have hz := h z
  constructor
  ·intro hm
   rcases List.mem_cons.1 (hz.1 (List.mem_cons_of_mem _ hm)) with e | e
   ·subst e; exact absurd (hx.1 z hm) (hirr z)
   ·exact e
  ·intro hm
   rcases List.mem_cons.1 (hz.2 (List.mem_cons_of_mem _ hm)) with e | e
   ·subst e; exact absurd (hy.1 z hm) (hirr z)
   ·exact e

end Go.Proofs.YtkkndblcejmmjaaGreatDoor
