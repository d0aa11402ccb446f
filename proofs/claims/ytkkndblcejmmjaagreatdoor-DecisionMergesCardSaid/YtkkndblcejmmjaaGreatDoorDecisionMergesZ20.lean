/- Texts of the proof of DecisionMerges, put together: DecQ, OrdP, MrgP, MrgG. -/
import Derived.Test.YtkkndblcejmmjaaGreatDoorDecisionMergesZ18
import Derived.Lib.Bytealg
/- The order of values and of decisions, and the latest one of some, in plain words. -/
namespace Go.Proofs.YtkkndblcejmmjaaGreatDoor
set_option linter.unusedVariables false
set_option linter.unusedSimpArgs false
open Go.RowKit

/-- Two lists compared element by element; the beginning of another one is less. -/
def cmpQ {α β : Type} (f : α → β → Int) : List α → List β → Int
 | [], [] => 0
 | [], _ :: _ => -1
 | _ :: _, [] => 1
 | x :: s, y :: t => if f x y ≠ 0 then f x y else cmpQ f s t
def sgI (n : Int) : Int := if n < 0 then -1 else if 0 < n then 1 else 0
theorem sgI_cases (n : Int) : (n < 0 ∧ sgI n = -1) ∨ (n = 0 ∧ sgI n = 0) ∨ (0 < n ∧ sgI n = 1) := by
 unfold sgI
 by_cases h1 : n < 0
 ·rw [if_pos h1]; exact .inl ⟨h1, rfl⟩
 ·rw [if_neg h1]
  by_cases h2 : 0 < n
  ·rw [if_pos h2]; exact .inr (.inr ⟨h2, rfl⟩)
  ·rw [if_neg h2]; exact .inr (.inl ⟨by omega, rfl⟩)
theorem sgI_0 (n : Int) : sgI n = 0 ↔ n = 0 := by rcases sgI_cases n with h | h | h <;> omega
theorem sgI_pos (n : Int) : sgI n = 1 ↔ 0 < n := by rcases sgI_cases n with h | h | h <;> omega
theorem sgI_neg (n : Int) : sgI n = -1 ↔ n < 0 := by rcases sgI_cases n with h | h | h <;> omega
theorem sgI_sgI (n : Int) : sgI (sgI n) = sgI n := by rcases sgI_cases n with h | h | h <;> rw [h.2] <;> rfl
theorem cmpQ_sg {α β α' β' : Type} {f : α → β → Int} {g : α' → β' → Int} {r : α → α'} {q : β → β'} : ∀ (a : List α) (b : List β), (∀ x ∈ a, ∀ y ∈ b, sgI (g (r x) (q y)) = sgI (f x y)) → sgI (cmpQ g (a.map r) (b.map q)) = sgI (cmpQ f a b)
 | [], [], _ => rfl
 | [], _ :: _, _ => rfl
 | _ :: _, [], _ => rfl
 | x :: s, y :: t, h => by
  have h0 := h x (by simp) y (by simp)
  have ih := cmpQ_sg (f := f) (g := g) (r := r) (q := q) s t (fun x hx y hy => h x (by simp [hx]) y (by simp [hy]))
  show sgI (if g (r x) (q y) ≠ 0 then g (r x) (q y) else cmpQ g (s.map r) (t.map q)) = sgI (if f x y ≠ 0 then f x y else cmpQ f s t)
  by_cases hf : f x y = 0
  ·have hg : g (r x) (q y) = 0 := by rw [← sgI_0, h0, sgI_0]; exact hf
   rw [if_neg (not_not_intro hf), if_neg (not_not_intro hg)]
   exact ih
  ·have hg : g (r x) (q y) ≠ 0 := fun e => hf (by rw [← sgI_0, ← h0, sgI_0]; exact e)
   rw [if_pos hf, if_pos hg]
   exact h0
theorem cmpQ_take {α β : Type} (f : α → β → Int) {a : List α} {b : List β} {k : Nat} (ha : k < a.length) (hb : k < b.length) : cmpQ f (a.drop k) (b.drop k) = if f a[k] b[k] ≠ 0 then f a[k] b[k] else cmpQ f (a.drop (k + 1)) (b.drop (k + 1)) := by
 rw [List.drop_eq_getElem_cons ha, List.drop_eq_getElem_cons hb]
 rfl
theorem cmpQ_endR {α β : Type} (f : α → β → Int) {a : List α} {b : List β} {k : Nat} (ha : k < a.length) (hb : b.length ≤ k) : cmpQ f (a.drop k) (b.drop k) = 1 := by
 rw [List.drop_eq_getElem_cons ha, List.drop_of_length_le hb]
 rfl
theorem cmpQ_endL {α β : Type} (f : α → β → Int) {a : List α} {b : List β} {k : Nat} (ha : a.length ≤ k) : cmpQ f (a.drop k) (b.drop k) = if k < b.length then -1 else 0 := by
 rw [List.drop_of_length_le ha]
 by_cases hb : k < b.length
 ·rw [List.drop_eq_getElem_cons hb, if_pos hb]; rfl
 ·rw [List.drop_of_length_le (by omega), if_neg hb]; rfl
def kIx (al : List AskR) (s : Str) : Int := match askIx al s with | none => -1 | some k => (k : Int)
/-- The choices of a field. -/
def chAt (al : List AskR) (s : Str) : List Str := (choOf al s).getD []
def chCmp (cs : List Str) (s t : Str) : Int := ixS cs s - ixS cs t
def ordQ (al : List AskR) (x y : ChoR) : Int := if kIx al x.field - kIx al y.field ≠ 0 then kIx al x.field - kIx al y.field else cmpQ (chCmp (chAt al x.field)) x.ch y.ch
def ordV (al : List AskR) (a b : List ChoR) : Int := cmpQ (ordQ al) a b
def rowV (al : List AskR) (x : ChoR) : List Int := kIx al x.field :: x.ch.map (ixS (chAt al x.field))
def cmpZ (a b : Int) : Int := if a < b then -1 else if b < a then 1 else 0
theorem cmpZ_sg (a b : Int) : cmpZ a b = sgI (a - b) := by unfold cmpZ sgI; split <;> split <;> (try split) <;> first | rfl | omega
theorem kIx_eq {al : List AskR} {s t : Str} (h : kIx al s = kIx al t) (hs : 0 ≤ kIx al s) : s = t := by
 unfold kIx at h hs
 cases h1 : askIx al s with
 | none => rw [h1] at hs; exact absurd hs (by decide)
 | some k =>
  rw [h1] at h
  cases h2 : askIx al t with
  | none => rw [h2] at h; simp only at h; omega
  | some j =>
   rw [h2] at h
   obtain ⟨hk, e1, _⟩ := askIx_some h1
   obtain ⟨hj, e2, _⟩ := askIx_some h2
   simp only at h
   have : k = j := by omega
   subst this
   rw [← e1, ← e2]
theorem rowV_sg (al : List AskR) (x y : ChoR) (hx : 0 ≤ kIx al x.field) : sgI (cmpQ cmpZ (rowV al x) (rowV al y)) = sgI (ordQ al x y) := by
 show sgI (if cmpZ _ _ ≠ 0 then cmpZ _ _ else cmpQ cmpZ _ _) = _
 unfold ordQ
 by_cases h : kIx al x.field - kIx al y.field = 0
 ·have e : x.field = y.field := kIx_eq (by omega) hx
  have h0 : cmpZ (kIx al x.field) (kIx al y.field) = 0 := by rw [cmpZ_sg, sgI_0]; exact h
  rw [if_neg (not_not_intro h0), if_neg (not_not_intro h), ← e]
  exact cmpQ_sg (f := chCmp (chAt al x.field)) _ _ (fun s _ t _ => by rw [cmpZ_sg, sgI_sgI]; rfl)
 ·have h0 : cmpZ (kIx al x.field) (kIx al y.field) ≠ 0 := by rw [cmpZ_sg]; intro e; exact h ((sgI_0 _).1 e)
  rw [if_pos h0, if_pos h, cmpZ_sg, sgI_sgI]
def ordR (al : List AskR) (a b : List ChoR) : Int := cmpQ (cmpQ cmpZ) (a.map (rowV al)) (b.map (rowV al))
theorem ordR_sg (al : List AskR) (a b : List ChoR) (h : ∀ x ∈ a, 0 ≤ kIx al x.field) : sgI (ordR al a b) = sgI (ordV al a b) :=
 cmpQ_sg _ _ (fun x hx y _ => rowV_sg al x y (h x hx))
theorem cmpB_self : ∀ a : Str, Lib.compareBytes a a = 0
 | [] => rfl
 | x :: a => by
  unfold Lib.compareBytes
  rw [if_neg (UInt8.lt_irrefl x), if_neg (UInt8.lt_irrefl x)]
  exact cmpB_self a
theorem cmpB_eq : ∀ {a b : Str}, Lib.compareBytes a b = 0 → a = b
 | [], [], _ => rfl
 | [], _ :: _, h => absurd h (by simp [Lib.compareBytes])
 | _ :: _, [], h => absurd h (by simp [Lib.compareBytes])
 | x :: a, y :: b, h => by
  unfold Lib.compareBytes at h
  by_cases h1 : x < y
  ·rw [if_pos h1] at h; exact absurd h (by decide)
  ·rw [if_neg h1] at h
   by_cases h2 : y < x
   ·rw [if_pos h2] at h; exact absurd h (by decide)
   ·rw [if_neg h2] at h
    have e : x = y := UInt8.le_antisymm (UInt8.not_lt.1 h2) (UInt8.not_lt.1 h1)
    rw [e, cmpB_eq h]
/-- The first one that is not 0. -/
def or2 (a b : Int) : Int := if a ≠ 0 then a else b
def secI (b : Bool) : Int := if b then 1 else 0
theorem or2_0 {a b : Int} (h : a = 0) : or2 a b = b := if_neg (not_not_intro h)
theorem or2_n {a b : Int} (h : a ≠ 0) : or2 a b = a := if_pos h
end Go.Proofs.YtkkndblcejmmjaaGreatDoor

/- Comparisons that order: three-way comparisons, one behind the other, and of lists; sorted lists without two alike. -/
namespace Go.Proofs.YtkkndblcejmmjaaGreatDoor
set_option linter.unusedVariables false
set_option linter.unusedSimpArgs false
open Go.RowKit

/-- A comparison that orders. -/
structure CmpG {α : Type} (f : α → α → Int) : Prop where
 anti : ∀ x y, sgI (f y x) = - sgI (f x y)
 tr : ∀ x y z, f x y ≤ 0 → f y z ≤ 0 → f x z ≤ 0
namespace CmpG
variable {α β : Type} {f g : α → α → Int}
theorem flip0 (h : CmpG f) {x y : α} (e : f x y = 0) : f y x = 0 := by
 have := h.anti x y
 rw [← sgI_0, this, (sgI_0 _).2 e]; rfl
theorem flipN (h : CmpG f) {x y : α} (e : f x y < 0) : 0 < f y x := by
 have := h.anti x y
 rw [← sgI_pos, this, (sgI_neg _).2 e]; rfl
theorem flipP (h : CmpG f) {x y : α} (e : 0 < f x y) : f y x < 0 := by
 have := h.anti x y
 rw [← sgI_neg, this, (sgI_pos _).2 e]
theorem ltL (h : CmpG f) {x y z : α} (h1 : f x y < 0) (h2 : f y z ≤ 0) : f x z < 0 := by
 have h3 := h.tr x y z (by omega) h2
 rcases Int.lt_or_eq_of_le h3 with h4 | h4
 ·exact h4
 ·have h5 := h.tr y z x h2 (by rw [h.flip0 h4]; omega)
  have := h.flipN h1
  omega
theorem ltR (h : CmpG f) {x y z : α} (h1 : f x y ≤ 0) (h2 : f y z < 0) : f x z < 0 := by
 have h3 := h.tr x y z h1 (by omega)
 rcases Int.lt_or_eq_of_le h3 with h4 | h4
 ·exact h4
 ·have h5 := h.tr z x y (by rw [h.flip0 h4]; omega) h1
  have := h.flipN h2
  omega
theorem or2G (hf : CmpG f) (hg : CmpG g) : CmpG (fun x y => or2 (f x y) (g x y)) where
 anti x y := by
  by_cases h : f x y = 0
  ·rw [or2_0 h, or2_0 (hf.flip0 h)]; exact hg.anti x y
  ·have h' : f y x ≠ 0 := fun e => h (hf.flip0 e)
   rw [or2_n h, or2_n h']; exact hf.anti x y
 tr x y z h1 h2 := by
  by_cases e1 : f x y = 0
  ·rw [or2_0 e1] at h1
   by_cases e2 : f y z = 0
   ·rw [or2_0 e2] at h2
    have h3 := hf.tr x y z (by omega) (by omega)
    have h4 := hf.tr z y x (by rw [hf.flip0 e2]; omega) (by rw [hf.flip0 e1]; omega)
    have h5 : f x z = 0 := by
     rcases Int.lt_or_eq_of_le h3 with h6 | h6
     ·have := hf.flipN h6; omega
     ·exact h6
    rw [or2_0 h5]
    exact hg.tr x y z h1 h2
   ·rw [or2_n e2] at h2
    have := hf.ltR (x := x) (y := y) (z := z) (by omega) (by omega)
    rw [or2_n (by omega)]; omega
  ·rw [or2_n e1] at h1
   have h2' : f y z ≤ 0 := by
    by_cases e2 : f y z = 0
    ·omega
    ·rwa [or2_n e2] at h2
   have := hf.ltL (x := x) (y := y) (z := z) (by omega) h2'
   rw [or2_n (by omega)]; omega
theorem on (hf : CmpG f) (k : β → α) : CmpG (fun x y => f (k x) (k y)) where
 anti x y := hf.anti _ _
 tr x y z := hf.tr _ _ _
theorem sub : CmpG (fun a b : Int => a - b) where
 anti x y := by rcases sgI_cases (x - y) with e | e | e <;> rcases sgI_cases (y - x) with e' | e' | e' <;> omega
 tr x y z h1 h2 := by omega
theorem bytes : CmpG (fun a b : Str => Lib.compareBytes a b) where
 anti x y := by
  induction x generalizing y with
  | nil => cases y <;> rfl
  | cons a s ih =>
   cases y with
   | nil => rfl
   | cons b t =>
    unfold Lib.compareBytes
    by_cases h1 : a < b
    ·have h2 : ¬ b < a := UInt8.not_lt.2 (UInt8.le_of_lt h1)
     rw [if_pos h1, if_neg h2, if_pos h1]; rfl
    ·by_cases h2 : b < a
     ·rw [if_pos h2, if_neg h1, if_pos h2]; rfl
     ·rw [if_neg h1, if_neg h2, if_neg h2, if_neg h1]; exact ih t
 tr x y z := by
  induction x generalizing y z with
  | nil => intro _ _; cases z <;> simp [Lib.compareBytes]
  | cons a s ih =>
   intro h1 h2
   cases y with
   | nil => exact absurd h1 (by simp [Lib.compareBytes])
   | cons b t =>
    cases z with
    | nil => exact absurd h2 (by simp [Lib.compareBytes])
    | cons c u =>
     unfold Lib.compareBytes at h1 h2 ⊢
     by_cases h3 : a < b
     ·by_cases h4 : b < c
      ·rw [if_pos (UInt8.lt_trans h3 h4)]; decide
      ·rw [if_neg h4] at h2
       by_cases h5 : c < b
       ·rw [if_pos h5] at h2; exact absurd h2 (by decide)
       ·have e : b = c := UInt8.le_antisymm (UInt8.not_lt.1 h5) (UInt8.not_lt.1 h4)
        subst e
        rw [if_pos h3]; decide
     ·rw [if_neg h3] at h1
      by_cases h5 : b < a
      ·rw [if_pos h5] at h1; exact absurd h1 (by decide)
      ·have e : a = b := UInt8.le_antisymm (UInt8.not_lt.1 h5) (UInt8.not_lt.1 h3)
       subst e
       rw [if_neg h5] at h1
       by_cases h4 : a < c
       ·rw [if_pos h4]; decide
       ·rw [if_neg h4] at h2 ⊢
        by_cases h6 : c < a
        ·rw [if_pos h6] at h2; exact absurd h2 (by decide)
        ·rw [if_neg h6] at h2 ⊢
         exact ih t u h1 h2
theorem cmpQ_cons (x y : α) (s t : List α) : cmpQ f (x :: s) (y :: t) = or2 (f x y) (cmpQ f s t) := rfl
theorem list (hf : CmpG f) : CmpG (fun a b : List α => cmpQ f a b) where
 anti x y := by
  induction x generalizing y with
  | nil => cases y <;> rfl
  | cons a s ih =>
   cases y with
   | nil => rfl
   | cons b t =>
    rw [cmpQ_cons, cmpQ_cons]
    by_cases h : f a b = 0
    ·rw [or2_0 h, or2_0 (hf.flip0 h)]; exact ih t
    ·have h' : f b a ≠ 0 := fun e => h (hf.flip0 e)
     rw [or2_n h, or2_n h']; exact hf.anti _ _
 tr x y z := by
  induction x generalizing y z with
  | nil => intro _ _; cases z <;> simp [cmpQ]
  | cons a s ih =>
   intro h1 h2
   cases y with
   | nil => exact absurd h1 (by simp [cmpQ])
   | cons b t =>
    cases z with
    | nil => exact absurd h2 (by simp [cmpQ])
    | cons c u =>
     rw [cmpQ_cons] at h1 h2 ⊢
     by_cases e1 : f a b = 0
     ·rw [or2_0 e1] at h1
      by_cases e2 : f b c = 0
      ·rw [or2_0 e2] at h2
       have h3 := hf.tr a b c (by omega) (by omega)
       have h4 := hf.tr c b a (by rw [hf.flip0 e2]; omega) (by rw [hf.flip0 e1]; omega)
       have h5 : f a c = 0 := by
        rcases Int.lt_or_eq_of_le h3 with h6 | h6
        ·have := hf.flipN h6; omega
        ·exact h6
       rw [or2_0 h5]
       exact ih t u h1 h2
      ·rw [or2_n e2] at h2
       have := hf.ltR (x := a) (y := b) (z := c) (by omega) (by omega)
       rw [or2_n (by omega)]; omega
     ·rw [or2_n e1] at h1
      have h2' : f b c ≤ 0 := by
       by_cases e2 : f b c = 0
       ·omega
       ·rwa [or2_n e2] at h2
      have := hf.ltL (x := a) (y := b) (z := c) (by omega) h2'
      rw [or2_n (by omega)]; omega
theorem congr (hf : CmpG f) (h : ∀ x y, sgI (g x y) = sgI (f x y)) : CmpG g where
 anti x y := by rw [h, h]; exact hf.anti x y
 tr x y z h1 h2 := by
  have le : ∀ x y, g x y ≤ 0 ↔ f x y ≤ 0 := fun x y => by
   have := h x y
   rcases sgI_cases (g x y) with e | e | e <;> rcases sgI_cases (f x y) with e' | e' | e' <;> omega
  rw [le] at *
  exact hf.tr x y z h1 h2
end CmpG
theorem cmpQ_0 {α : Type} {f : α → α → Int} : ∀ {a b : List α}, (∀ x ∈ a, ∀ y ∈ b, f x y = 0 → x = y) → cmpQ f a b = 0 → a = b
 | [], [], _, _ => rfl
 | [], _ :: _, _, h => absurd h (by simp [cmpQ])
 | _ :: _, [], _, h => absurd h (by simp [cmpQ])
 | x :: s, y :: t, H, h => by
  rw [CmpG.cmpQ_cons] at h
  by_cases e : f x y = 0
  ·rw [or2_0 e] at h
   rw [H x (by simp) y (by simp) e, cmpQ_0 (fun x hx y hy => H x (by simp [hx]) y (by simp [hy])) h]
  ·rw [or2_n e] at h; exact absurd h e
/-- Two lists that rise and hold the same are the same. -/
theorem riseQ_unique {α : Type} {r : α → α → Prop} (hirr : ∀ x, ¬ r x x) (htr : ∀ x y z, r x y → r y z → r x z) : ∀ {xs ys : List α}, xs.Pairwise r → ys.Pairwise r → (∀ x, x ∈ xs ↔ x ∈ ys) → xs = ys
 | [], [], _, _, _ => rfl
 | [], y :: t, _, _, h => absurd ((h y).2 (by simp)) (by simp)
 | x :: s, [], _, _, h => absurd ((h x).1 (by simp)) (by simp)
 | x :: s, y :: t, hx, hy, h => by
  rw [List.pairwise_cons] at hx hy
  have e : x = y := by
   rcases List.mem_cons.1 ((h x).1 (by simp)) with e | e
   ·exact e
   ·rcases List.mem_cons.1 ((h y).2 (by simp)) with e' | e'
    ·exact e'.symm
    ·exact absurd (htr _ _ _ (hx.1 y e') (hy.1 x e)) (hirr x)
  subst e
  rw [riseQ_unique hirr htr hx.2 hy.2 (fun z => ?_)]
  have hz := h z
  constructor
  ·intro hm
   rcases List.mem_cons.1 (hz.1 (List.mem_cons_of_mem _ hm)) with e | e
   ·subst e; exact absurd (hx.1 z hm) (hirr z)
   ·exact e
  ·intro hm
   rcases List.mem_cons.1 (hz.2 (List.mem_cons_of_mem _ hm)) with e | e
   ·subst e; exact absurd (hy.1 z hm) (hirr z)
   ·exact e

end Go.Proofs.YtkkndblcejmmjaaGreatDoor

/- Decisions of two lists put together: sorted and then each once, or each once and then sorted: the same but for numbers. -/
namespace Go.Proofs.YtkkndblcejmmjaaGreatDoor
set_option linter.unusedVariables false
set_option linter.unusedSimpArgs false
open Go.RowKit

/-- What a decision says, but for its number. -/
abbrev Cnt := Int × Str × Str × Bool × List (Str × List Str)
def DecR.cnt (d : DecR) : Cnt := (d.at_, d.item, d.rev, d.sec, d.vals.map fun x => (x.field, x.ch))
/-- The order of merged decisions: the program's comparison, the reference's. -/
def cmpM (al : List AskR) (x y : DecR) : Int := or2 (x.at_ - y.at_) (or2 (Lib.compareBytes x.item y.item) (or2 (Lib.compareBytes x.rev y.rev) (or2 (secI x.sec - secI y.sec) (ordV al x.vals y.vals))))
def cmpMR (al : List AskR) (x y : DecR) : Int :=
 if x.at_ ≠ y.at_ then sgI (x.at_ - y.at_) else if x.item ≠ y.item then Lib.compareBytes x.item y.item else if x.rev ≠ y.rev then Lib.compareBytes x.rev y.rev
 else if x.sec ≠ y.sec then secI x.sec - secI y.sec else ordR al x.vals y.vals
/-- All fields and choices of values are there. -/
def okV (al : List AskR) (v : List ChoR) : Prop := ∀ x ∈ v, 0 ≤ kIx al x.field ∧ ∀ s ∈ x.ch, 0 ≤ ixS (chAt al x.field) s
theorem cmpMR_sg (al : List AskR) (x y : DecR) (h : okV al x.vals) : sgI (cmpMR al x y) = sgI (cmpM al x y) := by
 unfold cmpMR cmpM
 by_cases h1 : x.at_ = y.at_
 ·rw [if_neg (not_not_intro h1), or2_0 (by omega)]
  by_cases h2 : x.item = y.item
  ·rw [if_neg (not_not_intro h2), or2_0 (by rw [h2]; exact cmpB_self _)]
   by_cases h3 : x.rev = y.rev
   ·rw [if_neg (not_not_intro h3), or2_0 (by rw [h3]; exact cmpB_self _)]
    by_cases h4 : x.sec = y.sec
    ·rw [if_neg (not_not_intro h4), or2_0 (by rw [h4]; omega)]
     exact ordR_sg al _ _ (fun z hz => (h z hz).1)
    ·rw [if_pos h4, or2_n]
     revert h4
     cases x.sec <;> cases y.sec <;> simp [secI]
   ·rw [if_pos h3, or2_n (fun h4 => h3 (cmpB_eq h4))]
  ·rw [if_pos h2, or2_n (fun h4 => h2 (cmpB_eq h4))]
 ·rw [if_pos h1, or2_n (by omega), sgI_sgI]
/-- Right values are told apart by their order. -/
theorem ixS_inj {cs : List Str} {s t : Str} (h : ixS cs s = ixS cs t) (hs : 0 ≤ ixS cs s) : s = t := by
 unfold ixS at h hs
 cases h1 : cs.findIdx? fun c => decide (c = s) with
 | none => rw [h1] at hs; exact absurd hs (by decide)
 | some k =>
  rw [h1] at h
  cases h2 : cs.findIdx? fun c => decide (c = t) with
  | none => rw [h2] at h; simp only at h; omega
  | some j =>
   rw [h2] at h
   simp only at h
   have e : k = j := by omega
   subst e
   rw [List.findIdx?_eq_some_iff_getElem] at h1 h2
   obtain ⟨hk, e1, _⟩ := h1
   obtain ⟨_, e2, _⟩ := h2
   have e1' : cs[k] = s := by simpa using e1
   have e2' : cs[k] = t := by simpa using e2
   rw [← e1', ← e2']
theorem ordV_0 {al : List AskR} {a b : List ChoR} (ha : okV al a) (h : ordV al a b = 0) : a.map (fun x => (x.field, x.ch)) = b.map (fun x => (x.field, x.ch)) := by
 induction a generalizing b with
 | nil => cases b with | nil => rfl | cons y t => exact absurd h (by simp [ordV, cmpQ])
 | cons x s ih =>
  cases b with
  | nil => exact absurd h (by simp [ordV, cmpQ])
  | cons y t =>
   have h' : or2 (ordQ al x y) (ordV al s t) = 0 := h
   by_cases e : ordQ al x y = 0
   ·rw [or2_0 e] at h'
    have hx := ha x (by simp)
    unfold ordQ at e
    by_cases e1 : kIx al x.field - kIx al y.field = 0
    ·rw [if_neg (not_not_intro e1)] at e
     have ef : x.field = y.field := kIx_eq (by omega) hx.1
     have ec : x.ch = y.ch := cmpQ_0 (fun s hs t _ hst => ixS_inj (by unfold chCmp at hst; omega) (hx.2 s hs)) e
     rw [List.map_cons, List.map_cons, ih (fun z hz => ha z (by simp [hz])) h', ef, ec]
    ·rw [if_pos e1] at e; exact absurd e e1
   ·rw [or2_n e] at h'; exact absurd h' e
theorem cmpM_0 {al : List AskR} {x y : DecR} (hx : okV al x.vals) (h : cmpM al x y = 0) : x.cnt = y.cnt := by
 unfold cmpM at h
 have z : ∀ {a b : Int}, or2 a b = 0 → a = 0 ∧ b = 0 := fun {a b} e => by
  by_cases ha : a = 0
  ·rw [or2_0 ha] at e; exact ⟨ha, e⟩
  ·rw [or2_n ha] at e; exact absurd e ha
 obtain ⟨h1, h⟩ := z h
 obtain ⟨h2, h⟩ := z h
 obtain ⟨h3, h⟩ := z h
 obtain ⟨h4, h⟩ := z h
 have e4 : x.sec = y.sec := by
  revert h4
  cases x.sec <;> cases y.sec <;> simp [secI]
 unfold DecR.cnt
 rw [show x.at_ = y.at_ by omega, cmpB_eq h2, cmpB_eq h3, e4, ordV_0 hx h]
theorem ordQ_like {al : List AskR} {x y x' y' : ChoR} (h1 : (x.field, x.ch) = (x'.field, x'.ch)) (h2 : (y.field, y.ch) = (y'.field, y'.ch)) : ordQ al x y = ordQ al x' y' := by
 injection h1 with a1 a2
 injection h2 with b1 b2
 unfold ordQ
 rw [a1, a2, b1, b2]
theorem ordV_like {al : List AskR} : ∀ {a b a' b' : List ChoR}, a.map (fun x => (x.field, x.ch)) = a'.map (fun x => (x.field, x.ch)) → b.map (fun x => (x.field, x.ch)) = b'.map (fun x => (x.field, x.ch)) → ordV al a b = ordV al a' b'
 | [], [], [], [], _, _ => rfl
 | [], _ :: _, [], _ :: _, _, _ => rfl
 | _ :: _, [], _ :: _, [], _, _ => rfl
 | x :: s, y :: t, x' :: s', y' :: t', h1, h2 => by
  rw [List.map_cons, List.map_cons] at h1 h2
  injection h1 with a1 a2
  injection h2 with b1 b2
  show or2 (ordQ al x y) (ordV al s t) = or2 (ordQ al x' y') (ordV al s' t')
  rw [ordQ_like a1 b1, ordV_like a2 b2]
 | [], _, _ :: _, _, h, _ => by cases h
 | _ :: _, _, [], _, h, _ => by cases h
 | _, [], _, _ :: _, _, h => by cases h
 | _, _ :: _, _, [], _, h => by cases h
theorem cmpM_cnt {al : List AskR} {x y x' y' : DecR} (hx : x.cnt = x'.cnt) (hy : y.cnt = y'.cnt) : cmpM al x y = cmpM al x' y' := by
 unfold DecR.cnt at hx hy
 simp only [Prod.mk.injEq] at hx hy
 obtain ⟨a1, a2, a3, a4, a5⟩ := hx
 obtain ⟨b1, b2, b3, b4, b5⟩ := hy
 unfold cmpM
 rw [a1, a2, a3, a4, b1, b2, b3, b4, ordV_like a5 b5]
theorem cmpM_self (al : List AskR) (x : DecR) : cmpM al x x = 0 := by
 have hc : ∀ cs : List Str, ∀ c : List Str, cmpQ (chCmp cs) c c = 0 := fun cs c => by
  induction c with
  | nil => rfl
  | cons s t ih => rw [CmpG.cmpQ_cons, or2_0 (by unfold chCmp; omega)]; exact ih
 have ho : ∀ v : List ChoR, ordV al v v = 0 := fun v => by
  unfold ordV
  induction v with
  | nil => rfl
  | cons s t ih => rw [CmpG.cmpQ_cons, or2_0 (by unfold ordQ; rw [if_neg (by omega)]; exact hc _ _)]; exact ih
 unfold cmpM
 rw [or2_0 (by omega), or2_0 (cmpB_self _), or2_0 (cmpB_self _), or2_0 (by omega), ho]
theorem cmpZ_G : CmpG cmpZ := CmpG.sub.congr fun x y => by rw [cmpZ_sg, sgI_sgI]
/-- Decisions with right values are ordered. -/
theorem cmpM_G (al : List AskR) : CmpG (fun x y : {d : DecR // okV al d.vals} => cmpM al x.1 y.1) := by
 have h1 := CmpG.sub.on (fun x : {d : DecR // okV al d.vals} => x.1.at_)
 have h2 := CmpG.bytes.on (fun x : {d : DecR // okV al d.vals} => x.1.item)
 have h3 := CmpG.bytes.on (fun x : {d : DecR // okV al d.vals} => x.1.rev)
 have h4 := CmpG.sub.on (fun x : {d : DecR // okV al d.vals} => secI x.1.sec)
 have h5 : CmpG (fun x y : {d : DecR // okV al d.vals} => ordV al x.1.vals y.1.vals) :=
  (cmpZ_G.list.list.on (fun x : {d : DecR // okV al d.vals} => x.1.vals.map (rowV al))).congr fun x y => (ordR_sg al x.1.vals y.1.vals (fun z hz => (x.2 z hz).1)).symm
 exact h1.or2G (h2.or2G (h3.or2G (h4.or2G h5)))
/-- Runs of equals, each once. -/
def compK (eq : DecR → DecR → Bool) : DecR → List DecR → List DecR
 | _, [] => []
 | p, y :: t => if eq y p then compK eq y t else y :: compK eq y t
def compF (eq : DecR → DecR → Bool) : List DecR → List DecR
 | [] => []
 | x :: t => x :: compK eq x t
instance cntDec0 : DecidableEq (Bool × List (Str × List Str)) := inferInstance
instance cntDec1 : DecidableEq (Str × Bool × List (Str × List Str)) := inferInstance
instance cntDec2 : DecidableEq (Str × Str × Bool × List (Str × List Str)) := inferInstance
instance cntDec : DecidableEq Cnt := fun a b => inferInstanceAs (Decidable ((a : Int × Str × Str × Bool × List (Str × List Str)) = b))
/-- Each once: the first of those that say the same. -/
def dupF (out : List DecR) (d : DecR) : List DecR := if out.any (fun x => decide (x.cnt = d.cnt)) then out else out ++ [d]
def dups (xs : List DecR) : List DecR := xs.foldl dupF []
theorem dups_snoc (xs : List DecR) (x : DecR) : dups (xs ++ [x]) = dupF (dups xs) x := by
 unfold dups
 rw [List.foldl_append]
 rfl
theorem dups_spec (xs : List DecR) : ((dups xs).map DecR.cnt).Nodup ∧ (∀ c, c ∈ (dups xs).map DecR.cnt ↔ c ∈ xs.map DecR.cnt) ∧ ∀ x ∈ dups xs, x ∈ xs := by
 suffices H : ∀ n, ∀ xs : List DecR, xs.length = n → ((dups xs).map DecR.cnt).Nodup ∧ (∀ c, c ∈ (dups xs).map DecR.cnt ↔ c ∈ xs.map DecR.cnt) ∧ ∀ x ∈ dups xs, x ∈ xs from H _ xs rfl
 intro n
 induction n with
 | zero =>
  intro xs h
  rw [List.eq_nil_of_length_eq_zero h]
  exact ⟨List.Pairwise.nil, fun c => Iff.rfl, fun x h => h⟩
 | succ n ih =>
  intro xs h
  obtain ⟨ys, z, rfl⟩ : ∃ ys z, xs = ys ++ [z] := ⟨xs.dropLast, xs.getLast (by intro e; subst e; simp at h), (List.dropLast_concat_getLast _).symm⟩
  obtain ⟨i1, i2, i3⟩ := ih ys (by simpa using h)
  rw [dups_snoc]
  unfold dupF
  by_cases hz : (dups ys).any (fun x => decide (x.cnt = z.cnt)) = true
  ·rw [if_pos hz]
   refine ⟨i1, fun c => ?_, fun x hx => by simp [i3 x hx]⟩
   rw [i2, List.map_append, List.mem_append]
   refine ⟨Or.inl, fun hc => ?_⟩
   rcases hc with hc | hc
   ·exact hc
   ·rw [List.any_eq_true] at hz
    obtain ⟨x, hx, hxz⟩ := hz
    have e : x.cnt = z.cnt := by simpa using hxz
    have hc' : c = z.cnt := by simpa using hc
    rw [hc', ← e]
    exact (i2 _).1 (List.mem_map_of_mem hx)
  ·rw [if_neg hz]
   refine ⟨?_, fun c => ?_, fun x hx => ?_⟩
   ·rw [List.map_append, List.nodup_append]
    refine ⟨i1, by simp, fun a ha b hb => ?_⟩
    have hb' : b = z.cnt := by simpa using hb
    rintro rfl
    obtain ⟨x, hx, e⟩ := List.mem_map.1 ha
    exact hz (List.any_eq_true.2 ⟨x, hx, by simp [e, hb']⟩)
   ·rw [List.map_append, List.mem_append, i2, List.map_append, List.mem_append]
   ·rcases List.mem_append.1 hx with hx | hx
    ·simp [i3 x hx]
    ·simpa using Or.inr (List.mem_singleton.1 hx)
/-- Sorted: none is less than one before it. -/
def SortedM (al : List AskR) (xs : List DecR) : Prop := xs.Pairwise fun x y => ¬ cmpM al y x < 0
/-- Rising, as contents. -/
def RiseC (al : List AskR) (u v : Cnt) : Prop := ∃ x y : DecR, x.cnt = u ∧ y.cnt = v ∧ okV al x.vals ∧ okV al y.vals ∧ cmpM al x y < 0
theorem okV_cnt {al : List AskR} {x y : DecR} (h : x.cnt = y.cnt) (hx : okV al x.vals) : okV al y.vals := by
 unfold DecR.cnt at h
 simp only [Prod.mk.injEq] at h
 obtain ⟨_, _, _, _, h⟩ := h
 intro z hz
 have : (z.field, z.ch) ∈ x.vals.map (fun x => (x.field, x.ch)) := by rw [h]; exact List.mem_map_of_mem (f := fun x : ChoR => (x.field, x.ch)) hz
 obtain ⟨q, hq, e⟩ := List.mem_map.1 this
 injection e with e1 e2
 rw [← e1, ← e2]
 exact hx q hq
theorem riseC_irr (al : List AskR) (u : Cnt) : ¬ RiseC al u u := by
 rintro ⟨x, y, h1, h2, _, _, h⟩
 rw [cmpM_cnt (al := al) (h1.trans h2.symm) rfl, cmpM_self] at h
 omega
theorem riseC_tr (al : List AskR) (u v w : Cnt) (h1 : RiseC al u v) (h2 : RiseC al v w) : RiseC al u w := by
 obtain ⟨x, y, a1, a2, a3, a4, a5⟩ := h1
 obtain ⟨y', z, b1, b2, b3, b4, b5⟩ := h2
 refine ⟨x, z, a1, b2, a3, b4, ?_⟩
 rw [← cmpM_cnt (al := al) (a2.trans b1.symm) rfl] at b5
 exact (cmpM_G al).ltL (x := ⟨x, a3⟩) (y := ⟨y, a4⟩) (z := ⟨z, b4⟩) a5 (by show cmpM al y z ≤ 0; omega)
/-- The program's way. -/
theorem compF_rise {al : List AskR} : ∀ {xs : List DecR}, (∀ x ∈ xs, okV al x.vals) → SortedM al xs → ((compF (fun x y => decide (cmpM al x y = 0)) xs).map DecR.cnt).Pairwise (RiseC al) ∧ (∀ c, c ∈ (compF (fun x y => decide (cmpM al x y = 0)) xs).map DecR.cnt ↔ c ∈ xs.map DecR.cnt)
 | [], _, _ => ⟨List.Pairwise.nil, fun _ => Iff.rfl⟩
 | p :: t, hok, hs => by
  suffices H : ∀ (t : List DecR) (p : DecR), okV al p.vals → (∀ x ∈ t, okV al x.vals) → SortedM al (p :: t) → ((compK (fun x y => decide (cmpM al x y = 0)) p t).map DecR.cnt).Pairwise (RiseC al) ∧ (∀ c ∈ (compK (fun x y => decide (cmpM al x y = 0)) p t).map DecR.cnt, RiseC al p.cnt c) ∧ (∀ c, (c = p.cnt ∨ c ∈ (compK (fun x y => decide (cmpM al x y = 0)) p t).map DecR.cnt) ↔ c ∈ (p :: t).map DecR.cnt) by
   obtain ⟨h1, h2, h3⟩ := H t p (hok p (by simp)) (fun x hx => hok x (by simp [hx])) hs
   show ((p :: compK _ p t).map DecR.cnt).Pairwise (RiseC al) ∧ ∀ c, c ∈ (p :: compK _ p t).map DecR.cnt ↔ _
   rw [List.map_cons, List.pairwise_cons]
   refine ⟨⟨h2, h1⟩, fun c => ?_⟩
   rw [List.mem_cons]
   exact h3 c
  intro t
  induction t with
  | nil => intro p _ _ _; exact ⟨List.Pairwise.nil, fun c h => absurd h (by simp [compK]), fun c => by simp [compK]⟩
  | cons y t ih =>
   intro p hp hok hs
   unfold SortedM at hs
   rw [List.pairwise_cons] at hs
   obtain ⟨h1, h2, h3⟩ := ih y (hok y (by simp)) (fun x hx => hok x (by simp [hx])) hs.2
   have hpy := hs.1 y (by simp)
   unfold compK
   by_cases e : cmpM al y p = 0
   ·have ec := cmpM_0 (hok y (by simp)) e
    rw [if_pos (by simpa using e)]
    refine ⟨h1, fun c hc => by rw [← ec]; exact h2 c hc, fun c => ?_⟩
    have := h3 c
    rw [ec] at this
    rw [this, List.map_cons, List.map_cons, List.map_cons, ec]
    simp
   ·rw [if_neg (by simpa using e)]
    have hlt : RiseC al p.cnt y.cnt := ⟨p, y, rfl, rfl, hp, hok y (by simp), (cmpM_G al).flipP (x := ⟨y, hok y (by simp)⟩) (y := ⟨p, hp⟩) (by show 0 < cmpM al y p; omega)⟩
    rw [List.map_cons, List.pairwise_cons]
    refine ⟨⟨h2, h1⟩, fun c hc => ?_, fun c => ?_⟩
    ·rcases List.mem_cons.1 hc with rfl | hc
     ·exact hlt
     ·exact riseC_tr al _ _ _ hlt (h2 c hc)
    ·rw [List.mem_cons, h3 c, List.map_cons (a := p), List.mem_cons]
/-- The reference's way. -/
theorem dups_rise {al : List AskR} {xs : List DecR} (hok : ∀ x ∈ xs, okV al x.vals) (hs : SortedM al xs) (hd : (xs.map DecR.cnt).Nodup) : (xs.map DecR.cnt).Pairwise (RiseC al) := by
 rw [List.pairwise_iff_getElem]
 intro i j hi hj hij
 have hi' : i < xs.length := by simpa using hi
 have hj' : j < xs.length := by simpa using hj
 unfold SortedM at hs
 have h1 := (List.pairwise_iff_getElem.1 hs) i j hi' hj' hij
 have h2 := (List.pairwise_iff_getElem.1 hd) i j hi hj hij
 have o1 := hok _ (List.getElem_mem hi')
 have o2 := hok _ (List.getElem_mem hj')
 rw [List.getElem_map, List.getElem_map] at h2 ⊢
 refine ⟨xs[i], xs[j], rfl, rfl, o1, o2, ?_⟩
 have h3 : cmpM al xs[j] xs[i] ≠ 0 := fun e => h2 (cmpM_0 o2 e).symm
 exact (cmpM_G al).flipP (x := ⟨xs[j], o2⟩) (y := ⟨xs[i], o1⟩) (by show 0 < cmpM al xs[j] xs[i]; omega)
end Go.Proofs.YtkkndblcejmmjaaGreatDoor

/- Compact, step by step. -/
namespace Go.Proofs.YtkkndblcejmmjaaGreatDoor
set_option linter.unusedVariables false
set_option linter.unusedSimpArgs false
open Go.RowKit

theorem compK_snoc (eq : DecR → DecR → Bool) : ∀ (t : List DecR) (p z : DecR), compK eq p (t ++ [z]) = compK eq p t ++ (if eq z ((p :: t).getLast (by simp)) then [] else [z])
 | [], p, z => rfl
 | y :: t, p, z => by
  have ih := compK_snoc eq t y z
  have e : (p :: y :: t).getLast (by simp) = (y :: t).getLast (by simp) := by simp
  rw [e]
  show (if eq y p then compK eq y (t ++ [z]) else y :: compK eq y (t ++ [z])) = (if eq y p then compK eq y t else y :: compK eq y t) ++ _
  rw [ih]
  by_cases h : eq y p = true
  ·rw [if_pos h, if_pos h]
  ·rw [if_neg h, if_neg h]; rfl
theorem compF_step (eq : DecR → DecR → Bool) {xs : List DecR} {j : Nat} (h : j + 1 < xs.length) : compF eq (xs.take (j + 2)) = compF eq (xs.take (j + 1)) ++ (if eq xs[j + 1] xs[j] then [] else [xs[j + 1]]) := by
 rw [List.take_succ_eq_append_getElem h]
 cases xs with
 | nil => simp at h
 | cons x t =>
  rw [List.take_succ_cons]
  show x :: compK eq x (t.take j ++ [_]) = (x :: compK eq x (t.take j)) ++ _
  rw [compK_snoc]
  have hj : j < (x :: t).length := by omega
  have e : (x :: t.take j).getLast (by simp) = (x :: t)[j] := by
   rw [List.getLast_eq_getElem]
   simp only [List.length_cons, List.length_take]
   have hm : min j t.length = j := by simp at h; omega
   simp only [hm, Nat.add_sub_cancel]
   cases j with
   | zero => rfl
   | succ i => simp
  rw [e]
  rfl
theorem compF_len (eq : DecR → DecR → Bool) : ∀ (xs : List DecR), (compF eq xs).length ≤ xs.length
  | [] => by simp [compF]
  | x :: t => by
    have : ∀ (t : List DecR) (p : DecR), (compK eq p t).length ≤ t.length := fun t => by
      induction t with
      | nil => intro p; simp [compK]
      | cons y t ih => intro p; unfold compK; split
                       · have := ih y; simp; omega
                       · have := ih y; simp; omega
    have := this t x
    simp [compF]; omega

end Go.Proofs.YtkkndblcejmmjaaGreatDoor
