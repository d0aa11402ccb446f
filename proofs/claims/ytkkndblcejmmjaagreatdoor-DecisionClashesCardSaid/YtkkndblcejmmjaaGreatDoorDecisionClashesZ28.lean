/- Texts of the proof of DecisionClashes, put together: LatP, CodP, ClaP. -/
import Derived.Test.YtkkndblcejmmjaaGreatDoorDecisionClashesZ19
import Derived.Test.YtkkndblcejmmjaaGreatDoorDecisionClashesZ22
/- The latest decisions on items, in plain words. -/
namespace Go.Proofs.YtkkndblcejmmjaaGreatDoor
set_option linter.unusedVariables false
set_option linter.unusedSimpArgs false
open Go.RowKit

/-- The items of decisions, in order. -/
def itemsD (ds : List DecR) : List Str := Lib.compact ((ds.map (·.item)).mergeSort fun x y => decide (x ≤ y))
end Go.Proofs.YtkkndblcejmmjaaGreatDoor

/- Codings in plain words. -/
namespace Go.Proofs.YtkkndblcejmmjaaGreatDoor
set_option linter.unusedVariables false
set_option linter.unusedSimpArgs false
open Go.RowKit

/-- A coding; A and c are the place and the room of its values' slice. -/
structure CodR where
 item : Str
 A : Option Addr
 c : Nat
 vals : List ChoR
def CodR.key (x : CodR) : Str × List (Str × List Str) := (x.item, x.vals.map fun y => (y.field, y.ch))
def likesC (xs ys : List CodR) : Prop := xs.map CodR.key = ys.map CodR.key
theorem likesC.refl (xs : List CodR) : likesC xs xs := rfl
theorem likesC.len {xs ys : List CodR} (h : likesC xs ys) : xs.length = ys.length := by
 have := congrArg List.length h
 simpa using this
theorem likesC.snoc {xs ys : List CodR} {x y : CodR} (h : likesC xs ys) (h1 : x.key = y.key) : likesC (xs ++ [x]) (ys ++ [y]) := by
 unfold likesC at h ⊢
 rw [List.map_append, List.map_append, h, List.map_cons, List.map_cons, h1]
/-- Right decisions have values. -/
theorem errsFrom_0D {f : Nat → Int} {n : Nat} : ∀ {k : Nat}, errsFrom f n k = 0 → ∀ j, k ≤ j → j < n → f j = 0 := by
 intro k
 by_cases hk : k < n
 ·intro h j hkj hj
  rw [errsFrom_step f hk] at h
  split at h
  ·rename_i h0
   by_cases e : k = j
   ·subst e; exact h0
   ·exact errsFrom_0D h j (by omega) hj
  ·rename_i h0; exact absurd h h0
 ·intro _ j h1 h2; omega
termination_by k => n - k
theorem decsE_0 {L : LayR} {ds : List DecR} (h : decsE L ds = 0) : layE L = 0 ∧ ∀ k (hk : k < ds.length), decE L ((k : Int) + 1) ds[k] = 0 := by
 unfold decsE at h
 split at h
 ·rename_i h0; exact absurd h h0
 rename_i h0
 split at h
 ·omega
 refine ⟨Decidable.not_not.1 h0, fun k hk => ?_⟩
 have := errsFrom_0D h k (by omega) hk
 simpa [List.getD, hk] using this
theorem decE_0 {L : LayR} {no : Int} {d : DecR} (h : decE L no d = 0) : d.no = no ∧ keyB d.item = true ∧ keyB d.rev = true ∧ valsE L d.vals = 0 ∧ d.vals.length ≠ 0 := by
 unfold decE at h
 split at h
 ·omega
 rename_i h1
 split at h
 ·omega
 rename_i h2
 split at h
 ·rename_i h0; exact absurd h h0
 rename_i h3
 split at h
 ·omega
 rename_i h4
 clear h
 refine ⟨?_, ?_, ?_, Decidable.not_not.1 h3, h4⟩
 ·exact Decidable.not_not.1 fun e => h1 (.inl e)
 ·cases hk : keyB d.item with
  | true => rfl
  | false => exact absurd (.inr hk) h2
 ·cases hk : keyB d.rev with
  | true => rfl
  | false => exact absurd (.inl hk) h2
/-- The fields of right values are there, and their choices. -/
theorem pickE_ge {cs : List Str} : ∀ {v : List Str} {p : Int}, pickE cs p v = 0 → ∀ s ∈ v, 0 ≤ ixS cs s
 | [], _, _, s, hs => absurd hs (by simp)
 | x :: t, p, h, s, hs => by
  unfold pickE at h
  split at h
  ·omega
  rename_i h1
  split at h
  ·omega
  rcases List.mem_cons.1 hs with e | e
  ·subst e; omega
  ·exact pickE_ge h s e
theorem valE_ge {al : List AskR} : ∀ {v : List ChoR} {p : Int}, valE al p v = 0 → ∀ x ∈ v, 0 ≤ kIx al x.field ∧ ∀ s ∈ x.ch, 0 ≤ ixS (chAt al x.field) s
 | [], _, _, x, hx => absurd hx (by simp)
 | c :: t, p, h, x, hx => by
  unfold valE at h
  cases hk : askIx al c.field with
  | none => rw [hk] at h; simp only at h; omega
  | some k =>
   rw [hk] at h
   simp only at h
   split at h
   ·omega
   split at h
   ·omega
   split at h
   ·omega
   split at h
   ·rename_i h0; exact absurd h h0
   rename_i h0
   rcases List.mem_cons.1 hx with e | e
   ·subst e
    obtain ⟨hkl, e1, e2, _⟩ := askIx_some hk
    refine ⟨by unfold kIx; rw [hk]; simp, fun s hs => ?_⟩
    have h5 := pickE_ge (Decidable.not_not.1 h0) s hs
    unfold chAt
    rw [e2]
    simpa [List.getD, hkl] using h5
   ·exact valE_ge h x e
theorem valsE_ge {L : LayR} {v : List ChoR} (h : valsE L v = 0) : ∀ x ∈ v, 0 ≤ kIx L.asks x.field ∧ ∀ s ∈ x.ch, 0 ≤ ixS (chAt L.asks x.field) s := by
 unfold valsE at h
 split at h
 ·omega
 ·exact valE_ge h

end Go.Proofs.YtkkndblcejmmjaaGreatDoor

/- First and second looks at items, in plain words. -/
namespace Go.Proofs.YtkkndblcejmmjaaGreatDoor
set_option linter.unusedVariables false
set_option linter.unusedSimpArgs false
open Go.RowKit

theorem latO_congr {al : List AskR} {p q : DecR → Bool} : ∀ {ds : List DecR}, (∀ x ∈ ds, p x = q x) → latO al p ds = latO al q ds := by
 intro ds
 unfold latO
 generalize (none : Option DecR) = o
 induction ds generalizing o with
 | nil => intro _; rfl
 | cons x t ih =>
  intro h
  rw [List.foldl_cons, List.foldl_cons]
  have e : latF al p o x = latF al q o x := by unfold latF; rw [h x (by simp)]
  rw [e]
  exact ih _ (fun y hy => h y (by simp [hy]))
theorem laterS_at {al : List AskR} {x y : DecR} (h : laterS al x y = -1) : x.at_ ≤ y.at_ := by
 unfold laterS at h
 rw [sgI_neg] at h
 unfold laterP at h
 by_cases e : x.at_ - y.at_ = 0
 ·omega
 ·rw [or2_n e] at h; omega
/-- Of whom the second look is. -/
def prS (i : Str) (at_ : Int) (x : DecR) : Bool := decide (x.item = i) && (x.sec && decide (x.at_ ≤ at_))
def sekO (al : List AskR) (ds : List DecR) (at_ : Int) (i : Str) : Option DecR := latO al (prS i at_) ds
/-- Of whom the first look is: the program asks so. -/
def prFi (al : List AskR) (i : Str) (s : Option DecR) (x : DecR) : Bool := decide (x.item = i) && match s with | none => false | some s => !x.sec && decide (laterS al x s = -1)
def firO (al : List AskR) (ds : List DecR) (at_ : Int) (i : Str) : Option DecR := latO al (prFi al i (sekO al ds at_ i)) ds
/-- The reference asks so. -/
def prG (al : List AskR) (i : Str) (at_ : Int) (s : DecR) (x : DecR) : Bool := decide (x.item = i) && (decide (x.at_ ≤ at_) && (!x.sec && decide (laterS al x s = -1)))
theorem firO_ref {al : List AskR} {ds : List DecR} {at_ : Int} {i : Str} {s : DecR} (h : sekO al ds at_ i = some s) : firO al ds at_ i = latO al (prG al i at_ s) ds := by
 unfold firO
 rw [h]
 refine latO_congr (fun x _ => ?_)
 have h2 := (latO_mem al _ ds h).2
 unfold prS at h2
 have hs : s.at_ ≤ at_ := by
  rw [Bool.and_eq_true, Bool.and_eq_true] at h2
  exact of_decide_eq_true h2.2.2
 unfold prFi prG
 by_cases hl : laterS al x s = -1
 ·have := laterS_at hl
  have : x.at_ ≤ at_ := by omega
  simp [this]
 ·simp [hl]
/-- The two looks at an item, where they are of two. -/
def lkO (al : List AskR) (ds : List DecR) (at_ : Int) (i : Str) : Option (DecR × DecR) :=
 match sekO al ds at_ i, firO al ds at_ i with
 | some s, some f => if f.rev = s.rev then none else some (f, s)
 | _, _ => none
def looksP (al : List AskR) (ds : List DecR) (at_ : Int) : List (DecR × DecR) := (itemsD ds).filterMap (lkO al ds at_)
theorem keys_items {α : Type} {ds : List DecR} {g : Str → Option α} {K : List Str} (hn : K.Nodup) (hK : ∀ i, i ∈ K ↔ (g i).isSome = true) (hg : ∀ i, (g i).isSome = true → ∃ x ∈ ds, x.item = i) :
  (K.mergeSort fun x y => decide (x ≤ y)) = (itemsD ds).filter (fun i => (g i).isSome) := by
 have hc := compact_sorted (sorted_le (ds.map (·.item)))
 refine riseQ_unique (r := fun x y : Str => x < y) (fun x => List.lt_irrefl x) (fun x y z h1 h2 => List.lt_trans h1 h2) (sorted_lt hn) (hc.1.filter _) (fun x => ?_)
 rw [List.mem_filter, (List.mergeSort_perm _ _).mem_iff, hK]
 constructor
 ·intro h
  refine ⟨?_, h⟩
  obtain ⟨y, h1, h3⟩ := hg x h
  exact (hc.2 x).2 ((List.mergeSort_perm _ _).mem_iff.2 (List.mem_map.2 ⟨y, h1, h3⟩))
 ·exact fun h => h.2
theorem firO_item {al : List AskR} {ds : List DecR} {at_ : Int} {i : Str} {f : DecR} (h : firO al ds at_ i = some f) : f ∈ ds ∧ f.item = i ∧ ∃ s, sekO al ds at_ i = some s := by
 obtain ⟨h1, h2⟩ := latO_mem al _ ds h
 unfold prFi at h2
 rw [Bool.and_eq_true] at h2
 refine ⟨h1, of_decide_eq_true h2.1, ?_⟩
 cases hs : sekO al ds at_ i with
 | none => rw [hs] at h2; exact absurd h2.2 (by simp)
 | some s => exact ⟨s, rfl⟩
/-- The program goes through the sorted items with a first look. -/
theorem looks_keys {al : List AskR} {ds : List DecR} {at_ : Int} {K : List Str} (hn : K.Nodup) (hK : ∀ i, i ∈ K ↔ (firO al ds at_ i).isSome = true) : (K.mergeSort fun x y => decide (x ≤ y)).filterMap (lkO al ds at_) = looksP al ds at_ := by
 rw [keys_items hn hK (fun i h => by
  obtain ⟨f, hf⟩ := Option.isSome_iff_exists.1 h
  obtain ⟨h1, h2, _⟩ := firO_item hf
  exact ⟨f, h1, h2⟩)]
 unfold looksP
 generalize itemsD ds = I
 induction I with
 | nil => rfl
 | cons i t ih =>
  rw [List.filter_cons]
  by_cases h : (firO al ds at_ i).isSome = true
  ·rw [if_pos h, List.filterMap_cons, List.filterMap_cons, ih]
  ·rw [if_neg h, List.filterMap_cons, ih]
   have h0 : firO al ds at_ i = none := by simpa using h
   have : lkO al ds at_ i = none := by unfold lkO; rw [h0]; cases sekO al ds at_ i <;> rfl
   rw [this]

end Go.Proofs.YtkkndblcejmmjaaGreatDoor
