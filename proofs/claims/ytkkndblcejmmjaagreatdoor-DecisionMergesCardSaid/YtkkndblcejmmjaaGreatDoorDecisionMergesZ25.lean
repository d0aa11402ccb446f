/- Texts of the proof of DecisionMerges, put together: LatP, CodP. -/
import Derived.Test.YtkkndblcejmmjaaGreatDoorDecisionMergesZ17
import Derived.Test.YtkkndblcejmmjaaGreatDoorDecisionMergesZ20
/- The latest decisions on items, in plain words. -/
namespace Go.Proofs.YtkkndblcejmmjaaGreatDoor
set_option linter.unusedVariables false
set_option linter.unusedSimpArgs false
open Go.RowKit

end Go.Proofs.YtkkndblcejmmjaaGreatDoor

/- Codings in plain words. -/
namespace Go.Proofs.YtkkndblcejmmjaaGreatDoor
set_option linter.unusedVariables false
set_option linter.unusedSimpArgs false
open Go.RowKit

/-- A coding; A and c are the place and the room of its values' slice. -/
structure CodR where
 item : Str
 A : Option Addr
 c : Nat
 vals : List ChoR
def CodR.key (x : CodR) : Str × List (Str × List Str) := (x.item, x.vals.map fun y => (y.field, y.ch))
def likesC (xs ys : List CodR) : Prop := xs.map CodR.key = ys.map CodR.key
theorem likesC.refl (xs : List CodR) : likesC xs xs := rfl
theorem likesC.len {xs ys : List CodR} (h : likesC xs ys) : xs.length = ys.length := by
 have := congrArg List.length h
 simpa using this
theorem likesC.snoc {xs ys : List CodR} {x y : CodR} (h : likesC xs ys) (h1 : x.key = y.key) : likesC (xs ++ [x]) (ys ++ [y]) := by
 unfold likesC at h ⊢
 rw [List.map_append, List.map_append, h, List.map_cons, List.map_cons, h1]
/-- Right decisions have values. -/
theorem errsFrom_0D {f : Nat → Int} {n : Nat} : ∀ {k : Nat}, errsFrom f n k = 0 → ∀ j, k ≤ j → j < n → f j = 0 := by
 intro k
 by_cases hk : k < n
 ·intro h j hkj hj
  rw [errsFrom_step f hk] at h
  split at h
  ·rename_i h0
   by_cases e : k = j
   ·subst e; exact h0
   ·exact errsFrom_0D h j (by omega) hj
  ·rename_i h0; exact absurd h h0
 ·intro _ j h1 h2; omega
termination_by k => n - k
theorem decsE_0 {L : LayR} {ds : List DecR} (h : decsE L ds = 0) : layE L = 0 ∧ ∀ k (hk : k < ds.length), decE L ((k : Int) + 1) ds[k] = 0 := by
 unfold decsE at h
 split at h
 ·rename_i h0; exact absurd h h0
 rename_i h0
 split at h
 ·omega
 refine ⟨Decidable.not_not.1 h0, fun k hk => ?_⟩
 have := errsFrom_0D h k (by omega) hk
 simpa [List.getD, hk] using this
theorem decE_0 {L : LayR} {no : Int} {d : DecR} (h : decE L no d = 0) : d.no = no ∧ keyB d.item = true ∧ keyB d.rev = true ∧ valsE L d.vals = 0 ∧ d.vals.length ≠ 0 := by
 unfold decE at h
 split at h
 ·omega
 rename_i h1
 split at h
 ·omega
 rename_i h2
 split at h
 ·rename_i h0; exact absurd h h0
 rename_i h3
 split at h
 ·omega
 rename_i h4
 clear h
 refine ⟨?_, ?_, ?_, Decidable.not_not.1 h3, h4⟩
 ·exact Decidable.not_not.1 fun e => h1 (.inl e)
 ·cases hk : keyB d.item with
  | true => rfl
  | false => exact absurd (.inr hk) h2
 ·cases hk : keyB d.rev with
  | true => rfl
  | false => exact absurd (.inl hk) h2
/-- The fields of right values are there, and their choices. -/
theorem pickE_ge {cs : List Str} : ∀ {v : List Str} {p : Int}, pickE cs p v = 0 → ∀ s ∈ v, 0 ≤ ixS cs s
 | [], _, _, s, hs => absurd hs (by simp)
 | x :: t, p, h, s, hs => by
  unfold pickE at h
  split at h
  ·omega
  rename_i h1
  split at h
  ·omega
  rcases List.mem_cons.1 hs with e | e
  ·subst e; omega
  ·exact pickE_ge h s e
theorem valE_ge {al : List AskR} : ∀ {v : List ChoR} {p : Int}, valE al p v = 0 → ∀ x ∈ v, 0 ≤ kIx al x.field ∧ ∀ s ∈ x.ch, 0 ≤ ixS (chAt al x.field) s
 | [], _, _, x, hx => absurd hx (by simp)
 | c :: t, p, h, x, hx => by
  unfold valE at h
  cases hk : askIx al c.field with
  | none => rw [hk] at h; simp only at h; omega
  | some k =>
   rw [hk] at h
   simp only at h
   split at h
   ·omega
   split at h
   ·omega
   split at h
   ·omega
   split at h
   ·rename_i h0; exact absurd h h0
   rename_i h0
   rcases List.mem_cons.1 hx with e | e
   ·subst e
    obtain ⟨hkl, e1, e2, _⟩ := askIx_some hk
    refine ⟨by unfold kIx; rw [hk]; simp, fun s hs => ?_⟩
    have h5 := pickE_ge (Decidable.not_not.1 h0) s hs
    unfold chAt
    rw [e2]
    simpa [List.getD, hkl] using h5
   ·exact valE_ge h x e
theorem valsE_ge {L : LayR} {v : List ChoR} (h : valsE L v = 0) : ∀ x ∈ v, 0 ≤ kIx L.asks x.field ∧ ∀ s ∈ x.ch, 0 ≤ ixS (chAt L.asks x.field) s := by
 unfold valsE at h
 split at h
 ·omega
 ·exact valE_ge h

end Go.Proofs.YtkkndblcejmmjaaGreatDoor
