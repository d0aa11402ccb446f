/- Texts of the proof of DecisionTexts, put together: LtpP, TxtP, RdFP. -/
import Derived.Test.YtaidkmnbjbnciaaGreatDoorDecisionTextsZ18
import Derived.Test.YtaidkmnbjbnciaaGreatDoorDecisionTextsZ19
import Derived.Test.YtaidkmnbjbnciaaGreatDoorDecisionTextsZ27
import Derived.Lib.Join
/- The texts of layouts (plain): how they are written, what both readers make of a line. -/
namespace Go.Proofs.YtaidkmnbjbnciaaGreatDoor
set_option linter.unusedVariables false
set_option linter.unusedSimpArgs false
open Go.RowKit

/-- A line of words. -/
def lnW (ws : List Str) : Str := Lib.join ws [32] ++ [10]
theorem joinTail_len (sep : Str) : ∀ r : List Str, (Lib.joinTail sep r).length = (r.map fun w => w.length + sep.length).sum
 | [] => rfl
 | x :: t => by
  have := joinTail_len sep t
  unfold Lib.joinTail at this ⊢
  simp only [List.map_cons, List.flatten_cons, List.length_append, List.sum_cons, this]
  omega
theorem joinT_len (ws : List Str) : (Lib.join ws [32]).length ≤ (ws.map fun w => w.length + 1).sum := by
 cases ws with
 | nil => simp [Lib.join_nil]
 | cons x r =>
  rw [Lib.join_cons, List.length_append, joinTail_len]
  simp
theorem sum_le {l : List Str} {M : Nat} (h : ∀ w ∈ l, w.length ≤ M) : (l.map fun w => w.length + 1).sum ≤ (M + 1) * l.length := by
 induction l with
 | nil => simp
 | cons a t ih =>
  have h1 := ih (fun w hw => h w (List.mem_cons_of_mem _ hw))
  have h2 := h a List.mem_cons_self
  simp only [List.length_cons, List.map_cons, List.sum_cons, Nat.mul_add, Nat.mul_one]
  omega
theorem flatT_len {α : Type} (g : α → Str) {M : Nat} : ∀ {xs : List α}, (∀ x ∈ xs, (g x).length ≤ M) → (xs.map g).flatten.length ≤ M * xs.length
 | [], _ => by simp
 | x :: t, h => by
  have h1 := flatT_len g (fun y hy => h y (List.mem_cons_of_mem _ hy))
  have h2 := h x List.mem_cons_self
  simp only [List.map_cons, List.flatten_cons, List.length_append, List.length_cons, Nat.mul_add, Nat.mul_one]
  omega
theorem getD_mem {ws : List Str} {i : Nat} {M : Nat} (h : ∀ w ∈ ws, w.length ≤ M) : (ws.getD i []).length ≤ M := by
 unfold List.getD
 cases hg : ws[i]? with
 | none => simp
 | some x => exact h x (List.mem_of_getElem? hg)
end Go.Proofs.YtaidkmnbjbnciaaGreatDoor

/- Layouts that can be written (plain). -/
namespace Go.Proofs.YtaidkmnbjbnciaaGreatDoor
set_option linter.unusedVariables false
set_option linter.unusedSimpArgs false
open Go.RowKit

end Go.Proofs.YtaidkmnbjbnciaaGreatDoor

/- What is wrong with a layout does not hang on where its choices lie (plain). -/
namespace Go.Proofs.YtaidkmnbjbnciaaGreatDoor
set_option linter.unusedVariables false
set_option linter.unusedSimpArgs false
open Go.RowKit

def AskQ.r (q : AskQ) : AskR := ⟨q.1, none, 0, q.2.1, q.2.2.1, q.2.2.2⟩
end Go.Proofs.YtaidkmnbjbnciaaGreatDoor
