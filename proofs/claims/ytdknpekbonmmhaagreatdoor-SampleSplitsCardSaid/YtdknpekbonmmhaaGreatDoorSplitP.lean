/- Split: the plain facts. -/
import Derived.Test.YtdknpekbonmmhaaGreatDoorStrs
import Derived.Test.YtdknpekbonmmhaaGreatDoorCheck
namespace Go.Proofs.YtdknpekbonmmhaaGreatDoor
set_option linter.unusedVariables false
set_option linter.unusedSimpArgs false

def sumI : List Int → Int
  | [] => 0
  | x :: l => x + sumI l
theorem sumI_drop (ws : List Int) (k : Nat) (h : k < ws.length) : sumI (ws.drop k) = ws[k] + sumI (ws.drop (k + 1)) := by
  rw [List.drop_eq_getElem_cons h]
  rfl
theorem sumI_nonneg : ∀ (ws : List Int), (∀ x ∈ ws, 0 ≤ x) → 0 ≤ sumI ws
  | [], _ => by simp [sumI]
  | x :: l, h => by
    have h1 := h x (by simp)
    have h2 := sumI_nonneg l (fun y hy => h y (by simp [hy]))
    simp only [sumI]
    omega
theorem sumI_le (M : Int) : ∀ (ws : List Int), (∀ x ∈ ws, x ≤ M) → sumI ws ≤ (ws.length : Int) * M
  | [], _ => by simp [sumI]
  | x :: l, h => by
    have h1 := h x (by simp)
    have h2 := sumI_le M l (fun y hy => h y (by simp [hy]))
    have e : ((x :: l).length : Int) * M = (l.length : Int) * M + M := by
      rw [List.length_cons, Int.natCast_add, Int.add_mul]
      simp
    simp only [sumI]
    omega
/-- The part in which a number falls. -/
def partL : List Int → Int → Nat
  | [], _ => 0
  | x :: l, h => if h < x then 0 else partL l (h - x) + 1
theorem partL_lt : ∀ (ws : List Int) (h : Int), h < sumI ws → 0 < ws.length → partL ws h < ws.length
  | [], h, _, hl => by simp at hl
  | x :: l, h, hs, _ => by
    unfold partL
    split
    · simp
    · rename_i hx
      cases l with
      | nil =>
        simp [sumI] at hs
        omega
      | cons y l =>
        have := partL_lt (y :: l) (h - x) (by simp only [sumI] at hs ⊢; omega) (by simp)
        simp only [List.length_cons] at this ⊢
        omega
/-- k places further. -/
def partAt (ws : List Int) (h : Int) (k : Nat) (r : Int) : Prop := partL ws h = k + partL (ws.drop k) r ∧ r < sumI (ws.drop k) ∧ 0 ≤ r
theorem partAt_zero {ws : List Int} {h : Int} (h0 : 0 ≤ h) (hs : h < sumI ws) : partAt ws h 0 h := ⟨by simp, by simpa using hs, h0⟩
theorem partAt.lt {ws : List Int} {h r : Int} {k : Nat} (hp : partAt ws h k r) : k < ws.length := by
  rcases Nat.lt_or_ge k ws.length with h1 | h1
  · exact h1
  · have h2 := hp.2.1
    rw [List.drop_of_length_le h1] at h2
    have h3 := hp.2.2
    simp [sumI] at h2
    omega
theorem partAt.done {ws : List Int} {h r : Int} {k : Nat} (hp : partAt ws h k r) (hk : k < ws.length) (hr : r < ws[k]) : partL ws h = k := by
  rw [hp.1, List.drop_eq_getElem_cons hk]
  simp [partL, hr]
theorem partAt.next {ws : List Int} {h r : Int} {k : Nat} (hp : partAt ws h k r) (hk : k < ws.length) (hr : ws[k] ≤ r) : partAt ws h (k + 1) (r - ws[k]) := by
  obtain ⟨h1, h2, h3⟩ := hp
  rw [sumI_drop ws k hk] at h2
  refine ⟨?_, by omega, by omega⟩
  have e : partL (ws[k] :: ws.drop (k + 1)) r = partL (ws.drop (k + 1)) (r - ws[k]) + 1 := if_neg (by omega)
  rw [h1, List.drop_eq_getElem_cons hk, e]
  omega
/-- The rows behind the ids. -/
def rowStep (f : Str → Nat) (rows : List (List Str)) (id : Str) : List (List Str) := rows.set (f id) (rows.getD (f id) [] ++ [id])
def rowsTo (f : Str → Nat) (n : Nat) (ids : List Str) : List (List Str) := ids.foldl (rowStep f) (List.replicate n [])
theorem rowsTo_snoc (f : Str → Nat) (n : Nat) (ids : List Str) (id : Str) : rowsTo f n (ids ++ [id]) = rowStep f (rowsTo f n ids) id := by simp [rowsTo]
theorem rowsTo_len (f : Str → Nat) (n : Nat) (ids : List Str) : (rowsTo f n ids).length = n := by
  unfold rowsTo
  suffices h : ∀ (l : List Str) (r : List (List Str)), (l.foldl (rowStep f) r).length = r.length by rw [h]; simp
  intro l
  induction l with
  | nil => intro r; rfl
  | cons x l ih =>
    intro r
    rw [List.foldl_cons, ih]
    simp [rowStep]
/-- The error of weights. -/
def weightB (z : Int) : Bool := !inB z 0 1000
def weightsE (ws : List Int) : Int := if ws.length = 0 then 3 else if 20 < ws.length then 2 else if ws.any weightB then 1 else if sumI ws = 0 then 1 else 0
theorem weights_ok {ws : List Int} (h : weightsE ws = 0) : 0 < ws.length ∧ ws.length ≤ 20 ∧ (∀ z ∈ ws, 0 ≤ z ∧ z ≤ 1000) ∧ 0 < sumI ws ∧ sumI ws ≤ 20000 := by
  unfold weightsE at h
  split at h
  · cases h
  rename_i h1
  split at h
  · cases h
  rename_i h2
  split at h
  · cases h
  rename_i h3
  split at h
  · cases h
  rename_i h4
  have hz : ∀ z ∈ ws, 0 ≤ z ∧ z ≤ 1000 := by
    intro z hz
    have h5 : ws.any weightB = false := by simpa using h3
    have h6 := List.any_eq_false.1 h5 z hz
    exact inB_true (by simpa [weightB] using h6)
  have h7 := sumI_nonneg ws (fun z h => (hz z h).1)
  have h8 := sumI_le 1000 ws (fun z h => (hz z h).2)
  exact ⟨by omega, by omega, hz, by omega, by omega⟩
/-- The error of a list of ids. -/
def leS (a b : Str) : Bool := Op.bytesLess a b || a == b
def idAt (f : Str → Int) (ss : List Str) (k : Nat) : Int := if f (ss.getD k []) ≠ 0 then f (ss.getD k []) else if 0 < k ∧ leS (ss.getD k []) (ss.getD (k - 1) []) = true then 7 else 0
def risingE (f : Str → Int) (ss : List Str) : Int := firstErr ((List.range ss.length).map (idAt f ss))
def idsE (f : Str → Int) (ss : List Str) : Int := if 2000 < ss.length then 2 else risingE f ss
def risingFrom (f : Str → Int) (ss : List Str) (k : Nat) : Int := firstErr (((List.range ss.length).drop k).map (idAt f ss))
theorem risingFrom_zero (f : Str → Int) (ss : List Str) : risingFrom f ss 0 = risingE f ss := rfl
theorem risingFrom_step (f : Str → Int) (ss : List Str) (k : Nat) (h : k < ss.length) : risingFrom f ss k = if idAt f ss k = 0 then risingFrom f ss (k + 1) else idAt f ss k := by
  unfold risingFrom
  rw [List.drop_eq_getElem_cons (by simpa using h)]
  simp [firstErr]
theorem risingFrom_end (f : Str → Int) (ss : List Str) : risingFrom f ss ss.length = 0 := by
  unfold risingFrom
  rw [List.drop_of_length_le (by simp)]
  rfl

end Go.Proofs.YtdknpekbonmmhaaGreatDoor
