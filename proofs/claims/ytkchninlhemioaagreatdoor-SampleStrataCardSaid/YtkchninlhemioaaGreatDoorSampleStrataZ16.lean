/- Texts of the proof of SampleStrata, put together: Bools. -/
import Derived.Test.YtkchninlhemioaaGreatDoorSampleStrataZ11
import Derived.Test.YtkchninlhemioaaGreatDoorSampleStrataZ12
import Derived.Deep.AppendLies
/- Lists of truths: how many are true; the generators Relevant and Share; flag, AllOf, all, gains. -/
namespace Go.Proofs.YtkchninlhemioaaGreatDoor
set_option linter.unusedVariables false
set_option linter.unusedSimpArgs false
open Go.RowKit

def cnt (bs : List Bool) : Nat := bs.count true
def boolsV (bs : List Bool) : List Value := bs.map Value.bool
theorem boolsV_get (bs : List Bool) (i : Nat) (h : i < bs.length) : (boolsV bs)[i]? = some (.bool bs[i]) := by simp [boolsV, h]
theorem boolsV_len (bs : List Bool) : (boolsV bs).length = bs.length := by simp [boolsV]
theorem cnt_le (bs : List Bool) : cnt bs ≤ bs.length := List.count_le_length
theorem cnt_nil : cnt [] = 0 := rfl
theorem cnt_snoc (bs : List Bool) (x : Bool) : cnt (bs ++ [x]) = cnt bs + if x then 1 else 0 := by
  unfold cnt
  rw [List.count_append]
  cases x <;> rfl
theorem cnt_take (bs : List Bool) (k : Nat) (h : k < bs.length) : cnt (bs.take (k + 1)) = cnt (bs.take k) + if bs[k] then 1 else 0 := by
  rw [List.take_succ_eq_append_getElem h, cnt_snoc]
theorem cnt_take_le (bs : List Bool) (k : Nat) : cnt (bs.take k) ≤ k := Nat.le_trans (cnt_le _) (List.length_take_le _ _)
def gainsL (bs : List Bool) (k : Nat) : List Int := (List.range k).map fun i => (cnt (bs.take (i + 1)) : Int)
theorem gainsL_len (bs : List Bool) (k : Nat) : (gainsL bs k).length = k := by simp [gainsL]
theorem gainsL_succ (bs : List Bool) (k : Nat) : gainsL bs (k + 1) = gainsL bs k ++ [(cnt (bs.take (k + 1)) : Int)] := by simp [gainsL, List.range_succ]
theorem gainsL_get (bs : List Bool) {n i : Nat} (h : i < n) : (gainsL bs n)[i]'(by rw [gainsL_len]; exact h) = (cnt (bs.take (i + 1)) : Int) := by simp [gainsL]

theorem info_int_ : (Tryz.prog.info? 3).map (fun i => (i.zero, i.size, i.bytes)) = some (some (.int .i64 0), 1, 8) := by kernel_rfl
theorem info_bool_ : (Tryz.prog.info? 4).map (fun i => (i.zero, i.size, i.bytes)) = some (some (.bool false), 1, 1) := by kernel_rfl

/-- A new slice that holds xs. -/
def OwnPost (w : World) (t : TypeId) (xs : List Value) (e : Ending) (w' : World) : Prop := ∃ v n, e = .returned v ∧ w'.ownsRow w.heap.size t 1 v n xs ∧ Pure w w'
def GainsRel (w : World) (bs : List Bool) (gk : Nat) (t o i : Value) (wr : World) : Prop :=
  ∃ (k : Nat) (A : Option Addr) (cap : Nat), bs.length - k = gk ∧ k ≤ bs.length ∧ i = .int .i64 (k : Int) ∧ t = .int .i64 (cnt (bs.take k) : Int) ∧ o = .slice A k cap ∧ wr.ownsRow w.heap.size 3 1 (.slice A k cap) k (intsV (gainsL bs k)) ∧ Pure w wr

def readErr (n : Int) : Int := if n ≤ 2000 then 0 else 2
def shareErr (n d : Int) : Int := if (1 ≤ d ∧ d ≤ 1000000) ∧ 0 ≤ n ∧ n ≤ d then 0 else 1
set_option maxRecDepth 100000 in
set_option maxHeartbeats 400000 in
theorem shareError_calls (w : World) (n d : Int) : Calls Tryz.prog 36 #[.agg #[.int .i64 n, .int .i64 d]] w (IntPost w (shareErr n d)) := by
  go_enter Tryz.func36, Tryz.ntmps36
  go_wp2_with fail
  refine (in_calls _ _ _ _).mono ?_
  rintro e w' ⟨rfl, rfl⟩
  cases h1 : inB d 1 1000000
  · go_wp2_with fail
    refine (when_t _ _).mono ?_
    rintro e w' ⟨rfl, rfl⟩
    go_wp2_with fail
    go_ret
    refine IntPost.of ?_ ((Mod.refl _ _).alloc _)
    unfold shareErr
    have := inB_false h1
    rw [if_neg (by omega)]
  · have h1' := inB_true h1
    obtain ⟨h2, h3⟩ := h1'
    clear h1
    go_wp2_with fail
    refine (in_calls _ _ _ _).mono ?_
    rintro e w' ⟨rfl, rfl⟩
    cases h4 : inB n 0 d
    · go_wp2_with fail
      refine (when_t _ _).mono ?_
      rintro e w' ⟨rfl, rfl⟩
      go_wp2_with fail
      go_ret
      refine IntPost.of ?_ ((Mod.refl _ _).alloc _)
      unfold shareErr
      have := inB_false h4
      rw [if_neg (by omega)]
    · go_wp2_with fail
      refine (when_f _ _).mono ?_
      rintro e w' ⟨rfl, rfl⟩
      go_wp2_with fail
      go_ret
      refine IntPost.of ?_ ((Mod.refl _ _).alloc _)
      unfold shareErr
      have := inB_true h4
      rw [if_pos (by omega)]

end Go.Proofs.YtkchninlhemioaaGreatDoor
