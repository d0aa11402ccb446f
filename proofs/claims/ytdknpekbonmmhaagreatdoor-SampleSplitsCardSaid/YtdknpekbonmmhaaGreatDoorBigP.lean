/- The reference's numbers: plus, cmp. -/
import Derived.Test.YtdknpekbonmmhaaGreatDoorBig
import Derived.Test.YtdknpekbonmmhaaGreatDoorNatD
namespace Go.Proofs.YtdknpekbonmmhaaGreatDoor
set_option linter.unusedVariables false
set_option linter.unusedSimpArgs false
open Go.RowKit

def PlRel (w : World) (xs ys : List Nat) (M gk : Nat) (o cy i : Value) (wr : World) : Prop :=
  ∃ (k c : Nat) (us : List Nat) (A : Option Addr) (cap : Nat), M + 2 - k = gk ∧ k ≤ M + 1 ∧ (k ≤ M ∨ c = 0) ∧ cy = .int .i64 (c : Int) ∧ c ≤ 1 ∧ i = .int .i64 (k : Int) ∧ us.length = k ∧ (∀ d ∈ us, d < 1000000000) ∧
    val B9 us + B9 ^ k * c = val B9 (xs.take k) + val B9 (ys.take k) ∧ o = .slice A k cap ∧ wr.ownsRow w.heap.size 3 1 (.slice A k cap) k (intsN us) ∧ Pure w wr

theorem pl_next {w wr : World} {xs ys us : List Nat} {M k c r q : Nat} {A : Option Addr} {cap : Nat} (hk : k ≤ M) (hxM : xs.length ≤ M) (hyM : ys.length ≤ M) (hul : us.length = k) (hud : ∀ d ∈ us, d < 1000000000)
    (hval : val B9 us + B9 ^ k * c = val B9 (xs.take k) + val B9 (ys.take k)) (hc : c ≤ 1) (hx : xs.getD k 0 < 1000000000) (hy : ys.getD k 0 < 1000000000)
    (hr : (c + xs.getD k 0 + ys.getD k 0) % B9 = r) (hq : (c + xs.getD k 0 + ys.getD k 0) / B9 = q) (hrb : r < 1000000000) (hqb : q ≤ 1)
    (hown : wr.ownsRow w.heap.size 3 1 (.slice A (k + 1) cap) (k + 1) (intsN us ++ [.int .i64 (r : Int)])) (hm : Pure w wr) :
    PlRel w xs ys M (M + 2 - (k + 1)) (.slice A (k + 1) cap) (.int .i64 (q : Int)) (.int .i64 ((k : Int) + 1)) wr := by
  refine ⟨k + 1, q, us ++ [r], A, cap, rfl, by omega, ?_, rfl, hqb, by simp, by simp [hul], mem_snoc_lt hud hrb, ?_, rfl, by rw [← intsN_snoc]; exact hown, hm⟩
  · rcases Nat.lt_or_ge k M with h | h
    · exact .inl (by omega)
    · right
      rw [getD_ge (by omega), getD_ge (by omega)] at hq
      rw [← hq]
      exact Nat.div_eq_of_lt (by rw [B9_eq]; omega)
  · have hst := add_step B9 k c (xs.getD k 0) (ys.getD k 0) _ _ _ hval
    rw [hr, hq, ← val_take_succ, ← val_take_succ] at hst
    rw [val_snoc, hul]
    exact hst
theorem pl_done {w : World} {xs ys us : List Nat} {M k L : Nat} {v : Value} (hk : M ≤ k) (hkM : k ≤ M + 1) (hxM : xs.length ≤ M) (hyM : ys.length ≤ M) (hML : M ≤ L) (hul : us.length = k) (hud : ∀ d ∈ us, d < 1000000000)
    (hval : val B9 us + B9 ^ k * 0 = val B9 (xs.take k) + val B9 (ys.take k)) (hs : Sl w 3 1 v (intsN us)) : IsBig w v (val B9 xs + val B9 ys) (L + 1) := by
  rw [Nat.mul_zero, Nat.add_zero, List.take_of_length_le (by omega), List.take_of_length_le (by omega)] at hval
  exact ⟨us, hs, hud, hval, by omega⟩

end Go.Proofs.YtdknpekbonmmhaaGreatDoor
