/- Allocate: how many are left over. -/
import Derived.Test.YtpacmdiodnnofaaAlloc
namespace Go.Proofs.Ytpacmdiodnnofaa
set_option linter.unusedVariables false
set_option linter.unusedSimpArgs false

/-- The sum of f i, i below k. -/
def sumTo (f : Nat → Int) : Nat → Int
  | 0 => 0
  | k + 1 => sumTo f k + f k
def zAt (zs : List Int) (i : Nat) : Int := zs.getD i 0
theorem rem_sum (zs : List Int) (many sum : Int) : ∀ k, many * sumTo (zAt zs) k = sum * sumTo (quoA zs many sum) k + sumTo (remA zs many sum) k
  | 0 => by simp [sumTo]
  | k + 1 => by
    have ih := rem_sum zs many sum k
    have h : many * zAt zs k = sum * quoA zs many sum k + remA zs many sum k := by
      unfold quoA remA zAt
      exact (Int.mul_ediv_add_emod (many * zs.getD k 0) sum).symm
    simp only [sumTo, Int.mul_add]
    omega
theorem rem_bounds (zs : List Int) (many : Int) {sum : Int} (hs : 1 ≤ sum) : ∀ k, 0 ≤ sumTo (remA zs many sum) k ∧ sumTo (remA zs many sum) k ≤ (k : Int) * (sum - 1)
  | 0 => by simp [sumTo]
  | k + 1 => by
    have ih := rem_bounds zs many hs k
    have h1 := Int.emod_nonneg (many * zs.getD k 0) (show sum ≠ 0 by omega)
    have h2 := Int.emod_lt_of_pos (many * zs.getD k 0) (show 0 < sum by omega)
    have e : ((k + 1 : Nat) : Int) * (sum - 1) = (k : Int) * (sum - 1) + (sum - 1) := by
      rw [Int.natCast_add, Int.add_mul]
      simp
    simp only [sumTo]
    rw [e]
    unfold remA at *
    omega
/-- What is left over is from 0 to n - 1. -/
theorem left_bounds (zs : List Int) (many : Int) {sum : Int} (hsum : sumTo (zAt zs) zs.length = sum) (hs : 1 ≤ sum) : 0 ≤ many - sumTo (quoA zs many sum) zs.length ∧ many - sumTo (quoA zs many sum) zs.length < (zs.length : Int) := by
  have h1 := rem_sum zs many sum zs.length
  have h2 := rem_bounds zs many hs zs.length
  rw [hsum] at h1
  have h3 : sum * (many - sumTo (quoA zs many sum) zs.length) = sumTo (remA zs many sum) zs.length := by
    rw [Int.mul_sub, Int.mul_comm sum many]
    omega
  generalize many - sumTo (quoA zs many sum) zs.length = l at *
  constructor
  · rcases Int.lt_or_le l 0 with h | h
    · have : sum * l < 0 := Int.mul_neg_of_pos_of_neg (by omega) h
      omega
    · exact h
  · rcases Int.lt_or_le l (zs.length : Int) with h | h
    · exact h
    · have h4 : sum * (zs.length : Int) ≤ sum * l := Int.mul_le_mul_of_nonneg_left h (by omega)
      have h5 : (zs.length : Int) * (sum - 1) = sum * (zs.length : Int) - (zs.length : Int) := by
        rw [Int.mul_sub, Int.mul_comm sum]
        simp
      by_cases h0 : zs.length = 0
      · rw [h0] at hsum
        simp [sumTo] at hsum
        omega
      · omega

end Go.Proofs.Ytpacmdiodnnofaa
