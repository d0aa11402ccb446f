/- Binomial sums: that fewer relevant ones make few more likely. Plain arithmetic. -/
namespace Go.Proofs.YtdknpekbonmmhaaGreatDoor
set_option linter.unusedVariables false
set_option linter.unusedSimpArgs false

/-- Binomial numbers. -/
def ch : Nat → Nat → Nat
  | _, 0 => 1
  | 0, _ + 1 => 0
  | n + 1, k + 1 => ch n k + ch n (k + 1)
theorem ch_zero (n : Nat) : ch n 0 = 1 := by cases n <;> rfl
theorem ch_succ (n k : Nat) : ch (n + 1) (k + 1) = ch n k + ch n (k + 1) := rfl
theorem ch_gt : ∀ (n k : Nat), n < k → ch n k = 0
  | n, 0, h => by omega
  | 0, k + 1, _ => rfl
  | n + 1, k + 1, h => by rw [ch_succ, ch_gt n k (by omega), ch_gt n (k + 1) (by omega)]
theorem ch_mul : ∀ (n k : Nat), (k + 1) * ch n (k + 1) = (n - k) * ch n k
  | 0, k => by simp [ch]
  | n + 1, 0 => by
    have := ch_mul n 0
    simp only [ch_succ, ch_zero] at *
    omega
  | n + 1, k + 1 => by
    have h1 := ch_mul n k
    have h2 := ch_mul n (k + 1)
    rw [ch_succ n (k + 1), ch_succ n k, Nat.mul_add, h2]
    rcases Nat.lt_or_ge k n with h | h
    · obtain ⟨m, rfl⟩ : ∃ m, n = k + 1 + m := ⟨n - (k + 1), by omega⟩
      rw [show k + 1 + m - (k + 1) = m by omega, show k + 1 + m + 1 - (k + 1) = m + 1 by omega]
      rw [show k + 1 + m - k = m + 1 by omega] at h1
      simp only [Nat.add_mul, Nat.mul_add] at *
      omega
    · rw [show n - (k + 1) = 0 by omega, show n + 1 - (k + 1) = 0 by omega]
      rw [show n - k = 0 by omega] at h1
      simp only [Nat.add_mul, Nat.mul_add] at *
      omega
theorem ch_step (n j : Nat) : ch n j * (n - j) / (j + 1) = ch n (j + 1) := by
  rw [Nat.mul_comm, ← ch_mul, Nat.mul_div_cancel_left _ (by omega)]

/-- The numbers of ways to draw s of p with r relevant ones, so that from lo on n numbers of relevant ones are met. -/
def hsum (r q s lo : Nat) : Nat → Nat
  | 0 => 0
  | n + 1 => hsum r q s lo n + ch r (lo + n) * ch q (s - (lo + n))
/-- What 'likely' says. -/
def likelyB (p s r lo n num den : Nat) : Bool := decide (ch p s * (den - num) ≤ hsum r (p - r) s lo n * den)

theorem hsum_split (r q s lo n : Nat) : hsum r q s 0 (lo + n) = hsum r q s 0 lo + hsum r q s lo n := by
  induction n with
  | zero => simp [hsum]
  | succ n ih => rw [← Nat.add_assoc, hsum, ih, hsum, Nat.zero_add, Nat.add_assoc]
theorem hsum_diff (r q s c : Nat) (h : c < s) : hsum r (q + 1) s 0 (c + 1) = hsum (r + 1) q s 0 (c + 1) + ch r c * ch q (s - 1 - c) := by
  induction c with
  | zero =>
    obtain ⟨t, rfl⟩ : ∃ t, s = t + 1 := ⟨s - 1, by omega⟩
    simp [hsum, ch_zero, ch_succ]
    omega
  | succ c ih =>
    obtain ⟨t, rfl⟩ : ∃ t, s = t + 1 + (c + 1) := ⟨s - 1 - (c + 1), by omega⟩
    have ih := ih (by omega)
    rw [hsum, ih, hsum.eq_def (r + 1) q _ 0 (c + 1 + 1)]
    simp only [Nat.zero_add]
    rw [show t + 1 + (c + 1) - (c + 1) = t + 1 by omega, show t + 1 + (c + 1) - 1 - c = t + 1 by omega, show t + 1 + (c + 1) - 1 - (c + 1) = t by omega, ch_succ, ch_succ]
    simp only [Nat.mul_add, Nat.add_mul]
    omega
theorem hsum_swap (r q s : Nat) : hsum (r + 1) q s 0 (s + 1) = hsum r (q + 1) s 0 (s + 1) := by
  cases s with
  | zero => simp [hsum, ch_zero]
  | succ s =>
    have := hsum_diff r q (s + 1) s (by omega)
    rw [hsum, hsum.eq_def r (q + 1) _ 0 (s + 1 + 1)]
    simp only [Nat.zero_add, Nat.sub_self, ch_zero, ch_succ] at *
    rw [show s + 1 - 1 - s = 0 by omega, ch_zero] at this
    omega
theorem hsum_all (r q s : Nat) : hsum r q s 0 (s + 1) = ch (r + q) s := by
  induction r generalizing q with
  | zero =>
    have : ∀ n, hsum 0 q s 0 (n + 1) = ch q s := by
      intro n
      induction n with
      | zero => simp [hsum, ch_zero]
      | succ n ih => rw [hsum, ih]; simp [ch]
    rw [this]; simp
  | succ r ih => rw [hsum_swap, ih]; congr 1; omega
theorem hsum_dec1 (r q s n : Nat) (h : n ≤ s + 1) : hsum (r + 1) q s 0 n ≤ hsum r (q + 1) s 0 n := by
  cases n with
  | zero => simp [hsum]
  | succ c =>
    rcases Nat.lt_or_ge c s with h1 | h1
    · have := hsum_diff r q s c h1
      omega
    · have : c = s := by omega
      subst this
      exact Nat.le_of_eq (hsum_swap r q c)
theorem hsum_dec (p s n : Nat) (h : n ≤ s + 1) (r k : Nat) (hk : r + k ≤ p) : hsum (r + k) (p - (r + k)) s 0 n ≤ hsum r (p - r) s 0 n := by
  induction k with
  | zero => exact Nat.le_refl _
  | succ k ih =>
    refine Nat.le_trans ?_ (ih (by omega))
    have := hsum_dec1 (r + k) (p - (r + (k + 1))) s n h
    rw [show p - (r + (k + 1)) + 1 = p - (r + k) by omega] at this
    exact this
/-- The first f + 1 numbers are the less likely the more relevant ones there are. -/
theorem likely_dec (p s f num den x y : Nat) (hf : f ≤ s) (hxy : x ≤ y) (hy : y ≤ p) (h : likelyB p s y 0 (f + 1) num den = true) : likelyB p s x 0 (f + 1) num den = true := by
  unfold likelyB at *
  rw [decide_eq_true_iff] at *
  have := hsum_dec p s (f + 1) (by omega) x (y - x) (by omega)
  rw [show x + (y - x) = y by omega] at this
  exact Nat.le_trans h (Nat.mul_le_mul_right _ this)
/-- The last numbers, from f on, are the more likely. -/
theorem likely_inc (p s f num den x y : Nat) (hf : f ≤ s) (hxy : x ≤ y) (hy : y ≤ p) (h : likelyB p s x f (s + 1 - f) num den = true) : likelyB p s y f (s + 1 - f) num den = true := by
  unfold likelyB at *
  rw [decide_eq_true_iff] at *
  have h1 := hsum_dec p s f (by omega) x (y - x) (by omega)
  rw [show x + (y - x) = y by omega] at h1
  have hx := hsum_split x (p - x) s f (s + 1 - f)
  have hz := hsum_split y (p - y) s f (s + 1 - f)
  rw [show f + (s + 1 - f) = s + 1 by omega, hsum_all] at hx hz
  rw [show x + (p - x) = p by omega] at hx
  rw [show y + (p - y) = p by omega] at hz
  exact Nat.le_trans h (Nat.mul_le_mul_right _ (by omega))

/-- Factorials; rows of draws, one after the other. -/
def fact : Nat → Nat
  | 0 => 1
  | n + 1 => (n + 1) * fact n
theorem fact_pos : ∀ n, 0 < fact n
  | 0 => by simp [fact]
  | n + 1 => Nat.mul_pos (by omega) (fact_pos n)
def rowv (d q n i : Nat) : Nat := fact n * (ch d i * ch q (n - i))
theorem rowv_zero (d q : Nat) : rowv d q 0 0 = 1 := by simp [rowv, fact, ch_zero]
/-- The first place of the next row, the last one, and those between. -/
theorem rowv_first (d q k : Nat) : rowv d q (k + 1) 0 = rowv d q k 0 * (q - k) := by
  have := ch_mul q k
  simp only [rowv, fact, ch_zero, Nat.one_mul, Nat.sub_zero]
  rw [Nat.mul_comm (k + 1), Nat.mul_assoc, this, Nat.mul_assoc, Nat.mul_comm (ch q k)]
theorem rowv_last (d q k : Nat) : rowv d q (k + 1) (k + 1) = rowv d q k k * (d - k) := by
  have := ch_mul d k
  simp only [rowv, fact, Nat.sub_self, ch_zero, Nat.mul_one]
  rw [Nat.mul_comm (k + 1), Nat.mul_assoc, this, Nat.mul_assoc, Nat.mul_comm (ch d k)]
theorem rowv_next (d q k i : Nat) (h : i + 1 ≤ k) : rowv d q (k + 1) (i + 1) = rowv d q k i * (d - i) + rowv d q k (i + 1) * (q - (k - (i + 1))) := by
  have h1 := ch_mul d i
  obtain ⟨m, rfl⟩ : ∃ m, k = i + 1 + m := ⟨k - (i + 1), by omega⟩
  have h2 := ch_mul q m
  simp only [rowv, fact]
  rw [show i + 1 + m + 1 - (i + 1) = m + 1 by omega, show i + 1 + m - i = m + 1 by omega, show i + 1 + m - (i + 1) = m by omega]
  generalize fact (i + 1 + m) = F
  generalize ch d (i + 1) = A1 at *
  generalize ch d i = A0 at *
  generalize ch q (m + 1) = B1 at *
  generalize ch q m = B0 at *
  have e1 : F * (A0 * B1) * (d - i) = F * ((i + 1) * A1 * B1) := by
    rw [h1, Nat.mul_assoc]
    congr 1
    rw [Nat.mul_comm (A0 * B1), ← Nat.mul_assoc]
  have e2 : F * (A1 * B0) * (q - m) = F * (A1 * ((m + 1) * B1)) := by
    rw [h2, Nat.mul_assoc]
    congr 1
    rw [Nat.mul_assoc, Nat.mul_comm B0]
  rw [e1, e2, ← Nat.mul_add, Nat.mul_comm (i + 1 + m + 1) F, Nat.mul_assoc]
  congr 1
  rw [show i + 1 + m + 1 = (i + 1) + (m + 1) by omega, Nat.add_mul, Nat.mul_assoc, Nat.mul_left_comm A1]

/-- The sum of those of the first n numbers whose places are from lo to up. -/
def rsum (f : Nat → Nat) (lo up : Nat) : Nat → Nat
  | 0 => 0
  | n + 1 => rsum f lo up n + if lo ≤ n ∧ n ≤ up then f n else 0
theorem rsum_in {f : Nat → Nat} {lo up n : Nat} (h : lo ≤ n ∧ n ≤ up) : rsum f lo up (n + 1) = rsum f lo up n + f n := by rw [rsum, if_pos h]
theorem rsum_out {f : Nat → Nat} {lo up n : Nat} (h : ¬ (lo ≤ n ∧ n ≤ up)) : rsum f lo up (n + 1) = rsum f lo up n := by rw [rsum, if_neg h, Nat.add_zero]
theorem rsum_row (d q s lo up n : Nat) (hlo : lo ≤ up + 1) : rsum (rowv d q s) lo up n = fact s * hsum d q s lo (min n (up + 1) - lo) := by
  induction n with
  | zero => simp [rsum, hsum]
  | succ n ih =>
    by_cases h : lo ≤ n ∧ n ≤ up
    · rw [rsum_in h, ih, show min (n + 1) (up + 1) - lo = (n - lo) + 1 by omega, show min n (up + 1) - lo = n - lo by omega, hsum, show lo + (n - lo) = n by omega, Nat.mul_add, rowv]
    · rw [rsum_out h, ih]
      rcases Nat.lt_or_ge n lo with h1 | h1
      · rw [show min (n + 1) (up + 1) - lo = 0 by omega, show min n (up + 1) - lo = 0 by omega]
      · rw [show min (n + 1) (up + 1) = min n (up + 1) by omega]
theorem rsum_all (d q s : Nat) : rsum (rowv d q s) 0 s (s + 1) = fact s * ch (d + q) s := by
  rw [rsum_row _ _ _ _ _ _ (by omega), show min (s + 1) (s + 1) - 0 = s + 1 by omega, hsum_all]
/-- The reference's answer is that of 'likely'. -/
theorem likely_ref (p s r lo up num den : Nat) (hr : r ≤ p) (hup : up ≤ s) (hlo : lo ≤ up + 1) :
    likelyB p s r lo (up + 1 - lo) num den = decide (rsum (rowv r (p - r) s) 0 s (s + 1) * (den - num) ≤ rsum (rowv r (p - r) s) lo up (s + 1) * den) := by
  rw [rsum_all, rsum_row _ _ _ _ _ _ hlo, show min (s + 1) (up + 1) - lo = up + 1 - lo by omega, show r + (p - r) = p by omega]
  unfold likelyB
  apply decide_eq_decide.2
  rw [Nat.mul_assoc, Nat.mul_assoc]
  exact (Nat.mul_le_mul_left_iff (fact_pos s)).symm

end Go.Proofs.YtdknpekbonmmhaaGreatDoor
