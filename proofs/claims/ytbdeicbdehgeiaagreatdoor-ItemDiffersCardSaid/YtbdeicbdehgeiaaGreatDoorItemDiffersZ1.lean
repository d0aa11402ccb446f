/- Texts of the proof of ItemDiffers, put together: Math. -/

/- Plain arithmetic of digits: no program is named here. -/
namespace Go.Proofs.YtbdeicbdehgeiaaGreatDoor
set_option linter.unusedVariables false
set_option linter.unusedSimpArgs false

/-- The number that a list of digits to a base means, the least digit first. -/
def val (B : Nat) (ds : List Nat) : Nat := ds.foldr (fun d acc => d + B * acc) 0

theorem val_nil (B : Nat) : val B [] = 0 := rfl
theorem val_cons (B d : Nat) (ds : List Nat) : val B (d :: ds) = d + B * val B ds := rfl
theorem val_append (B : Nat) (xs ys : List Nat) : val B (xs ++ ys) = val B xs + B ^ xs.length * val B ys := by
  induction xs with
  | nil => simp [val_nil]
  | cons x xs ih =>
    simp only [List.cons_append, val_cons, ih, List.length_cons, Nat.pow_succ, Nat.mul_add]
    have : B * (B ^ xs.length * val B ys) = B ^ xs.length * B * val B ys := by rw [← Nat.mul_assoc, Nat.mul_comm B]
    omega
theorem val_snoc (B : Nat) (xs : List Nat) (d : Nat) : val B (xs ++ [d]) = val B xs + B ^ xs.length * d := by
  rw [val_append, val_cons, val_nil]; simp
theorem val_take_succ (B : Nat) (ds : List Nat) (i : Nat) : val B (ds.take (i + 1)) = val B (ds.take i) + B ^ i * ds.getD i 0 := by
  rcases Nat.lt_or_ge i ds.length with h | h
  · rw [List.take_succ_eq_append_getElem h, val_snoc, List.length_take, Nat.min_eq_left (Nat.le_of_lt h)]
    simp [List.getD, h]
  · rw [List.take_of_length_le (by omega), List.take_of_length_le (by omega)]
    simp [List.getD, h]
theorem val_zeros (B n : Nat) : val B (List.replicate n 0) = 0 := by
  induction n with
  | zero => rfl
  | succ n ih => rw [List.replicate_succ, val_cons, ih]; simp
theorem val_lt (B : Nat) (_hB : 0 < B) (ds : List Nat) (h : ∀ d ∈ ds, d < B) : val B ds < B ^ ds.length := by
  induction ds with
  | nil => simp [val_nil]
  | cons d ds ih =>
    have h1 := ih (fun x hx => h x (List.mem_cons_of_mem _ hx))
    have h2 := h d (List.mem_cons_self)
    rw [val_cons, List.length_cons, Nat.pow_succ]
    have h3 : B * (val B ds + 1) ≤ B * B ^ ds.length := Nat.mul_le_mul_left _ h1
    rw [Nat.mul_add, Nat.mul_one] at h3
    rw [Nat.mul_comm (B ^ ds.length)]
    omega
/-- What is left behind from m on is zeros. -/
theorem val_take_zeros (B : Nat) (ds : List Nat) (m : Nat) (h : ∀ j, m ≤ j → ds.getD j 0 = 0) : val B (ds.take m) = val B ds := by
  have : ∀ k, val B (ds.take (m + k)) = val B (ds.take m) := by
    intro k
    induction k with
    | zero => rfl
    | succ k ih => rw [← Nat.add_assoc, val_take_succ, ih, h _ (by omega)]; simp
  rw [← this ds.length, List.take_of_length_le (by omega)]

/-- No zero at the end. -/
def Norm (ds : List Nat) : Prop := ∀ n, ds.length = n + 1 → ds.getD n 0 ≠ 0

theorem norm_lower (B : Nat) (_hB : 0 < B) (ds : List Nat) (hn : Norm ds) (hne : ds ≠ []) : B ^ (ds.length - 1) ≤ val B ds := by
  obtain ⟨n, hn1⟩ : ∃ n, ds.length = n + 1 := ⟨ds.length - 1, by have := List.length_pos_iff.2 hne; omega⟩
  have h1 := hn n hn1
  have h2 := val_take_succ B ds n
  rw [List.take_of_length_le (by omega)] at h2
  have h3 : B ^ n * 1 ≤ B ^ n * ds.getD n 0 := Nat.mul_le_mul_left _ (by omega)
  rw [hn1, h2]
  simp only [Nat.add_sub_cancel]
  omega
theorem val_lt_of_length (B : Nat) (hB : 1 < B) (xs ys : List Nat) (hx : ∀ d ∈ xs, d < B) (hy : Norm ys) (h : xs.length < ys.length) : val B xs < val B ys := by
  have h1 := val_lt B (by omega) xs hx
  have h2 := norm_lower B (by omega) ys hy (by intro e; subst e; simp at h)
  have h3 : B ^ xs.length ≤ B ^ (ys.length - 1) := Nat.pow_le_pow_right (by omega) (by omega)
  omega
theorem take_lt_of_mem {B : Nat} {ds : List Nat} (h : ∀ d ∈ ds, d < B) (i : Nat) : ∀ d ∈ ds.take i, d < B := fun d hd => h d (List.mem_of_mem_take hd)
theorem getD_lt {B : Nat} (hB : 0 < B) {ds : List Nat} (h : ∀ d ∈ ds, d < B) (i : Nat) : ds.getD i 0 < B := by
  rcases Nat.lt_or_ge i ds.length with hi | hi
  · have : ds.getD i 0 = ds[i] := by simp [List.getD, hi]
    rw [this]; exact h _ (List.getElem_mem hi)
  · have : ds.getD i 0 = 0 := by simp [List.getD, hi]
    omega
theorem drop_eq_of (xs ys : List Nat) (hl : xs.length = ys.length) (i : Nat) (h : ∀ j, i ≤ j → xs.getD j 0 = ys.getD j 0) : xs.drop i = ys.drop i := by
  apply List.ext_getElem?
  intro j
  simp only [List.getElem?_drop]
  have := h (i + j) (by omega)
  rcases Nat.lt_or_ge (i + j) xs.length with hi | hi
  · rw [List.getElem?_eq_getElem hi, List.getElem?_eq_getElem (by omega)]
    simp only [List.getD, List.getElem?_eq_getElem hi, List.getElem?_eq_getElem (show i + j < ys.length by omega), Option.getD_some] at this
    rw [this]
  · rw [List.getElem?_eq_none hi, List.getElem?_eq_none (by omega)]
/-- The first digit from above that differs decides. -/
theorem val_lt_of_digit (B : Nat) (hB : 0 < B) (xs ys : List Nat) (hl : xs.length = ys.length) (hx : ∀ d ∈ xs, d < B) (i : Nat)
    (h : ∀ j, i + 1 ≤ j → xs.getD j 0 = ys.getD j 0) (hd : xs.getD i 0 < ys.getD i 0) : val B xs < val B ys := by
  have e := drop_eq_of xs ys hl (i + 1) h
  have hi : i < ys.length := by
    rcases Nat.lt_or_ge i ys.length with hi | hi
    · exact hi
    · have : ys.getD i 0 = 0 := by simp [List.getD, hi]
      omega
  have hx1 : val B xs = val B (xs.take (i + 1)) + B ^ (i + 1) * val B (xs.drop (i + 1)) := by
    conv => lhs; rw [← List.take_append_drop (i + 1) xs]
    rw [val_append, List.length_take, Nat.min_eq_left (by omega)]
  have hy1 : val B ys = val B (ys.take (i + 1)) + B ^ (i + 1) * val B (ys.drop (i + 1)) := by
    conv => lhs; rw [← List.take_append_drop (i + 1) ys]
    rw [val_append, List.length_take, Nat.min_eq_left (by omega)]
  rw [hx1, hy1, e, val_take_succ, val_take_succ]
  have h1 := val_lt B hB (xs.take i) (take_lt_of_mem hx i)
  rw [List.length_take, Nat.min_eq_left (by omega)] at h1
  have h2 : B ^ i * (xs.getD i 0 + 1) ≤ B ^ i * ys.getD i 0 := Nat.mul_le_mul_left _ hd
  rw [Nat.mul_add, Nat.mul_one] at h2
  omega
theorem eq_of_digits (xs ys : List Nat) (hl : xs.length = ys.length) (h : ∀ j, xs.getD j 0 = ys.getD j 0) : xs = ys := by
  have := drop_eq_of xs ys hl 0 (fun j _ => h j)
  simpa using this

theorem add_step (B i cy X Y V Vx Vy : Nat) (h : V + B ^ i * cy = Vx + Vy) :
    V + B ^ i * ((cy + X + Y) % B) + B ^ (i + 1) * ((cy + X + Y) / B) = (Vx + B ^ i * X) + (Vy + B ^ i * Y) := by
  have h3 := Nat.div_add_mod (cy + X + Y) B
  generalize (cy + X + Y) % B = r at h3
  generalize (cy + X + Y) / B = q at h3
  have e : B ^ i * r + B ^ (i + 1) * q = B ^ i * cy + B ^ i * X + B ^ i * Y := by
    rw [Nat.pow_succ, Nat.mul_assoc, ← Nat.mul_add, ← Nat.mul_add, ← Nat.mul_add, Nat.add_comm r, h3]
  omega
theorem add_end (B : Nat) (hB : 2 ≤ B) {xs ys us : List Nat} {M i cy : Nat} (h : i = M + 1) (hul : us.length = M + 1) (hx : ∀ d ∈ xs, d < B) (hy : ∀ d ∈ ys, d < B) (hM1 : xs.length ≤ M) (hM2 : ys.length ≤ M)
    (hval : val B (us.take i) + B ^ i * cy = val B (xs.take i) + val B (ys.take i)) : val B us = val B xs + val B ys := by
  subst h
  rw [List.take_of_length_le (by omega), List.take_of_length_le (by omega), List.take_of_length_le (by omega)] at hval
  have h1 := val_lt B (by omega) xs hx
  have h2 := val_lt B (by omega) ys hy
  have h3 : B ^ xs.length ≤ B ^ M := Nat.pow_le_pow_right (by omega) hM1
  have h4 : B ^ ys.length ≤ B ^ M := Nat.pow_le_pow_right (by omega) hM2
  rw [Nat.pow_succ] at hval
  have h5 : B ^ M * 2 ≤ B ^ M * B := Nat.mul_le_mul_left _ hB
  generalize B ^ M = P at *
  have : cy = 0 := by
    rcases Nat.eq_zero_or_pos cy with h0 | h0
    · exact h0
    · have : P * B * 1 ≤ P * B * cy := Nat.mul_le_mul_left _ h0
      omega
  subst this
  omega
theorem mem_set_lt {B : Nat} {us : List Nat} {i d : Nat} (h : ∀ x ∈ us, x < B) (hd : d < B) : ∀ x ∈ us.set i d, x < B := by
  intro x hx
  rcases List.mem_or_eq_of_mem_set hx with h1 | h1
  · exact h x h1
  · omega
theorem take_set_same (us : List Nat) (i d : Nat) : (us.set i d).take i = us.take i := by
  rw [List.take_set, List.set_eq_of_length_le (by simp; omega)]
theorem getD_set_same {us : List Nat} {i d : Nat} (h : i < us.length) : (us.set i d).getD i 0 = d := by simp [List.getD, h]
theorem getD_ge {us : List Nat} {i : Nat} (h : us.length ≤ i) : us.getD i 0 = 0 := by simp [List.getD, h]

theorem val_set (B : Nat) : ∀ (us : List Nat) (j d : Nat), j < us.length → val B (us.set j d) + B ^ j * us.getD j 0 = val B us + B ^ j * d
  | u :: us, 0, d, _ => by simp [val_cons, List.getD]; omega
  | u :: us, j + 1, d, h => by
    have ih := val_set B us j d (by simpa using h)
    have e : (u :: us).getD (j + 1) 0 = us.getD j 0 := rfl
    rw [List.set_cons_succ, val_cons, val_cons, e, Nat.pow_succ, Nat.mul_comm (B ^ j) B, Nat.mul_assoc, Nat.mul_assoc]
    have h2 : B * (val B (us.set j d) + B ^ j * us.getD j 0) = B * (val B us + B ^ j * d) := by rw [ih]
    rw [Nat.mul_add, Nat.mul_add] at h2
    omega
theorem getD_set_ne (us : List Nat) (i j d : Nat) (h : i ≠ j) : (us.set i d).getD j 0 = us.getD j 0 := by
  simp [List.getD, List.getElem?_set, h]
/-- One step of the product: the digit at j, the carry. -/
theorem mul_step (B i k a b cy o V V0 Vy V' : Nat) (hV : V + B ^ (i + k) * cy = V0 + B ^ i * a * Vy) (hs : V' + B ^ (i + k) * o = V + B ^ (i + k) * ((a * b + o + cy) % B)) :
    V' + B ^ (i + (k + 1)) * ((a * b + o + cy) / B) = V0 + B ^ i * a * (Vy + B ^ k * b) := by
  have h3 := Nat.div_add_mod (a * b + o + cy) B
  generalize (a * b + o + cy) % B = r at *
  generalize (a * b + o + cy) / B = q at *
  have e1 : B ^ (i + (k + 1)) * q + B ^ (i + k) * r = B ^ (i + k) * (a * b) + B ^ (i + k) * o + B ^ (i + k) * cy := by
    rw [← Nat.add_assoc, Nat.pow_succ, Nat.mul_assoc, ← Nat.mul_add, ← Nat.mul_add, ← Nat.mul_add, h3]
  have e2 : B ^ i * a * (Vy + B ^ k * b) = B ^ i * a * Vy + B ^ (i + k) * (a * b) := by
    rw [Nat.mul_add, Nat.pow_add]
    congr 1
    simp only [Nat.mul_assoc, Nat.mul_left_comm, Nat.mul_comm]
  omega
theorem mul_bound (a b : Nat) (ha : a < 4294967296) (hb : b < 4294967296) : a * b ≤ 18446744065119617025 :=
  Nat.le_trans (Nat.mul_le_mul (Nat.le_of_lt_succ ha) (Nat.le_of_lt_succ hb)) (by decide)
/-- The outer round: a digit of the first number is done. -/
theorem mul_round (B i n2 cy V' V V0 Vy Vx a : Nat) (hV : V + B ^ (i + n2) * cy = V0 + B ^ i * a * Vy) (h0 : V0 = Vx * Vy) (hs : V' + B ^ (i + n2) * 0 = V + B ^ (i + n2) * cy) : V' = (Vx + B ^ i * a) * Vy := by
  rw [Nat.add_mul, ← h0]
  omega

theorem val_drop (B : Nat) (ds : List Nat) (m : Nat) (h : m < ds.length) : val B (ds.drop m) = ds.getD m 0 + B * val B (ds.drop (m + 1)) := by
  rw [List.drop_eq_getElem_cons h, val_cons]
  simp [List.getD, h]
theorem div_step (B K rest d X q : Nat) (hX : X = q * K + rest) : d + B * X = ((rest * B + d) / K + B * q) * K + (rest * B + d) % K := by
  have h3 := Nat.div_add_mod (rest * B + d) K
  generalize (rest * B + d) % K = r at *
  generalize (rest * B + d) / K = p at *
  rw [hX, Nat.add_mul, Nat.mul_add, Nat.mul_comm p K, Nat.mul_assoc, Nat.mul_comm B rest]
  omega
theorem drop_set_same (us : List Nat) (m d : Nat) : (us.set m d).drop (m + 1) = us.drop (m + 1) := by
  rw [List.drop_set]; simp

def pad (n : Nat) (xs : List Nat) : List Nat := xs ++ List.replicate (n - xs.length) 0
theorem pad_length (n : Nat) (xs : List Nat) (h : xs.length ≤ n) : (pad n xs).length = n := by simp [pad]; omega
theorem pad_getD (n : Nat) (xs : List Nat) (j : Nat) : (pad n xs).getD j 0 = xs.getD j 0 := by
  unfold pad
  rw [List.getD_eq_getElem?_getD, List.getD_eq_getElem?_getD]
  rcases Nat.lt_or_ge j xs.length with h | h
  · rw [List.getElem?_append_left h]
  · rw [List.getElem?_append_right h, List.getElem?_eq_none h, List.getElem?_replicate]
    split <;> rfl
theorem pad_val (B n : Nat) (xs : List Nat) : val B (pad n xs) = val B xs := by
  unfold pad
  rw [val_append, val_zeros]; simp
theorem pad_lt {B : Nat} (hB : 0 < B) (n : Nat) {xs : List Nat} (h : ∀ d ∈ xs, d < B) : ∀ d ∈ pad n xs, d < B := by
  intro d hd
  unfold pad at hd
  rcases List.mem_append.1 hd with h1 | h1
  · exact h d h1
  · rw [List.mem_replicate] at h1; omega
theorem val_lt_of_digit' (B : Nat) (hB : 0 < B) (xs ys : List Nat) (hx : ∀ d ∈ xs, d < B) (i : Nat)
    (h : ∀ j, i + 1 ≤ j → xs.getD j 0 = ys.getD j 0) (hd : xs.getD i 0 < ys.getD i 0) : val B xs < val B ys := by
  have := val_lt_of_digit B hB (pad (xs.length + ys.length) xs) (pad (xs.length + ys.length) ys) (by rw [pad_length _ _ (by omega), pad_length _ _ (by omega)]) (pad_lt hB _ hx) i
    (fun j hj => by rw [pad_getD, pad_getD]; exact h j hj) (by rw [pad_getD, pad_getD]; exact hd)
  rwa [pad_val, pad_val] at this
theorem val_eq_of_digits (B : Nat) (xs ys : List Nat) (h : ∀ j, xs.getD j 0 = ys.getD j 0) : val B xs = val B ys := by
  have := eq_of_digits (pad (xs.length + ys.length) xs) (pad (xs.length + ys.length) ys) (by rw [pad_length _ _ (by omega), pad_length _ _ (by omega)]) (fun j => by rw [pad_getD, pad_getD]; exact h j)
  rw [← pad_val B (xs.length + ys.length) xs, this, pad_val]
/-- One digit more of a product by a small number. -/
theorem tim_step (B k n d cy V Vx : Nat) (h : V + B ^ k * cy = Vx * n) : V + B ^ k * ((cy + d * n) % B) + B ^ (k + 1) * ((cy + d * n) / B) = (Vx + B ^ k * d) * n := by
  have h3 := Nat.div_add_mod (cy + d * n) B
  generalize (cy + d * n) % B = r at *
  generalize (cy + d * n) / B = q at *
  have e : B ^ k * r + B ^ (k + 1) * q = B ^ k * cy + B ^ k * (d * n) := by
    rw [Nat.pow_succ, Nat.mul_assoc, ← Nat.mul_add, ← Nat.mul_add, Nat.add_comm r, h3]
  rw [Nat.add_mul, Nat.mul_assoc (B ^ k)]
  omega
theorem tim_carry (B n d cy : Nat) (hB : 0 < B) (hd : d < B) (hc : cy ≤ n) : (cy + d * n) / B ≤ n ∧ cy + d * n ≤ B * n := by
  have h1 : cy + d * n ≤ B * n := by
    have : (d + 1) * n ≤ B * n := Nat.mul_le_mul_right _ hd
    rw [Nat.add_mul, Nat.one_mul] at this
    omega
  exact ⟨Nat.div_le_of_le_mul h1, h1⟩
/-- The rest of the carry. -/
theorem carry_step (B k cy V : Nat) : V + B ^ k * (cy % B) + B ^ (k + 1) * (cy / B) = V + B ^ k * cy := by
  have h3 := Nat.div_add_mod cy B
  generalize cy % B = r at *
  generalize cy / B = q at *
  have e : B ^ k * r + B ^ (k + 1) * q = B ^ k * cy := by
    rw [Nat.pow_succ, Nat.mul_assoc, ← Nat.mul_add, Nat.add_comm r, h3]
  omega

/-- The base of the reference's numbers. -/
def B9 : Nat := 1000000000
theorem B9_eq : B9 = 1000000000 := rfl
/-- The base of package sample's numbers. -/
def B32 : Nat := 4294967296
theorem B32_eq : B32 = 4294967296 := rfl

end Go.Proofs.YtbdeicbdehgeiaaGreatDoor
