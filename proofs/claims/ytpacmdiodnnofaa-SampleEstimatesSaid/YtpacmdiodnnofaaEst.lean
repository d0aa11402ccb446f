/- Estimates: the plain facts. -/
import Derived.Test.YtpacmdiodnnofaaRecall
namespace Go.Proofs.Ytpacmdiodnnofaa
set_option linter.unusedVariables false
set_option linter.unusedSimpArgs false
open Go.RowKit

abbrev Dr := Int × Int × Int
def dErr (d : Dr) : Int := drawnErr d.1 d.2.1 d.2.2
def estStep (p : Int × Int) (d : Dr) : Int × Int := (fracN (p.1 * d.2.1 + d.1 * d.2.2 * p.2) (p.2 * d.2.1), fracD (p.1 * d.2.1 + d.1 * d.2.2 * p.2) (p.2 * d.2.1))
def est (ds : List Dr) : Int × Int := ds.foldl estStep (0, 1)
theorem est_snoc (ds : List Dr) (d : Dr) : est (ds ++ [d]) = estStep (est ds) d := by simp [est]
theorem frac_le {n d M : Int} (hn : 0 ≤ n) (hd : 1 ≤ d) (h : n ≤ M * d) : 0 ≤ fracN n d ∧ 1 ≤ fracD n d ∧ fracD n d ≤ d ∧ fracN n d ≤ M * fracD n d := by
  unfold fracN fracD
  have hg : 1 ≤ (Int.gcd n d : Int) := by
    have : 0 < Int.gcd n d := Int.gcd_pos_of_ne_zero_right _ (by omega)
    omega
  obtain ⟨a, ha⟩ : (Int.gcd n d : Int) ∣ n := Int.gcd_dvd_left ..
  obtain ⟨b, hb⟩ : (Int.gcd n d : Int) ∣ d := Int.gcd_dvd_right ..
  generalize (Int.gcd n d : Int) = g at *
  have e1 : n.tdiv g = a := by rw [ha]; exact Int.mul_tdiv_cancel_left a (by omega)
  have e2 : d.tdiv g = b := by rw [hb]; exact Int.mul_tdiv_cancel_left b (by omega)
  rw [e1, e2]
  have ha0 : 0 ≤ a := by
    rcases Int.lt_or_le a 0 with h1 | h1
    · have : g * a < 0 := Int.mul_neg_of_pos_of_neg (by omega) h1
      omega
    · exact h1
  have hb0 : 1 ≤ b := by
    rcases Int.lt_or_le b 1 with h1 | h1
    · have : g * b ≤ 0 := Int.mul_nonpos_of_nonneg_of_nonpos (by omega) (by omega)
      omega
    · exact h1
  refine ⟨ha0, hb0, ?_, ?_⟩
  · rw [hb]
    have : 1 * b ≤ g * b := Int.mul_le_mul_of_nonneg_right hg (by omega)
    omega
  · rw [ha, hb] at h
    have h2 : g * a ≤ g * (M * b) := by
      rw [Int.mul_left_comm]
      exact h
    exact Int.le_of_mul_le_mul_left h2 (by omega)
/-- The bound of the denominator behind k samples. -/
def pw60 : Nat → Int
  | 0 => 1
  | k + 1 => pw60 k * 60
theorem pw60_pos : ∀ k, 1 ≤ pw60 k
  | 0 => by simp [pw60]
  | k + 1 => by have := pw60_pos k; unfold pw60; omega
theorem pw60_le {k : Nat} (h : k ≤ 5) : pw60 k ≤ 777600000 := by
  match k, h with
  | 0, _ => decide
  | 1, _ => decide
  | 2, _ => decide
  | 3, _ => decide
  | 4, _ => decide
  | 5, _ => decide
def EstB (k : Nat) (p : Int × Int) : Prop := 0 ≤ p.1 ∧ 1 ≤ p.2 ∧ p.2 ≤ pw60 k ∧ p.1 ≤ 2000 * (k : Int) * p.2
/-- What a step computes with, in its bounds. -/
theorem est_step_bound {k : Nat} {p : Int × Int} {d : Dr} (hk : k < 5) (h : EstB k p) (hd : dErr d = 0) :
    (0 ≤ p.1 * d.2.1 ∧ p.1 * d.2.1 ≤ 466560000000000) ∧ (0 ≤ d.1 * d.2.2 ∧ d.1 * d.2.2 ≤ 120000) ∧ (0 ≤ d.1 * d.2.2 * p.2 ∧ d.1 * d.2.2 * p.2 ≤ 93312000000000) ∧ (1 ≤ p.2 * d.2.1 ∧ p.2 * d.2.1 ≤ 46656000000) ∧ EstB (k + 1) (estStep p d) := by
  obtain ⟨p1, p2⟩ := p
  obtain ⟨po, sa, fo⟩ := d
  obtain ⟨h1, h2, h3, h4⟩ := h
  obtain ⟨a1, a2, a3, a4⟩ := drawnErr_ok hd
  simp only at *
  have hp := pw60_le (k := k) (by omega)
  have hp1 := pw60_pos k
  have k5 : (k : Int) ≤ 4 := by omega
  have m0 : 2000 * (k : Int) * p2 ≤ 8000 * 777600000 := Int.mul_le_mul (by omega) (by omega) (by omega) (by omega)
  have e1 : 0 ≤ p1 * sa := Int.mul_nonneg h1 (by omega)
  have e2 : p1 * sa ≤ (8000 * 777600000) * 60 := Int.mul_le_mul (by omega) (by omega) (by omega) (by omega)
  have e3 : 0 ≤ po * fo := Int.mul_nonneg (by omega) (by omega)
  have e4 : po * fo ≤ 2000 * sa := Int.mul_le_mul (by omega) (by omega) (by omega) (by omega)
  have e5 : 0 ≤ po * fo * p2 := Int.mul_nonneg e3 (by omega)
  have e6 : po * fo * p2 ≤ (2000 * sa) * p2 := Int.mul_le_mul_of_nonneg_right e4 (by omega)
  have e6' : (2000 * sa) * p2 ≤ 120000 * 777600000 := Int.mul_le_mul (by omega) (by omega) (by omega) (by omega)
  have e7 : 1 * 1 ≤ p2 * sa := Int.mul_le_mul h2 (by omega) (by omega) (by omega)
  have e8 : p2 * sa ≤ pw60 k * 60 := Int.mul_le_mul h3 (by omega) (by omega) (by omega)
  have e9 : p1 * sa ≤ 2000 * (k : Int) * p2 * sa := Int.mul_le_mul_of_nonneg_right h4 (by omega)
  have e10 : 2000 * (k : Int) * p2 * sa + (2000 * sa) * p2 = 2000 * ((k : Int) + 1) * (p2 * sa) := by
    rw [Int.mul_assoc (2000 * (k : Int)) p2 sa, Int.mul_assoc 2000 sa p2, Int.mul_comm sa p2, Int.mul_add, Int.add_mul]
    simp
  have hb := frac_le (n := p1 * sa + po * fo * p2) (d := p2 * sa) (M := 2000 * ((k : Int) + 1)) (by omega) (by omega) (by omega)
  refine ⟨⟨e1, by omega⟩, ⟨e3, by omega⟩, ⟨e5, by omega⟩, ⟨by omega, by omega⟩, hb.1, hb.2.1, ?_, ?_⟩
  · have := hb.2.2.1
    show fracD _ _ ≤ pw60 k * 60
    simp only [estStep]
    omega
  · have := hb.2.2.2
    simpa [estStep] using this
theorem est_take (ds : List Dr) (k : Nat) (h : k < ds.length) : est (ds.take (k + 1)) = estStep (est (ds.take k)) ds[k] := by
  rw [List.take_succ_eq_append_getElem h, est_snoc]
theorem est_bound (ds : List Dr) : ∀ k, (∀ i, (h : i < ds.length) → i < k → dErr ds[i] = 0) → k ≤ ds.length → k ≤ 5 → EstB k (est (ds.take k))
  | 0, _, _, _ => ⟨by simp [est], by simp [est], by simp [est, pw60], by simp [est]⟩
  | k + 1, hd, hl, h5 => by
    rw [est_take ds k (by omega)]
    exact (est_step_bound (by omega) (est_bound ds k (fun i h hi => hd i h (by omega)) (by omega) (by omega)) (hd k (by omega) (by omega))).2.2.2.2

def drawnsV (ds : List Dr) : List Value := ds.flatMap fun d => [.int .i64 d.1, .int .i64 d.2.1, .int .i64 d.2.2]
theorem drawnsV_len (ds : List Dr) : (drawnsV ds).length = ds.length * 3 := by
  induction ds with
  | nil => rfl
  | cons d ds ih =>
    simp only [drawnsV, List.flatMap_cons, List.length_append, List.length_cons, List.length_nil] at *
    omega
theorem drawnsV_get : ∀ (ds : List Dr) (i : Nat) (h : i < ds.length), (drawnsV ds)[i * 3]? = some (.int .i64 ds[i].1) ∧ (drawnsV ds)[i * 3 + 1]? = some (.int .i64 ds[i].2.1) ∧ (drawnsV ds)[i * 3 + 2]? = some (.int .i64 ds[i].2.2)
  | d :: ds, 0, _ => by simp [drawnsV]
  | d :: ds, i + 1, h => by
    have := drawnsV_get ds i (by simpa using h)
    have e : (i + 1) * 3 = i * 3 + 1 + 1 + 1 := by omega
    simp only [drawnsV, List.flatMap_cons, List.cons_append, List.nil_append, e, List.getElem?_cons_succ, List.getElem_cons_succ]
    exact this
theorem drawnsV_snoc (ds : List Dr) (d : Dr) : drawnsV (ds ++ [d]) = drawnsV ds ++ [.int .i64 d.1, .int .i64 d.2.1, .int .i64 d.2.2] := by simp [drawnsV]
theorem firstErr_snoc : ∀ (l : List Int) (e : Int), firstErr (l ++ [e]) = firstErr [firstErr l, e]
  | [], e => by simp [firstErr]
  | x :: l, e => by
    have ih := firstErr_snoc l e
    simp only [List.cons_append]
    show (if x = 0 then firstErr (l ++ [e]) else x) = firstErr [(if x = 0 then firstErr l else x), e]
    by_cases h : x = 0
    · rw [if_pos h, if_pos h, ih]
    · rw [if_neg h, if_neg h]
      simp [firstErr, h]
theorem firstErr_all {l : List Int} (h : ∀ e ∈ l, e = 0) : firstErr l = 0 := by
  induction l with
  | nil => rfl
  | cons x l ih =>
    show (if x = 0 then firstErr l else x) = 0
    rw [if_pos (h x (by simp))]
    exact ih (fun e he => h e (by simp [he]))
theorem firstErr_zero {l : List Int} (h : firstErr l = 0) : ∀ e ∈ l, e = 0 := by
  induction l with
  | nil => intro e he; cases he
  | cons x l ih =>
    have h1 : (if x = 0 then firstErr l else x) = 0 := h
    by_cases hx : x = 0
    · rw [if_pos hx] at h1
      intro e he
      rcases List.mem_cons.1 he with h2 | h2
      · rw [h2]; exact hx
      · exact ih h1 e h2
    · rw [if_neg hx] at h1
      exact absurd h1 hx
def dErrs (ds : List Dr) : Int := firstErr (ds.map dErr)
theorem dErrs_snoc (ds : List Dr) (d : Dr) : dErrs (ds ++ [d]) = firstErr [dErrs ds, dErr d] := by
  unfold dErrs
  rw [List.map_append]
  exact firstErr_snoc _ _

end Go.Proofs.Ytpacmdiodnnofaa
