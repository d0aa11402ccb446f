/- Allocate: the plain facts. -/
import Derived.Test.YtpacmdiodnnofaaKnee
namespace Go.Proofs.Ytpacmdiodnnofaa
set_option linter.unusedVariables false
set_option linter.unusedSimpArgs false

/-- The rest of index i. -/
def remA (zs : List Int) (many sum : Int) (i : Nat) : Int := many * zs.getD i 0 % sum
def quoA (zs : List Int) (many sum : Int) (i : Nat) : Int := many * zs.getD i 0 / sum
/-- i comes before j: its rest is greater, or as great and i is less. -/
def Bef (f : Nat → Int) (i j : Nat) : Prop := f j < f i ∨ (f i = f j ∧ i < j)
/-- s is an order of the indices below n. -/
def IsOrd (f : Nat → Int) (n : Nat) (s : List Nat) : Prop := s.Pairwise (Bef f) ∧ s.Perm (List.range n)
theorem IsOrd.nil (f : Nat → Int) : IsOrd f 0 [] := ⟨List.Pairwise.nil, List.Perm.refl _⟩
theorem IsOrd.len {f : Nat → Int} {n : Nat} {s : List Nat} (h : IsOrd f n s) : s.length = n := by
  have := h.2.length_eq
  simpa using this
theorem IsOrd.lt {f : Nat → Int} {n : Nat} {s : List Nat} (h : IsOrd f n s) {x : Nat} (hx : x ∈ s) : x < n := by
  have := h.2.mem_iff.1 hx
  simpa using this
/-- The insertion of the next index. -/
theorem IsOrd.insert {f : Nat → Int} {n : Nat} {s : List Nat} (h : IsOrd f n s) (j : Nat) (hj : j ≤ n) (hgt : ∀ y ∈ s.drop j, f y < f n) (hle : ∀ y, 0 < j → s[j - 1]? = some y → f n ≤ f y) :
    IsOrd f (n + 1) (s.take j ++ n :: s.drop j) := by
  have hl := h.len
  constructor
  · rw [List.pairwise_append]
    have hp : (s.take j ++ s.drop j).Pairwise (Bef f) := by rw [List.take_append_drop]; exact h.1
    rw [List.pairwise_append] at hp
    refine ⟨hp.1, List.pairwise_cons.2 ⟨fun y hy => .inl (hgt y hy), hp.2.1⟩, fun a ha b hb => ?_⟩
    rcases List.mem_cons.1 hb with rfl | hb
    · have han : a < b := h.lt (List.mem_of_mem_take ha)
      obtain ⟨i, hi, rfl⟩ := List.getElem_of_mem ha
      rw [List.length_take] at hi
      have hj0 : 0 < j := by omega
      have hlast : s[j - 1]? = some (s[j - 1]'(by omega)) := List.getElem?_eq_getElem (by omega)
      have h1 := hle _ hj0 hlast
      rw [List.getElem_take] at han ⊢
      by_cases e : i = j - 1
      · subst e
        rcases Int.lt_or_le (f b) (f s[j - 1]) with h2 | h2
        · exact .inl h2
        · exact .inr ⟨by omega, han⟩
      · have h3 : Bef f s[i] s[j - 1] := (List.pairwise_iff_getElem.1 h.1) i (j - 1) (by omega) (by omega) (by omega)
        rcases h3 with h3 | ⟨h3, _⟩
        · exact .inl (by omega)
        · rcases Int.lt_or_le (f b) (f s[i]) with h2 | h2
          · exact .inl h2
          · exact .inr ⟨by omega, han⟩
    · exact hp.2.2 a ha b hb
  · rw [List.range_succ]
    refine (List.perm_middle).trans ?_
    rw [List.take_append_drop]
    exact (List.Perm.cons n h.2).trans (List.perm_append_comm (l₁ := [n]) (l₂ := List.range n))
/-- One more at each index of ps. -/
def incs (l : List Int) (ps : List Nat) : List Int := ps.foldl (fun l p => l.set p (l.getD p 0 + 1)) l
theorem incs_len (ps : List Nat) : ∀ l : List Int, (incs l ps).length = l.length := by
  induction ps with
  | nil => intro l; rfl
  | cons p ps ih =>
    intro l
    have := ih (l.set p (l.getD p 0 + 1))
    simpa [incs] using this
theorem incs_snoc (l : List Int) (ps : List Nat) (p : Nat) : incs l (ps ++ [p]) = (incs l ps).set p ((incs l ps).getD p 0 + 1) := by simp [incs]
/-- The rests, -1 where they are used up. -/
def marks (l : List Int) (ps : List Nat) : List Int := ps.foldl (fun l p => l.set p (-1)) l
theorem marks_len (ps : List Nat) : ∀ l : List Int, (marks l ps).length = l.length := by
  induction ps with
  | nil => intro l; rfl
  | cons p ps ih =>
    intro l
    have := ih (l.set p (-1))
    simpa [marks] using this
theorem marks_snoc (l : List Int) (ps : List Nat) (p : Nat) : marks l (ps ++ [p]) = (marks l ps).set p (-1) := by simp [marks]
theorem marks_get : ∀ (ps : List Nat) (l : List Int) (i : Nat), i < l.length → (marks l ps).getD i 0 = if i ∈ ps then -1 else l.getD i 0
  | [], l, i, _ => by simp [marks]
  | p :: ps, l, i, hi => by
    have ih := marks_get ps (l.set p (-1)) i (by simpa using hi)
    have e : marks l (p :: ps) = marks (l.set p (-1)) ps := rfl
    rw [e, ih]
    by_cases h1 : i ∈ ps
    · simp [h1]
    · by_cases h2 : i = p
      · subst h2
        simp [h1, List.getD, List.getElem?_set, hi]
      · simp only [h1, if_false, List.mem_cons, h2, false_or]
        simp only [List.getD]
        rw [List.getElem?_set_ne (fun h => h2 h.symm)]
theorem idxP_eq (P : Int → Bool) : ∀ (l : List Int) (k : Int) (i : Nat), i < l.length → P (l.getD i 0) = true → (∀ j, j < i → P (l.getD j 0) = false) → idxP P l k = k + i
  | x :: l, k, 0, _, h, _ => by
    have h1 : P x = true := by simpa using h
    simp [idxP, h1]
  | x :: l, k, i + 1, hi, h, hn => by
    have h0 : P x = false := by simpa using hn 0 (by omega)
    have := idxP_eq P l (k + 1) i (by simpa using hi) (by simpa using h) (fun j hj => by simpa using hn (j + 1) (by omega))
    simp only [idxP, h0, Bool.false_eq_true, if_false, this]
    omega
/-- x is the greatest number of l. -/
def IsMax (l : List Int) (x : Int) : Prop := x ∈ l ∧ ∀ y ∈ l, y ≤ x
theorem IsMax.unique {l : List Int} {x y : Int} (h : IsMax l x) (k : IsMax l y) : x = y := by
  have h1 := h.2 y k.1
  have h2 := k.2 x h.1
  omega
theorem bef_nodup {f : Nat → Int} {s : List Nat} (h : s.Pairwise (Bef f)) : s.Nodup := by
  refine h.imp ?_
  intro a b hab e
  subst e
  rcases hab with h | ⟨_, h⟩ <;> omega
/-- What is picked at step t is the order's t-th. -/
theorem pick_next {f : Nat → Int} {n t : Nat} {s : List Nat} (h : IsOrd f n s) (hf : ∀ i, i < n → 0 ≤ f i) (ht : t < n) :
    ∃ p, s[t]? = some p ∧ p < n ∧ IsMax (marks ((List.range n).map f) (s.take t)) (f p) ∧ idxP (fun y => f p == y) (marks ((List.range n).map f) (s.take t)) 0 = (p : Int) := by
  have hl := h.len
  obtain ⟨p, hp⟩ : ∃ p, s[t]? = some p := ⟨s[t]'(by omega), List.getElem?_eq_getElem (by omega)⟩
  have hpe : s[t]'(by omega) = p := by
    rw [List.getElem?_eq_getElem (by omega)] at hp
    injection hp
  have hpn : p < n := by rw [← hpe]; exact h.lt (List.getElem_mem _)
  have hnd := bef_nodup h.1
  have hml : (marks ((List.range n).map f) (s.take t)).length = n := by rw [marks_len]; simp
  have hget : ∀ i, i < n → (marks ((List.range n).map f) (s.take t)).getD i 0 = if i ∈ s.take t then -1 else f i := by
    intro i hi
    rw [marks_get _ _ _ (by simpa using hi)]
    simp [List.getD, hi]
  have hpt : p ∉ s.take t := by
    intro hm
    obtain ⟨i, hi, e⟩ := List.getElem_of_mem hm
    rw [List.length_take] at hi
    rw [List.getElem_take, ← hpe] at e
    have := (List.getElem_inj hnd).1 e
    omega
  have hrest : ∀ i, i < n → i ∉ s.take t → i ≠ p → Bef f p i := by
    intro i hi hnt hne
    have him : i ∈ s := h.2.mem_iff.2 (by simpa using hi)
    obtain ⟨j, hj, e⟩ := List.getElem_of_mem him
    have hjt : t < j := by
      rcases Nat.lt_trichotomy j t with h1 | h1 | h1
      · exact absurd (by rw [← e]; exact List.mem_take_iff_getElem.2 ⟨j, by omega, rfl⟩) hnt
      · subst h1; exact absurd (e.symm.trans hpe) hne
      · exact h1
    have := (List.pairwise_iff_getElem.1 h.1) t j (by omega) hj hjt
    rw [hpe, e] at this
    exact this
  refine ⟨p, hp, hpn, ⟨?_, ?_⟩, ?_⟩
  · have := hget p hpn
    rw [if_neg hpt] at this
    rw [← this]
    simp only [List.getD]
    rw [List.getElem?_eq_getElem (by omega)]
    exact List.getElem_mem _
  · intro y hy
    obtain ⟨i, hi, e⟩ := List.getElem_of_mem hy
    have h1 := hget i (by omega)
    have h2 : (marks ((List.range n).map f) (s.take t)).getD i 0 = y := by
      simp only [List.getD]
      rw [List.getElem?_eq_getElem hi, e]
      rfl
    rw [h2] at h1
    have h3 := hf p hpn
    by_cases hm : i ∈ s.take t
    · rw [if_pos hm] at h1; omega
    · rw [if_neg hm] at h1
      by_cases hip : i = p
      · subst hip; omega
      · rcases hrest i (by omega) hm hip with h4 | ⟨h4, _⟩ <;> omega
  · have := idxP_eq (fun y => f p == y) (marks ((List.range n).map f) (s.take t)) 0 p (by omega) (by rw [hget p hpn, if_neg hpt]; simp) (fun j hj => ?_)
    · simpa using this
    · rw [hget j (by omega)]
      have h3 := hf p hpn
      by_cases hm : j ∈ s.take t
      · rw [if_pos hm]
        simp
        omega
      · rw [if_neg hm]
        rcases hrest j (by omega) hm (by omega) with h4 | ⟨h4, h5⟩
        · simp
          omega
        · omega

end Go.Proofs.Ytpacmdiodnnofaa
