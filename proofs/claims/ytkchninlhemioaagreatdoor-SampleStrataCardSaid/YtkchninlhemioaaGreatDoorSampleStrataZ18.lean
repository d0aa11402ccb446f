/- Texts of the proof of SampleStrata, put together: BoolG, Recall, Gains, Knee, Alloc, SortI, MaxI, AllocC, GainsOf. -/
import Derived.Test.YtkchninlhemioaaGreatDoorSampleStrataZ9
import Derived.Test.YtkchninlhemioaaGreatDoorSampleStrataZ11
import Derived.Test.YtkchninlhemioaaGreatDoorSampleStrataZ12
import Derived.Test.YtkchninlhemioaaGreatDoorSampleStrataZ15
import Derived.Test.YtkchninlhemioaaGreatDoorSampleStrataZ16
/- Lists of truths: the generators Relevant and Share, Depth and its reference. -/
namespace Go.Proofs.YtkchninlhemioaaGreatDoor
set_option linter.unusedVariables false
set_option linter.unusedSimpArgs false
open Go.RowKit
attribute [local go_sem ↓] Go.wp_at_zero Go.wp_at_succ

theorem Sl.take {w : World} {e : TypeId} {A : Option Addr} {n c : Nat} {xs : List Value} (h : Sl w e 1 (.slice A n c) xs) {k : Nat} (hk : k ≤ n) : Sl w e 1 (.slice A k c) (xs.take k) := by
  obtain ⟨A', n', c', hv, h1, h2, h3, h4⟩ := h
  injection hv with ha hn hc
  subst ha hn hc
  refine ⟨A, k, c, rfl, by omega, h2, by rw [List.length_take, h3]; omega, fun h0 => ?_⟩
  obtain ⟨g, off, rfl, arr, fr, ha, hb⟩ := h4 (by omega)
  refine ⟨g, off, rfl, arr, fr, ha, fun i u hu => hb i u ?_⟩
  rw [List.getElem?_take] at hu
  split at hu
  · exact hu
  · cases hu
theorem boolsV_take (bs : List Bool) (k : Nat) : (boolsV bs).take k = boolsV (bs.take k) := by simp [boolsV]

def RelPost (w : World) (b N : Nat) (e : Ending) (w' : World) : Prop :=
  ∃ v bs, bs.length ≤ 20 ∧ e = .returned v ∧ w'.ownsRow w.heap.size 4 1 v bs.length (boolsV bs) ∧ Strm w' b (N + 50) ∧ Mod (· = b) w w'
def RelRel (w : World) (b N n gk : Nat) (o i : Value) (wr : World) : Prop :=
  ∃ (bs : List Bool) (A : Option Addr) (cap : Nat), n - bs.length = gk ∧ bs.length ≤ n ∧ i = .int .i64 (bs.length : Int) ∧ o = .slice A bs.length cap ∧ wr.ownsRow w.heap.size 4 1 (.slice A bs.length cap) bs.length (boolsV bs) ∧ Strm wr b (N + 1 + 2 * bs.length) ∧ Mod (· = b) w wr

set_option maxRecDepth 100000 in
set_option maxHeartbeats 1000000 in
theorem share_calls (w : World) (b N : Nat) (hS : Strm w b N) (hN : N ≤ 900000000) :
    Calls Tryz.prog 9 #[.pointer (some ⟨b, 0, none⟩)] w (FracPost w b (N + 1) (fun n d => -1 ≤ n ∧ n ≤ 1000000 ∧ 0 ≤ d ∧ d ≤ 1000001)) := by
  have hlt := hS.lt
  go_enter Tryz.func9, Tryz.ntmps9
  go_wp2_with fail
  refine (pick_calls _ b N _ _ [0, 0, 1, 2, 3, 4, 4, 5, 6, 7, 8, 9] (hS.pure ((((Mod.refl _ _).alloc _).alloc _).alloc _)) (by omega) (Blk.thd _ _ _ _ _) (by omega) (by simp) (by simp)).mono ?_
  rintro e w' ⟨k, hk, rfl, hS', hM⟩
  have hk0 : 0 ≤ k ∧ k ≤ 9 := by simp at hk; omega
  obtain ⟨i, rfl⟩ := Int.eq_ofNat_of_zero_le hk0.1
  have hb1 := (((Blk.new w 32 #[.int .i64 0, .int .i64 0]).alloc _).alloc _).modb hM (by omega)
  have hb2 := ((Blk.snd w (.cells #[.int .i64 0, .int .i64 0] 32) 32 _).alloc _).modb hM (by omega)
  have hz := hM.size
  simp only [World.size_alloc] at hz
  have hM2 : Mod (· = b) w w' := (((((Mod.refl _ _).alloc _).alloc _)).alloc _).trans hM
  obtain ⟨n, d, hmem, c0, c1⟩ := Blk.frac_at [(1, 2), (0, 1), (1, 1), (2, 4), (1, 3), (999999, 1000000), (3, 2), (-1, 2), (1, 0), (1, 1000001)] hb2 (i := i) (by simp; omega)
  have hP : -1 ≤ n ∧ n ≤ 1000000 ∧ 0 ≤ d ∧ d ≤ 1000001 := by simp at hmem; omega
  have q0 := hb1.cell 0; have qf0 := hb1.frozen 0; have q1 := hb1.cell 1; have qf1 := hb1.frozen 1; simp at q0 q1
  clear hb1 hb2 hmem hk
  go_wp2_with fail
  refine bodyPost_ret (v := .agg #[.int .i64 n, .int .i64 d]) (by simp [results, Tryz.results9, go_sem, q0, q1]) rfl ?_
  exact ⟨n, d, hP, rfl, (hS'.setCell hlt _).setCell hlt _, (hM2.setCell (.inr (Nat.le_refl _)) _).setCell (.inr (Nat.le_refl _)) _⟩

set_option maxRecDepth 100000 in
set_option maxHeartbeats 400000 in
theorem shareFault_calls (w : World) (n d : Int) : Calls Tryz.prog 15 #[.agg #[.int .i64 n, .int .i64 d]] w (IntPost w (shareErr n d)) := by
  go_enter Tryz.func15, Tryz.ntmps15
  go_wp2_with fail
  refine (rin_calls _ _ _ _).mono ?_
  rintro e w' ⟨rfl, rfl⟩
  cases h1 : inB d 1 1000000
  · go_wp2_with fail
    go_ret
    refine IntPost.of ?_ ((Mod.refl _ _).alloc _)
    unfold shareErr
    have := inB_false h1
    rw [if_neg (by omega)]
  · have h1' := inB_true h1
    obtain ⟨h2, h3⟩ := h1'
    clear h1
    go_wp2_with fail
    refine (rin_calls _ _ _ _).mono ?_
    rintro e w' ⟨rfl, rfl⟩
    cases h4 : inB n 0 d
    · go_wp2_with fail
      go_ret
      refine IntPost.of ?_ ((Mod.refl _ _).alloc _)
      unfold shareErr
      have := inB_false h4
      rw [if_neg (by omega)]
    · go_wp2_with fail
      go_ret
      refine IntPost.of ?_ ((Mod.refl _ _).alloc _)
      unfold shareErr
      have := inB_true h4
      rw [if_pos (by omega)]

end Go.Proofs.YtkchninlhemioaaGreatDoor

/- Package sample: Recall, SureRecall, Elusion. -/
namespace Go.Proofs.YtkchninlhemioaaGreatDoor
set_option linter.unusedVariables false
set_option linter.unusedSimpArgs false
open Go.RowKit
attribute [local go_sem ↓] Go.wp_at_zero Go.wp_at_succ

def manyErr (n : Int) : Int := if 0 ≤ n ∧ n ≤ 2000 then 0 else 1
set_option maxRecDepth 100000 in
set_option maxHeartbeats 400000 in
theorem manyError_calls (w : World) (n : Int) : Calls Tryz.prog 34 #[.int .i64 n] w (IntPost w (manyErr n)) := by
  go_enter Tryz.func34, Tryz.ntmps34
  go_wp2_with fail
  refine (in_calls _ _ _ _).mono ?_
  rintro e w' ⟨rfl, rfl⟩
  cases h1 : inB n 0 2000
  · go_wp2_with fail
    refine (when_t _ _).mono ?_
    rintro e w' ⟨rfl, rfl⟩
    go_wp2_with fail
    go_ret
    refine IntPost.of ?_ (Mod.refl _ _)
    unfold manyErr
    have := inB_false h1
    rw [if_neg this]
  · go_wp2_with fail
    refine (when_f _ _).mono ?_
    rintro e w' ⟨rfl, rfl⟩
    go_wp2_with fail
    go_ret
    refine IntPost.of ?_ (Mod.refl _ _)
    unfold manyErr
    have := inB_true h1
    rw [if_pos this]

def recE (fo p s f : Int) : Int := firstErr [manyErr fo, drawnErr p s f]
theorem recE_ok {fo p s f : Int} (h : recE fo p s f = 0) : (0 ≤ fo ∧ fo ≤ 2000) ∧ (1 ≤ p ∧ p ≤ 2000) ∧ (1 ≤ s ∧ s ≤ 60 ∧ s ≤ p) ∧ 0 ≤ f ∧ f ≤ s := by
  unfold recE at h
  rw [firstErr_two] at h
  by_cases h1 : manyErr fo = 0
  · rw [if_pos h1] at h
    unfold manyErr at h1
    unfold drawnErr at h
    split at h1
    · split at h
      · rename_i h2 h3
        exact ⟨h2, h3⟩
      · cases h
    · cases h1
  · rw [if_neg h1] at h
    exact absurd h h1
theorem rec_bounds {fo p s f : Int} (h : (0 ≤ fo ∧ fo ≤ 2000) ∧ (1 ≤ p ∧ p ≤ 2000) ∧ (1 ≤ s ∧ s ≤ 60 ∧ s ≤ p) ∧ 0 ≤ f ∧ f ≤ s) : (0 ≤ fo * s ∧ fo * s ≤ 120000) ∧ 0 ≤ p * f ∧ p * f ≤ 120000 := by
  obtain ⟨⟨a1, a2⟩, ⟨b1, b2⟩, ⟨c1, c2, c3⟩, d1, d2⟩ := h
  have e1 : 0 ≤ fo * s := Int.mul_nonneg a1 (by omega)
  have e2 : fo * s ≤ 2000 * 60 := Int.mul_le_mul a2 c2 (by omega) (by omega)
  have e3 : 0 ≤ p * f := Int.mul_nonneg (by omega) d1
  have e4 : p * f ≤ 2000 * 60 := Int.mul_le_mul b2 (by omega) d1 (by omega)
  omega

/-- A fraction and an error. -/
def FErr (w : World) (x y er : Int) (e : Ending) (w' : World) : Prop := e = .returned (.tuple #[agg2 x y, .int .i64 er]) ∧ Pure w w'
def RecSpec (fo p s f x y er : Int) : Prop :=
  (recE fo p s f ≠ 0 ∧ x = 0 ∧ y = 0 ∧ er = recE fo p s f) ∨ (recE fo p s f = 0 ∧ fo * s + p * f = 0 ∧ x = 0 ∧ y = 0 ∧ er = 16) ∨ (recE fo p s f = 0 ∧ fo * s + p * f ≠ 0 ∧ x = fracN (fo * s) (fo * s + p * f) ∧ y = fracD (fo * s) (fo * s + p * f) ∧ er = 0)
def RecPost (w : World) (fo p s f : Int) (e : Ending) (w' : World) : Prop := ∃ x y er : Int, RecSpec fo p s f x y er ∧ e = .returned (.tuple #[agg2 x y, .int .i64 er]) ∧ Pure w w'

def EluSpec (p s f x y er : Int) : Prop := (drawnErr p s f ≠ 0 ∧ x = 0 ∧ y = 0 ∧ er = drawnErr p s f) ∨ (drawnErr p s f = 0 ∧ x = fracN f s ∧ y = fracD f s ∧ er = 0)
def EluPost (w : World) (p s f : Int) (e : Ending) (w' : World) : Prop := ∃ x y er : Int, EluSpec p s f x y er ∧ e = .returned (.tuple #[agg2 x y, .int .i64 er]) ∧ Pure w w'
theorem drawnErr_ok {p s f : Int} (h : drawnErr p s f = 0) : (1 ≤ p ∧ p ≤ 2000) ∧ (1 ≤ s ∧ s ≤ 60 ∧ s ≤ p) ∧ 0 ≤ f ∧ f ≤ s := by
  unfold drawnErr at h
  split at h
  · assumption
  · cases h

end Go.Proofs.YtkchninlhemioaaGreatDoor

/- Gains, Area, Knee; slices.Equal over numbers. -/
namespace Go.Proofs.YtkchninlhemioaaGreatDoor
set_option linter.unusedVariables false
set_option linter.unusedSimpArgs false
open Go.RowKit
attribute [local go_sem ↓] Go.wp_at_zero Go.wp_at_succ

theorem Sl.len {w : World} {e : TypeId} {A : Option Addr} {n c : Nat} {xs : List Value} (h : Sl w e 1 (.slice A n c) xs) : n = xs.length ∧ n ≤ c ∧ c ≤ 9223372036854775807 := by
  obtain ⟨A', n', c', he, h1, h2, h3, _⟩ := h
  injection he with _ h4 h5
  omega
theorem Sl.row {w : World} {e : TypeId} {A : Option Addr} {n c size : Nat} {xs : List Value} (h : Sl w e size (.slice A n c) xs) (hn : 0 < n) : ∃ g off, A = some ⟨g, off, none⟩ ∧ RowAt w e g off xs := by
  obtain ⟨A', n', c', he, h1, h2, h3, h4⟩ := h
  injection he with h5 h6 h7
  subst h5 h6
  exact h4 hn
theorem own_len {w : World} {base n : Nat} {e : TypeId} {v : Value} {xs : List Value} (h : w.ownsRow base e 1 v n xs) : n = xs.length := by
  have := h.1
  omega

def GainsPost (w : World) (bs : List Bool) (e : Ending) (w' : World) : Prop :=
  (bs.length ≤ 2000 ∧ ∃ v, e = .returned (.tuple #[v, .int .i64 0]) ∧ w'.ownsRow w.heap.size 3 1 v bs.length (intsV (gainsL bs bs.length)) ∧ Pure w w') ∨ (2000 < bs.length ∧ e = .returned (.tuple #[.slice none 0 0, .int .i64 2]) ∧ Pure w w')
def sumL : List Int → Int := fun l => l.foldl (· + ·) 0
theorem sumL_snoc (l : List Int) (x : Int) : sumL (l ++ [x]) = sumL l + x := by simp [sumL]
theorem gainsL_bound (bs : List Bool) : ∀ k, 0 ≤ sumL (gainsL bs k) ∧ sumL (gainsL bs k) ≤ (k : Int) * k
  | 0 => by simp [gainsL, sumL]
  | k + 1 => by
    have ih := gainsL_bound bs k
    have h1 := cnt_take_le bs (k + 1)
    rw [gainsL_succ, sumL_snoc]
    have e : ((k + 1 : Nat) : Int) * ((k + 1 : Nat) : Int) = (k : Int) * k + 2 * k + 1 := by
      rw [Int.natCast_add, Int.add_mul, Int.mul_add]
      simp
      omega
    rw [e]
    omega
theorem gainsL_take (bs : List Bool) {n k : Nat} (h : k ≤ n) : (gainsL bs n).take k = gainsL bs k := by
  unfold gainsL
  rw [← List.map_take, List.take_range, Nat.min_eq_left h]

def noneE (c : Nat) : Int := if c = 0 then 8 else 0
def areaE (bs : List Bool) : Int := firstErr [readErr bs.length, noneE (cnt bs)]
def AreaSpec (bs : List Bool) (x y er : Int) : Prop := (areaE bs ≠ 0 ∧ x = 0 ∧ y = 0 ∧ er = areaE bs) ∨ (areaE bs = 0 ∧ x = fracN (sumL (gainsL bs bs.length)) (bs.length * cnt bs) ∧ y = fracD (sumL (gainsL bs bs.length)) (bs.length * cnt bs) ∧ er = 0)
def AreaPost (w : World) (bs : List Bool) (e : Ending) (w' : World) : Prop := ∃ x y er : Int, AreaSpec bs x y er ∧ e = .returned (.tuple #[agg2 x y, .int .i64 er]) ∧ Pure w w'
theorem areaE_ok {bs : List Bool} (h : areaE bs = 0) : bs.length ≤ 2000 ∧ 1 ≤ cnt bs := by
  unfold areaE at h
  rw [firstErr_two] at h
  by_cases h1 : readErr (bs.length : Int) = 0
  · rw [if_pos h1] at h
    unfold readErr at h1
    unfold noneE at h
    split at h1
    · split at h
      · cases h
      · omega
    · cases h1
  · rw [if_neg h1] at h
    exact absurd h h1

end Go.Proofs.YtkchninlhemioaaGreatDoor

/- Knee and its reference; GainsOf; slices.Equal over numbers. -/
namespace Go.Proofs.YtkchninlhemioaaGreatDoor
set_option linter.unusedVariables false
set_option linter.unusedSimpArgs false
open Go.RowKit
attribute [local go_sem ↓] Go.wp_at_zero Go.wp_at_succ

def kneeX (bs : List Bool) (i : Nat) : Int := (cnt (bs.take i) : Int) * (bs.length : Int) - (i : Int) * (cnt bs : Int)
/-- The greatest gain below k, and its place. -/
def kneeTo (bs : List Bool) : Nat → Int × Int
  | 0 => (0, 0)
  | k + 1 => if (kneeTo bs k).1 < kneeX bs k then (kneeX bs k, (k : Int)) else kneeTo bs k
theorem kneeTo_one (bs : List Bool) : kneeTo bs 1 = (0, 0) := by simp [kneeTo, kneeX, cnt]
theorem kneeX_bound (bs : List Bool) (i : Nat) (hl : bs.length ≤ 2000) (hi : i ≤ bs.length) : (0 ≤ (cnt (bs.take i) : Int) * (bs.length : Int) ∧ (cnt (bs.take i) : Int) * (bs.length : Int) ≤ 4000000) ∧ (0 ≤ (i : Int) * (cnt bs : Int) ∧ (i : Int) * (cnt bs : Int) ≤ 4000000) := by
  have h1 := cnt_take_le bs i
  have h2 := cnt_le bs
  have e1 : 0 ≤ (cnt (bs.take i) : Int) * (bs.length : Int) := Int.mul_nonneg (by omega) (by omega)
  have e2 : (cnt (bs.take i) : Int) * (bs.length : Int) ≤ 2000 * 2000 := Int.mul_le_mul (by omega) (by omega) (by omega) (by omega)
  have e3 : 0 ≤ (i : Int) * (cnt bs : Int) := Int.mul_nonneg (by omega) (by omega)
  have e4 : (i : Int) * (cnt bs : Int) ≤ 2000 * 2000 := Int.mul_le_mul (by omega) (by omega) (by omega) (by omega)
  omega
theorem kneeTo_bound (bs : List Bool) (hl : bs.length ≤ 2000) : ∀ k, k ≤ bs.length + 1 → 0 ≤ (kneeTo bs k).1 ∧ (kneeTo bs k).1 ≤ 8000000 ∧ 0 ≤ (kneeTo bs k).2 ∧ (kneeTo bs k).2 ≤ 2001
  | 0, _ => by simp [kneeTo]
  | k + 1, hk => by
    have ih := kneeTo_bound bs hl k (by omega)
    have hx := kneeX_bound bs k hl (by omega)
    unfold kneeTo
    split
    · rename_i h
      simp only
      unfold kneeX at *
      omega
    · exact ih

def KneePost (w : World) (bs : List Bool) (e : Ending) (w' : World) : Prop :=
  (bs.length ≤ 2000 ∧ e = .returned (.tuple #[.int .i64 (kneeTo bs (bs.length + 1)).2, .int .i64 0]) ∧ Pure w w') ∨ (2000 < bs.length ∧ e = .returned (.tuple #[.int .i64 0, .int .i64 2]) ∧ Pure w w')
def KneeRel (w : World) (bs : List Bool) (gk : Nat) (b a i : Value) (wr : World) : Prop :=
  ∃ k : Nat, bs.length - k = gk ∧ k ≤ bs.length ∧ i = .int .i64 (k : Int) ∧ b = .int .i64 (kneeTo bs (k + 1)).1 ∧ a = .int .i64 (kneeTo bs (k + 1)).2 ∧ Pure w wr

def KneeRel2 (w : World) (bs : List Bool) (gk : Nat) (b a i : Value) (wr : World) : Prop :=
  ∃ k : Nat, bs.length + 1 - k = gk ∧ k ≤ bs.length + 1 ∧ i = .int .i64 (k : Int) ∧ b = .int .i64 (kneeTo bs k).1 ∧ a = .int .i64 (kneeTo bs k).2 ∧ Pure w wr
end Go.Proofs.YtkchninlhemioaaGreatDoor

/- Allocate: the plain facts. -/
namespace Go.Proofs.YtkchninlhemioaaGreatDoor
set_option linter.unusedVariables false
set_option linter.unusedSimpArgs false

/-- The rest of index i. -/
def remA (zs : List Int) (many sum : Int) (i : Nat) : Int := many * zs.getD i 0 % sum
def quoA (zs : List Int) (many sum : Int) (i : Nat) : Int := many * zs.getD i 0 / sum
/-- i comes before j: its rest is greater, or as great and i is less. -/
def Bef (f : Nat → Int) (i j : Nat) : Prop := f j < f i ∨ (f i = f j ∧ i < j)
/-- s is an order of the indices below n. -/
def IsOrd (f : Nat → Int) (n : Nat) (s : List Nat) : Prop := s.Pairwise (Bef f) ∧ s.Perm (List.range n)
theorem IsOrd.nil (f : Nat → Int) : IsOrd f 0 [] := ⟨List.Pairwise.nil, List.Perm.refl _⟩
theorem IsOrd.len {f : Nat → Int} {n : Nat} {s : List Nat} (h : IsOrd f n s) : s.length = n := by
  have := h.2.length_eq
  simpa using this
theorem IsOrd.lt {f : Nat → Int} {n : Nat} {s : List Nat} (h : IsOrd f n s) {x : Nat} (hx : x ∈ s) : x < n := by
  have := h.2.mem_iff.1 hx
  simpa using this
/-- The insertion of the next index. -/
theorem IsOrd.insert {f : Nat → Int} {n : Nat} {s : List Nat} (h : IsOrd f n s) (j : Nat) (hj : j ≤ n) (hgt : ∀ y ∈ s.drop j, f y < f n) (hle : ∀ y, 0 < j → s[j - 1]? = some y → f n ≤ f y) :
    IsOrd f (n + 1) (s.take j ++ n :: s.drop j) := by
  have hl := h.len
  constructor
  · rw [List.pairwise_append]
    have hp : (s.take j ++ s.drop j).Pairwise (Bef f) := by rw [List.take_append_drop]; exact h.1
    rw [List.pairwise_append] at hp
    refine ⟨hp.1, List.pairwise_cons.2 ⟨fun y hy => .inl (hgt y hy), hp.2.1⟩, fun a ha b hb => ?_⟩
    rcases List.mem_cons.1 hb with rfl | hb
    · have han : a < b := h.lt (List.mem_of_mem_take ha)
      obtain ⟨i, hi, rfl⟩ := List.getElem_of_mem ha
      rw [List.length_take] at hi
      have hj0 : 0 < j := by omega
      have hlast : s[j - 1]? = some (s[j - 1]'(by omega)) := List.getElem?_eq_getElem (by omega)
      have h1 := hle _ hj0 hlast
      rw [List.getElem_take] at han ⊢
      by_cases e : i = j - 1
      · subst e
        rcases Int.lt_or_le (f b) (f s[j - 1]) with h2 | h2
        · exact .inl h2
        · exact .inr ⟨by omega, han⟩
      · have h3 : Bef f s[i] s[j - 1] := (List.pairwise_iff_getElem.1 h.1) i (j - 1) (by omega) (by omega) (by omega)
        rcases h3 with h3 | ⟨h3, _⟩
        · exact .inl (by omega)
        · rcases Int.lt_or_le (f b) (f s[i]) with h2 | h2
          · exact .inl h2
          · exact .inr ⟨by omega, han⟩
    · exact hp.2.2 a ha b hb
  · rw [List.range_succ]
    refine (List.perm_middle).trans ?_
    rw [List.take_append_drop]
    exact (List.Perm.cons n h.2).trans (List.perm_append_comm (l₁ := [n]) (l₂ := List.range n))
/-- One more at each index of ps. -/
def incs (l : List Int) (ps : List Nat) : List Int := ps.foldl (fun l p => l.set p (l.getD p 0 + 1)) l
theorem incs_len (ps : List Nat) : ∀ l : List Int, (incs l ps).length = l.length := by
  induction ps with
  | nil => intro l; rfl
  | cons p ps ih =>
    intro l
    have := ih (l.set p (l.getD p 0 + 1))
    simpa [incs] using this
theorem incs_snoc (l : List Int) (ps : List Nat) (p : Nat) : incs l (ps ++ [p]) = (incs l ps).set p ((incs l ps).getD p 0 + 1) := by simp [incs]
/-- The rests, -1 where they are used up. -/
def marks (l : List Int) (ps : List Nat) : List Int := ps.foldl (fun l p => l.set p (-1)) l
theorem marks_len (ps : List Nat) : ∀ l : List Int, (marks l ps).length = l.length := by
  induction ps with
  | nil => intro l; rfl
  | cons p ps ih =>
    intro l
    have := ih (l.set p (-1))
    simpa [marks] using this
theorem marks_snoc (l : List Int) (ps : List Nat) (p : Nat) : marks l (ps ++ [p]) = (marks l ps).set p (-1) := by simp [marks]
theorem marks_get : ∀ (ps : List Nat) (l : List Int) (i : Nat), i < l.length → (marks l ps).getD i 0 = if i ∈ ps then -1 else l.getD i 0
  | [], l, i, _ => by simp [marks]
  | p :: ps, l, i, hi => by
    have ih := marks_get ps (l.set p (-1)) i (by simpa using hi)
    have e : marks l (p :: ps) = marks (l.set p (-1)) ps := rfl
    rw [e, ih]
    by_cases h1 : i ∈ ps
    · simp [h1]
    · by_cases h2 : i = p
      · subst h2
        simp [h1, List.getD, List.getElem?_set, hi]
      · simp only [h1, if_false, List.mem_cons, h2, false_or]
        simp only [List.getD]
        rw [List.getElem?_set_ne (fun h => h2 h.symm)]
theorem idxP_eq (P : Int → Bool) : ∀ (l : List Int) (k : Int) (i : Nat), i < l.length → P (l.getD i 0) = true → (∀ j, j < i → P (l.getD j 0) = false) → idxP P l k = k + i
  | x :: l, k, 0, _, h, _ => by
    have h1 : P x = true := by simpa using h
    simp [idxP, h1]
  | x :: l, k, i + 1, hi, h, hn => by
    have h0 : P x = false := by simpa using hn 0 (by omega)
    have := idxP_eq P l (k + 1) i (by simpa using hi) (by simpa using h) (fun j hj => by simpa using hn (j + 1) (by omega))
    simp only [idxP, h0, Bool.false_eq_true, if_false, this]
    omega
/-- x is the greatest number of l. -/
def IsMax (l : List Int) (x : Int) : Prop := x ∈ l ∧ ∀ y ∈ l, y ≤ x
theorem IsMax.unique {l : List Int} {x y : Int} (h : IsMax l x) (k : IsMax l y) : x = y := by
  have h1 := h.2 y k.1
  have h2 := k.2 x h.1
  omega
theorem bef_nodup {f : Nat → Int} {s : List Nat} (h : s.Pairwise (Bef f)) : s.Nodup := by
  refine h.imp ?_
  intro a b hab e
  subst e
  rcases hab with h | ⟨_, h⟩ <;> omega
/-- What is picked at step t is the order's t-th. -/
theorem pick_next {f : Nat → Int} {n t : Nat} {s : List Nat} (h : IsOrd f n s) (hf : ∀ i, i < n → 0 ≤ f i) (ht : t < n) :
    ∃ p, s[t]? = some p ∧ p < n ∧ IsMax (marks ((List.range n).map f) (s.take t)) (f p) ∧ idxP (fun y => f p == y) (marks ((List.range n).map f) (s.take t)) 0 = (p : Int) := by
  have hl := h.len
  obtain ⟨p, hp⟩ : ∃ p, s[t]? = some p := ⟨s[t]'(by omega), List.getElem?_eq_getElem (by omega)⟩
  have hpe : s[t]'(by omega) = p := by
    rw [List.getElem?_eq_getElem (by omega)] at hp
    injection hp
  have hpn : p < n := by rw [← hpe]; exact h.lt (List.getElem_mem _)
  have hnd := bef_nodup h.1
  have hml : (marks ((List.range n).map f) (s.take t)).length = n := by rw [marks_len]; simp
  have hget : ∀ i, i < n → (marks ((List.range n).map f) (s.take t)).getD i 0 = if i ∈ s.take t then -1 else f i := by
    intro i hi
    rw [marks_get _ _ _ (by simpa using hi)]
    simp [List.getD, hi]
  have hpt : p ∉ s.take t := by
    intro hm
    obtain ⟨i, hi, e⟩ := List.getElem_of_mem hm
    rw [List.length_take] at hi
    rw [List.getElem_take, ← hpe] at e
    have := (List.getElem_inj hnd).1 e
    omega
  have hrest : ∀ i, i < n → i ∉ s.take t → i ≠ p → Bef f p i := by
    intro i hi hnt hne
    have him : i ∈ s := h.2.mem_iff.2 (by simpa using hi)
    obtain ⟨j, hj, e⟩ := List.getElem_of_mem him
    have hjt : t < j := by
      rcases Nat.lt_trichotomy j t with h1 | h1 | h1
      · exact absurd (by rw [← e]; exact List.mem_take_iff_getElem.2 ⟨j, by omega, rfl⟩) hnt
      · subst h1; exact absurd (e.symm.trans hpe) hne
      · exact h1
    have := (List.pairwise_iff_getElem.1 h.1) t j (by omega) hj hjt
    rw [hpe, e] at this
    exact this
  refine ⟨p, hp, hpn, ⟨?_, ?_⟩, ?_⟩
  · have := hget p hpn
    rw [if_neg hpt] at this
    rw [← this]
    simp only [List.getD]
    rw [List.getElem?_eq_getElem (by omega)]
    exact List.getElem_mem _
  · intro y hy
    obtain ⟨i, hi, e⟩ := List.getElem_of_mem hy
    have h1 := hget i (by omega)
    have h2 : (marks ((List.range n).map f) (s.take t)).getD i 0 = y := by
      simp only [List.getD]
      rw [List.getElem?_eq_getElem hi, e]
      rfl
    rw [h2] at h1
    have h3 := hf p hpn
    by_cases hm : i ∈ s.take t
    · rw [if_pos hm] at h1; omega
    · rw [if_neg hm] at h1
      by_cases hip : i = p
      · subst hip; omega
      · rcases hrest i (by omega) hm hip with h4 | ⟨h4, _⟩ <;> omega
  · have := idxP_eq (fun y => f p == y) (marks ((List.range n).map f) (s.take t)) 0 p (by omega) (by rw [hget p hpn, if_neg hpt]; simp) (fun j hj => ?_)
    · simpa using this
    · rw [hget j (by omega)]
      have h3 := hf p hpn
      by_cases hm : j ∈ s.take t
      · rw [if_pos hm]
        simp
        omega
      · rw [if_neg hm]
        rcases hrest j (by omega) hm (by omega) with h4 | ⟨h4, h5⟩
        · simp
          omega
        · omega

end Go.Proofs.YtkchninlhemioaaGreatDoor

/- slices.SortStableFunc over few numbers: the insertion sort. -/
namespace Go.Proofs.YtkchninlhemioaaGreatDoor
set_option linter.unusedVariables false
set_option linter.unusedSimpArgs false
open Go.RowKit
attribute [local go_sem ↓] Go.wp_at_zero Go.wp_at_succ

def natsV (l : List Nat) : List Value := l.map fun (x : Nat) => Value.int .i64 (x : Int)
theorem natsV_get (l : List Nat) (i : Nat) (h : i < l.length) : (natsV l)[i]? = some (.int .i64 (l[i] : Int)) := by simp [natsV, h]
theorem natsV_len (l : List Nat) : (natsV l).length = l.length := by simp [natsV]
/-- s with x put in at place j, and r behind it. -/
def put (s : List Nat) (x j : Nat) (r : List Nat) : List Nat := s.take j ++ x :: s.drop j ++ r
theorem put_len (s : List Nat) (x j : Nat) (r : List Nat) (h : j ≤ s.length) : (put s x j r).length = s.length + 1 + r.length := by
  unfold put
  simp
  omega
theorem put_at {s : List Nat} {x j : Nat} {r : List Nat} (h : j ≤ s.length) : (natsV (put s x j r))[j]? = some (.int .i64 (x : Int)) := by
  unfold natsV put
  simp [List.getElem?_append, Nat.min_eq_left h]
theorem put_before {s : List Nat} {x j y : Nat} {r : List Nat} (h : j + 1 ≤ s.length) (hy : s[j]? = some y) : (natsV (put s x (j + 1) r))[j]? = some (.int .i64 (y : Int)) := by
  unfold natsV put
  have hj : j < s.length := by omega
  rw [List.getElem?_eq_getElem hj] at hy
  injection hy with hy
  simp [List.getElem?_append, List.getElem?_take, Nat.min_eq_left h, hy]
theorem put_swap {s : List Nat} {x j y : Nat} {r : List Nat} (h : j + 1 ≤ s.length) (hy : s[j]? = some y) : ((natsV (put s x (j + 1) r)).set (j + 1) (.int .i64 (y : Int))).set j (.int .i64 (x : Int)) = natsV (put s x j r) := by
  have e1 : s.take (j + 1) = s.take j ++ [y] := by
    rw [List.take_add_one, hy]
    rfl
  have e2 : s.drop j = y :: s.drop (j + 1) := by
    have hj : j < s.length := by omega
    rw [List.drop_eq_getElem_cons hj]
    rw [List.getElem?_eq_getElem hj] at hy
    injection hy with hy
    rw [hy]
  have hl : (s.take j).length = j := by simp; omega
  unfold put
  rw [e1, e2]
  unfold natsV
  simp only [List.map_append, List.map_cons, List.map_nil, List.append_assoc, List.cons_append, List.nil_append]
  generalize hA : (s.take j).map (fun (x : Nat) => Value.int .i64 (x : Int)) = A
  have hAl : A.length = j := by rw [← hA]; simpa using hl
  rw [List.set_append_right _ _ (by omega), List.set_append_right _ _ (by omega), hAl]
  simp

def InsRel (w : World) (base g cap n : Nat) (f : Nat → Int) (gk : Nat) (i : Value) (wr : World) : Prop :=
  ∃ (k : Nat) (s : List Nat), n - k = gk ∧ 1 ≤ k ∧ (k ≤ n ∨ n = 0) ∧ i = .int .i64 (k : Int) ∧ IsOrd f k s ∧ wr.ownsRow base 3 1 (.slice (some ⟨g, 0, none⟩) n cap) n (natsV (s ++ (List.range n).drop k)) ∧ Mod (fun j => j = g) w wr
def InsIn (w : World) (base g cap n : Nat) (f : Nat → Int) (k : Nat) (s : List Nat) (gk : Nat) (j : Value) (wr : World) : Prop :=
  ∃ m : Nat, m = gk ∧ m ≤ k ∧ j = .int .i64 (m : Int) ∧ (∀ y ∈ s.drop m, f y < f k) ∧ wr.ownsRow base 3 1 (.slice (some ⟨g, 0, none⟩) n cap) n (natsV (put s k m ((List.range n).drop (k + 1)))) ∧ Mod (fun j => j = g) w wr
def SortPost (w : World) (base g cap n : Nat) (f : Nat → Int) (e : Ending) (w' : World) : Prop :=
  ∃ s, IsOrd f n s ∧ e = .returned (.tuple #[]) ∧ w'.ownsRow base 3 1 (.slice (some ⟨g, 0, none⟩) n cap) n (natsV s) ∧ Mod (fun j => j = g) w w'
theorem range_drop {n k : Nat} (h : k < n) : (List.range n).drop k = k :: (List.range n).drop (k + 1) := by
  rw [List.drop_eq_getElem_cons (by simpa using h)]
  simp

set_option maxRecDepth 100000 in
set_option maxHeartbeats 4000000 in
theorem insSort_calls (w : World) (base g cap n F : Nat) (c1 c2 c3 : Value) (f : Nat → Int) (hn : 1 ≤ n) (hn2 : n ≤ 1000) (hf : ∀ i, i < n → 0 ≤ f i ∧ f i ≤ 1000000000)
    (hown : w.ownsRow base 3 1 (.slice (some ⟨g, 0, none⟩) n cap) n (natsV (List.range n)))
    (hcf : ∀ (x y : Int) (W : World), Sem.run Tryz.prog (callFunc F #[.int .i64 x, .int .i64 y, c1, c2, c3]) W = .ok (.enter F #[.int .i64 x, .int .i64 y, c1, c2, c3]) W)
    (hF : ∀ (x y : Nat) (W : World), x < n → y < n → Mod (fun j => j = g) w W → Calls Tryz.prog F #[.int .i64 (x : Int), .int .i64 (y : Int), c1, c2, c3] W (IntPost W (f y - f x))) :
    Calls Tryz.prog 129 #[.slice (some ⟨g, 0, none⟩) n cap, .int .i64 0, .int .i64 (n : Int), .func (.func F) #[] #[c1, c2, c3]] w (SortPost w base g cap n f) := by
  have HF := Lib.hid hF
  have HFB := Lib.hid hf
  have hcapn : n ≤ cap := by
    rcases hown.2 with ⟨h, _⟩ | ⟨g', cap', cur, h, _, _, hc, _⟩
    · cases h
    · injection h with _ _ h3
      omega
  clear hF hf
  go_enter Tryz.func129, Tryz.ntmps129
  go_wp2_with fail
  go_loopg [8] (n - 1) (fun gk i wr => InsRel w base g cap n f gk i wr)
  case atStart =>
    refine ⟨1, [0], rfl, by omega, .inl hn, rfl, ⟨List.pairwise_singleton _ _, List.Perm.refl _⟩, ?_, Mod.refl _ _⟩
    rw [show [0] ++ (List.range n).drop 1 = List.range n by rw [List.singleton_append, ← range_drop hn]; rfl]
    exact hown
  case round =>
    obtain ⟨k, s, rfl, hk1, hk2, rfl, hord, hown2, hm⟩ := hrel
    have hkn : k ≤ n := by omega
    have hsl := hord.len
    have HORD := Lib.hid hord
    clear hord hk2
    by_cases hlt : k < n
    · have hown3 : wr.ownsRow base 3 1 (.slice (some ⟨g, 0, none⟩) n cap) n (natsV (put s k k ((List.range n).drop (k + 1)))) := by
        have e : put s k k ((List.range n).drop (k + 1)) = s ++ (List.range n).drop k := by
          unfold put
          rw [range_drop hlt, List.take_of_length_le (by omega), List.drop_of_length_le (by omega)]
          simp
        rw [e]
        exact hown2
      have HSL := Lib.hid hsl
      clear hown2 hsl
      go_wp2_with fail
      obtain ⟨wo, rfl⟩ : ∃ wo : World, wo = wr := ⟨_, rfl⟩
      go_loopg [9] k (fun gk j wr => InsIn w base g cap n f k s gk j wr)
      case atStart => exact ⟨k, rfl, by omega, rfl, fun y hy => (by rw [List.drop_of_length_le (by rw [HSL.out]; omega)] at hy; cases hy), hown3, hm⟩
      case round =>
        clear hown3 hm
        obtain ⟨m, rfl, hmk, rfl, hgt, hown4, hm⟩ := hrel
        have HGT := Lib.hid hgt
        clear hgt
        by_cases h0 : m = 0
        · subst h0
          go_wp2_with fail
          have HGs := Lib.hid (show ∀ (D : Nat → Bool) (i : Nat) (zq zq' : World), (fun _ zq => (fun _ => True) zq) D zq → Mod (fun _ => False) zq zq' → (fun _ zq => (fun _ => True) zq) (upd D i true) zq' from by intro D i zq zq' h hm; (exact h))
          refine wp_region_inv (by kernel_rfl) (by kernel_rfl) (InvF (R := Mod (fun _ => False)) [.is (.int .i64 0),
              .is (.int .i64 0),
              .is (.bool false),
              .is (.bool false),
              .is (undef),
              .is (undef),
              .is (undef),
              .is (undef),
              .is (undef),
              .is (undef),
              .is (undef),
              .is (undef),
              .is (undef),
              .is (undef),
              .is (undef),
              .is (undef),
              .is (.bool false)]
              (PB wr (fun _ => False) wr.heap.size (fun _ zq => (fun _ => True) zq))) (InvF.start (PB.start (Mod.refl _ _) (Nat.le_refl _) (trivial))) ?_ ?_
          · refine .cons ?_ (.cons ?_ (.cons ?_ (.cons ?_ (.cons ?_ (.cons ?_ (.cons ?_ (.cons ?_ (.cons ?_ (.cons ?_ (.cons ?_ (.cons ?_ (.cons ?_ (.cons ?_ (.cons ?_ (.cons ?_ (.cons ?_ .nil))))))))))))))))
            · intro D V zw1 a hR hI K hK   -- 0: Op.move (Operand.tmp 9)
              obtain ⟨hM1, hB1, hG1⟩ := hI.1
              have ze9 := hR.frame.other (t := 9) (by kernel_rfl) rfl
              rw [if_pos (by rfl)]
              go_simp
              exact hK (.int .i64 0) _ (hI.next hR (by kernel_rfl) (Mod.refl _ _) (PB.quiet hI.1 (Mod.refl _ _) (HGs.out D 0 zw1 zw1 (hI.1).g (Mod.refl _ _))) (upd_same V 0 _))
            · intro D V zw1 a hR hI K hK   -- 1: Op.move (Operand.tmp 1)
              obtain ⟨hM1, hB1, hG1⟩ := hI.1
              have ze1 := hR.frame.other (t := 1) (by kernel_rfl) rfl
              rw [if_pos (by rfl)]
              go_simp
              exact hK (.int .i64 0) _ (hI.next hR (by kernel_rfl) (Mod.refl _ _) (PB.quiet hI.1 (Mod.refl _ _) (HGs.out D 1 zw1 zw1 (hI.1).g (Mod.refl _ _))) (upd_same V 1 _))
            · intro D V zw1 a hR hI K hK   -- 2: Op.binOp BinOp.gtr 3 (Operand.tmp 18) (Operand.tmp 19) 3
              obtain ⟨hM1, hB1, hG1⟩ := hI.1
              have zd0 := hR.pred 0 (by kernel_rfl)
              have zF0 : V 0 = .int .i64 0 := hI.2 0 zd0 rfl
              have zf0 := zF0; clear zF0
              have zd1 := hR.pred 1 (by kernel_rfl)
              have zF1 : V 1 = .int .i64 0 := hI.2 1 zd1 rfl
              have zf1 := zF1; clear zF1
              have ze18 := hR.frame.done (t := 18) (j := 0) (by kernel_rfl) hR.ok zd0
              have ze19 := hR.frame.done (t := 19) (j := 1) (by kernel_rfl) hR.ok zd1
              rw [if_pos (by rfl)]
              go_simp
              exact hK (.bool false) _ (hI.next hR (by kernel_rfl) (Mod.refl _ _) (PB.quiet hI.1 (Mod.refl _ _) (HGs.out D 2 zw1 zw1 (hI.1).g (Mod.refl _ _))) (upd_same V 2 _))
            · intro D V zw1 a hR hI K hK   -- 3: Op.move (Operand.tmp 20)
              obtain ⟨hM1, hB1, hG1⟩ := hI.1
              have zd2 := hR.pred 2 (by kernel_rfl)
              have zF2 : V 2 = .bool false := hI.2 2 zd2 rfl
              have zf2 := zF2; clear zF2
              have ze20 := hR.frame.done (t := 20) (j := 2) (by kernel_rfl) hR.ok zd2
              rw [if_pos (by rfl)]
              go_simp
              exact hK (.bool false) _ (hI.next hR (by kernel_rfl) (Mod.refl _ _) (PB.quiet hI.1 (Mod.refl _ _) (HGs.out D 3 zw1 zw1 (hI.1).g (Mod.refl _ _))) (upd_same V 3 _))
            · intro D V zw1 a hR hI K hK   -- 4: Op.move (Operand.tmp 3)
              obtain ⟨hM1, hB1, hG1⟩ := hI.1
              have zd3 := hR.pred 3 (by kernel_rfl)
              have zF3 : V 3 = .bool false := hI.2 3 zd3 rfl
              have zf3 := zF3; clear zF3
              have ze21 := hR.frame.done (t := 21) (j := 3) (by kernel_rfl) hR.ok zd3
              rw [if_neg (by simp [Region.wanted, yielded, ze21, zf3])]
              exact hK undef _ (hI.next hR (by kernel_rfl) (Mod.refl _ _) (PB.quiet hI.1 (Mod.refl _ _) (HGs.out D 4 zw1 zw1 (hI.1).g (Mod.refl _ _))) (upd_same V 4 _))
            · intro D V zw1 a hR hI K hK   -- 5: Op.move (Operand.tmp 0)
              obtain ⟨hM1, hB1, hG1⟩ := hI.1
              have zd3 := hR.pred 3 (by kernel_rfl)
              have zF3 : V 3 = .bool false := hI.2 3 zd3 rfl
              have zf3 := zF3; clear zF3
              have ze21 := hR.frame.done (t := 21) (j := 3) (by kernel_rfl) hR.ok zd3
              rw [if_neg (by simp [Region.wanted, yielded, ze21, zf3])]
              exact hK undef _ (hI.next hR (by kernel_rfl) (Mod.refl _ _) (PB.quiet hI.1 (Mod.refl _ _) (HGs.out D 5 zw1 zw1 (hI.1).g (Mod.refl _ _))) (upd_same V 5 _))
            · intro D V zw1 a hR hI K hK   -- 6: Op.move (Operand.tmp 9)
              obtain ⟨hM1, hB1, hG1⟩ := hI.1
              have zd3 := hR.pred 3 (by kernel_rfl)
              have zF3 : V 3 = .bool false := hI.2 3 zd3 rfl
              have zf3 := zF3; clear zF3
              have ze21 := hR.frame.done (t := 21) (j := 3) (by kernel_rfl) hR.ok zd3
              rw [if_neg (by simp [Region.wanted, yielded, ze21, zf3])]
              exact hK undef _ (hI.next hR (by kernel_rfl) (Mod.refl _ _) (PB.quiet hI.1 (Mod.refl _ _) (HGs.out D 6 zw1 zw1 (hI.1).g (Mod.refl _ _))) (upd_same V 6 _))
            · intro D V zw1 a hR hI K hK   -- 7: Op.indexAddr 22 (Operand.tmp 23) (Operand.tmp 24)
              obtain ⟨hM1, hB1, hG1⟩ := hI.1
              have zd3 := hR.pred 3 (by kernel_rfl)
              have zF3 : V 3 = .bool false := hI.2 3 zd3 rfl
              have zf3 := zF3; clear zF3
              have ze21 := hR.frame.done (t := 21) (j := 3) (by kernel_rfl) hR.ok zd3
              rw [if_neg (by simp [Region.wanted, yielded, ze21, zf3])]
              exact hK undef _ (hI.next hR (by kernel_rfl) (Mod.refl _ _) (PB.quiet hI.1 (Mod.refl _ _) (HGs.out D 7 zw1 zw1 (hI.1).g (Mod.refl _ _))) (upd_same V 7 _))
            · intro D V zw1 a hR hI K hK   -- 8: Op.load 3 (Operand.tmp 25)
              obtain ⟨hM1, hB1, hG1⟩ := hI.1
              have zd3 := hR.pred 3 (by kernel_rfl)
              have zF3 : V 3 = .bool false := hI.2 3 zd3 rfl
              have zf3 := zF3; clear zF3
              have ze21 := hR.frame.done (t := 21) (j := 3) (by kernel_rfl) hR.ok zd3
              rw [if_neg (by simp [Region.wanted, yielded, ze21, zf3])]
              exact hK undef _ (hI.next hR (by kernel_rfl) (Mod.refl _ _) (PB.quiet hI.1 (Mod.refl _ _) (HGs.out D 8 zw1 zw1 (hI.1).g (Mod.refl _ _))) (upd_same V 8 _))
            · intro D V zw1 a hR hI K hK   -- 9: Op.move (Operand.tmp 0)
              obtain ⟨hM1, hB1, hG1⟩ := hI.1
              have zd3 := hR.pred 3 (by kernel_rfl)
              have zF3 : V 3 = .bool false := hI.2 3 zd3 rfl
              have zf3 := zF3; clear zF3
              have ze21 := hR.frame.done (t := 21) (j := 3) (by kernel_rfl) hR.ok zd3
              rw [if_neg (by simp [Region.wanted, yielded, ze21, zf3])]
              exact hK undef _ (hI.next hR (by kernel_rfl) (Mod.refl _ _) (PB.quiet hI.1 (Mod.refl _ _) (HGs.out D 9 zw1 zw1 (hI.1).g (Mod.refl _ _))) (upd_same V 9 _))
            · intro D V zw1 a hR hI K hK   -- 10: Op.move (Operand.tmp 9)
              obtain ⟨hM1, hB1, hG1⟩ := hI.1
              have zd3 := hR.pred 3 (by kernel_rfl)
              have zF3 : V 3 = .bool false := hI.2 3 zd3 rfl
              have zf3 := zF3; clear zF3
              have ze21 := hR.frame.done (t := 21) (j := 3) (by kernel_rfl) hR.ok zd3
              rw [if_neg (by simp [Region.wanted, yielded, ze21, zf3])]
              exact hK undef _ (hI.next hR (by kernel_rfl) (Mod.refl _ _) (PB.quiet hI.1 (Mod.refl _ _) (HGs.out D 10 zw1 zw1 (hI.1).g (Mod.refl _ _))) (upd_same V 10 _))
            · intro D V zw1 a hR hI K hK   -- 11: Op.binOp BinOp.sub 3 (Operand.tmp 28) (Operand.const (Value.int IntKin
              obtain ⟨hM1, hB1, hG1⟩ := hI.1
              have zd3 := hR.pred 3 (by kernel_rfl)
              have zF3 : V 3 = .bool false := hI.2 3 zd3 rfl
              have zf3 := zF3; clear zF3
              have ze21 := hR.frame.done (t := 21) (j := 3) (by kernel_rfl) hR.ok zd3
              rw [if_neg (by simp [Region.wanted, yielded, ze21, zf3])]
              exact hK undef _ (hI.next hR (by kernel_rfl) (Mod.refl _ _) (PB.quiet hI.1 (Mod.refl _ _) (HGs.out D 11 zw1 zw1 (hI.1).g (Mod.refl _ _))) (upd_same V 11 _))
            · intro D V zw1 a hR hI K hK   -- 12: Op.indexAddr 22 (Operand.tmp 27) (Operand.tmp 29)
              obtain ⟨hM1, hB1, hG1⟩ := hI.1
              have zd3 := hR.pred 3 (by kernel_rfl)
              have zF3 : V 3 = .bool false := hI.2 3 zd3 rfl
              have zf3 := zF3; clear zF3
              have ze21 := hR.frame.done (t := 21) (j := 3) (by kernel_rfl) hR.ok zd3
              rw [if_neg (by simp [Region.wanted, yielded, ze21, zf3])]
              exact hK undef _ (hI.next hR (by kernel_rfl) (Mod.refl _ _) (PB.quiet hI.1 (Mod.refl _ _) (HGs.out D 12 zw1 zw1 (hI.1).g (Mod.refl _ _))) (upd_same V 12 _))
            · intro D V zw1 a hR hI K hK   -- 13: Op.load 3 (Operand.tmp 30)
              obtain ⟨hM1, hB1, hG1⟩ := hI.1
              have zd3 := hR.pred 3 (by kernel_rfl)
              have zF3 : V 3 = .bool false := hI.2 3 zd3 rfl
              have zf3 := zF3; clear zF3
              have ze21 := hR.frame.done (t := 21) (j := 3) (by kernel_rfl) hR.ok zd3
              rw [if_neg (by simp [Region.wanted, yielded, ze21, zf3])]
              exact hK undef _ (hI.next hR (by kernel_rfl) (Mod.refl _ _) (PB.quiet hI.1 (Mod.refl _ _) (HGs.out D 13 zw1 zw1 (hI.1).g (Mod.refl _ _))) (upd_same V 13 _))
            · intro D V zw1 a hR hI K hK   -- 14: Op.call { callee := Callee.value (Operand.tmp 22), args := #[Operand.t
              obtain ⟨hM1, hB1, hG1⟩ := hI.1
              have zd3 := hR.pred 3 (by kernel_rfl)
              have zF3 : V 3 = .bool false := hI.2 3 zd3 rfl
              have zf3 := zF3; clear zF3
              have ze21 := hR.frame.done (t := 21) (j := 3) (by kernel_rfl) hR.ok zd3
              rw [if_neg (by simp [Region.wanted, yielded, ze21, zf3])]
              exact hK undef _ (hI.next hR (by kernel_rfl) (Mod.refl _ _) (PB.quiet hI.1 (Mod.refl _ _) (HGs.out D 14 zw1 zw1 (hI.1).g (Mod.refl _ _))) (upd_same V 14 _))
            · intro D V zw1 a hR hI K hK   -- 15: Op.binOp BinOp.lss 3 (Operand.tmp 32) (Operand.const (Value.int IntKin
              obtain ⟨hM1, hB1, hG1⟩ := hI.1
              have zd3 := hR.pred 3 (by kernel_rfl)
              have zF3 : V 3 = .bool false := hI.2 3 zd3 rfl
              have zf3 := zF3; clear zF3
              have ze21 := hR.frame.done (t := 21) (j := 3) (by kernel_rfl) hR.ok zd3
              rw [if_neg (by simp [Region.wanted, yielded, ze21, zf3])]
              exact hK undef _ (hI.next hR (by kernel_rfl) (Mod.refl _ _) (PB.quiet hI.1 (Mod.refl _ _) (HGs.out D 15 zw1 zw1 (hI.1).g (Mod.refl _ _))) (upd_same V 15 _))
            · intro D V zw1 a hR hI K hK   -- 16: Op.pick (Operand.tmp 21) (Operand.tmp 33) (Operand.const (Value.bool f
              obtain ⟨hM1, hB1, hG1⟩ := hI.1
              have zd3 := hR.pred 3 (by kernel_rfl)
              have zF3 : V 3 = .bool false := hI.2 3 zd3 rfl
              have zf3 := zF3; clear zF3
              have zd15 := hR.pred 15 (by kernel_rfl)
              have zF15 : V 15 = undef := hI.2 15 zd15 rfl
              have zf15 := zF15; clear zF15
              have ze21 := hR.frame.done (t := 21) (j := 3) (by kernel_rfl) hR.ok zd3
              have ze33 := hR.frame.done (t := 33) (j := 15) (by kernel_rfl) hR.ok zd15
              rw [if_pos (by rfl)]
              go_simp
              exact hK (.bool false) _ (hI.next hR (by kernel_rfl) (Mod.refl _ _) (PB.quiet hI.1 (Mod.refl _ _) (HGs.out D 16 zw1 zw1 (hI.1).g (Mod.refl _ _))) (upd_same V 16 _))
          · intro D V w2 hD hI
            obtain ⟨hM1, hB1, hG1⟩ := hI.1
            have hMx := hM1
            clear hM1
            have hBx := hB1
            clear hB1
            clear hG1
            have zF0 : V 0 = .int .i64 0 := hI.2 0 (hD 0 (by decide)) rfl
            have zf0 := zF0; clear zF0
            have zF1 : V 1 = .int .i64 0 := hI.2 1 (hD 1 (by decide)) rfl
            have zf1 := zF1; clear zF1
            have zF2 : V 2 = .bool false := hI.2 2 (hD 2 (by decide)) rfl
            have zf2 := zF2; clear zF2
            have zF3 : V 3 = .bool false := hI.2 3 (hD 3 (by decide)) rfl
            have zf3 := zF3; clear zF3
            have zF4 : V 4 = undef := hI.2 4 (hD 4 (by decide)) rfl
            have zf4 := zF4; clear zF4
            have zF5 : V 5 = undef := hI.2 5 (hD 5 (by decide)) rfl
            have zf5 := zF5; clear zF5
            have zF6 : V 6 = undef := hI.2 6 (hD 6 (by decide)) rfl
            have zf6 := zF6; clear zF6
            have zF7 : V 7 = undef := hI.2 7 (hD 7 (by decide)) rfl
            have zf7 := zF7; clear zF7
            have zF8 : V 8 = undef := hI.2 8 (hD 8 (by decide)) rfl
            have zf8 := zF8; clear zF8
            have zF9 : V 9 = undef := hI.2 9 (hD 9 (by decide)) rfl
            have zf9 := zF9; clear zF9
            have zF10 : V 10 = undef := hI.2 10 (hD 10 (by decide)) rfl
            have zf10 := zF10; clear zF10
            have zF11 : V 11 = undef := hI.2 11 (hD 11 (by decide)) rfl
            have zf11 := zF11; clear zF11
            have zF12 : V 12 = undef := hI.2 12 (hD 12 (by decide)) rfl
            have zf12 := zF12; clear zF12
            have zF13 : V 13 = undef := hI.2 13 (hD 13 (by decide)) rfl
            have zf13 := zF13; clear zF13
            have zF14 : V 14 = undef := hI.2 14 (hD 14 (by decide)) rfl
            have zf14 := zF14; clear zF14
            have zF15 : V 15 = undef := hI.2 15 (hD 15 (by decide)) rfl
            have zf15 := zF15; clear zF15
            have zF16 : V 16 = .bool false := hI.2 16 (hD 16 (by decide)) rfl
            have zf16 := zF16; clear zF16
            clear hI hD HGs
            simp only [frAll, Act.put, List.setIfInBounds_toArray, List.set_cons_zero, List.set_cons_succ, Nat.zero_add, Nat.reduceAdd, zf0, zf1, zf2, zf3, zf4, zf5, zf6, zf7, zf8, zf9, zf10, zf11, zf12, zf13, zf14, zf15, zf16]
            clear zf0 zf1 zf2 zf3 zf4 zf5 zf6 zf7 zf8 zf9 zf10 zf11 zf12 zf13 zf14 zf15 zf16
            clear V D
            have m2 : Mod (fun j => j = g) w w2 := hm.trans (Mod.of_pure hMx)
            have hown5 := own_pure hown4 hMx
            clear hown4 hm hMx
            go_wp2_with fail
            go_roundg (n - (k + 1))
            case measure => omega
            case rel => exact ⟨k + 1, k :: s, rfl, by omega, .inl (by omega), by simp, HORD.out.insert 0 (by omega) HGT.out (fun y h => absurd h (by omega)), hown5, m2⟩
        · obtain ⟨m, rfl⟩ : ∃ m', m = m' + 1 := ⟨m - 1, by omega⟩
          obtain ⟨y, hy⟩ : ∃ y, s[m]? = some y := ⟨s[m]'(by rw [HSL.out]; omega), List.getElem?_eq_getElem _⟩
          have hyn : y < n := by
            have : y < k := HORD.out.lt (List.mem_of_getElem? hy)
            omega
          have z1 := (hown4.cellAt (m + 1) (by omega)).trans (put_at (by rw [HSL.out]; omega))
          have z0 := (hown4.cellAt m (by omega)).trans (put_before (by rw [HSL.out]; omega) hy)
          have y1 := hown4.frozenAt (m + 1)
          have y0 := hown4.frozenAt m
          have HY := Lib.hid hy
          obtain ⟨fb1, fb2⟩ := HFB.out y hyn
          obtain ⟨fb3, fb4⟩ := HFB.out k hlt
          have e1 : IntKind.i64.wrap ((m : Int) + 1 - 1) = (m : Int) := by rw [Int.add_sub_cancel]; exact IntWalk.i64_in _ (by omega)
          have e2 : IntKind.i64.wrap (m : Int) = (m : Int) := IntWalk.i64_in _ (by omega)
          have j1 : (0 : Int) ≤ (m : Int) + 1 := by omega
          have j2 : (m : Int) + 1 < (n : Int) := by omega
          have j3 : (0 : Int) ≤ (m : Int) := by omega
          have j4 : (m : Int) < (n : Int) := by omega
          clear hy h0
          go_wp2_with fail
          have HGs := Lib.hid (show ∀ (D : Nat → Bool) (i : Nat) (zq zq' : World), (fun _ zq => (fun w => w.cell? ⟨g, m + 1, none⟩ = some (.int .i64 (k : Int)) ∧ w.cell? ⟨g, m, none⟩ = some (.int .i64 (y : Int))) zq) D zq → Mod (fun _ => False) zq zq' → (fun _ zq => (fun w => w.cell? ⟨g, m + 1, none⟩ = some (.int .i64 (k : Int)) ∧ w.cell? ⟨g, m, none⟩ = some (.int .i64 (y : Int))) zq) (upd D i true) zq' from by intro D i zq zq' h hm; (exact ⟨hm.keep h.1 id, hm.keep h.2 id⟩))
          refine wp_region_inv (by kernel_rfl) (by kernel_rfl) (InvF (R := Mod (fun _ => False)) [.is (.int .i64 ((m : Int) + 1)),
              .is (.int .i64 0),
              .is (.bool true),
              .is (.bool true),
              .is (.func (.func F) #[] #[c1, c2, c3]),
              .is (.slice (some ⟨g, 0, none⟩) n cap),
              .is (.int .i64 ((m : Int) + 1)),
              .is (.pointer (some ⟨g, m + 1, none⟩)),
              .is (.int .i64 (k : Int)),
              .is (.slice (some ⟨g, 0, none⟩) n cap),
              .is (.int .i64 ((m : Int) + 1)),
              .is (.int .i64 (m : Int)),
              .is (.pointer (some ⟨g, m, none⟩)),
              .is (.int .i64 (y : Int)),
              .is (.int .i64 (f y - f k)),
              .is (.bool (decide (f y - f k < 0))),
              .is (.bool (decide (f y - f k < 0)))]
              (PB wr (fun _ => False) wr.heap.size (fun _ zq => (fun w => w.cell? ⟨g, m + 1, none⟩ = some (.int .i64 (k : Int)) ∧ w.cell? ⟨g, m, none⟩ = some (.int .i64 (y : Int))) zq))) (InvF.start (PB.start (Mod.refl _ _) (Nat.le_refl _) (⟨z1, z0⟩))) ?_ ?_
          · refine .cons ?_ (.cons ?_ (.cons ?_ (.cons ?_ (.cons ?_ (.cons ?_ (.cons ?_ (.cons ?_ (.cons ?_ (.cons ?_ (.cons ?_ (.cons ?_ (.cons ?_ (.cons ?_ (.cons ?_ (.cons ?_ (.cons ?_ .nil))))))))))))))))
            · intro D V zw1 a hR hI K hK   -- 0: Op.move (Operand.tmp 9)
              obtain ⟨hM1, hB1, hG1⟩ := hI.1
              obtain ⟨hG1a, hG1b⟩ := hG1
              have ze9 := hR.frame.other (t := 9) (by kernel_rfl) rfl
              rw [if_pos (by rfl)]
              go_simp
              exact hK (.int .i64 ((m : Int) + 1)) _ (hI.next hR (by kernel_rfl) (Mod.refl _ _) (PB.quiet hI.1 (Mod.refl _ _) (HGs.out D 0 zw1 zw1 (hI.1).g (Mod.refl _ _))) (upd_same V 0 _))
            · intro D V zw1 a hR hI K hK   -- 1: Op.move (Operand.tmp 1)
              obtain ⟨hM1, hB1, hG1⟩ := hI.1
              obtain ⟨hG1a, hG1b⟩ := hG1
              have ze1 := hR.frame.other (t := 1) (by kernel_rfl) rfl
              rw [if_pos (by rfl)]
              go_simp
              exact hK (.int .i64 0) _ (hI.next hR (by kernel_rfl) (Mod.refl _ _) (PB.quiet hI.1 (Mod.refl _ _) (HGs.out D 1 zw1 zw1 (hI.1).g (Mod.refl _ _))) (upd_same V 1 _))
            · intro D V zw1 a hR hI K hK   -- 2: Op.binOp BinOp.gtr 3 (Operand.tmp 18) (Operand.tmp 19) 3
              obtain ⟨hM1, hB1, hG1⟩ := hI.1
              obtain ⟨hG1a, hG1b⟩ := hG1
              have zd0 := hR.pred 0 (by kernel_rfl)
              have zF0 : V 0 = .int .i64 ((m : Int) + 1) := hI.2 0 zd0 rfl
              have zf0 := zF0; clear zF0
              have zd1 := hR.pred 1 (by kernel_rfl)
              have zF1 : V 1 = .int .i64 0 := hI.2 1 zd1 rfl
              have zf1 := zF1; clear zF1
              have ze18 := hR.frame.done (t := 18) (j := 0) (by kernel_rfl) hR.ok zd0
              have ze19 := hR.frame.done (t := 19) (j := 1) (by kernel_rfl) hR.ok zd1
              rw [if_pos (by rfl)]
              go_simp
              exact hK (.bool true) _ (hI.next hR (by kernel_rfl) (Mod.refl _ _) (PB.quiet hI.1 (Mod.refl _ _) (HGs.out D 2 zw1 zw1 (hI.1).g (Mod.refl _ _))) (upd_same V 2 _))
            · intro D V zw1 a hR hI K hK   -- 3: Op.move (Operand.tmp 20)
              obtain ⟨hM1, hB1, hG1⟩ := hI.1
              obtain ⟨hG1a, hG1b⟩ := hG1
              have zd2 := hR.pred 2 (by kernel_rfl)
              have zF2 : V 2 = .bool true := hI.2 2 zd2 rfl
              have zf2 := zF2; clear zF2
              have ze20 := hR.frame.done (t := 20) (j := 2) (by kernel_rfl) hR.ok zd2
              rw [if_pos (by rfl)]
              go_simp
              exact hK (.bool true) _ (hI.next hR (by kernel_rfl) (Mod.refl _ _) (PB.quiet hI.1 (Mod.refl _ _) (HGs.out D 3 zw1 zw1 (hI.1).g (Mod.refl _ _))) (upd_same V 3 _))
            · intro D V zw1 a hR hI K hK   -- 4: Op.move (Operand.tmp 3)
              obtain ⟨hM1, hB1, hG1⟩ := hI.1
              obtain ⟨hG1a, hG1b⟩ := hG1
              have zd3 := hR.pred 3 (by kernel_rfl)
              have zF3 : V 3 = .bool true := hI.2 3 zd3 rfl
              have zf3 := zF3; clear zF3
              have ze3 := hR.frame.other (t := 3) (by kernel_rfl) rfl
              have ze21 := hR.frame.done (t := 21) (j := 3) (by kernel_rfl) hR.ok zd3
              rw [if_pos (by simp [Region.wanted, yielded, ze21, zf3])]
              go_simp
              exact hK (.func (.func F) #[] #[c1, c2, c3]) _ (hI.next hR (by kernel_rfl) (Mod.refl _ _) (PB.quiet hI.1 (Mod.refl _ _) (HGs.out D 4 zw1 zw1 (hI.1).g (Mod.refl _ _))) (upd_same V 4 _))
            · intro D V zw1 a hR hI K hK   -- 5: Op.move (Operand.tmp 0)
              obtain ⟨hM1, hB1, hG1⟩ := hI.1
              obtain ⟨hG1a, hG1b⟩ := hG1
              have zd3 := hR.pred 3 (by kernel_rfl)
              have zF3 : V 3 = .bool true := hI.2 3 zd3 rfl
              have zf3 := zF3; clear zF3
              have ze0 := hR.frame.other (t := 0) (by kernel_rfl) rfl
              have ze21 := hR.frame.done (t := 21) (j := 3) (by kernel_rfl) hR.ok zd3
              rw [if_pos (by simp [Region.wanted, yielded, ze21, zf3])]
              go_simp
              exact hK (.slice (some ⟨g, 0, none⟩) n cap) _ (hI.next hR (by kernel_rfl) (Mod.refl _ _) (PB.quiet hI.1 (Mod.refl _ _) (HGs.out D 5 zw1 zw1 (hI.1).g (Mod.refl _ _))) (upd_same V 5 _))
            · intro D V zw1 a hR hI K hK   -- 6: Op.move (Operand.tmp 9)
              obtain ⟨hM1, hB1, hG1⟩ := hI.1
              obtain ⟨hG1a, hG1b⟩ := hG1
              have zd3 := hR.pred 3 (by kernel_rfl)
              have zF3 : V 3 = .bool true := hI.2 3 zd3 rfl
              have zf3 := zF3; clear zF3
              have ze9 := hR.frame.other (t := 9) (by kernel_rfl) rfl
              have ze21 := hR.frame.done (t := 21) (j := 3) (by kernel_rfl) hR.ok zd3
              rw [if_pos (by simp [Region.wanted, yielded, ze21, zf3])]
              go_simp
              exact hK (.int .i64 ((m : Int) + 1)) _ (hI.next hR (by kernel_rfl) (Mod.refl _ _) (PB.quiet hI.1 (Mod.refl _ _) (HGs.out D 6 zw1 zw1 (hI.1).g (Mod.refl _ _))) (upd_same V 6 _))
            · intro D V zw1 a hR hI K hK   -- 7: Op.indexAddr 22 (Operand.tmp 23) (Operand.tmp 24)
              obtain ⟨hM1, hB1, hG1⟩ := hI.1
              obtain ⟨hG1a, hG1b⟩ := hG1
              have zd5 := hR.pred 5 (by kernel_rfl)
              have zF5 : V 5 = .slice (some ⟨g, 0, none⟩) n cap := hI.2 5 zd5 rfl
              have zf5 := zF5; clear zF5
              have zd6 := hR.pred 6 (by kernel_rfl)
              have zF6 : V 6 = .int .i64 ((m : Int) + 1) := hI.2 6 zd6 rfl
              have zf6 := zF6; clear zF6
              have zd3 := hR.pred 3 (by kernel_rfl)
              have zF3 : V 3 = .bool true := hI.2 3 zd3 rfl
              have zf3 := zF3; clear zF3
              have ze23 := hR.frame.done (t := 23) (j := 5) (by kernel_rfl) hR.ok zd5
              have ze24 := hR.frame.done (t := 24) (j := 6) (by kernel_rfl) hR.ok zd6
              have ze21 := hR.frame.done (t := 21) (j := 3) (by kernel_rfl) hR.ok zd3
              rw [if_pos (by simp [Region.wanted, yielded, ze21, zf3])]
              go_simp
              exact hK (.pointer (some ⟨g, m + 1, none⟩)) _ (hI.next hR (by kernel_rfl) (Mod.refl _ _) (PB.quiet hI.1 (Mod.refl _ _) (HGs.out D 7 zw1 zw1 (hI.1).g (Mod.refl _ _))) (upd_same V 7 _))
            · intro D V zw1 a hR hI K hK   -- 8: Op.load 3 (Operand.tmp 25)
              obtain ⟨hM1, hB1, hG1⟩ := hI.1
              obtain ⟨hG1a, hG1b⟩ := hG1
              have zd7 := hR.pred 7 (by kernel_rfl)
              have zF7 : V 7 = .pointer (some ⟨g, m + 1, none⟩) := hI.2 7 zd7 rfl
              have zf7 := zF7; clear zF7
              have zd3 := hR.pred 3 (by kernel_rfl)
              have zF3 : V 3 = .bool true := hI.2 3 zd3 rfl
              have zf3 := zF3; clear zF3
              have ze25 := hR.frame.done (t := 25) (j := 7) (by kernel_rfl) hR.ok zd7
              have ze21 := hR.frame.done (t := 21) (j := 3) (by kernel_rfl) hR.ok zd3
              rw [if_pos (by simp [Region.wanted, yielded, ze21, zf3])]
              go_simp
              exact hK (.int .i64 (k : Int)) _ (hI.next hR (by kernel_rfl) (Mod.refl _ _) (PB.quiet hI.1 (Mod.refl _ _) (HGs.out D 8 zw1 zw1 (hI.1).g (Mod.refl _ _))) (upd_same V 8 _))
            · intro D V zw1 a hR hI K hK   -- 9: Op.move (Operand.tmp 0)
              obtain ⟨hM1, hB1, hG1⟩ := hI.1
              obtain ⟨hG1a, hG1b⟩ := hG1
              have zd3 := hR.pred 3 (by kernel_rfl)
              have zF3 : V 3 = .bool true := hI.2 3 zd3 rfl
              have zf3 := zF3; clear zF3
              have ze0 := hR.frame.other (t := 0) (by kernel_rfl) rfl
              have ze21 := hR.frame.done (t := 21) (j := 3) (by kernel_rfl) hR.ok zd3
              rw [if_pos (by simp [Region.wanted, yielded, ze21, zf3])]
              go_simp
              exact hK (.slice (some ⟨g, 0, none⟩) n cap) _ (hI.next hR (by kernel_rfl) (Mod.refl _ _) (PB.quiet hI.1 (Mod.refl _ _) (HGs.out D 9 zw1 zw1 (hI.1).g (Mod.refl _ _))) (upd_same V 9 _))
            · intro D V zw1 a hR hI K hK   -- 10: Op.move (Operand.tmp 9)
              obtain ⟨hM1, hB1, hG1⟩ := hI.1
              obtain ⟨hG1a, hG1b⟩ := hG1
              have zd3 := hR.pred 3 (by kernel_rfl)
              have zF3 : V 3 = .bool true := hI.2 3 zd3 rfl
              have zf3 := zF3; clear zF3
              have ze9 := hR.frame.other (t := 9) (by kernel_rfl) rfl
              have ze21 := hR.frame.done (t := 21) (j := 3) (by kernel_rfl) hR.ok zd3
              rw [if_pos (by simp [Region.wanted, yielded, ze21, zf3])]
              go_simp
              exact hK (.int .i64 ((m : Int) + 1)) _ (hI.next hR (by kernel_rfl) (Mod.refl _ _) (PB.quiet hI.1 (Mod.refl _ _) (HGs.out D 10 zw1 zw1 (hI.1).g (Mod.refl _ _))) (upd_same V 10 _))
            · intro D V zw1 a hR hI K hK   -- 11: Op.binOp BinOp.sub 3 (Operand.tmp 28) (Operand.const (Value.int IntKin
              obtain ⟨hM1, hB1, hG1⟩ := hI.1
              obtain ⟨hG1a, hG1b⟩ := hG1
              have zd10 := hR.pred 10 (by kernel_rfl)
              have zF10 : V 10 = .int .i64 ((m : Int) + 1) := hI.2 10 zd10 rfl
              have zf10 := zF10; clear zF10
              have zd3 := hR.pred 3 (by kernel_rfl)
              have zF3 : V 3 = .bool true := hI.2 3 zd3 rfl
              have zf3 := zF3; clear zF3
              have ze28 := hR.frame.done (t := 28) (j := 10) (by kernel_rfl) hR.ok zd10
              have ze21 := hR.frame.done (t := 21) (j := 3) (by kernel_rfl) hR.ok zd3
              rw [if_pos (by simp [Region.wanted, yielded, ze21, zf3])]
              go_simp
              exact hK (.int .i64 (m : Int)) _ (hI.next hR (by kernel_rfl) (Mod.refl _ _) (PB.quiet hI.1 (Mod.refl _ _) (HGs.out D 11 zw1 zw1 (hI.1).g (Mod.refl _ _))) (upd_same V 11 _))
            · intro D V zw1 a hR hI K hK   -- 12: Op.indexAddr 22 (Operand.tmp 27) (Operand.tmp 29)
              obtain ⟨hM1, hB1, hG1⟩ := hI.1
              obtain ⟨hG1a, hG1b⟩ := hG1
              have zd9 := hR.pred 9 (by kernel_rfl)
              have zF9 : V 9 = .slice (some ⟨g, 0, none⟩) n cap := hI.2 9 zd9 rfl
              have zf9 := zF9; clear zF9
              have zd11 := hR.pred 11 (by kernel_rfl)
              have zF11 : V 11 = .int .i64 (m : Int) := hI.2 11 zd11 rfl
              have zf11 := zF11; clear zF11
              have zd3 := hR.pred 3 (by kernel_rfl)
              have zF3 : V 3 = .bool true := hI.2 3 zd3 rfl
              have zf3 := zF3; clear zF3
              have ze27 := hR.frame.done (t := 27) (j := 9) (by kernel_rfl) hR.ok zd9
              have ze29 := hR.frame.done (t := 29) (j := 11) (by kernel_rfl) hR.ok zd11
              have ze21 := hR.frame.done (t := 21) (j := 3) (by kernel_rfl) hR.ok zd3
              rw [if_pos (by simp [Region.wanted, yielded, ze21, zf3])]
              go_simp
              exact hK (.pointer (some ⟨g, m, none⟩)) _ (hI.next hR (by kernel_rfl) (Mod.refl _ _) (PB.quiet hI.1 (Mod.refl _ _) (HGs.out D 12 zw1 zw1 (hI.1).g (Mod.refl _ _))) (upd_same V 12 _))
            · intro D V zw1 a hR hI K hK   -- 13: Op.load 3 (Operand.tmp 30)
              obtain ⟨hM1, hB1, hG1⟩ := hI.1
              obtain ⟨hG1a, hG1b⟩ := hG1
              have zd12 := hR.pred 12 (by kernel_rfl)
              have zF12 : V 12 = .pointer (some ⟨g, m, none⟩) := hI.2 12 zd12 rfl
              have zf12 := zF12; clear zF12
              have zd3 := hR.pred 3 (by kernel_rfl)
              have zF3 : V 3 = .bool true := hI.2 3 zd3 rfl
              have zf3 := zF3; clear zF3
              have ze30 := hR.frame.done (t := 30) (j := 12) (by kernel_rfl) hR.ok zd12
              have ze21 := hR.frame.done (t := 21) (j := 3) (by kernel_rfl) hR.ok zd3
              rw [if_pos (by simp [Region.wanted, yielded, ze21, zf3])]
              go_simp
              exact hK (.int .i64 (y : Int)) _ (hI.next hR (by kernel_rfl) (Mod.refl _ _) (PB.quiet hI.1 (Mod.refl _ _) (HGs.out D 13 zw1 zw1 (hI.1).g (Mod.refl _ _))) (upd_same V 13 _))
            · intro D V zw1 a hR hI K hK   -- 14: Op.call { callee := Callee.value (Operand.tmp 22), args := #[Operand.t
              obtain ⟨hM1, hB1, hG1⟩ := hI.1
              obtain ⟨hG1a, hG1b⟩ := hG1
              have zd4 := hR.pred 4 (by kernel_rfl)
              have zF4 : V 4 = .func (.func F) #[] #[c1, c2, c3] := hI.2 4 zd4 rfl
              have zf4 := zF4; clear zF4
              have zd8 := hR.pred 8 (by kernel_rfl)
              have zF8 : V 8 = .int .i64 (k : Int) := hI.2 8 zd8 rfl
              have zf8 := zF8; clear zF8
              have zd13 := hR.pred 13 (by kernel_rfl)
              have zF13 : V 13 = .int .i64 (y : Int) := hI.2 13 zd13 rfl
              have zf13 := zF13; clear zF13
              have zd3 := hR.pred 3 (by kernel_rfl)
              have zF3 : V 3 = .bool true := hI.2 3 zd3 rfl
              have zf3 := zF3; clear zF3
              have ze22 := hR.frame.done (t := 22) (j := 4) (by kernel_rfl) hR.ok zd4
              have ze26 := hR.frame.done (t := 26) (j := 8) (by kernel_rfl) hR.ok zd8
              have ze31 := hR.frame.done (t := 31) (j := 13) (by kernel_rfl) hR.ok zd13
              have ze21 := hR.frame.done (t := 21) (j := 3) (by kernel_rfl) hR.ok zd3
              rw [if_pos (by simp [Region.wanted, yielded, ze21, zf3])]
              go_simp
              refine (HF.out k y _ hlt hyn (hm.trans (Mod.of_pure hM1))).mono ?_
              rintro e zw2 ⟨rfl, hm2⟩
              exact hK (.int .i64 (f y - f k)) _ (hI.next hR (by kernel_rfl) hm2 (PB.quiet hI.1 hm2 (HGs.out D 14 _ _ (hI.1).g hm2)) (upd_same V 14 _))
            · intro D V zw1 a hR hI K hK   -- 15: Op.binOp BinOp.lss 3 (Operand.tmp 32) (Operand.const (Value.int IntKin
              obtain ⟨hM1, hB1, hG1⟩ := hI.1
              obtain ⟨hG1a, hG1b⟩ := hG1
              have zd14 := hR.pred 14 (by kernel_rfl)
              have zF14 : V 14 = .int .i64 (f y - f k) := hI.2 14 zd14 rfl
              have zf14 := zF14; clear zF14
              have zd3 := hR.pred 3 (by kernel_rfl)
              have zF3 : V 3 = .bool true := hI.2 3 zd3 rfl
              have zf3 := zF3; clear zF3
              have ze32 := hR.frame.done (t := 32) (j := 14) (by kernel_rfl) hR.ok zd14
              have ze21 := hR.frame.done (t := 21) (j := 3) (by kernel_rfl) hR.ok zd3
              rw [if_pos (by simp [Region.wanted, yielded, ze21, zf3])]
              go_simp
              exact hK (.bool (decide (f y - f k < 0))) _ (hI.next hR (by kernel_rfl) (Mod.refl _ _) (PB.quiet hI.1 (Mod.refl _ _) (HGs.out D 15 zw1 zw1 (hI.1).g (Mod.refl _ _))) (upd_same V 15 _))
            · intro D V zw1 a hR hI K hK   -- 16: Op.pick (Operand.tmp 21) (Operand.tmp 33) (Operand.const (Value.bool f
              obtain ⟨hM1, hB1, hG1⟩ := hI.1
              obtain ⟨hG1a, hG1b⟩ := hG1
              have zd3 := hR.pred 3 (by kernel_rfl)
              have zF3 : V 3 = .bool true := hI.2 3 zd3 rfl
              have zf3 := zF3; clear zF3
              have zd15 := hR.pred 15 (by kernel_rfl)
              have zF15 : V 15 = .bool (decide (f y - f k < 0)) := hI.2 15 zd15 rfl
              have zf15 := zF15; clear zF15
              have ze21 := hR.frame.done (t := 21) (j := 3) (by kernel_rfl) hR.ok zd3
              have ze33 := hR.frame.done (t := 33) (j := 15) (by kernel_rfl) hR.ok zd15
              rw [if_pos (by rfl)]
              go_simp
              exact hK (.bool (decide (f y - f k < 0))) _ (hI.next hR (by kernel_rfl) (Mod.refl _ _) (PB.quiet hI.1 (Mod.refl _ _) (HGs.out D 16 zw1 zw1 (hI.1).g (Mod.refl _ _))) (upd_same V 16 _))
          · intro D V w2 hD hI
            obtain ⟨hM1, hB1, hG1⟩ := hI.1
            have hMx := hM1
            clear hM1
            have hBx := hB1
            clear hB1
            have hGx := hG1
            clear hG1
            have zF0 : V 0 = .int .i64 ((m : Int) + 1) := hI.2 0 (hD 0 (by decide)) rfl
            have zf0 := zF0; clear zF0
            have zF1 : V 1 = .int .i64 0 := hI.2 1 (hD 1 (by decide)) rfl
            have zf1 := zF1; clear zF1
            have zF2 : V 2 = .bool true := hI.2 2 (hD 2 (by decide)) rfl
            have zf2 := zF2; clear zF2
            have zF3 : V 3 = .bool true := hI.2 3 (hD 3 (by decide)) rfl
            have zf3 := zF3; clear zF3
            have zF4 : V 4 = .func (.func F) #[] #[c1, c2, c3] := hI.2 4 (hD 4 (by decide)) rfl
            have zf4 := zF4; clear zF4
            have zF5 : V 5 = .slice (some ⟨g, 0, none⟩) n cap := hI.2 5 (hD 5 (by decide)) rfl
            have zf5 := zF5; clear zF5
            have zF6 : V 6 = .int .i64 ((m : Int) + 1) := hI.2 6 (hD 6 (by decide)) rfl
            have zf6 := zF6; clear zF6
            have zF7 : V 7 = .pointer (some ⟨g, m + 1, none⟩) := hI.2 7 (hD 7 (by decide)) rfl
            have zf7 := zF7; clear zF7
            have zF8 : V 8 = .int .i64 (k : Int) := hI.2 8 (hD 8 (by decide)) rfl
            have zf8 := zF8; clear zF8
            have zF9 : V 9 = .slice (some ⟨g, 0, none⟩) n cap := hI.2 9 (hD 9 (by decide)) rfl
            have zf9 := zF9; clear zF9
            have zF10 : V 10 = .int .i64 ((m : Int) + 1) := hI.2 10 (hD 10 (by decide)) rfl
            have zf10 := zF10; clear zF10
            have zF11 : V 11 = .int .i64 (m : Int) := hI.2 11 (hD 11 (by decide)) rfl
            have zf11 := zF11; clear zF11
            have zF12 : V 12 = .pointer (some ⟨g, m, none⟩) := hI.2 12 (hD 12 (by decide)) rfl
            have zf12 := zF12; clear zF12
            have zF13 : V 13 = .int .i64 (y : Int) := hI.2 13 (hD 13 (by decide)) rfl
            have zf13 := zF13; clear zF13
            have zF14 : V 14 = .int .i64 (f y - f k) := hI.2 14 (hD 14 (by decide)) rfl
            have zf14 := zF14; clear zF14
            have zF15 : V 15 = .bool (decide (f y - f k < 0)) := hI.2 15 (hD 15 (by decide)) rfl
            have zf15 := zF15; clear zF15
            have zF16 : V 16 = .bool (decide (f y - f k < 0)) := hI.2 16 (hD 16 (by decide)) rfl
            have zf16 := zF16; clear zF16
            clear hI hD HGs
            simp only [frAll, Act.put, List.setIfInBounds_toArray, List.set_cons_zero, List.set_cons_succ, Nat.zero_add, Nat.reduceAdd, zf0, zf1, zf2, zf3, zf4, zf5, zf6, zf7, zf8, zf9, zf10, zf11, zf12, zf13, zf14, zf15, zf16]
            clear zf0 zf1 zf2 zf3 zf4 zf5 zf6 zf7 zf8 zf9 zf10 zf11 zf12 zf13 zf14 zf15 zf16
            clear V D
            have m2 : Mod (fun j => j = g) w w2 := hm.trans (Mod.of_pure hMx)
            have hown5 := own_pure hown4 hMx
            obtain ⟨q1, q0⟩ := hGx
            have p1 := hown5.frozenAt (m + 1)
            have p0 := hown5.frozenAt m
            clear hown4 hm hMx z1 z0 y1 y0
            by_cases hc : f y < f k
            · rw [decide_eq_true (by omega : f y - f k < 0)]
              go_wp2_with fail
              go_region
              all_goals
                go_wp2_with fail
                go_roundg m
                case measure => omega
                case rel =>
                  have hs1 := (hown5.stored (m + 1) (.int .i64 (y : Int))).1
                  have hs2 := (hs1.stored m (.int .i64 (k : Int))).1
                  rw [put_swap (by rw [HSL.out]; omega) HY.out] at hs2
                  have hm2 : Mod (fun j => j = g) w ((w2.setCell ⟨g, m + 1, none⟩ (.int .i64 (y : Int))).setCell ⟨g, m, none⟩ (.int .i64 (k : Int))) := Mod.setCell (S := fun j => j = g) (p := ⟨g, m, none⟩) (Mod.setCell (S := fun j => j = g) (p := ⟨g, m + 1, none⟩) m2 (.inl rfl) _) (.inl rfl) _
                  refine ⟨m, rfl, by omega, rfl, fun z hz => ?_, hs2.drew, hm2.drew⟩
                  have hml : m < s.length := by rw [HSL.out]; omega
                  rw [List.drop_eq_getElem_cons hml] at hz
                  rcases List.mem_cons.1 hz with h | h
                  · have := HY.out
                    rw [List.getElem?_eq_getElem hml] at this
                    injection this with this
                    rw [h, this]
                    exact hc
                  · exact HGT.out z h
            · rw [decide_eq_false (by omega : ¬ f y - f k < 0)]
              go_wp2_with fail
              go_roundg (n - (k + 1))
              case measure => omega
              case rel => exact ⟨k + 1, _, rfl, by omega, .inl (by omega), by simp, HORD.out.insert (m + 1) (by omega) HGT.out (fun z h hz => by
                rw [Nat.add_sub_cancel, HY.out] at hz
                injection hz with hz
                subst hz
                omega), hown5, m2⟩
    · have hke : k = n := by omega
      subst hke
      have hfin : wr.ownsRow base 3 1 (.slice (some ⟨g, 0, none⟩) k cap) k (natsV s) := by
        have : (List.range k).drop k = [] := List.drop_of_length_le (by simp)
        rw [this, List.append_nil] at hown2
        exact hown2
      clear hown2 hsl
      go_wp2_with fail
      go_end0
      exact ⟨s, HORD.out, rfl, hfin, hm⟩

set_option maxRecDepth 100000 in
set_option maxHeartbeats 1000000 in
theorem stable_calls (w : World) (base g cap n F : Nat) (c1 c2 c3 : Value) (f : Nat → Int) (hn : 1 ≤ n) (hn2 : n < 20) (hf : ∀ i, i < n → 0 ≤ f i ∧ f i ≤ 1000000000)
    (hown : w.ownsRow base 3 1 (.slice (some ⟨g, 0, none⟩) n cap) n (natsV (List.range n)))
    (hcf : ∀ (x y : Int) (W : World), Sem.run Tryz.prog (callFunc F #[.int .i64 x, .int .i64 y, c1, c2, c3]) W = .ok (.enter F #[.int .i64 x, .int .i64 y, c1, c2, c3]) W)
    (hF : ∀ (x y : Nat) (W : World), x < n → y < n → Mod (fun j => j = g) w W → Calls Tryz.prog F #[.int .i64 (x : Int), .int .i64 (y : Int), c1, c2, c3] W (IntPost W (f y - f x))) :
    Calls Tryz.prog 71 #[.slice (some ⟨g, 0, none⟩) n cap, .func (.func F) #[] #[c1, c2, c3]] w (SortPost w base g cap n f) := by
  have H := Lib.hid (insSort_calls w base g cap n F c1 c2 c3 f hn (by omega) hf hown hcf hF)
  clear hf hown hcf hF
  have H2 : Hid (Calls Tryz.prog 99 #[.slice (some ⟨g, 0, none⟩) n cap, .int .i64 (n : Int), .func (.func F) #[] #[c1, c2, c3]] w (SortPost w base g cap n f)) := by
    show Calls Tryz.prog 99 _ _ _
    go_enter Tryz.func99, Tryz.ntmps99
    go_wp2_with fail
    refine wp_loop_rounds 1 ?_
    rw [rounds_succ]
    go_wp2_with fail
    refine H.out.mono ?_
    rintro e w1 ⟨s, hs, rfl, hown, hm⟩
    go_wp2_with fail
    refine wp_loop_rounds 1 ?_
    rw [rounds_succ]
    go_wp2_with fail
    go_end0
    exact ⟨s, hs, rfl, hown, hm⟩
  go_enter Tryz.func71, Tryz.ntmps71
  go_wp2_with fail
  refine H2.out.mono ?_
  rintro e w1 ⟨s, hs, rfl, hown, hm⟩
  go_wp2_with fail
  go_end0
  exact ⟨s, hs, rfl, hown, hm⟩

end Go.Proofs.YtkchninlhemioaaGreatDoor

/- slices.Index, slices.Max over numbers. -/
namespace Go.Proofs.YtkchninlhemioaaGreatDoor
set_option linter.unusedVariables false
set_option linter.unusedSimpArgs false
open Go.RowKit
attribute [local go_sem ↓] Go.wp_at_zero Go.wp_at_succ

set_option maxRecDepth 100000 in
set_option maxHeartbeats 1000000 in
theorem indexI_calls (w : World) (v : Value) (xs : List Int) (x : Int) (hv : Sl w 3 1 v (intsV xs)) : Calls Tryz.prog 75 #[v, .int .i64 x] w (IntPost w (idxP (fun y => x == y) xs 0)) := by
  obtain ⟨A, n, c, rfl, hc1, hc2, hl, hr⟩ := hv
  have hln : xs.length = n := by simpa [intsV] using hl
  subst hln
  have HR := Lib.hid hr
  clear hl hr
  go_enter Tryz.func75, Tryz.ntmps75
  go_wp2_with fail
  go_loopg [8] xs.length (fun gk i wr => ∃ k : Nat, xs.length - k = gk ∧ k ≤ xs.length ∧ i = .int .i64 (k : Int) ∧ idxP (fun y => x == y) xs 0 = idxP (fun y => x == y) (xs.drop k) (k : Int) ∧ Pure w wr)
  case atStart => exact ⟨0, by omega, by omega, rfl, rfl, Mod.refl _ _⟩
  case round =>
    obtain ⟨k, rfl, hk, rfl, hix, hm⟩ := hrel
    have HIX := Lib.hid hix
    clear hix
    by_cases hlt : k < xs.length
    · obtain ⟨g, off, rfl, hrow⟩ := HR.out (by omega)
      have hq := (hrow.mod hm id).cell (intsV_get xs k hlt)
      have hd : xs.drop k = xs[k] :: xs.drop (k + 1) := List.drop_eq_getElem_cons hlt
      have hi2 : idxP (fun y => x == y) xs 0 = if x == xs[k] then (k : Int) else idxP (fun y => x == y) (xs.drop (k + 1)) ((k : Int) + 1) := by rw [HIX.out, hd]; rfl
      have HI2 := Lib.hid hi2
      clear hd hi2 hrow HIX
      generalize xs[k] = y at *
      cases hp : x == y
      · go_wp2_with fail
        go_roundg (xs.length - (k + 1))
        case measure => omega
        case rel => exact ⟨k + 1, rfl, hlt, by simp, by rw [HI2.out, hp]; simp, hm⟩
      · go_wp2_with fail
        go_ret
        exact IntPost.of (by rw [HI2.out, hp]; rfl) hm
    · have hke : k = xs.length := by omega
      subst hke
      go_wp2_with fail
      go_ret
      exact IntPost.of (by rw [HIX.out, List.drop_of_length_le (Nat.le_refl _)]; rfl) hm

theorem IsMax.snoc {l : List Int} {x y : Int} (h : IsMax l x) : IsMax (l ++ [y]) (if x < y then y else x) := by
  split
  · rename_i hlt
    exact ⟨by simp, fun z hz => by
      rcases List.mem_append.1 hz with h1 | h1
      · have := h.2 z h1; omega
      · simp at h1; omega⟩
  · exact ⟨by simp [h.1], fun z hz => by
      rcases List.mem_append.1 hz with h1 | h1
      · exact h.2 z h1
      · simp at h1; omega⟩
def MaxPost (w : World) (xs : List Int) (e : Ending) (w' : World) : Prop := ∃ x : Int, IsMax xs x ∧ e = .returned (.int .i64 x) ∧ Pure w w'
set_option maxRecDepth 100000 in
set_option maxHeartbeats 1000000 in
theorem maxI_calls (w : World) (v : Value) (xs : List Int) (hv : Sl w 3 1 v (intsV xs)) (h0 : 0 < xs.length) : Calls Tryz.prog 76 #[v] w (MaxPost w xs) := by
  obtain ⟨A, n, c, rfl, hc1, hc2, hl, hr⟩ := hv
  have hln : xs.length = n := by simpa [intsV] using hl
  subst hln
  obtain ⟨g, off, rfl, hrow⟩ := hr h0
  have hq0 := hrow.cell (intsV_get xs 0 h0)
  have HR := Lib.hid hrow
  have i1 : ¬ ((xs.length : Int) < 1) := by omega
  have H0 : Hid (IsMax (xs.take 1) xs[0]) := by
    have e : xs.take 1 = [xs[0]] := by
      cases xs with
      | nil => simp at h0
      | cons x l => rfl
    show IsMax (xs.take 1) xs[0]
    rw [e]
    exact ⟨by simp, fun y hy => by simp at hy; omega⟩
  rw [Nat.add_zero] at hq0
  generalize xs[0] = x0 at *
  clear hl hr hrow
  go_enter Tryz.func76, Tryz.ntmps76
  go_wp2_with fail
  go_loopg [3, 4] (xs.length - 1) (fun gk m i wr => ∃ (k : Nat) (x : Int), xs.length - k = gk ∧ 1 ≤ k ∧ k ≤ xs.length ∧ i = .int .i64 (k : Int) ∧ m = .int .i64 x ∧ IsMax (xs.take k) x ∧ Pure w wr)
  case atStart => exact ⟨1, x0, rfl, by omega, by omega, rfl, rfl, H0.out, Mod.refl _ _⟩
  case round =>
    obtain ⟨k, x, rfl, hk1, hk, rfl, rfl, hmx, hm⟩ := hrel
    have HMX := Lib.hid hmx
    clear hmx hq0
    by_cases hlt : k < xs.length
    · have hq := (HR.out.mod hm id).cell (intsV_get xs k hlt)
      have HN : Hid (IsMax (xs.take (k + 1)) (if x < xs[k] then xs[k] else x)) := by
        show IsMax (xs.take (k + 1)) _
        rw [List.take_succ_eq_append_getElem hlt]
        exact HMX.out.snoc
      generalize xs[k] = y at *
      by_cases hxy : x < y
      · go_wp2_with fail
        go_roundg (xs.length - (k + 1))
        case measure => omega
        case rel => exact ⟨k + 1, _, rfl, by omega, hlt, by simp, rfl, by have := HN.out; rw [if_pos hxy] at this; first | exact this | simpa [hxy] using this, hm⟩
      · go_wp2_with fail
        go_roundg (xs.length - (k + 1))
        case measure => omega
        case rel => exact ⟨k + 1, _, rfl, by omega, hlt, by simp, rfl, by have := HN.out; rw [if_neg (by omega)] at this; first | exact this | simpa [hxy] using this, hm⟩
    · have hke : k = xs.length := by omega
      subst hke
      go_wp2_with fail
      go_ret
      exact ⟨x, by have := HMX.out; rwa [List.take_length] at this, rfl, hm⟩

end Go.Proofs.YtkchninlhemioaaGreatDoor

/- Allocate: how many are left over. -/
namespace Go.Proofs.YtkchninlhemioaaGreatDoor
set_option linter.unusedVariables false
set_option linter.unusedSimpArgs false

/-- The sum of f i, i below k. -/
def sumTo (f : Nat → Int) : Nat → Int
  | 0 => 0
  | k + 1 => sumTo f k + f k
def zAt (zs : List Int) (i : Nat) : Int := zs.getD i 0
theorem rem_sum (zs : List Int) (many sum : Int) : ∀ k, many * sumTo (zAt zs) k = sum * sumTo (quoA zs many sum) k + sumTo (remA zs many sum) k
  | 0 => by simp [sumTo]
  | k + 1 => by
    have ih := rem_sum zs many sum k
    have h : many * zAt zs k = sum * quoA zs many sum k + remA zs many sum k := by
      unfold quoA remA zAt
      exact (Int.mul_ediv_add_emod (many * zs.getD k 0) sum).symm
    simp only [sumTo, Int.mul_add]
    omega
theorem rem_bounds (zs : List Int) (many : Int) {sum : Int} (hs : 1 ≤ sum) : ∀ k, 0 ≤ sumTo (remA zs many sum) k ∧ sumTo (remA zs many sum) k ≤ (k : Int) * (sum - 1)
  | 0 => by simp [sumTo]
  | k + 1 => by
    have ih := rem_bounds zs many hs k
    have h1 := Int.emod_nonneg (many * zs.getD k 0) (show sum ≠ 0 by omega)
    have h2 := Int.emod_lt_of_pos (many * zs.getD k 0) (show 0 < sum by omega)
    have e : ((k + 1 : Nat) : Int) * (sum - 1) = (k : Int) * (sum - 1) + (sum - 1) := by
      rw [Int.natCast_add, Int.add_mul]
      simp
    simp only [sumTo]
    rw [e]
    unfold remA at *
    omega
/-- What is left over is from 0 to n - 1. -/
theorem left_bounds (zs : List Int) (many : Int) {sum : Int} (hsum : sumTo (zAt zs) zs.length = sum) (hs : 1 ≤ sum) : 0 ≤ many - sumTo (quoA zs many sum) zs.length ∧ many - sumTo (quoA zs many sum) zs.length < (zs.length : Int) := by
  have h1 := rem_sum zs many sum zs.length
  have h2 := rem_bounds zs many hs zs.length
  rw [hsum] at h1
  have h3 : sum * (many - sumTo (quoA zs many sum) zs.length) = sumTo (remA zs many sum) zs.length := by
    rw [Int.mul_sub, Int.mul_comm sum many]
    omega
  generalize many - sumTo (quoA zs many sum) zs.length = l at *
  constructor
  · rcases Int.lt_or_le l 0 with h | h
    · have : sum * l < 0 := Int.mul_neg_of_pos_of_neg (by omega) h
      omega
    · exact h
  · rcases Int.lt_or_le l (zs.length : Int) with h | h
    · exact h
    · have h4 : sum * (zs.length : Int) ≤ sum * l := Int.mul_le_mul_of_nonneg_left h (by omega)
      have h5 : (zs.length : Int) * (sum - 1) = sum * (zs.length : Int) - (zs.length : Int) := by
        rw [Int.mul_sub, Int.mul_comm sum]
        simp
      by_cases h0 : zs.length = 0
      · rw [h0] at hsum
        simp [sumTo] at hsum
        omega
      · omega

end Go.Proofs.YtkchninlhemioaaGreatDoor

/- The reference's GainsOf. -/
namespace Go.Proofs.YtkchninlhemioaaGreatDoor
set_option linter.unusedVariables false
set_option linter.unusedSimpArgs false
open Go.RowKit
attribute [local go_sem ↓] Go.wp_at_zero Go.wp_at_succ

/-- The gains of the first i; then c; then zeros: n numbers in all. -/
def gRow (bs : List Bool) (n i : Nat) (c : Int) : List Int := gainsL bs i ++ c :: List.replicate (n - i - 1) 0
theorem gRow_zero (bs : List Bool) {n : Nat} (h : 0 < n) : List.replicate n (0 : Int) = gRow bs n 0 0 := by
  unfold gRow gainsL
  simp
  rw [← List.replicate_succ, show n - 1 + 1 = n by omega]
theorem gRow_next (bs : List Bool) {n i : Nat} (h : i + 1 < n) : gRow bs n i (cnt (bs.take (i + 1)) : Int) = gRow bs n (i + 1) 0 := by
  unfold gRow
  rw [gainsL_succ, List.append_assoc]
  congr 1
  rw [List.singleton_append, ← List.replicate_succ, show n - (i + 1) - 1 + 1 = n - i - 1 by omega]
theorem gRow_last (bs : List Bool) {n i : Nat} (h : i + 1 = n) : gRow bs n i (cnt (bs.take (i + 1)) : Int) = gainsL bs n := by
  subst h
  unfold gRow
  rw [gainsL_succ]
  simp
theorem gRow_len (bs : List Bool) {n i : Nat} (h : i < n) (c : Int) : (gRow bs n i c).length = n := by
  unfold gRow
  simp [gainsL_len]
  omega
theorem gRow_get (bs : List Bool) (n i : Nat) (c : Int) : (intsV (gRow bs n i c)).toArray[i]? = some (.int .i64 c) := by
  unfold gRow intsV
  simp [gainsL_len, List.getElem?_append]
theorem gRow_set (bs : List Bool) (n i : Nat) (c d : Int) : (intsV (gRow bs n i c)).toArray.setIfInBounds i (.int .i64 d) = (intsV (gRow bs n i d)).toArray := by
  unfold gRow intsV
  simp [List.set_append, gainsL_len]

def GORel (W : World) (bs : List Bool) (g gk : Nat) (i : Value) (wr : World) : Prop :=
  ∃ k : Nat, bs.length - k = gk ∧ k ≤ bs.length ∧ i = .int .i64 (k : Int) ∧ (k < bs.length → Blk wr g 3 (intsV (gRow bs bs.length k 0)).toArray) ∧ (k = bs.length → Blk wr g 3 (intsV (gainsL bs bs.length)).toArray) ∧ Mod (fun j => j = g) W wr
def GOIn (W : World) (bs : List Bool) (g i gk : Nat) (j : Value) (wr : World) : Prop :=
  ∃ k : Nat, i + 1 - k = gk ∧ k ≤ i + 1 ∧ j = .int .i64 (k : Int) ∧ Blk wr g 3 (intsV (gRow bs bs.length i (cnt (bs.take k) : Int))).toArray ∧ Mod (fun j => j = g) W wr
theorem intsV_zeros (n : Nat) : (List.replicate n (Value.int .i64 0)) = intsV (List.replicate n 0) := by simp [intsV]
theorem own_of_blk {w : World} {base g n : Nat} {t : TypeId} {xs : List Value} (h : Blk w g t xs.toArray) (hb : base ≤ g) (hn : xs.length = n) (hl : n ≤ 9223372036854775807) : w.ownsRow base t 1 (.slice (some ⟨g, 0, none⟩) n n) n xs := by
  refine ⟨by omega, .inr ⟨g, n, xs.toArray, rfl, hb, h, Nat.le_refl _, by simpa [maxLen] using hl, by simp; omega, ?_⟩⟩
  simp
  rw [List.take_of_length_le (by omega)]

end Go.Proofs.YtkchninlhemioaaGreatDoor
