/- Texts of the proof of SampleLeasts, put together: BoolG, Recall. -/
import Derived.Test.YtkchninlhemioaaGreatDoorSampleLeastsZ9
import Derived.Test.YtkchninlhemioaaGreatDoorSampleLeastsZ11
import Derived.Test.YtkchninlhemioaaGreatDoorSampleLeastsZ12
import Derived.Test.YtkchninlhemioaaGreatDoorSampleLeastsZ14
import Derived.Test.YtkchninlhemioaaGreatDoorSampleLeastsZ15
/- Lists of truths: the generators Relevant and Share, Depth and its reference. -/
namespace Go.Proofs.YtkchninlhemioaaGreatDoor
set_option linter.unusedVariables false
set_option linter.unusedSimpArgs false
open Go.RowKit
attribute [local go_sem ↓] Go.wp_at_zero Go.wp_at_succ

theorem Sl.take {w : World} {e : TypeId} {A : Option Addr} {n c : Nat} {xs : List Value} (h : Sl w e 1 (.slice A n c) xs) {k : Nat} (hk : k ≤ n) : Sl w e 1 (.slice A k c) (xs.take k) := by
  obtain ⟨A', n', c', hv, h1, h2, h3, h4⟩ := h
  injection hv with ha hn hc
  subst ha hn hc
  refine ⟨A, k, c, rfl, by omega, h2, by rw [List.length_take, h3]; omega, fun h0 => ?_⟩
  obtain ⟨g, off, rfl, arr, fr, ha, hb⟩ := h4 (by omega)
  refine ⟨g, off, rfl, arr, fr, ha, fun i u hu => hb i u ?_⟩
  rw [List.getElem?_take] at hu
  split at hu
  · exact hu
  · cases hu
theorem boolsV_take (bs : List Bool) (k : Nat) : (boolsV bs).take k = boolsV (bs.take k) := by simp [boolsV]

def RelPost (w : World) (b N : Nat) (e : Ending) (w' : World) : Prop :=
  ∃ v bs, bs.length ≤ 20 ∧ e = .returned v ∧ w'.ownsRow w.heap.size 4 1 v bs.length (boolsV bs) ∧ Strm w' b (N + 50) ∧ Mod (· = b) w w'
def RelRel (w : World) (b N n gk : Nat) (o i : Value) (wr : World) : Prop :=
  ∃ (bs : List Bool) (A : Option Addr) (cap : Nat), n - bs.length = gk ∧ bs.length ≤ n ∧ i = .int .i64 (bs.length : Int) ∧ o = .slice A bs.length cap ∧ wr.ownsRow w.heap.size 4 1 (.slice A bs.length cap) bs.length (boolsV bs) ∧ Strm wr b (N + 1 + 2 * bs.length) ∧ Mod (· = b) w wr

set_option maxRecDepth 100000 in
set_option maxHeartbeats 1000000 in
theorem share_calls (w : World) (b N : Nat) (hS : Strm w b N) (hN : N ≤ 900000000) :
    Calls Tryz.prog 9 #[.pointer (some ⟨b, 0, none⟩)] w (FracPost w b (N + 1) (fun n d => -1 ≤ n ∧ n ≤ 1000000 ∧ 0 ≤ d ∧ d ≤ 1000001)) := by
  have hlt := hS.lt
  go_enter Tryz.func9, Tryz.ntmps9
  go_wp2_with fail
  refine (pick_calls _ b N _ _ [0, 0, 1, 2, 3, 4, 4, 5, 6, 7, 8, 9] (hS.pure ((((Mod.refl _ _).alloc _).alloc _).alloc _)) (by omega) (Blk.thd _ _ _ _ _) (by omega) (by simp) (by simp)).mono ?_
  rintro e w' ⟨k, hk, rfl, hS', hM⟩
  have hk0 : 0 ≤ k ∧ k ≤ 9 := by simp at hk; omega
  obtain ⟨i, rfl⟩ := Int.eq_ofNat_of_zero_le hk0.1
  have hb1 := (((Blk.new w 32 #[.int .i64 0, .int .i64 0]).alloc _).alloc _).modb hM (by omega)
  have hb2 := ((Blk.snd w (.cells #[.int .i64 0, .int .i64 0] 32) 32 _).alloc _).modb hM (by omega)
  have hz := hM.size
  simp only [World.size_alloc] at hz
  have hM2 : Mod (· = b) w w' := (((((Mod.refl _ _).alloc _).alloc _)).alloc _).trans hM
  obtain ⟨n, d, hmem, c0, c1⟩ := Blk.frac_at [(1, 2), (0, 1), (1, 1), (2, 4), (1, 3), (999999, 1000000), (3, 2), (-1, 2), (1, 0), (1, 1000001)] hb2 (i := i) (by simp; omega)
  have hP : -1 ≤ n ∧ n ≤ 1000000 ∧ 0 ≤ d ∧ d ≤ 1000001 := by simp at hmem; omega
  have q0 := hb1.cell 0; have qf0 := hb1.frozen 0; have q1 := hb1.cell 1; have qf1 := hb1.frozen 1; simp at q0 q1
  clear hb1 hb2 hmem hk
  go_wp2_with fail
  refine bodyPost_ret (v := .agg #[.int .i64 n, .int .i64 d]) (by simp [results, Tryz.results9, go_sem, q0, q1]) rfl ?_
  exact ⟨n, d, hP, rfl, (hS'.setCell hlt _).setCell hlt _, (hM2.setCell (.inr (Nat.le_refl _)) _).setCell (.inr (Nat.le_refl _)) _⟩

set_option maxRecDepth 100000 in
set_option maxHeartbeats 400000 in
theorem shareFault_calls (w : World) (n d : Int) : Calls Tryz.prog 15 #[.agg #[.int .i64 n, .int .i64 d]] w (IntPost w (shareErr n d)) := by
  go_enter Tryz.func15, Tryz.ntmps15
  go_wp2_with fail
  refine (rin_calls _ _ _ _).mono ?_
  rintro e w' ⟨rfl, rfl⟩
  cases h1 : inB d 1 1000000
  · go_wp2_with fail
    go_ret
    refine IntPost.of ?_ ((Mod.refl _ _).alloc _)
    unfold shareErr
    have := inB_false h1
    rw [if_neg (by omega)]
  · have h1' := inB_true h1
    obtain ⟨h2, h3⟩ := h1'
    clear h1
    go_wp2_with fail
    refine (rin_calls _ _ _ _).mono ?_
    rintro e w' ⟨rfl, rfl⟩
    cases h4 : inB n 0 d
    · go_wp2_with fail
      go_ret
      refine IntPost.of ?_ ((Mod.refl _ _).alloc _)
      unfold shareErr
      have := inB_false h4
      rw [if_neg (by omega)]
    · go_wp2_with fail
      go_ret
      refine IntPost.of ?_ ((Mod.refl _ _).alloc _)
      unfold shareErr
      have := inB_true h4
      rw [if_pos (by omega)]

end Go.Proofs.YtkchninlhemioaaGreatDoor

/- Package sample: Recall, SureRecall, Elusion. -/
namespace Go.Proofs.YtkchninlhemioaaGreatDoor
set_option linter.unusedVariables false
set_option linter.unusedSimpArgs false
open Go.RowKit
attribute [local go_sem ↓] Go.wp_at_zero Go.wp_at_succ

def manyErr (n : Int) : Int := if 0 ≤ n ∧ n ≤ 2000 then 0 else 1
set_option maxRecDepth 100000 in
set_option maxHeartbeats 400000 in
theorem manyError_calls (w : World) (n : Int) : Calls Tryz.prog 34 #[.int .i64 n] w (IntPost w (manyErr n)) := by
  go_enter Tryz.func34, Tryz.ntmps34
  go_wp2_with fail
  refine (in_calls _ _ _ _).mono ?_
  rintro e w' ⟨rfl, rfl⟩
  cases h1 : inB n 0 2000
  · go_wp2_with fail
    refine (when_t _ _).mono ?_
    rintro e w' ⟨rfl, rfl⟩
    go_wp2_with fail
    go_ret
    refine IntPost.of ?_ (Mod.refl _ _)
    unfold manyErr
    have := inB_false h1
    rw [if_neg this]
  · go_wp2_with fail
    refine (when_f _ _).mono ?_
    rintro e w' ⟨rfl, rfl⟩
    go_wp2_with fail
    go_ret
    refine IntPost.of ?_ (Mod.refl _ _)
    unfold manyErr
    have := inB_true h1
    rw [if_pos this]

def recE (fo p s f : Int) : Int := firstErr [manyErr fo, drawnErr p s f]
theorem recE_ok {fo p s f : Int} (h : recE fo p s f = 0) : (0 ≤ fo ∧ fo ≤ 2000) ∧ (1 ≤ p ∧ p ≤ 2000) ∧ (1 ≤ s ∧ s ≤ 60 ∧ s ≤ p) ∧ 0 ≤ f ∧ f ≤ s := by
  unfold recE at h
  rw [firstErr_two] at h
  by_cases h1 : manyErr fo = 0
  · rw [if_pos h1] at h
    unfold manyErr at h1
    unfold drawnErr at h
    split at h1
    · split at h
      · rename_i h2 h3
        exact ⟨h2, h3⟩
      · cases h
    · cases h1
  · rw [if_neg h1] at h
    exact absurd h h1
theorem rec_bounds {fo p s f : Int} (h : (0 ≤ fo ∧ fo ≤ 2000) ∧ (1 ≤ p ∧ p ≤ 2000) ∧ (1 ≤ s ∧ s ≤ 60 ∧ s ≤ p) ∧ 0 ≤ f ∧ f ≤ s) : (0 ≤ fo * s ∧ fo * s ≤ 120000) ∧ 0 ≤ p * f ∧ p * f ≤ 120000 := by
  obtain ⟨⟨a1, a2⟩, ⟨b1, b2⟩, ⟨c1, c2, c3⟩, d1, d2⟩ := h
  have e1 : 0 ≤ fo * s := Int.mul_nonneg a1 (by omega)
  have e2 : fo * s ≤ 2000 * 60 := Int.mul_le_mul a2 c2 (by omega) (by omega)
  have e3 : 0 ≤ p * f := Int.mul_nonneg (by omega) d1
  have e4 : p * f ≤ 2000 * 60 := Int.mul_le_mul b2 (by omega) d1 (by omega)
  omega

/-- A fraction and an error. -/
def FErr (w : World) (x y er : Int) (e : Ending) (w' : World) : Prop := e = .returned (.tuple #[agg2 x y, .int .i64 er]) ∧ Pure w w'
def RecSpec (fo p s f x y er : Int) : Prop :=
  (recE fo p s f ≠ 0 ∧ x = 0 ∧ y = 0 ∧ er = recE fo p s f) ∨ (recE fo p s f = 0 ∧ fo * s + p * f = 0 ∧ x = 0 ∧ y = 0 ∧ er = 16) ∨ (recE fo p s f = 0 ∧ fo * s + p * f ≠ 0 ∧ x = fracN (fo * s) (fo * s + p * f) ∧ y = fracD (fo * s) (fo * s + p * f) ∧ er = 0)
def RecPost (w : World) (fo p s f : Int) (e : Ending) (w' : World) : Prop := ∃ x y er : Int, RecSpec fo p s f x y er ∧ e = .returned (.tuple #[agg2 x y, .int .i64 er]) ∧ Pure w w'

def EluSpec (p s f x y er : Int) : Prop := (drawnErr p s f ≠ 0 ∧ x = 0 ∧ y = 0 ∧ er = drawnErr p s f) ∨ (drawnErr p s f = 0 ∧ x = fracN f s ∧ y = fracD f s ∧ er = 0)
def EluPost (w : World) (p s f : Int) (e : Ending) (w' : World) : Prop := ∃ x y er : Int, EluSpec p s f x y er ∧ e = .returned (.tuple #[agg2 x y, .int .i64 er]) ∧ Pure w w'
theorem drawnErr_ok {p s f : Int} (h : drawnErr p s f = 0) : (1 ≤ p ∧ p ≤ 2000) ∧ (1 ≤ s ∧ s ≤ 60 ∧ s ≤ p) ∧ 0 ≤ f ∧ f ≤ s := by
  unfold drawnErr at h
  split at h
  · assumption
  · cases h

end Go.Proofs.YtkchninlhemioaaGreatDoor
