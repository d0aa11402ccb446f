import Derived.Test.YtpacmdiodnnofaaPicks
import Derived.Deep.RegionHeld3
import Derived.Deep.DeepCutAuto
namespace Go.Proofs.Ytpacmdiodnnofaa
set_option linter.unusedVariables false
set_option linter.unusedSimpArgs false
open Go.RowKit

def DrawnPost (w : World) (b N : Nat) (e : Ending) (w' : World) : Prop :=
  ∃ p s f : Int, (-1099511627776 ≤ p ∧ p ≤ 1099511627776 ∧ -1099511627776 ≤ s ∧ s ≤ 1099511627776 ∧ -1099511627776 ≤ f ∧ f ≤ 1099511627776) ∧
    e = .returned (.agg #[.int .i64 p, .int .i64 s, .int .i64 f]) ∧ Strm w' b N ∧ Mod (· = b) w w'

def DrawnInv (w : World) (b N dB : Nat) (lo hi : Int) (wx : World) : Prop :=
  ∃ p s f : Int, (-1099511627776 ≤ p ∧ p ≤ 1099511627776 ∧ lo ≤ s ∧ s ≤ hi ∧ -1099511627776 ≤ f ∧ f ≤ 1099511627776) ∧
    Strm wx b N ∧ Blk wx dB 27 #[.int .i64 p, .int .i64 s, .int .i64 f] ∧ Blk wx w.heap.size 27 #[.int .i64 0, .int .i64 0, .int .i64 0] ∧ Mod (· = b) w wx

set_option maxHeartbeats 1000000 in
theorem drawnm_calls (w : World) (b N : Nat) (hS : Strm w b N) (hN : N ≤ 800000000) :
    Calls Try.prog 13 #[.pointer (some ⟨b, 0, none⟩)] w (DrawnPost w b (N + 12)) := by
  have hlt := hS.lt
  go_enter Try.func13, Try.ntmps13
  go_wp2_with fail
  refine (range_calls _ b N _ _ (hS.alloc _) (by omega) (by omega) (by omega) (by omega)).mono ?_
  rintro e w1 ⟨k, hk0, hk1, rfl, hS1, hM1⟩
  go_wp2_with fail
  have hlt1 := hS1.lt
  refine (pick_calls _ b _ _ _ [1, 2, 5, 10, 30, 100, 2000, k] (hS1.alloc _) (by omega) (Blk.new _ _ _) (by omega) (by simp) (by simp)).mono ?_
  rintro e w2 ⟨p, hp, rfl, hS2, hM2⟩
  have hp1 : 1 ≤ p ∧ p ≤ 2000 := by simp at hp; omega
  clear hp
  have hm1 : Mod (· = b) w w2 := (((Mod.refl _ _).alloc _).trans hM1).trans (((Mod.refl _ _).alloc _).trans hM2)
  have hr : Blk w2 w.heap.size 27 #[.int .i64 0, .int .i64 0, .int .i64 0] := (((Blk.new w _ _).mod hM1 (by omega)).alloc _).mod hM2 (by omega)
  clear hM1 hM2 hS1 hS
  go_wp2_with fail
  have hd := Blk.new w2 27 #[.int .i64 p, .int .i64 0, .int .i64 0]
  have hr3 := hr.alloc (.cells #[.int .i64 p, .int .i64 0, .int .i64 0] 27)
  have hS3 := hS2.alloc (.cells #[.int .i64 p, .int .i64 0, .int .i64 0] 27)
  have hm3 := hm1.alloc (.cells #[.int .i64 p, .int .i64 0, .int .i64 0] 27)
  have hrd : w.heap.size < w2.heap.size := hr.lt
  generalize (w2.alloc (.cells #[.int .i64 p, .int .i64 0, .int .i64 0] 27)) = W at *
  generalize w2.heap.size = dB at *
  clear hr hS2 hm1
  have q0 := hd.cell 0
  have q1 := hd.cell 1
  have f1 := hd.frozen 1
  simp at q0 q1
  go_region_held3 (fun w' => w'.cell? ⟨dB, 0, none⟩ = some (.int .i64 p)) (first | go_keep | (rw [World.cell?_setCell_other _ _ _ _ (by simp)]; assumption))
    (first
      | (go_at_call 25; (refine (pick_calls _ b _ _ _ [3, 10, 60] (hS3.alloc _).drew (by omega) (Blk.new _ _ _).drew ?_ (by simp) (by simp)).mono ?_); (have := hS3.lt; omega); rintro e w4 ⟨x, hx, rfl, hS4, hM4⟩; have hx1 : 3 ≤ x ∧ x ≤ 60 := (by simp at hx; omega); obtain ⟨m, hmn⟩ : ∃ m, (if x < p then x else p) = m := ⟨_, rfl⟩; have hm1 : 1 ≤ m ∧ m ≤ 60 := (by rw [← hmn]; split <;> omega); have hd4 := ((hd.alloc _).drew).mod hM4 (by omega); have hr4 := ((hr3.alloc _).drew).mod hM4 (by omega); have hm4 := ((hm3.alloc _).drew).trans hM4; have q4 := hd4.cell 0; simp at q4)
      | (go_at_call 42; (refine (range_calls _ b _ _ _ hS4 (by omega) ?_ ?_ ?_).mono ?_); omega; omega; omega; rintro e w5 ⟨s, hs0, hs1, rfl, hS5, hM5⟩; have hd5 := hd4.mod hM5 (by omega); have hr5 := hr4.mod hM5 (by omega); have hm5 := hm4.trans hM5; have q5 := hd5.cell 1; have f5 := hd5.frozen 1; have q50 := hd5.cell 0; simp at q5 q50))
  go_wp2_with fail
  have hd6 : Blk (w5.setCell ⟨dB, 1, none⟩ (.int .i64 s)) dB 27 #[.int .i64 p, .int .i64 s, .int .i64 0] := by simpa using hd5.set 1 (.int .i64 s)
  have hr6 := hr5.far (p := ⟨dB, 1, none⟩) (by simp; omega) (.int .i64 s)
  have hS6 := hS5.setCell (p := ⟨dB, 1, none⟩) (by simp; omega) (.int .i64 s)
  have hm6 := hm5.setCell (p := ⟨dB, 1, none⟩) (.inr (Nat.le_of_lt hrd)) (.int .i64 s)
  generalize (w5.setCell ⟨dB, 1, none⟩ (.int .i64 s)) = W2 at *
  clear hd5 hr5 hS5 hm5 q5 f5 q50 hd4 hr4 hm4 q4 hM5 hM4 hmn hx q0 q1 f1 hd hr3 hS3 hm3
  have q1 := hd6.cell 1
  simp at q1
  obtain ⟨m2, hmn⟩ : ∃ m, (if 3 < s then 3 else s) = m := ⟨_, rfl⟩
  have hm2 : 0 ≤ m2 ∧ m2 ≤ 3 := (by rw [← hmn]; split <;> omega)
  have tok1 : True := trivial
  go_cut [] (fun wx => DrawnInv w b (N + 7) dB 1 60 wx)
  case first =>
    go_region_held3 (fun w' => w'.cell? ⟨dB, 1, none⟩ = some (.int .i64 s)) (first | go_keep | (rw [World.cell?_setCell_other _ _ _ _ (by simp)]; assumption))
      (first
        | (go_at_call 42; have _t := tok1; clear tok1; (refine (range_calls _ b _ _ _ hS6.drew (by omega) ?_ ?_ ?_).mono ?_); omega; omega; omega; rintro e w7 ⟨u, hu0, hu1, rfl, hS7, hM7⟩; have hd7 := hd6.drew.mod hM7 (by omega); have hr7 := hr6.drew.mod hM7 (by omega); have hm7 := hm6.drew.trans hM7; have q7 := hd7.cell 1; simp at q7)
        | (go_at_call 42; (refine (range_calls _ b _ _ _ hS7 (by omega) ?_ ?_ ?_).mono ?_); omega; omega; omega; rintro e w8 ⟨v, hv0, hv1, rfl, hS8, hM8⟩; have hd8 := hd7.mod hM8 (by omega); have hr8 := hr7.mod hM8 (by omega); have hm8 := hm7.trans hM8; have q8 := hd8.cell 1; simp at q8)
        | (go_at_call 25; (refine (pick_calls _ b _ _ _ [0, s, u, v] (hS8.alloc _) (by omega) (Blk.new _ _ _) ?_ (by simp) (by simp)).mono ?_); (have := hS8.lt; omega); rintro e w9 ⟨f, hf, rfl, hS9, hM9⟩; have hd9 := ((hd8.alloc _)).mod hM9 (by omega); have hr9 := ((hr8.alloc _)).mod hM9 (by omega); have hm9 := ((hm8.alloc _)).trans hM9; have q9 := hd9.cell 1; have q92 := hd9.cell 2; have f92 := hd9.frozen 2; simp at q9 q92))
    all_goals
      go_wp2_with fail
      go_meet
      have hf1 : -1 ≤ f ∧ f ≤ 60 := by simp at hf; omega
      have hd10 : Blk (w9.setCell ⟨dB, 2, none⟩ (.int .i64 f)) dB 27 #[.int .i64 p, .int .i64 s, .int .i64 f] := by simpa using hd9.set 2 (.int .i64 f)
      exact ⟨p, s, f, by omega, hS9.setCell (by simp; omega) _, hd10, hr9.far (by simp; omega) _, hm9.setCell (.inr (Nat.le_of_lt hrd)) _⟩
  case rest =>
    obtain ⟨p, s, f, hb, hS10, hd10, hr10, hm10⟩ := hcut
    go_upto_if 35 with (go_at_call 31; refine (flip_calls _ b _ _ hS10 (by omega) (by omega) (by omega)).mono ?_; rintro e w11 ⟨k, rfl, hS11, hM11⟩)
    have hd11 := hd10.mod hM11 (by omega)
    have hr11 := hr10.mod hM11 (by omega)
    have hm11 := hm10.trans hM11
    clear hd10 hr10 hm10 hS10 hM11
    go_cut [] (fun wx => DrawnInv w b (N + 12) dB (-1099511627776) 1099511627776 wx)
    case first =>
      cases k
      · go_wp2_with fail
        go_meet
        exact ⟨p, s, f, by omega, hS11.more (by omega), hd11, hr11, hm11⟩
      · go_wp2_with fail
        refine (next_calls _ b _ _ hS11 (by omega) (by omega) (by omega)).mono ?_
        rintro e w12 ⟨k, hk0, hk1, rfl, hS12, hM12⟩
        have hd12 := hd11.mod hM12 (by omega)
        have hr12 := hr11.mod hM12 (by omega)
        have hm12 := hm11.trans hM12
        clear hd11 hr11 hm11 hS11 hM12
        have c1 := hd12.cell 1
        simp at c1
        by_cases h0 : k = 0
        · subst h0
          go_wp2_with fail
          refine (odd_calls _ b _ _ _ hS12 (by omega) (by omega) (by omega) (by omega)).mono ?_
          rintro e w13 ⟨p, hp0, hp1, rfl, hS13, hM13⟩
          have hd13 := hd12.mod hM13 (by omega)
          have hr13 := hr12.mod hM13 (by omega)
          have hm13 := hm12.trans hM13
          have q := hd13.cell 0
          have g := hd13.frozen 0
          simp at q
          go_wp2_with fail
          go_meet
          exact ⟨p, s, f, by omega, (hS13.setCell (by simp; omega) _).more (by omega), by simpa using hd13.set 0 (.int .i64 p), hr13.far (by simp; omega) _, hm13.setCell (.inr (Nat.le_of_lt hrd)) _⟩
        · have h0' : (k == 0) = false := by simpa using h0
          by_cases h1 : k = 1
          · subst h1
            go_wp2_with fail
            refine (odd_calls _ b _ _ _ hS12 (by omega) (by omega) (by omega) (by omega)).mono ?_
            rintro e w13 ⟨s, hp0, hp1, rfl, hS13, hM13⟩
            have hd13 := hd12.mod hM13 (by omega)
            have hr13 := hr12.mod hM13 (by omega)
            have hm13 := hm12.trans hM13
            have q := hd13.cell 1
            have g := hd13.frozen 1
            simp at q
            go_wp2_with fail
            go_meet
            exact ⟨p, s, f, by omega, (hS13.setCell (by simp; omega) _).more (by omega), by simpa using hd13.set 1 (.int .i64 s), hr13.far (by simp; omega) _, hm13.setCell (.inr (Nat.le_of_lt hrd)) _⟩
          · have h1' : (k == 1) = false := by simpa using h1
            go_wp2_with fail
            refine (odd_calls _ b _ _ _ hS12 (by omega) (by omega) (by omega) (by omega)).mono ?_
            rintro e w13 ⟨f, hp0, hp1, rfl, hS13, hM13⟩
            have hd13 := hd12.mod hM13 (by omega)
            have hr13 := hr12.mod hM13 (by omega)
            have hm13 := hm12.trans hM13
            have q := hd13.cell 2
            have g := hd13.frozen 2
            simp at q
            go_wp2_with fail
            go_meet
            exact ⟨p, s, f, by omega, (hS13.setCell (by simp; omega) _).more (by omega), by simpa using hd13.set 2 (.int .i64 f), hr13.far (by simp; omega) _, hm13.setCell (.inr (Nat.le_of_lt hrd)) _⟩
    case rest =>
      clear hd11 hr11 hm11 hS11
      obtain ⟨p, s, f, hb, hS14, hd14, hr14, hm14⟩ := hcut
      have d0 := hd14.cell 0
      have d1 := hd14.cell 1
      have d2 := hd14.cell 2
      have r0 := hr14.cell 0
      have r1 := hr14.cell 1
      have r2 := hr14.cell 2
      have g0 := hr14.frozen 0
      have g1 := hr14.frozen 1
      have g2 := hr14.frozen 2
      simp at d0 d1 d2 r0 r1 r2
      go_wp2_with fail
      refine bodyPost_ret (v := .agg #[.int .i64 p, .int .i64 s, .int .i64 f]) (by simp [results, Try.results13, go_sem, r0, r1, r2]) rfl ?_
      exact ⟨p, s, f, by omega, rfl, ((hS14.setCell hlt _).setCell hlt _).setCell hlt _, ((hm14.setCell (.inr (Nat.le_refl _)) _).setCell (.inr (Nat.le_refl _)) _).setCell (.inr (Nat.le_refl _)) _⟩

end Go.Proofs.Ytpacmdiodnnofaa
