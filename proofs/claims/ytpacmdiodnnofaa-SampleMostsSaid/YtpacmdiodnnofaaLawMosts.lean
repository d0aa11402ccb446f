/- The law SampleMosts: for every list of numbers the call returns true and changes nothing that was there. -/
import Derived.Test.YtpacmdiodnnofaaDrawnM
import Derived.Test.YtpacmdiodnnofaaRMost
import Derived.Test.YtpacmdiodnnofaaRCheck
import Derived.Test.YtpacmdiodnnofaaDrawn
namespace Go.Proofs.Ytpacmdiodnnofaa
open Go.RowKit
attribute [local go_sem ↓] Go.wp_at_zero Go.wp_at_succ

set_option maxRecDepth 100000 in
set_option maxHeartbeats 4000000 in
theorem SampleMosts_calls (w : World) (A : Option Addr) (n c : Nat) (hA : ArgInts w A n) :
    Calls Try.prog 3 #[.slice A n c] w (BoolPost w true) := by
  have hS0 := strm_new (c := c) hA
  go_enter Try.func3, Try.ntmps3
  go_wp2_with fail
  refine (drawnm_calls _ _ _ hS0 (by omega)).mono ?_
  rintro e w1 ⟨p, s, f, hb, rfl, hS1, hM1⟩
  go_wp2_with fail
  refine (level_calls _ _ _ hS1 (by omega)).mono ?_
  rintro e w2 ⟨nu, de, hl, rfl, hS2, hM2⟩
  have hm2 : Pure w w2 := (((Mod.refl _ w).alloc (.cells #[.slice A n c, .int .i64 0] 25)).trans' (hM1.trans hM2) (fun i hi hlt => by omega))
  clear hM1 hM2 hS1 hS2 hS0
  go_wp2_with fail
  have hdB := (Blk.new w2 27 #[.int .i64 p, .int .i64 s, .int .i64 f]).alloc (.cells #[.int .i64 nu, .int .i64 de] 30)
  have hlB := Blk.new (w2.alloc (.cells #[.int .i64 p, .int .i64 s, .int .i64 f] 27)) 30 #[.int .i64 nu, .int .i64 de]
  rw [World.size_alloc] at hlB
  have hm3 : Pure w ((w2.alloc (.cells #[.int .i64 p, .int .i64 s, .int .i64 f] 27)).alloc (.cells #[.int .i64 nu, .int .i64 de] 30)) := (hm2.alloc _).alloc _
  generalize ((w2.alloc (.cells #[.int .i64 p, .int .i64 s, .int .i64 f] 27)).alloc (.cells #[.int .i64 nu, .int .i64 de] 30)) = W at *
  generalize w2.heap.size = dB at *
  have q0 := hdB.cell 0
  have q1 := hdB.cell 1
  have q2 := hdB.cell 2
  have q3 := hlB.cell 0
  have q4 := hlB.cell 1
  simp at q0 q1 q2 q3 q4
  clear hdB hlB hm2
  obtain ⟨er, her⟩ : ∃ er, firstErr [drawnErr p s f, levelErr nu de] = er := ⟨_, rfl⟩
  have HER := Lib.hid her
  have hne1 : (levelErr nu de != levelErr nu de) = false := by simp
  have hne2 : (drawnErr p s f != drawnErr p s f) = false := by simp
  by_cases h0 : er = 0
  · subst h0
    obtain ⟨p, s, f, nu, de, rfl, rfl, rfl, rfl, rfl, hok⟩ := firstErr_ok her
    have HOK := Lib.hid hok
    clear hok
    refine (Most_ok _ p s f nu de HOK.out).mono ?_
    rintro e w3 ⟨x, hx, rfl, hm4⟩
    have HX := Lib.hid hx
    clear hx
    have k0 := hm4.keep q0 id
    have k1 := hm4.keep q1 id
    have k2 := hm4.keep q2 id
    have k3 := hm4.keep q3 id
    have k4 := hm4.keep q4 id
    go_wp2_with fail
    refine (Fewest_ok _ p s f nu de HOK.out).mono ?_
    rintro e w4 ⟨y, hy, rfl, hm5⟩
    have HY := Lib.hid hy
    clear hy
    have j0 := hm5.keep k0 id
    have j1 := hm5.keep k1 id
    have j2 := hm5.keep k2 id
    have j3 := hm5.keep k3 id
    have j4 := hm5.keep k4 id
    have hm6 := (hm3.trans hm4).trans hm5
    clear q0 q1 q2 q3 q4 k0 k1 k2 k3 k4 hm3 hm4 hm5 her
    go_wp2_with fail
    go_region_held3 (fun w' => w'.cell? ⟨dB, 0, none⟩ = some (.int .i64 p) ∧ w'.cell? ⟨dB, 1, none⟩ = some (.int .i64 s) ∧ w'.cell? ⟨dB, 2, none⟩ = some (.int .i64 f) ∧ w'.cell? ⟨dB + 1, 0, none⟩ = some (.int .i64 nu) ∧ w'.cell? ⟨dB + 1, 1, none⟩ = some (.int .i64 de)) (go_keep)
      (first
        | (go_at_call 17; (refine (checkLevel_calls _ _ _).mono ?_); rintro e w5 ⟨rfl, hn1⟩; have a0 := hn1.keep j0 id; have a1 := hn1.keep j1 id; have a2 := hn1.keep j2 id; have a3 := hn1.keep j3 id; have a4 := hn1.keep j4 id)
        | (go_at_call 18; (refine (levelFault_calls _ _ _).mono ?_); rintro e w6 ⟨rfl, hn2⟩; have b0 := hn2.keep a0 id; have b1 := hn2.keep a1 id; have b2 := hn2.keep a2 id; have b3 := hn2.keep a3 id; have b4 := hn2.keep a4 id)
        | (go_at_call 19; (refine (checkDrawn_calls _ _ _ _).mono ?_); rintro e w7 ⟨rfl, hn3⟩; have c0 := hn3.keep b0 id; have c1 := hn3.keep b1 id; have c2 := hn3.keep b2 id; have c3 := hn3.keep b3 id; have c4 := hn3.keep b4 id)
        | (go_at_call 20; (refine (drawnFault_calls _ _ _ _).mono ?_); rintro e w8 ⟨rfl, hn4⟩; have d0 := hn4.keep c0 id; have d1 := hn4.keep c1 id; have d2 := hn4.keep c2 id; have d3 := hn4.keep c3 id; have d4 := hn4.keep c4 id))
    go_wp2_with fail
    have hm7 := (((hm6.drew.trans hn1).trans hn2).trans hn3).trans hn4
    clear hm6 hn1 hn2 hn3 hn4 j0 j1 j2 j3 j4 a0 a1 a2 a3 a4 b0 b1 b2 b3 b4 c0 c1 c2 c3 c4
    go_region_held3 (fun w' => w'.cell? ⟨dB, 0, none⟩ = some (.int .i64 p) ∧ w'.cell? ⟨dB, 1, none⟩ = some (.int .i64 s) ∧ w'.cell? ⟨dB, 2, none⟩ = some (.int .i64 f) ∧ w'.cell? ⟨dB + 1, 0, none⟩ = some (.int .i64 nu) ∧ w'.cell? ⟨dB + 1, 1, none⟩ = some (.int .i64 de)) (go_keep)
      (first
        | (go_at_call 20; (refine (drawnFault_calls _ _ _ _).mono ?_); rintro e w9 ⟨rfl, hn5⟩; have j0 := hn5.keep d0 id; have j1 := hn5.keep d1 id; have j2 := hn5.keep d2 id; have j3 := hn5.keep d3 id; have j4 := hn5.keep d4 id)
        | (go_at_call 18; (refine (levelFault_calls _ _ _).mono ?_); rintro e w10 ⟨rfl, hn6⟩; have a0 := hn6.keep j0 id; have a1 := hn6.keep j1 id; have a2 := hn6.keep j2 id; have a3 := hn6.keep j3 id; have a4 := hn6.keep j4 id)
        | (go_at_call 21; (refine (wrongOr_calls _ _ _ [drawnErr p s f, levelErr nu de] (Blk.new _ _ _).row0 (by simp)).mono ?_); rintro e w11 ⟨rfl, hn7⟩; have hn8 : Pure w10 w11 := ((Mod.refl _ _).alloc _).trans hn7; have b0 := hn8.keep a0 id; have b1 := hn8.keep a1 id; have b2 := hn8.keep a2 id; have b3 := hn8.keep a3 id; have b4 := hn8.keep a4 id))
    rw [HER.out]
    have hm8 := ((hm7.drew.trans hn5).trans hn6).trans hn8
    clear hm7 hn5 hn6 hn7 hn8 d0 d1 d2 d3 d4 j0 j1 j2 j3 j4 a0 a1 a2 a3 a4
    go_wp2_with fail
    refine (MostOf_calls _ p s f nu de HOK.out).mono ?_
    rintro e w12 ⟨x', hx, rfl, hm9⟩
    have hxx : x = x' := by have := HX.out.unique hx; omega
    subst hxx
    clear hx
    have hbx : (x == x) = true := by simp
    have c0 := hm9.keep b0 id
    have c1 := hm9.keep b1 id
    have c2 := hm9.keep b2 id
    have c3 := hm9.keep b3 id
    have c4 := hm9.keep b4 id
    go_wp2_with fail
    refine (FewestOf_calls _ p s f nu de HOK.out).mono ?_
    rintro e w13 ⟨y', hy, rfl, hm10⟩
    have hyy : y = y' := HY.out.unique hy
    subst hyy
    clear hy
    have hby : (y == y) = true := by simp
    go_wp2_with fail
    refine (drawn_calls _).mono ?_
    rintro e w14 ⟨rfl, hm11⟩
    go_wp2_with fail
    go_ret
    exact BoolPost.of rfl (((hm8.trans hm9).trans hm10).trans hm11)
  · have hb0 : (er != 0) = true := by simpa using h0
    have hbe : (er == er) = true := by simp
    refine (Most_err _ p s f nu de er her h0).mono ?_
    rintro e w3 ⟨rfl, hm4⟩
    have k0 := hm4.keep q0 id
    have k1 := hm4.keep q1 id
    have k2 := hm4.keep q2 id
    have k3 := hm4.keep q3 id
    have k4 := hm4.keep q4 id
    go_wp2_with fail
    refine (Fewest_err _ p s f nu de er her h0).mono ?_
    rintro e w4 ⟨rfl, hm5⟩
    have j0 := hm5.keep k0 id
    have j1 := hm5.keep k1 id
    have j2 := hm5.keep k2 id
    have j3 := hm5.keep k3 id
    have j4 := hm5.keep k4 id
    have hm6 := (hm3.trans hm4).trans hm5
    clear q0 q1 q2 q3 q4 k0 k1 k2 k3 k4 hm3 hm4 hm5 her
    go_wp2_with fail
    go_region_held3 (fun w' => w'.cell? ⟨dB, 0, none⟩ = some (.int .i64 p) ∧ w'.cell? ⟨dB, 1, none⟩ = some (.int .i64 s) ∧ w'.cell? ⟨dB, 2, none⟩ = some (.int .i64 f) ∧ w'.cell? ⟨dB + 1, 0, none⟩ = some (.int .i64 nu) ∧ w'.cell? ⟨dB + 1, 1, none⟩ = some (.int .i64 de)) (go_keep)
      (first
        | (go_at_call 17; (refine (checkLevel_calls _ _ _).mono ?_); rintro e w5 ⟨rfl, hn1⟩; have a0 := hn1.keep j0 id; have a1 := hn1.keep j1 id; have a2 := hn1.keep j2 id; have a3 := hn1.keep j3 id; have a4 := hn1.keep j4 id)
        | (go_at_call 18; (refine (levelFault_calls _ _ _).mono ?_); rintro e w6 ⟨rfl, hn2⟩; have b0 := hn2.keep a0 id; have b1 := hn2.keep a1 id; have b2 := hn2.keep a2 id; have b3 := hn2.keep a3 id; have b4 := hn2.keep a4 id)
        | (go_at_call 19; (refine (checkDrawn_calls _ _ _ _).mono ?_); rintro e w7 ⟨rfl, hn3⟩; have c0 := hn3.keep b0 id; have c1 := hn3.keep b1 id; have c2 := hn3.keep b2 id; have c3 := hn3.keep b3 id; have c4 := hn3.keep b4 id)
        | (go_at_call 20; (refine (drawnFault_calls _ _ _ _).mono ?_); rintro e w8 ⟨rfl, hn4⟩; have d0 := hn4.keep c0 id; have d1 := hn4.keep c1 id; have d2 := hn4.keep c2 id; have d3 := hn4.keep c3 id; have d4 := hn4.keep c4 id))
    go_wp2_with fail
    have hm7 := (((hm6.drew.trans hn1).trans hn2).trans hn3).trans hn4
    clear hm6 hn1 hn2 hn3 hn4 j0 j1 j2 j3 j4 a0 a1 a2 a3 a4 b0 b1 b2 b3 b4 c0 c1 c2 c3 c4
    go_region_held3 (fun w' => w'.cell? ⟨dB, 0, none⟩ = some (.int .i64 p) ∧ w'.cell? ⟨dB, 1, none⟩ = some (.int .i64 s) ∧ w'.cell? ⟨dB, 2, none⟩ = some (.int .i64 f) ∧ w'.cell? ⟨dB + 1, 0, none⟩ = some (.int .i64 nu) ∧ w'.cell? ⟨dB + 1, 1, none⟩ = some (.int .i64 de)) (go_keep)
      (first
        | (go_at_call 20; (refine (drawnFault_calls _ _ _ _).mono ?_); rintro e w9 ⟨rfl, hn5⟩; have j0 := hn5.keep d0 id; have j1 := hn5.keep d1 id; have j2 := hn5.keep d2 id; have j3 := hn5.keep d3 id; have j4 := hn5.keep d4 id)
        | (go_at_call 18; (refine (levelFault_calls _ _ _).mono ?_); rintro e w10 ⟨rfl, hn6⟩; have a0 := hn6.keep j0 id; have a1 := hn6.keep j1 id; have a2 := hn6.keep j2 id; have a3 := hn6.keep j3 id; have a4 := hn6.keep j4 id)
        | (go_at_call 21; (refine (wrongOr_calls _ _ _ [drawnErr p s f, levelErr nu de] (Blk.new _ _ _).row0 (by simp)).mono ?_); rintro e w11 ⟨rfl, hn7⟩; have hn8 : Pure w10 w11 := ((Mod.refl _ _).alloc _).trans hn7; have b0 := hn8.keep a0 id; have b1 := hn8.keep a1 id; have b2 := hn8.keep a2 id; have b3 := hn8.keep a3 id; have b4 := hn8.keep a4 id))
    rw [HER.out]
    have hm8 := ((hm7.drew.trans hn5).trans hn6).trans hn8
    clear hm7 hn5 hn6 hn7 hn8 d0 d1 d2 d3 d4 j0 j1 j2 j3 j4 a0 a1 a2 a3 a4
    go_wp2_with fail
    refine (drawn_calls _).mono ?_
    rintro e w12 ⟨rfl, hm9⟩
    go_wp2_with fail
    go_ret
    exact BoolPost.of rfl (hm8.trans hm9)

end Go.Proofs.Ytpacmdiodnnofaa
