/- Package sample: Afford. -/
import Derived.Test.YtpacmdiodnnofaaAfford
import Derived.Test.YtpacmdiodnnofaaLawEnough
namespace Go.Proofs.Ytpacmdiodnnofaa
set_option linter.unusedVariables false
set_option linter.unusedSimpArgs false
open Go.RowKit
attribute [local go_sem ↓] Go.wp_at_zero Go.wp_at_succ

def whenE (b : Bool) (e : Int) : Int := bif b then e else 0
theorem when_any (b : Bool) (e : Int) (w : World) : Calls Try.prog 73 #[.bool b, .int .i64 e] w fun r w' => r = .returned (.int .i64 (whenE b e)) ∧ w = w' := by
  cases b
  · exact when_f e w
  · exact when_t e w

def affE (o r s v c : Int) : Int := firstErr [costErr o r s v, whenE (!inB c 0 10000000000000000) 1, whenE (decide (c < o)) 16]
theorem affE_zero {o r s v c : Int} (h : affE o r s v c = 0) : CostOk o r s v ∧ (0 ≤ c ∧ c ≤ 10000000000000000) ∧ o ≤ c := by
  unfold affE at h
  simp only [firstErr] at h
  by_cases h1 : costErr o r s v = 0
  · rw [if_pos h1] at h
    refine ⟨costErr_inv h1, ?_⟩
    cases h2 : inB c 0 10000000000000000
    · rw [h2] at h; simp [whenE] at h
    · rw [h2] at h
      refine ⟨inB_true h2, ?_⟩
      by_cases h3 : c < o
      · rw [decide_eq_true h3] at h; simp [whenE] at h
      · omega
  · rw [if_neg h1] at h
    exact absurd h h1

def AfPost (w : World) (o r s v c : Int) (e : Ending) (w' : World) : Prop :=
  Pure w w' ∧ ((affE o r s v c ≠ 0 ∧ e = .returned (.tuple #[.int .i64 0, .int .i64 (affE o r s v c)])) ∨ (affE o r s v c = 0 ∧ ∃ x : Int, Least 1 1000001 (affP o r s v c) x ∧ e = .returned (.tuple #[.int .i64 (x - 1), .int .i64 0])))

set_option maxRecDepth 100000 in
set_option maxHeartbeats 2000000 in
theorem Afford_calls (w : World) (o r s v c : Int) :
    Calls Try.prog 33 #[agg4 o r s v, .int .i64 c] w (AfPost w o r s v c) := by
  obtain ⟨er, her⟩ : ∃ er, affE o r s v c = er := ⟨_, rfl⟩
  have HER := Lib.hid her
  have HE : Hid (firstErr [costErr o r s v, whenE (!inB c 0 10000000000000000) 1, whenE (decide (c < o)) 16] = er) := Lib.hid her
  clear her
  go_enter Try.func33, Try.ntmps33
  go_wp2_with fail
  have hrB := (Blk.new w 51 #[.int .i64 o, .int .i64 r, .int .i64 s, .int .i64 v]).alloc (.cells #[.int .i64 c] 3)
  have hcB := Blk.new2 w (.cells #[.int .i64 o, .int .i64 r, .int .i64 s, .int .i64 v] 51) 3 #[.int .i64 c]
  have hm0 : Pure w ((w.alloc (.cells #[.int .i64 o, .int .i64 r, .int .i64 s, .int .i64 v] 51)).alloc (.cells #[.int .i64 c] 3)) := ((Mod.refl _ _).alloc _).alloc _
  generalize ((w.alloc (.cells #[.int .i64 o, .int .i64 r, .int .i64 s, .int .i64 v] 51)).alloc (.cells #[.int .i64 c] 3)) = X at *
  have q0 := hrB.cell 0
  have q1 := hrB.cell 1
  have q2 := hrB.cell 2
  have q3 := hrB.cell 3
  have q4 := hcB.cell 0
  simp at q0 q1 q2 q3 q4
  go_cut [6] (fun v wx => v = .int .i64 er ∧ Pure X wx)
  case first =>
    go_region_held3 (fun w' => w'.cell? ⟨w.heap.size, 0, none⟩ = some (.int .i64 o) ∧ w'.cell? ⟨w.heap.size, 1, none⟩ = some (.int .i64 r) ∧ w'.cell? ⟨w.heap.size, 2, none⟩ = some (.int .i64 s) ∧ w'.cell? ⟨w.heap.size, 3, none⟩ = some (.int .i64 v) ∧ w'.cell? ⟨w.heap.size + 1, 0, none⟩ = some (.int .i64 c)) (go_keep)
      (first
        | (go_at_call 81; (refine (costError_calls _ _ _ _ _).mono ?_); rintro e w1 ⟨rfl, hm1⟩; have k0 := hm1.keep q0 id; have k1 := hm1.keep q1 id; have k2 := hm1.keep q2 id; have k3 := hm1.keep q3 id; have k4 := hm1.keep q4 id)
        | (go_at_call 74; (refine (in_calls _ _ _ _).mono ?_); rintro e w' ⟨rfl, rfl⟩)
        | (go_at_call 73; (refine (when_any _ _ _).mono ?_); rintro e w' ⟨rfl, rfl⟩)
        | (go_at_call 79; (refine (firstE_calls _ _ _ [costErr o r s v, whenE (!inB c 0 10000000000000000) 1, whenE (decide (c < o)) 16] (Blk.new _ _ _).row0 (by simp)).mono ?_); rintro e w2 ⟨rfl, hm2⟩; have hM2 : Pure w1 w2 := ((Mod.refl _ _).alloc _).trans hm2; have i0 := hM2.keep k0 id; have i1 := hM2.keep k1 id; have i2 := hM2.keep k2 id; have i3 := hM2.keep k3 id; have i4 := hM2.keep k4 id))
    all_goals
      rw [HE.out]
      go_wp2_with fail
      go_meet
      exact ⟨rfl, ((Mod.refl _ _).drew.trans hm1).trans hM2⟩
  case rest =>
    obtain ⟨rfl, hm3⟩ := hcut
    have h1 := hrB.mod hm3 id
    have h2 := hcB.mod hm3 id
    clear q0 q1 q2 q3 q4 hrB hcB
    by_cases h0 : er = 0
    · subst h0
      obtain ⟨hok, hc, hoc⟩ := affE_zero HER.out
      have HOK := Lib.hid hok
      clear hok
      go_wp2_with fail
      refine (first_calls _ _ _ _ _ _ (affP o r s v c) (by omega) (by omega) (by omega) (fun _ _ => rfl) (affP_up HOK.out (by omega)) (fun n W hn1 hn2 hm => ?_)).mono ?_
      · have l2 := (h2.mod hm id).cell 0
        simp at l2
        exact afford1_calls W _ _ o r s v c n HOK.out (by omega) (h1.mod hm id) l2
      · rintro e w2 ⟨x, hx, rfl, hm2⟩
        have hxb : 1 ≤ x ∧ x ≤ 1000001 := ⟨hx.1, hx.2.1⟩
        have HX := Lib.hid hx
        clear hx
        go_wp2_with fail
        go_ret2
        exact ⟨(hm0.trans hm3).trans hm2, .inr ⟨HER.out, x, HX.out, rfl⟩⟩
    · have hb : (er != 0) = true := by simpa using h0
      go_wp2_with fail
      go_ret2
      exact ⟨hm0.trans hm3, .inl ⟨by rw [HER.out]; exact h0, by rw [HER.out]; rfl⟩⟩

end Go.Proofs.Ytpacmdiodnnofaa
