/- The reference's Lowest. -/
import Derived.Test.YtpacmdiodnnofaaFrac
namespace Go.Proofs.Ytpacmdiodnnofaa
set_option linter.unusedVariables false
set_option linter.unusedSimpArgs false
open Go.RowKit

theorem gcd_step (a b : Int) : Int.gcd b (a.tmod b) = Int.gcd a b := by
  unfold Int.gcd
  rw [Int.natAbs_tmod, Nat.gcd_comm b.natAbs, ← Nat.gcd_rec, Nat.gcd_comm]

set_option maxRecDepth 100000 in
set_option maxHeartbeats 1000000 in
theorem lowest_calls (w : World) (n d : Int) (hn : -4611686018427387904 ≤ n ∧ n ≤ 4611686018427387904) (hd : 1 ≤ d) (hd2 : d ≤ 4611686018427387904) :
    Calls Try.prog 40 #[.int .i64 n, .int .i64 d] w (FracRes w (fracN n d) (fracD n d)) := by
  have hfb := frac_bound n d 4611686018427387904 hn hd hd2
  obtain ⟨⟨f1, f2⟩, f3, f4⟩ := hfb
  obtain ⟨q1, hq1⟩ : ∃ q, fracN n d = q := ⟨_, rfl⟩
  obtain ⟨q2, hq2⟩ : ∃ q, fracD n d = q := ⟨_, rfl⟩
  rw [hq1] at f1 f2 ⊢
  rw [hq2] at f3 f4 ⊢
  have HQ1 : Hid (n.tdiv (Int.gcd n d : Int) = q1) := hq1
  have HQ2 : Hid (d.tdiv (Int.gcd n d : Int) = q2) := hq2
  clear hq1 hq2
  go_enter Try.func40, Try.ntmps40
  go_wp2_with fail
  have hrB := Blk.new w 30 #[.int .i64 0, .int .i64 0]
  have hm0 : Pure w (w.alloc (.cells #[.int .i64 0, .int .i64 0] 30)) := (Mod.refl _ _).alloc _
  generalize (w.alloc (.cells #[.int .i64 0, .int .i64 0] 30)) = X at *
  go_loopg [5, 6] d.natAbs (fun gk x y wr => ∃ a b : Int, b.natAbs = gk ∧ x = .int .i64 a ∧ y = .int .i64 b ∧ Int.gcd a b = Int.gcd n d ∧ (-4611686018427387904 ≤ a ∧ a ≤ 4611686018427387904) ∧ (-4611686018427387904 ≤ b ∧ b ≤ 4611686018427387904) ∧ Pure X wr)
  case atStart => exact ⟨n, d, rfl, rfl, rfl, rfl, hn, by omega, Mod.refl _ _⟩
  case round =>
    obtain ⟨a, b, rfl, rfl, rfl, hg, hab1, hab2, hm⟩ := hrel
    have HG := Lib.hid hg
    clear hg
    by_cases h0 : b = 0
    · subst h0
      have hga : a.natAbs = Int.gcd n d := by have := HG.out; simpa [Int.gcd] using this
      have hpos : 0 < Int.gcd n d := Int.gcd_pos_of_ne_zero_right _ (by omega)
      obtain ⟨g, hgg⟩ : ∃ g : Nat, Int.gcd n d = g := ⟨_, rfl⟩
      rw [hgg] at hga hpos HQ1 HQ2
      have hgb : g ≤ 4611686018427387904 := by omega
      have hgz : ((g : Int) == 0) = false := by simp; omega
      have t1 : n.tdiv (g : Int) = q1 := HQ1.out
      have t2 : d.tdiv (g : Int) = q2 := HQ2.out
      have e1 : IntKind.i64.wrap q1 = q1 := IntWalk.i64_in _ (by omega)
      have e2 : IntKind.i64.wrap q2 = q2 := IntWalk.i64_in _ (by omega)
      have hr := hrB.mod hm id
      have c0 := hr.cell 0
      have c1 := hr.cell 1
      have g0 := hr.frozen 0
      have g1 := hr.frozen 1
      simp at c0 c1
      clear hrB hr HG hgg HQ1 HQ2
      by_cases hneg : a < 0
      · obtain rfl : a = -(g : Int) := by omega
        clear hga
        go_wp2_with fail
        go_region
        all_goals
          go_wp2_with fail
          refine bodyPost_ret (v := .agg #[.int .i64 q1, .int .i64 q2]) (by simp [results, Try.results40, go_sem, c0, c1]) rfl ?_
          exact ⟨rfl, ((hm0.trans hm).drew.setCell (.inr (Nat.le_refl _)) _).setCell (.inr (Nat.le_refl _)) _⟩
      · obtain rfl : a = (g : Int) := by omega
        clear hga
        go_wp2_with fail
        go_region
        all_goals
          go_wp2_with fail
          refine bodyPost_ret (v := .agg #[.int .i64 q1, .int .i64 q2]) (by simp [results, Try.results40, go_sem, c0, c1]) rfl ?_
          exact ⟨rfl, ((hm0.trans hm).drew.setCell (.inr (Nat.le_refl _)) _).setCell (.inr (Nat.le_refl _)) _⟩
    · have hb0 : (b == 0) = false := by simpa using h0
      have hb1 : (b != 0) = true := by simpa using h0
      obtain ⟨r, hr⟩ : ∃ r, a.tmod b = r := ⟨_, rfl⟩
      have hrb : r.natAbs < b.natAbs := by rw [← hr, Int.natAbs_tmod]; exact Nat.mod_lt _ (by omega)
      have e1 : IntKind.i64.wrap r = r := IntWalk.i64_in _ (by omega)
      have HR := Lib.hid hr
      go_wp2_with fail
      go_quiet (fail)
      clear hr
      go_wp2_with fail
      go_roundg r.natAbs
      case measure => exact hrb
      case rel => exact ⟨b, r, rfl, rfl, rfl, by rw [← HR.out, gcd_step, HG.out], hab2, by omega, hm.drewN _⟩

end Go.Proofs.Ytpacmdiodnnofaa
