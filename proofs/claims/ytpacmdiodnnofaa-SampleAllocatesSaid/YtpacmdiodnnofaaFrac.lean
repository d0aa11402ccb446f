/- Fractions in lowest terms: sample.fraction, the reference's Lowest. -/
import Derived.Test.YtpacmdiodnnofaaFirst
import Derived.Deep.DeepCutAuto
namespace Go.Proofs.Ytpacmdiodnnofaa
set_option linter.unusedVariables false
set_option linter.unusedSimpArgs false
open Go.RowKit

/-- The two numbers of a fraction in lowest terms. -/
def fracN (n d : Int) : Int := n.tdiv (Int.gcd n d : Int)
def fracD (n d : Int) : Int := d.tdiv (Int.gcd n d : Int)
theorem tdiv_bound (n g b : Int) (hb : 0 ≤ b) (h : -b ≤ n ∧ n ≤ b) (hg : 1 ≤ g) : -b ≤ n.tdiv g ∧ n.tdiv g ≤ b := by
  have h1 : (n.tdiv g).natAbs ≤ n.natAbs := by
    rw [Int.natAbs_tdiv]
    exact Nat.div_le_self _ _
  omega
theorem frac_bound (n d b : Int) (h : -b ≤ n ∧ n ≤ b) (hd : 1 ≤ d) (hdb : d ≤ b) : (-b ≤ fracN n d ∧ fracN n d ≤ b) ∧ (-b ≤ fracD n d ∧ fracD n d ≤ b) := by
  have hg : 1 ≤ (Int.gcd n d : Int) := by
    have : 0 < Int.gcd n d := Int.gcd_pos_of_ne_zero_right _ (by omega)
    omega
  exact ⟨tdiv_bound _ _ _ (by omega) h hg, tdiv_bound _ _ _ (by omega) (by omega) hg⟩

def FracRes (w : World) (n d : Int) (e : Ending) (w' : World) : Prop := e = .returned (.agg #[.int .i64 n, .int .i64 d]) ∧ Pure w w'

set_option maxRecDepth 100000 in
set_option maxHeartbeats 1000000 in
theorem fraction_calls (w : World) (n d : Int) (hn : -4611686018427387904 ≤ n ∧ n ≤ 4611686018427387904) (hd : 1 ≤ d) (hd2 : d ≤ 4611686018427387904) :
    Calls Try.prog 80 #[.int .i64 n, .int .i64 d] w (FracRes w (fracN n d) (fracD n d)) := by
  have hfb := frac_bound n d 4611686018427387904 hn hd hd2
  obtain ⟨⟨f1, f2⟩, f3, f4⟩ := hfb
  obtain ⟨q1, hq1⟩ : ∃ q, fracN n d = q := ⟨_, rfl⟩
  obtain ⟨q2, hq2⟩ : ∃ q, fracD n d = q := ⟨_, rfl⟩
  rw [hq1] at f1 f2 ⊢
  rw [hq2] at f3 f4 ⊢
  have HQ1 : Hid (n.tdiv (Int.gcd n d : Int) = q1) := hq1
  have HQ2 : Hid (d.tdiv (Int.gcd n d : Int) = q2) := hq2
  clear hq1 hq2
  obtain ⟨a0, ha0, ha1⟩ : ∃ a : Nat, (if n < -n then -n else n) = (a : Int) ∧ a = n.natAbs := ⟨n.natAbs, by split <;> omega, rfl⟩
  have HA1 := Lib.hid ha1
  have hab : a0 ≤ 4611686018427387904 := by omega
  obtain ⟨d0, rfl⟩ := Int.eq_ofNat_of_zero_le (show 0 ≤ d by omega)
  clear ha1
  go_enter Try.func80, Try.ntmps80
  go_wp2_with fail
  clear ha0
  have hrB := Blk.new w 30 #[.int .i64 0, .int .i64 0]
  have hm0 : Pure w (w.alloc (.cells #[.int .i64 0, .int .i64 0] 30)) := (Mod.refl _ _).alloc _
  generalize (w.alloc (.cells #[.int .i64 0, .int .i64 0] 30)) = X at *
  go_loopg [5, 6] d0 (fun gk x y wr => ∃ a b : Nat, b = gk ∧ x = .int .i64 (a : Int) ∧ y = .int .i64 (b : Int) ∧ Nat.gcd a b = Int.gcd n d0 ∧ a ≤ 4611686018427387904 ∧ b ≤ 4611686018427387904 ∧ Pure X wr)
  case atStart => exact ⟨a0, d0, rfl, rfl, rfl, by rw [HA1.out]; rfl, hab, by omega, Mod.refl _ _⟩
  case round =>
    obtain ⟨a, b, rfl, rfl, rfl, hg, hab1, hab2, hm⟩ := hrel
    have HG := Lib.hid hg
    clear hg
    by_cases h0 : b = 0
    · subst h0
      have hga : a = Int.gcd n d0 := by have := HG.out; simpa using this
      have hpos : 0 < Int.gcd n (d0 : Int) := Int.gcd_pos_of_ne_zero_right _ (by omega)
      have hapos : 0 < a := by omega
      have haz : ((a : Int) == 0) = false := by simp; omega
      have t1 : n.tdiv (a : Int) = q1 := by rw [hga]; exact HQ1.out
      have t2 : (d0 : Int).tdiv (a : Int) = q2 := by rw [hga]; exact HQ2.out
      have e1 : IntKind.i64.wrap q1 = q1 := IntWalk.i64_in _ (by omega)
      have e2 : IntKind.i64.wrap q2 = q2 := IntWalk.i64_in _ (by omega)
      have hr := hrB.mod hm id
      have c0 := hr.cell 0
      have c1 := hr.cell 1
      have g0 := hr.frozen 0
      have g1 := hr.frozen 1
      simp at c0 c1
      clear hga hpos hrB hr HG
      go_wp2_with fail
      go_region
      all_goals
        go_wp2_with fail
        refine bodyPost_ret (v := .agg #[.int .i64 q1, .int .i64 q2]) (by simp [results, Try.results80, go_sem, c0, c1]) rfl ?_
        exact ⟨rfl, ((hm0.trans hm).drew.setCell (.inr (Nat.le_refl _)) _).setCell (.inr (Nat.le_refl _)) _⟩
    · have hb0 : ((b : Int) == 0) = false := by simp; omega
      have hpos : 0 < b := by omega
      obtain ⟨r, hr⟩ : ∃ r, a % b = r := ⟨_, rfl⟩
      have hrb : r < b := by rw [← hr]; exact Nat.mod_lt _ hpos
      have t1 : (a : Int).tmod (b : Int) = (r : Int) := by rw [← hr]; exact (Int.ofNat_tmod a b).symm
      have e1 : IntKind.i64.wrap (r : Int) = (r : Int) := IntWalk.i64_in _ (by omega)
      have HR := Lib.hid hr
      clear hr
      go_wp2_with fail
      go_quiet (fail)
      go_wp2_with fail
      go_roundg r
      case measure => omega
      case rel =>
        refine ⟨b, r, rfl, rfl, rfl, ?_, by omega, by omega, hm.drewN _⟩
        rw [← HG.out, ← HR.out, Nat.gcd_comm b, ← Nat.gcd_rec, Nat.gcd_comm]

end Go.Proofs.Ytpacmdiodnnofaa
