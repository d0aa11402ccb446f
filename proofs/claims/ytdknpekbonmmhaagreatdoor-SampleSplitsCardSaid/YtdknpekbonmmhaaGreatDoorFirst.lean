/- Package sample: first, for any closure with two captured variables whose answers rise. -/
import Derived.Test.YtdknpekbonmmhaaGreatDoorNatD
namespace Go.Proofs.YtdknpekbonmmhaaGreatDoor
set_option linter.unusedVariables false
set_option linter.unusedSimpArgs false
open Go.RowKit

def BoolPost (w : World) (b : Bool) (e : Ending) (w' : World) : Prop := e = .returned (.bool b) ∧ Pure w w'
theorem BoolPost.of {w w' : World} {n m : Bool} (h : n = m) (hm : Pure w w') : BoolPost w n (.returned (.bool m)) w' := ⟨by rw [h], hm⟩

/-- x is the least number from lo to hi for which P holds (hi, if for none below). -/
def Least (lo hi : Int) (P : Int → Bool) (x : Int) : Prop := lo ≤ x ∧ x ≤ hi ∧ (∀ y, lo ≤ y → y < x → P y = false) ∧ (x < hi → P x = true)
theorem Least.unique {lo hi : Int} {P : Int → Bool} {x y : Int} (hx : Least lo hi P x) (hy : Least lo hi P y) : x = y := by
  obtain ⟨a1, a2, a3, a4⟩ := hx
  obtain ⟨b1, b2, b3, b4⟩ := hy
  rcases Int.lt_trichotomy x y with h | h | h
  · have := b3 x a1 h; rw [a4 (by omega)] at this; cases this
  · exact h
  · have := a3 y b1 h; rw [b4 (by omega)] at this; cases this

def FirstPost (w : World) (lo hi : Int) (P : Int → Bool) (e : Ending) (w' : World) : Prop := ∃ x, Least lo hi P x ∧ e = .returned (.int .i64 x) ∧ Pure w w'
def FirstRel (w : World) (lo hi : Int) (P : Int → Bool) (gk : Nat) (l h : Value) (wr : World) : Prop :=
  ∃ a b : Int, (b - a).toNat = gk ∧ lo ≤ a ∧ a ≤ b ∧ b ≤ hi ∧ l = .int .i64 a ∧ h = .int .i64 b ∧ (∀ y, lo ≤ y → y < a → P y = false) ∧ (b < hi → P b = true) ∧ Pure w wr

set_option maxRecDepth 100000 in
set_option maxHeartbeats 1000000 in
theorem first_calls (w : World) (lo hi : Int) (F : Nat) (c1 c2 : Value) (P : Int → Bool) (h1 : lo ≤ hi) (h2 : -4611686018427387904 ≤ lo) (h3 : hi ≤ 4611686018427387903)
    (hcf : ∀ (n : Int) (W : World), Sem.run Tryz.prog (callFunc F #[.int .i64 n, c1, c2]) W = .ok (.enter F #[.int .i64 n, c1, c2]) W)
    (hP : ∀ x y, lo ≤ x → x ≤ y → y < hi → P x = true → P y = true)
    (hF : ∀ (n : Int) (W : World), lo ≤ n → n < hi → Pure w W → Calls Tryz.prog F #[.int .i64 n, c1, c2] W (BoolPost W (P n))) :
    Calls Tryz.prog 271 #[.int .i64 lo, .int .i64 hi, .func (.func F) #[] #[c1, c2]] w (FirstPost w lo hi P) := by
  have HP := Lib.hid hP
  have HF := Lib.hid hF
  clear hP hF
  go_enter Tryz.func271, Tryz.ntmps271
  go_wp2_with fail
  go_loopg [0, 1] (hi - lo).toNat (fun gk l h wr => FirstRel w lo hi P gk l h wr)
  case atStart => exact ⟨lo, hi, rfl, by omega, h1, by omega, rfl, rfl, fun y _ _ => by omega, fun h => by omega, Mod.refl _ _⟩
  case round =>
    obtain ⟨a, b, rfl, ha, hab, hb, rfl, rfl, hlow, hhigh, hm⟩ := hrel
    have HLOW := Lib.hid hlow
    have HHIGH := Lib.hid hhigh
    clear hlow hhigh
    by_cases hlt : a < b
    · go_wp2_with fail
      refine (HF.out _ _ (by omega) (by omega) hm).mono ?_
      rintro e w1 ⟨rfl, hm1⟩
      obtain ⟨c, hc⟩ : ∃ c, a + (b - a) / 2 = c := ⟨_, rfl⟩
      have hcb : a ≤ c ∧ c < b := by omega
      rw [hc]
      cases hpc : P c
      · go_wp2_with fail
        go_roundg (b - (c + 1)).toNat
        case measure => omega
        case rel =>
          refine ⟨c + 1, b, rfl, by omega, by omega, hb, rfl, rfl, fun y hy1 hy2 => ?_, HHIGH.out, hm.trans hm1⟩
          cases hpy : P y with
          | false => rfl
          | true =>
            have := HP.out y c hy1 (by omega) (by omega) hpy
            rw [hpc] at this
            cases this
      · go_wp2_with fail
        go_roundg (c - a).toNat
        case measure => omega
        case rel => exact ⟨a, c, rfl, ha, by omega, by omega, rfl, rfl, HLOW.out, fun _ => hpc, hm.trans hm1⟩
    · have hab2 : a = b := by omega
      subst hab2
      go_wp2_with fail
      go_ret
      exact ⟨a, ⟨ha, hb, HLOW.out, HHIGH.out⟩, rfl, hm⟩

end Go.Proofs.YtdknpekbonmmhaaGreatDoor
