/- The reference's MostOf, FewestOf, LevelFault, DrawnFault. -/
import Derived.Test.YtpacmdiodnnofaaRLikely
import Derived.Test.YtpacmdiodnnofaaMostB
namespace Go.Proofs.Ytpacmdiodnnofaa
set_option linter.unusedVariables false
set_option linter.unusedSimpArgs false
open Go.RowKit
attribute [local go_sem ↓] Go.wp_at_zero Go.wp_at_succ

def MORel (w : World) (lo hi : Int) (P : Int → Bool) (gk : Nat) (l h : Value) (wr : World) : Prop :=
  ∃ a b : Int, (b - a).toNat = gk ∧ lo ≤ a ∧ a < b ∧ b ≤ hi ∧ l = .int .i64 a ∧ h = .int .i64 b ∧ (lo < a → P a = false) ∧ (b < hi → P b = true) ∧ Pure w wr
theorem least_of {lo hi a b : Int} {P : Int → Bool} (hP : ∀ x y : Int, lo + 1 ≤ x → x ≤ y → y < hi → P x = true → P y = true) (h1 : lo ≤ a) (h2 : a + 1 = b) (h3 : b ≤ hi) (h4 : lo < a → P a = false) (h5 : b < hi → P b = true) : Least (lo + 1) hi P (a + 1) := by
  refine ⟨by omega, by omega, fun y hy1 hy2 => ?_, fun h => by rw [h2]; exact h5 (by omega)⟩
  cases hpy : P y with
  | false => rfl
  | true =>
    have := hP y a hy1 (by omega) (by omega) hpy
    rw [h4 (by omega)] at this
    cases this

set_option maxRecDepth 100000 in
set_option maxHeartbeats 2000000 in
theorem MostOf_calls (w : World) (p s f num den : Nat) (h : DrawnOk p s f num den) :
    Calls Try.prog 23 #[agg3 p s f, agg2 num den] w (MostPost w p s f num den) := by
  have HOK := Lib.hid h
  obtain ⟨a1, a2, a3, a4, a5, a6, a7, a8, a9⟩ := h
  go_enter Try.func23, Try.ntmps23
  go_wp2_with fail
  have hdB := (Blk.new w 27 #[.int .i64 (p : Int), .int .i64 (s : Int), .int .i64 (f : Int)]).alloc (.cells #[.int .i64 (num : Int), .int .i64 (den : Int)] 30)
  have hlB := Blk.new (w.alloc (.cells #[.int .i64 (p : Int), .int .i64 (s : Int), .int .i64 (f : Int)] 27)) 30 #[.int .i64 (num : Int), .int .i64 (den : Int)]
  rw [World.size_alloc] at hlB
  have hm0 : Pure w ((w.alloc (.cells #[.int .i64 (p : Int), .int .i64 (s : Int), .int .i64 (f : Int)] 27)).alloc (.cells #[.int .i64 (num : Int), .int .i64 (den : Int)] 30)) := ((Mod.refl _ _).alloc _).alloc _
  generalize ((w.alloc (.cells #[.int .i64 (p : Int), .int .i64 (s : Int), .int .i64 (f : Int)] 27)).alloc (.cells #[.int .i64 (num : Int), .int .i64 (den : Int)] 30)) = W at *
  have q0 := hdB.cell 0
  have q1 := hdB.cell 1
  have q2 := hdB.cell 2
  simp at q0 q1 q2
  have e1 : IntKind.i64.wrap ((p : Int) - (s : Int)) = (p : Int) - (s : Int) := IntWalk.i64_in _ (by omega)
  have e2 : IntKind.i64.wrap ((p : Int) - (s : Int) + (f : Int)) = (p : Int) - (s : Int) + (f : Int) := IntWalk.i64_in _ (by omega)
  have e3 : IntKind.i64.wrap ((p : Int) - (s : Int) + (f : Int) + 1) = (p : Int) - (s : Int) + (f : Int) + 1 := IntWalk.i64_in _ (by omega)
  go_quiet (fail)
  clear e1 e2 e3 q0 q1 q2
  go_wp2_with fail
  go_loopg [5, 6] ((p : Int) - s + 1).toNat (fun gk l h wr => MORel W (f : Int) ((p : Int) - s + f + 1) (mostP p s f num den) gk l h wr)
  case atStart => exact ⟨f, (p : Int) - s + f + 1, by omega, by omega, by omega, by omega, rfl, rfl, fun h => by omega, fun h => by omega, (Mod.refl _ _).drewN _⟩
  case round =>
    obtain ⟨a, b, rfl, ha, hab, hb, rfl, rfl, hlow, hhigh, hm⟩ := hrel
    have HLOW := Lib.hid hlow
    have HHIGH := Lib.hid hhigh
    clear hlow hhigh
    have h1 := hdB.mod hm id
    have h2 := hlB.mod hm id
    have q0 := h1.cell 0
    have q1 := h1.cell 1
    have q2 := h1.cell 2
    have l0 := h2.cell 0
    have l1 := h2.cell 1
    simp at q0 q1 q2 l0 l1
    clear h1 h2
    by_cases hlt : 1 < b - a
    · obtain ⟨r, hr⟩ : ∃ r : Nat, (a + b) / 2 = (r : Int) := ⟨((a + b) / 2).toNat, by omega⟩
      have hrb : a < r ∧ (r : Int) < b := by omega
      have HR := Lib.hid hr
      go_wp2_with fail
      refine (rlikely_calls _ p s f r 0 f num den (by omega) a2 (by omega) a6 (by omega) (by omega) (by omega)).mono ?_
      rintro e w1 ⟨rfl, hm1⟩
      have hPr : mostP p s f num den (r : Int) = !likelyB p s r 0 (f + 1) num den := rfl
      have HPR := Lib.hid hPr
      clear hPr
      cases hl : likelyB p s r 0 (f + 1 - 0) num den
      · have hl2 : likelyB p s r 0 (f + 1) num den = false := hl
        go_wp2_with fail
        go_roundg ((r : Int) - a).toNat
        case measure => omega
        case rel => exact ⟨a, r, rfl, ha, by omega, by omega, rfl, rfl, HLOW.out, fun _ => by rw [HPR.out, hl2]; rfl, hm.trans hm1⟩
      · have hl2 : likelyB p s r 0 (f + 1) num den = true := hl
        go_wp2_with fail
        go_roundg (b - (r : Int)).toNat
        case measure => omega
        case rel => exact ⟨r, b, rfl, by omega, by omega, hb, rfl, rfl, fun _ => by rw [HPR.out, hl2]; rfl, HHIGH.out, hm.trans hm1⟩
    · go_wp2_with fail
      go_ret
      exact ⟨a, least_of (mostP_up HOK.out) ha (by omega) hb HLOW.out HHIGH.out, rfl, hm0.trans hm⟩

def FewPost (w : World) (p s f num den : Nat) (e : Ending) (w' : World) : Prop := ∃ x : Int, IsFew p s f num den x ∧ e = .returned (.int .i64 x) ∧ Pure w w'
theorem least_of' {lo hi a b : Int} {P : Int → Bool} (hP : ∀ x y : Int, lo ≤ x → x ≤ y → y < hi → P x = true → P y = true) (h1 : lo - 1 ≤ a) (h2 : a + 1 = b) (h3 : b ≤ hi) (h4 : lo - 1 < a → P a = false) (h5 : b < hi → P b = true) : Least lo hi P b := by
  have := least_of (lo := lo - 1) (fun x y hx => hP x y (by omega)) h1 h2 h3 h4 h5
  rw [Int.sub_add_cancel, h2] at this
  exact this

set_option maxRecDepth 100000 in
set_option maxHeartbeats 2000000 in
theorem FewestOf_calls (w : World) (p s f num den : Nat) (h : DrawnOk p s f num den) :
    Calls Try.prog 24 #[agg3 p s f, agg2 num den] w (FewPost w p s f num den) := by
  have HOK := Lib.hid h
  obtain ⟨a1, a2, a3, a4, a5, a6, a7, a8, a9⟩ := h
  go_enter Try.func24, Try.ntmps24
  go_wp2_with fail
  have hdB := (Blk.new w 27 #[.int .i64 (p : Int), .int .i64 (s : Int), .int .i64 (f : Int)]).alloc (.cells #[.int .i64 (num : Int), .int .i64 (den : Int)] 30)
  have hlB := Blk.new (w.alloc (.cells #[.int .i64 (p : Int), .int .i64 (s : Int), .int .i64 (f : Int)] 27)) 30 #[.int .i64 (num : Int), .int .i64 (den : Int)]
  rw [World.size_alloc] at hlB
  have hm0 : Pure w ((w.alloc (.cells #[.int .i64 (p : Int), .int .i64 (s : Int), .int .i64 (f : Int)] 27)).alloc (.cells #[.int .i64 (num : Int), .int .i64 (den : Int)] 30)) := ((Mod.refl _ _).alloc _).alloc _
  generalize ((w.alloc (.cells #[.int .i64 (p : Int), .int .i64 (s : Int), .int .i64 (f : Int)] 27)).alloc (.cells #[.int .i64 (num : Int), .int .i64 (den : Int)] 30)) = W at *
  have q0 := hdB.cell 0
  have q1 := hdB.cell 1
  have q2 := hdB.cell 2
  simp at q0 q1 q2
  have e0 : IntKind.i64.wrap ((f : Int) - 1) = (f : Int) - 1 := IntWalk.i64_in _ (by omega)
  have e1 : IntKind.i64.wrap ((p : Int) - (s : Int)) = (p : Int) - (s : Int) := IntWalk.i64_in _ (by omega)
  have e2 : IntKind.i64.wrap ((p : Int) - (s : Int) + (f : Int)) = (p : Int) - (s : Int) + (f : Int) := IntWalk.i64_in _ (by omega)
  go_quiet (fail)
  clear e0 e1 e2 q0 q1 q2
  go_wp2_with fail
  go_loopg [5, 6] ((p : Int) - s + 1).toNat (fun gk l h wr => MORel W ((f : Int) - 1) ((p : Int) - s + f) (fewP p s f num den) gk l h wr)
  case atStart => exact ⟨(f : Int) - 1, (p : Int) - s + f, by omega, by omega, by omega, by omega, rfl, rfl, fun h => by omega, fun h => by omega, (Mod.refl _ _).drewN _⟩
  case round =>
    obtain ⟨a, b, rfl, ha, hab, hb, rfl, rfl, hlow, hhigh, hm⟩ := hrel
    have HLOW := Lib.hid hlow
    have HHIGH := Lib.hid hhigh
    clear hlow hhigh
    have h1 := hdB.mod hm id
    have h2 := hlB.mod hm id
    have q0 := h1.cell 0
    have q1 := h1.cell 1
    have q2 := h1.cell 2
    have l0 := h2.cell 0
    have l1 := h2.cell 1
    simp at q0 q1 q2 l0 l1
    clear h1 h2
    by_cases hlt : 1 < b - a
    · obtain ⟨r, hr⟩ : ∃ r : Nat, (a + b) / 2 = (r : Int) := ⟨((a + b) / 2).toNat, by omega⟩
      have hrb : a < r ∧ (r : Int) < b := by omega
      have hr0 : 0 ≤ a + b := by omega
      go_wp2_with fail
      refine (rlikely_calls _ p s f r f s num den (by omega) a2 (by omega) (by omega) (by omega) (by omega) (by omega)).mono ?_
      rintro e w1 ⟨rfl, hm1⟩
      have hPr : fewP p s f num den (r : Int) = likelyB p s r f (s + 1 - f) num den := rfl
      have HPR := Lib.hid hPr
      clear hPr
      cases hl : likelyB p s r f (s + 1 - f) num den
      · go_wp2_with fail
        go_roundg (b - (r : Int)).toNat
        case measure => omega
        case rel => exact ⟨r, b, rfl, by omega, by omega, hb, rfl, rfl, fun _ => by rw [HPR.out, hl], HHIGH.out, hm.trans hm1⟩
      · go_wp2_with fail
        go_roundg ((r : Int) - a).toNat
        case measure => omega
        case rel => exact ⟨a, r, rfl, ha, by omega, by omega, rfl, rfl, HLOW.out, fun _ => by rw [HPR.out, hl], hm.trans hm1⟩
    · go_wp2_with fail
      go_ret
      exact ⟨b, least_of' (fewP_up HOK.out) ha (by omega) hb HLOW.out HHIGH.out, rfl, hm0.trans hm⟩

end Go.Proofs.Ytpacmdiodnnofaa
