/- Package sample: Afford's closure; the reference's AffordOf. -/
import Derived.Test.YtpacmdiodnnofaaCostB
import Derived.Test.YtpacmdiodnnofaaRMost
namespace Go.Proofs.Ytpacmdiodnnofaa
set_option linter.unusedVariables false
set_option linter.unusedSimpArgs false
open Go.RowKit
attribute [local go_sem ↓] Go.wp_at_zero Go.wp_at_succ

/-- So many items cost more than there is. -/
def affP (o r s v c : Int) (i : Int) : Bool := decide (c < costV o r s v i)
theorem costV_up {o r s v x y : Int} (h : CostOk o r s v) (hx : 0 ≤ x) (hy : x ≤ y) : costV o r s v x ≤ costV o r s v y := by
  obtain ⟨⟨o1, o2⟩, ⟨r1, r2⟩, ⟨s1, s2⟩, v1, v2⟩ := h
  have a1 : x * r ≤ y * r := Int.mul_le_mul_of_nonneg_right hy r1
  unfold costV
  by_cases hv : 0 < v
  · rw [if_pos hv, if_pos hv]
    have a2 : x / v ≤ y / v := Int.ediv_le_ediv hv hy
    have a3 : x / v * s ≤ y / v * s := Int.mul_le_mul_of_nonneg_right a2 s1
    omega
  · rw [if_neg hv, if_neg hv]
    omega
theorem affP_up {o r s v c lo hi : Int} (h : CostOk o r s v) (hlo : 0 ≤ lo) : ∀ x y : Int, lo ≤ x → x ≤ y → y < hi → affP o r s v c x = true → affP o r s v c y = true := by
  intro x y hx hy _ hp
  have := costV_up h (by omega : 0 ≤ x) hy
  unfold affP at hp ⊢
  simp only [decide_eq_true_eq] at hp ⊢
  omega
theorem costV_zero (o r s v : Int) : costV o r s v 0 = o := by unfold costV; simp
theorem least_zero {o r s v c x : Int} (h : o ≤ c) (hx : Least 0 1000001 (affP o r s v c) x) : Least 1 1000001 (affP o r s v c) x := by
  obtain ⟨a1, a2, a3, a4⟩ := hx
  refine ⟨?_, a2, fun y hy => a3 y (by omega), a4⟩
  by_cases hz : x = 0
  · subst hz
    have := a4 (by omega)
    unfold affP at this
    rw [costV_zero] at this
    simp only [decide_eq_true_eq] at this
    omega
  · omega
theorem least_none {o r s v c x : Int} (h : ¬ o ≤ c) (hx : Least 0 1000001 (affP o r s v c) x) : x = 0 := by
  obtain ⟨a1, a2, a3, a4⟩ := hx
  by_cases hz : x = 0
  · exact hz
  · have := a3 0 (by omega) (by omega)
    unfold affP at this
    rw [costV_zero] at this
    simp only [decide_eq_false_iff_not] at this
    omega

set_option maxRecDepth 100000 in
set_option maxHeartbeats 1000000 in
theorem afford1_calls (w : World) (g1 g2 : Nat) (o r s v c i : Int) (h : CostOk o r s v) (hi : 0 ≤ i ∧ i ≤ 1000000) (h1 : Blk w g1 51 #[.int .i64 o, .int .i64 r, .int .i64 s, .int .i64 v]) (h2 : w.cell? ⟨g2, 0, none⟩ = some (.int .i64 c)) :
    Calls Try.prog 84 #[.int .i64 i, .pointer (some ⟨g1, 0, none⟩), .pointer (some ⟨g2, 0, none⟩)] w (BoolPost w (affP o r s v c i)) := by
  have q0 := h1.cell 0
  have q1 := h1.cell 1
  have q2 := h1.cell 2
  have q3 := h1.cell 3
  simp at q0 q1 q2 q3
  go_enter Try.func84, Try.ntmps84
  go_wp2_with fail
  go_region_held3 (fun w' => w'.cell? ⟨g1, 0, none⟩ = some (.int .i64 o) ∧ w'.cell? ⟨g1, 1, none⟩ = some (.int .i64 r) ∧ w'.cell? ⟨g1, 2, none⟩ = some (.int .i64 s) ∧ w'.cell? ⟨g1, 3, none⟩ = some (.int .i64 v) ∧ w'.cell? ⟨g2, 0, none⟩ = some (.int .i64 c)) (go_keep)
    (first
      | (go_at_call 83; (refine (cost_calls _ _ _ _ _ _ h hi).mono ?_); rintro e w1 ⟨rfl, hm1⟩; have k0 := hm1.keep q0 id; have k1 := hm1.keep q1 id; have k2 := hm1.keep q2 id; have k3 := hm1.keep q3 id; have k4 := hm1.keep h2 id))
  go_wp2_with fail
  go_ret
  exact BoolPost.of rfl (((Mod.refl _ _).drew).trans hm1)

def AffPost (w : World) (o r s v c : Int) (e : Ending) (w' : World) : Prop := ∃ x : Int, Least 0 1000001 (affP o r s v c) x ∧ e = .returned (.tuple #[.int .i64 (if 0 < x - 1 then x - 1 else 0), .bool (decide (0 ≤ x - 1))]) ∧ Pure w w'

set_option maxRecDepth 100000 in
set_option maxHeartbeats 2000000 in
theorem AffordOf_calls (w : World) (o r s v c : Int) (h : CostOk o r s v) :
    Calls Try.prog 36 #[agg4 o r s v, .int .i64 c] w (AffPost w o r s v c) := by
  have HOK := Lib.hid h
  clear h
  go_enter Try.func36, Try.ntmps36
  go_wp2_with fail
  have hrB := Blk.new w 51 #[.int .i64 o, .int .i64 r, .int .i64 s, .int .i64 v]
  have hm0 : Pure w (w.alloc (.cells #[.int .i64 o, .int .i64 r, .int .i64 s, .int .i64 v] 51)) := (Mod.refl _ _).alloc _
  generalize (w.alloc (.cells #[.int .i64 o, .int .i64 r, .int .i64 s, .int .i64 v] 51)) = W at *
  go_loopg [6, 7] (1000002 : Int).toNat (fun gk l h wr => MORel W (-1) 1000001 (affP o r s v c) gk l h wr)
  case atStart => exact ⟨-1, 1000001, by omega, by omega, by omega, by omega, rfl, rfl, fun h => by omega, fun h => by omega, Mod.refl _ _⟩
  case round =>
    obtain ⟨a, b, rfl, ha, hab, hb, rfl, rfl, hlow, hhigh, hm⟩ := hrel
    have HLOW := Lib.hid hlow
    have HHIGH := Lib.hid hhigh
    clear hlow hhigh
    have h1 := hrB.mod hm id
    have q0 := h1.cell 0
    have q1 := h1.cell 1
    have q2 := h1.cell 2
    have q3 := h1.cell 3
    simp at q0 q1 q2 q3
    clear h1
    by_cases hlt : 1 < b - a
    · obtain ⟨m, hr⟩ : ∃ m : Int, (a + b) / 2 = m := ⟨_, rfl⟩
      have hrb : a < m ∧ m < b := by omega
      have ht : (a + b).tdiv 2 = m := by rw [Int.tdiv_eq_ediv_of_nonneg (by omega)]; exact hr
      clear hr
      go_wp2_with fail
      refine (CostOf_calls _ _ _ _ _ _ HOK.out (by omega)).mono ?_
      rintro e w1 ⟨rfl, hm1⟩
      have hP : affP o r s v c m = decide (c < costV o r s v m) := rfl
      have HP := Lib.hid hP
      clear hP
      generalize costV o r s v m = cv at *
      by_cases hl : cv ≤ c
      · have hl2 : decide (c < cv) = false := by simp; omega
        have HL := Lib.hid hl2
        clear hl2
        go_wp2_with fail
        go_roundg (b - m).toNat
        case measure => omega
        case rel => exact ⟨m, b, rfl, by omega, by omega, hb, rfl, rfl, fun _ => by rw [HP.out, HL.out], HHIGH.out, hm.trans hm1⟩
      · have hl2 : decide (c < cv) = true := by simp; omega
        have HL := Lib.hid hl2
        clear hl2
        go_wp2_with fail
        go_roundg (m - a).toNat
        case measure => omega
        case rel => exact ⟨a, m, rfl, ha, by omega, by omega, rfl, rfl, HLOW.out, fun _ => by rw [HP.out, HL.out], hm.trans hm1⟩
    · have hL : Least 0 1000001 (affP o r s v c) (a + 1) := least_of (lo := -1) (affP_up HOK.out (by omega)) ha (by omega) hb HLOW.out HHIGH.out
      have HL := Lib.hid hL
      clear hL
      by_cases h0 : 0 < a
      · have h00 : (0 : Int) ≤ a := by omega
        go_wp2_with fail
        go_ret2
        refine ⟨a + 1, HL.out, ?_, hm0.trans hm⟩
        rw [Int.add_sub_cancel, if_pos h0, decide_eq_true h00]
        rfl
      · go_wp2_with fail
        go_ret2
        refine ⟨a + 1, HL.out, ?_, hm0.trans hm⟩
        rw [Int.add_sub_cancel, if_neg (by omega)]
        rfl

end Go.Proofs.Ytpacmdiodnnofaa
