/- Package sample's natural numbers: compare, newNatural. -/
import Derived.Test.YtdknpekbonmmhaaGreatDoorNatC
namespace Go.Proofs.YtdknpekbonmmhaaGreatDoor
set_option linter.unusedVariables false
set_option linter.unusedSimpArgs false
open Go.RowKit

def cmpI (x y : Nat) : Int := if x < y then -1 else if x = y then 0 else 1
theorem cmpI_lt {x y : Nat} (h : x < y) : cmpI x y = -1 := by simp [cmpI, h]
theorem cmpI_gt {x y : Nat} (h : y < x) : cmpI x y = 1 := by unfold cmpI; rw [if_neg (by omega), if_neg (by omega)]
theorem cmpI_eq {x y : Nat} (h : x = y) : cmpI x y = 0 := by unfold cmpI; rw [if_neg (by omega), if_pos h]

def IntPost (w : World) (n : Int) (e : Ending) (w' : World) : Prop := e = .returned (.int .i64 n) ∧ Pure w w'
theorem IntPost.of {w w' : World} {n m : Int} (h : n = m) (hm : Pure w w') : IntPost w n (.returned (.int .i64 m)) w' := ⟨by rw [h], hm⟩
def CmpRel (w : World) (xs ys : List Nat) (gk : Nat) (i : Value) (wr : World) : Prop :=
  ∃ m : Nat, m = gk ∧ m ≤ xs.length ∧ i = .int .i64 ((m : Int) - 1) ∧ (∀ j, m ≤ j → xs.getD j 0 = ys.getD j 0) ∧ Pure w wr

set_option maxRecDepth 100000 in
set_option maxHeartbeats 1000000 in
theorem compare_calls (w : World) (a b : Value) (x y L M : Nat) (hx : IsNat w a x L) (hy : IsNat w b y M) :
    Calls Tryz.prog 327 #[a, b] w (IntPost w (cmpI x y)) := by
  obtain ⟨xs, ⟨A1, n1, c1, rfl, hc1, hc1', hl1, hr1⟩, hd1, hN1, rfl, hxl⟩ := hx
  obtain ⟨ys, ⟨A2, n2, c2, rfl, hc2, hc2', hl2, hr2⟩, hd2, hN2, rfl, hyl⟩ := hy
  rw [u32s_length, Nat.mul_one] at hl1 hl2
  subst hl1 hl2
  have HD1 := Lib.hid hd1
  have HD2 := Lib.hid hd2
  have HR1 := Lib.hid hr1
  have HR2 := Lib.hid hr2
  have HN1 := Lib.hid hN1
  have HN2 := Lib.hid hN2
  clear hd1 hd2 hr1 hr2 hN1 hN2
  by_cases hl : xs.length = ys.length
  · have hne : ((xs.length : Int) != (ys.length : Int)) = false := by simp; omega
    have HL := Lib.hid hl
    have hl1 : xs.length ≤ ys.length := by omega
    have hl2 : ys.length ≤ xs.length := by omega
    clear hl
    go_enter Tryz.func327, Tryz.ntmps327
    go_wp2_with fail
    go_loopg [5] xs.length (fun gk i wr => CmpRel w xs ys gk i wr)
    case atStart =>
      refine ⟨xs.length, rfl, Nat.le_refl _, rfl, fun j hj => ?_, Mod.refl _ _⟩
      rw [getD_ge hj, getD_ge (by omega)]
    case round =>
      obtain ⟨m, rfl, hm0, rfl, hz, hm⟩ := hrel
      have HZ := Lib.hid hz
      clear hz
      rcases m with _ | k
      · go_wp2_with fail
        go_ret
        exact IntPost.of (cmpI_eq (by rw [eq_of_digits xs ys HL.out (fun j => HZ.out j (by omega))])) hm
      · obtain ⟨g1, o1, rfl, hrr1⟩ := HR1.out (by omega)
        obtain ⟨g2, o2, rfl, hrr2⟩ := HR2.out (by omega)
        have hq1 := (hrr1.mod hm id).cell (u32s_get xs k hm0)
        have hq2 := (hrr2.mod hm id).cell (u32s_get ys k (by omega))
        obtain ⟨d1, h1⟩ : ∃ a, xs.getD k 0 = a := ⟨_, rfl⟩
        obtain ⟨d2, h2⟩ : ∃ a, ys.getD k 0 = a := ⟨_, rfl⟩
        rw [h1] at hq1
        rw [h2] at hq2
        have HA := Lib.hid h1
        have HB := Lib.hid h2
        clear h1 h2 hrr1 hrr2
        have i1 : (0 : Int) ≤ (k : Int) := by omega
        have i2 : (k : Int) < (xs.length : Int) := by omega
        have i3 : (k : Int) < (ys.length : Int) := by omega
        rw [show (((k + 1 : Nat) : Int) - 1) = (k : Int) from by omega]
        by_cases hlt : d1 < d2
        · have t1 : decide ((d1 : Int) < (d2 : Int)) = true := by simp; omega
          have t2 : decide (d1 < d2) = true := by simp; omega
          go_wp2_with fail
          go_quiet (fail)
          go_wp2_with fail
          go_ret
          exact IntPost.of (cmpI_lt (val_lt_of_digit B32 (by rw [B32_eq]; omega) xs ys HL.out HD1.out k HZ.out (by rw [HA.out, HB.out]; exact hlt))) (hm.drewN _)
        · have t2 : decide (d1 < d2) = false := by simp; omega
          by_cases hgt : d2 < d1
          · have t4 : decide (d2 < d1) = true := by simp; omega
            go_wp2_with fail
            go_quiet (fail)
            go_wp2_with fail
            go_quiet (fail)
            go_wp2_with fail
            go_ret
            exact IntPost.of (cmpI_gt (val_lt_of_digit B32 (by rw [B32_eq]; omega) ys xs HL.out.symm HD2.out k (fun j hj => (HZ.out j hj).symm) (by rw [HA.out, HB.out]; exact hgt))) ((hm.drewN _).drewN _)
          · have t4 : decide (d2 < d1) = false := by simp; omega
            go_wp2_with fail
            go_quiet (fail)
            go_wp2_with fail
            go_quiet (fail)
            go_wp2_with fail
            go_roundg k
            case measure => omega
            case rel =>
              refine ⟨k, rfl, by omega, rfl, fun j hj => ?_, hm.drewN _⟩
              by_cases e : j = k
              · subst e
                rw [HA.out, HB.out]
                omega
              · exact HZ.out j (by omega)
  · have hne : ((xs.length : Int) != (ys.length : Int)) = true := by simp; omega
    by_cases hlt : xs.length < ys.length
    · go_enter Tryz.func327, Tryz.ntmps327
      go_wp2_with fail
      go_ret
      exact IntPost.of (cmpI_lt (val_lt_of_length B32 (by rw [B32_eq]; omega) xs ys HD1.out HN2.out hlt)) (Mod.refl _ _)
    · go_enter Tryz.func327, Tryz.ntmps327
      go_wp2_with fail
      go_ret
      exact IntPost.of (cmpI_gt (val_lt_of_length B32 (by rw [B32_eq]; omega) ys xs HD2.out HN1.out (by omega))) (Mod.refl _ _)

set_option maxRecDepth 100000 in
set_option maxHeartbeats 1000000 in
theorem newNatural_calls (w : World) (n : Nat) (hn : n < 4294967296) :
    Calls Tryz.prog 326 #[.int .i64 (n : Int)] w (NatPost w n 3) := by
  go_enter Tryz.func326, Tryz.ntmps326
  go_wp2_with fail
  have hz : (n : Int) / 4294967296 = 0 := by omega
  rw [hz]
  have hb2 : Blk ((w.alloc (.cells #[] 231)).alloc (.cells #[.int .u32 (n : Int), .int .u32 0] 231)) (w.heap.size + 1) 231 (u32s [n, 0]).toArray := by
    have := Blk.new (w.alloc (.cells #[] 231)) 231 (u32s [n, 0]).toArray
    rw [World.size_alloc] at this
    exact this
  refine (plus_calls _ _ _ 0 n 2 ⟨[], ⟨_, 0, 0, rfl, by omega, by omega, by simp [u32s], fun h => absurd h (by omega)⟩, by simp, rfl, by simp⟩ ⟨[n, 0], ⟨_, 2, 2, rfl, by omega, by omega, by simp [u32s], fun _ => ⟨_, 0, rfl, hb2.row0⟩⟩, by simp; omega, by simp [val_cons, val_nil], by simp⟩ (by omega)).mono ?_
  rintro e w' ⟨v, rfl, hv, hm'⟩
  go_wp2_with fail
  go_ret
  refine ⟨v, rfl, ?_, ((((Mod.refl _ w).alloc _).alloc _).trans hm')⟩
  simpa using hv

end Go.Proofs.YtdknpekbonmmhaaGreatDoor
