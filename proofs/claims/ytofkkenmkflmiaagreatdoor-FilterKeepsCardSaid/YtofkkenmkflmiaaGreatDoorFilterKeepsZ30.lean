/- Texts of the proof of FilterKeeps, put together: EscA. -/
import Derived.Test.YtofkkenmkflmiaaGreatDoorFilterKeepsZ26
import Derived.Lib.ConvBytes
/- Two hex digits as strconv reads them. -/
namespace Go.Proofs.YtofkkenmkflmiaaGreatDoor
set_option linter.unusedVariables false
set_option linter.unusedSimpArgs false
open Go.RowKit

/-- The digit that strconv makes of a byte; 255: none. -/
def hv (x : Nat) : Nat := if 48 ≤ x ∧ x ≤ 57 then x - 48 else if 97 ≤ (x ||| 32) ∧ (x ||| 32) ≤ 122 then (x ||| 32) - 87 else 255
theorem hv_hexV (c : UInt8) : (hv c.toNat < 16 ↔ hexV c < 16) ∧ (hv c.toNat < 16 → hv c.toNat = hexV c) := by
  have key : ∀ n : Fin 256, (hv (UInt8.ofNat n.val).toNat < 16 ↔ hexV (UInt8.ofNat n.val) < 16) ∧ (hv (UInt8.ofNat n.val).toNat < 16 → hv (UInt8.ofNat n.val).toNat = hexV (UInt8.ofNat n.val)) := by decide +kernel
  have := key ⟨c.toNat, c.toNat_lt⟩
  simpa using this
def SameInt (w : World) (v : Value) (e : Ending) (w' : World) : Prop := e = .returned v ∧ w = w'
set_option maxRecDepth 100000 in
set_option maxHeartbeats 400000 in
theorem lower_calls (w : World) (x : Nat) (hx : x < 256) : Calls Tryz.prog 237 #[.int .u8 (x : Int)] w (SameInt w (.int .u8 ((x ||| 32 : Nat) : Int))) := by
  have h := u8_or_nat x 32 hx (by omega)
  have h' : bits BinOp.or IntKind.u8 (x : Int) 32 = ((x ||| 32 : Nat) : Int) := h
  clear h
  generalize x ||| 32 = y at *
  go_enter Tryz.func237, Tryz.ntmps237
  go_wp2_with fail
  go_ret
  exact ⟨rfl, rfl⟩
/-- The number of the first k of two digits. -/
def num2 (a b : Nat) : Nat → Nat
  | 0 => 0
  | 1 => hv a
  | _ => hv a * 16 + hv b
def nth2 (a b : Nat) : Nat → Nat
  | 0 => a
  | _ => b
def PuRel (W : World) (a b gk : Nat) (un n i : Value) (wr : World) : Prop :=
  ∃ k : Nat, un = .bool false ∧ 2 - k = gk ∧ k ≤ 2 ∧ i = .int .i64 (k : Int) ∧ n = .int .u64 ((num2 a b k : Nat) : Int) ∧ (∀ j, j < k → hv (nth2 a b j) < 16) ∧ W = wr
def PuPost (w : World) (a b : Nat) (e : Ending) (w' : World) : Prop :=
  ((hv a < 16 ∧ hv b < 16 ∧ e = .returned (.tuple #[.int .u64 ((hv a * 16 + hv b : Nat) : Int), .nilIface])) ∨ (¬ (hv a < 16 ∧ hv b < 16) ∧ e = .returned (.tuple #[.int .u64 0, .iface 253 (.int .i64 2)]))) ∧ Pure w w'
theorem num2_step (a b k : Nat) (hk : k < 2) : num2 a b (k + 1) = num2 a b k * 16 + hv (nth2 a b k) := by
  rcases (show k = 0 ∨ k = 1 by omega) with rfl | rfl
  · simp [num2, nth2]
  · rfl
theorem num2_lt (a b k : Nat) (hk : k < 2) (h : ∀ j, j < k → hv (nth2 a b j) < 16) : num2 a b k < 16 := by
  rcases (show k = 0 ∨ k = 1 by omega) with rfl | rfl
  · simp [num2]
  · exact h 0 (by omega)
theorem bytes_pure2 (w : World) (e : TypeId) (s : ByteArray) : Pure w (Lib.bytesWorld w e s) := by
  refine ⟨?_, ?_, ?_, by rw [Lib.bytesWorld_size]; omega, fun k hk _ => Lib.bytesWorld_at_old w e s k hk⟩
  all_goals
    unfold Lib.bytesWorld World.freeze
    split <;> rfl

set_option maxRecDepth 100000 in
set_option maxHeartbeats 2000000 in
theorem iparse_calls (w : World) (x y : UInt8) : Calls Tryz.prog 209 #[.string ⟨#[x, y]⟩, .int .i64 16, .int .i64 8] w (PuPost w x.toNat y.toNat) := by
  have hcv := fun W s => Lib.run_convert_string_bytes (P := Tryz.prog) W 9 121 5 s Tryz.underlying9 Tryz.underlying121 Tryz.underlying5
  have hc : ∀ k, k < 2 → (Lib.bytesWorld w 5 ⟨#[x, y]⟩).cell? ⟨w.heap.size, k, none⟩ = some (.int .u8 ((nth2 x.toNat y.toNat k : Nat) : Int)) := by
    intro k hk
    rw [Lib.bytesWorld_cell w _ _ k (by simpa [ByteArray.size] using hk)]
    rcases (show k = 0 ∨ k = 1 by omega) with rfl | rfl <;> rfl
  have HC := Lib.hid hc
  have HPU := Lib.hid (bytes_pure2 w 5 ⟨#[x, y]⟩)
  have hal := x.toNat_lt
  have hbl := y.toNat_lt
  clear hc
  go_enter Tryz.func209, Tryz.ntmps209
  go_wp2_with fail
  clear hcv
  generalize Lib.bytesWorld w 5 ⟨#[x, y]⟩ = W at *
  generalize x.toNat = a at *
  generalize y.toNat = b at *
  go_loopg [12, 13, 101] 2 (fun gk un n i wr => PuRel W a b gk un n i wr)
  case atStart => exact ⟨0, rfl, rfl, by omega, rfl, rfl, fun j hj => absurd hj (by omega), rfl⟩
  case round =>
    obtain ⟨k, rfl, rfl, hk, rfl, rfl, hall, rfl⟩ := hrel
    have HALL := Lib.hid hall
    clear hall
    by_cases hlt : k < 2
    · have hq := HC.out k hlt
      have HST := Lib.hid (num2_step a b k hlt)
      have hn16 := num2_lt a b k hlt HALL.out
      have hd256 : nth2 a b k < 256 := by rcases (show k = 0 ∨ k = 1 by omega) with rfl | rfl <;> assumption
      have HBAD : Hid (16 ≤ hv (nth2 a b k) → ¬ (hv a < 16 ∧ hv b < 16)) := Lib.hid (by
        intro h1 h2
        rcases (show k = 0 ∨ k = 1 by omega) with rfl | rfl
        · exact absurd h2.1 (by show ¬ hv (nth2 a b 0) < 16; omega)
        · exact absurd h2.2 (by show ¬ hv (nth2 a b 1) < 16; omega))
      have HALL2 : Hid (hv (nth2 a b k) < 16 → ∀ j, j < k + 1 → hv (nth2 a b j) < 16) := Lib.hid (by
        intro h1 j hj
        by_cases e : j = k
        · subst e; exact h1
        · exact HALL.out j (by omega))
      obtain ⟨z, hz⟩ : ∃ z : Int, ((num2 a b k : Nat) : Int) = z := ⟨_, rfl⟩
      have HST2 : Hid (((num2 a b (k + 1) : Nat) : Int) = z * 16 + ((hv (nth2 a b k) : Nat) : Int)) := Lib.hid (by rw [HST.out, ← hz]; omega)
      have z0 : 0 ≤ z := by omega
      have z1 : z < 16 := by omega
      rw [hz]
      clear hz HST hn16
      have c1 : ¬ ((1152921504606846976 : Int) ≤ z) := by omega
      generalize hdd : nth2 a b k = d at *
      clear hdd
      by_cases h95 : d = 95
      · subst h95
        have HLO := Lib.hid (fun W => lower_calls W 95 hd256)
        have HF := Lib.hid (HBAD.out (by decide))
        clear hd256
        go_wp2_with fail
        refine (HLO.out _).mono ?_
        rintro e w' ⟨rfl, rfl⟩
        go_wp2_with fail
        refine (HLO.out _).mono ?_
        rintro e w' ⟨rfl, rfl⟩
        go_wp2_with fail
        go_ret2
        exact ⟨.inr ⟨HF.out, rfl⟩, HPU.out⟩
      have b95 : ((d : Int) == 95) = false := by simp; omega
      clear h95
      by_cases hA : 48 ≤ d ∧ d ≤ 57
      · obtain ⟨hA1, hA2⟩ := hA
        have v1 : (48 : Int) ≤ (d : Int) := by omega
        have v2 : (d : Int) ≤ 57 := by omega
        have dv1 : decide (48 ≤ d) = true := by simp; omega
        have dv2 : decide (d ≤ 57) = true := by simp; omega
        have HV : Hid (hv d = d - 48) := Lib.hid (if_pos ⟨hA1, hA2⟩)
        have HF : Hid (hv d < 16) := Lib.hid (by rw [HV.out]; omega)
        have w3 : ¬ ((16 : Int) ≤ (d : Int) - 48) := by omega
        go_wp2_with fail
        go_roundg (2 - (k + 1))
        case measure => omega
        case rel => exact ⟨k + 1, rfl, rfl, by omega, by simp, by rw [HST2.out, HV.out]; congr 1; omega, HALL2.out HF.out, rfl⟩
      · by_cases hlo : d < 48
        · have hy256 : d ||| 32 < 256 := Nat.or_lt_two_pow (n := 8) hd256 (by omega)
          have HLO := Lib.hid (fun W => lower_calls W d hd256)
          have HV : Hid (hv d = if 97 ≤ (d ||| 32) ∧ (d ||| 32) ≤ 122 then (d ||| 32) - 87 else 255) := Lib.hid (if_neg hA)
          generalize d ||| 32 = y at *
          have v1 : ¬ ((48 : Int) ≤ (d : Int)) := by omega
          have dv1 : decide (48 ≤ d) = false := by simp; omega
          by_cases hl1 : 97 ≤ y
          · have w1 : (97 : Int) ≤ (y : Int) := by omega
            have dw1 : decide (97 ≤ y) = true := by simpa using hl1
            by_cases hl2 : y ≤ 122
            · have w2 : (y : Int) ≤ 122 := by omega
              have dw2 : decide (y ≤ 122) = true := by simpa using hl2
              have HV2 : Hid (hv d = y - 87) := Lib.hid (by rw [HV.out, if_pos ⟨hl1, hl2⟩])
              clear HV
              by_cases h16 : y - 87 < 16
              · have w3 : ¬ ((16 : Int) ≤ (y : Int) - 97 + 10) := by omega
                have HF : Hid (hv d < 16) := Lib.hid (by rw [HV2.out]; exact h16)
                go_wp2_with fail
                refine (HLO.out _).mono ?_
                rintro e w' ⟨rfl, rfl⟩
                go_wp2_with fail
                refine (HLO.out _).mono ?_
                rintro e w' ⟨rfl, rfl⟩
                go_wp2_with fail
                refine (HLO.out _).mono ?_
                rintro e w' ⟨rfl, rfl⟩
                go_wp2_with fail
                go_roundg (2 - (k + 1))
                case measure => omega
                case rel => exact ⟨k + 1, rfl, rfl, by omega, by simp, by rw [HST2.out, HV2.out]; congr 1; omega, HALL2.out HF.out, rfl⟩
              · have w3 : (16 : Int) ≤ (y : Int) - 97 + 10 := by omega
                have HF := Lib.hid (HBAD.out (by rw [HV2.out]; omega))
                go_wp2_with fail
                refine (HLO.out _).mono ?_
                rintro e w' ⟨rfl, rfl⟩
                go_wp2_with fail
                refine (HLO.out _).mono ?_
                rintro e w' ⟨rfl, rfl⟩
                go_wp2_with fail
                refine (HLO.out _).mono ?_
                rintro e w' ⟨rfl, rfl⟩
                go_wp2_with fail
                go_ret2
                exact ⟨.inr ⟨HF.out, rfl⟩, HPU.out⟩
            · have w2 : ¬ ((y : Int) ≤ 122) := by omega
              have dw2 : decide (y ≤ 122) = false := by simpa using hl2
              have HF := Lib.hid (HBAD.out (by rw [HV.out, if_neg (by omega)]; omega))
              go_wp2_with fail
              refine (HLO.out _).mono ?_
              rintro e w' ⟨rfl, rfl⟩
              go_wp2_with fail
              refine (HLO.out _).mono ?_
              rintro e w' ⟨rfl, rfl⟩
              go_wp2_with fail
              go_ret2
              exact ⟨.inr ⟨HF.out, rfl⟩, HPU.out⟩
          · have w1 : ¬ ((97 : Int) ≤ (y : Int)) := by omega
            have dw1 : decide (97 ≤ y) = false := by simpa using hl1
            have HF := Lib.hid (HBAD.out (by rw [HV.out, if_neg (by omega)]; omega))
            go_wp2_with fail
            refine (HLO.out _).mono ?_
            rintro e w' ⟨rfl, rfl⟩
            go_wp2_with fail
            go_ret2
            exact ⟨.inr ⟨HF.out, rfl⟩, HPU.out⟩
        · have hy256 : d ||| 32 < 256 := Nat.or_lt_two_pow (n := 8) hd256 (by omega)
          have HLO := Lib.hid (fun W => lower_calls W d hd256)
          have HV : Hid (hv d = if 97 ≤ (d ||| 32) ∧ (d ||| 32) ≤ 122 then (d ||| 32) - 87 else 255) := Lib.hid (if_neg hA)
          generalize d ||| 32 = y at *
          have v1 : (48 : Int) ≤ (d : Int) := by omega
          have v2 : ¬ ((d : Int) ≤ 57) := by omega
          have dv1 : decide (48 ≤ d) = true := by simp; omega
          have dv2 : decide (d ≤ 57) = false := by simp; omega
          by_cases hl1 : 97 ≤ y
          · have w1 : (97 : Int) ≤ (y : Int) := by omega
            have dw1 : decide (97 ≤ y) = true := by simpa using hl1
            by_cases hl2 : y ≤ 122
            · have w2 : (y : Int) ≤ 122 := by omega
              have dw2 : decide (y ≤ 122) = true := by simpa using hl2
              have HV2 : Hid (hv d = y - 87) := Lib.hid (by rw [HV.out, if_pos ⟨hl1, hl2⟩])
              clear HV
              by_cases h16 : y - 87 < 16
              · have w3 : ¬ ((16 : Int) ≤ (y : Int) - 97 + 10) := by omega
                have HF : Hid (hv d < 16) := Lib.hid (by rw [HV2.out]; exact h16)
                go_wp2_with fail
                refine (HLO.out _).mono ?_
                rintro e w' ⟨rfl, rfl⟩
                go_wp2_with fail
                refine (HLO.out _).mono ?_
                rintro e w' ⟨rfl, rfl⟩
                go_wp2_with fail
                refine (HLO.out _).mono ?_
                rintro e w' ⟨rfl, rfl⟩
                go_wp2_with fail
                go_roundg (2 - (k + 1))
                case measure => omega
                case rel => exact ⟨k + 1, rfl, rfl, by omega, by simp, by rw [HST2.out, HV2.out]; congr 1; omega, HALL2.out HF.out, rfl⟩
              · have w3 : (16 : Int) ≤ (y : Int) - 97 + 10 := by omega
                have HF := Lib.hid (HBAD.out (by rw [HV2.out]; omega))
                go_wp2_with fail
                refine (HLO.out _).mono ?_
                rintro e w' ⟨rfl, rfl⟩
                go_wp2_with fail
                refine (HLO.out _).mono ?_
                rintro e w' ⟨rfl, rfl⟩
                go_wp2_with fail
                refine (HLO.out _).mono ?_
                rintro e w' ⟨rfl, rfl⟩
                go_wp2_with fail
                go_ret2
                exact ⟨.inr ⟨HF.out, rfl⟩, HPU.out⟩
            · have w2 : ¬ ((y : Int) ≤ 122) := by omega
              have dw2 : decide (y ≤ 122) = false := by simpa using hl2
              have HF := Lib.hid (HBAD.out (by rw [HV.out, if_neg (by omega)]; omega))
              go_wp2_with fail
              refine (HLO.out _).mono ?_
              rintro e w' ⟨rfl, rfl⟩
              go_wp2_with fail
              refine (HLO.out _).mono ?_
              rintro e w' ⟨rfl, rfl⟩
              go_wp2_with fail
              go_ret2
              exact ⟨.inr ⟨HF.out, rfl⟩, HPU.out⟩
          · have w1 : ¬ ((97 : Int) ≤ (y : Int)) := by omega
            have dw1 : decide (97 ≤ y) = false := by simpa using hl1
            have HF := Lib.hid (HBAD.out (by rw [HV.out, if_neg (by omega)]; omega))
            go_wp2_with fail
            refine (HLO.out _).mono ?_
            rintro e w' ⟨rfl, rfl⟩
            go_wp2_with fail
            go_ret2
            exact ⟨.inr ⟨HF.out, rfl⟩, HPU.out⟩
    · obtain rfl : k = 2 := by omega
      have h1 := HALL.out 0 (by omega)
      have h2 := HALL.out 1 (by omega)
      go_wp2_with fail
      go_ret2
      exact ⟨.inl ⟨h1, h2, rfl⟩, HPU.out⟩

end Go.Proofs.YtofkkenmkflmiaaGreatDoor
