/- Digests: hex digits by strconv. -/
import Derived.Test.YtbpicgmblpejoaaDoorQuoB
namespace Go.Proofs.YtbpicgmblpejoaaDoor
set_option linter.unusedVariables false
set_option linter.unusedSimpArgs false
open Go.RowKit

def D36 : ByteArray := ⟨#[48, 49, 50, 51, 52, 53, 54, 55, 56, 57, 97, 98, 99, 100, 101, 102, 103, 104, 105, 106, 107, 108, 109, 110, 111, 112, 113, 114, 115, 116, 117, 118, 119, 120, 121, 122]⟩
theorem D36_get (n : Nat) (hn : n < 16) : ∀ h, (⟨#[48, 49, 50, 51, 52, 53, 54, 55, 56, 57, 97, 98, 99, 100, 101, 102, 103, 104, 105, 106, 107, 108, 109, 110, 111, 112, 113, 114, 115, 116, 117, 118, 119, 120, 121, 122]⟩ : ByteArray)[n]'h = hexD n := by
  have key : ∀ n : Fin 16, ∀ h, (⟨#[48, 49, 50, 51, 52, 53, 54, 55, 56, 57, 97, 98, 99, 100, 101, 102, 103, 104, 105, 106, 107, 108, 109, 110, 111, 112, 113, 114, 115, 116, 117, 118, 119, 120, 121, 122]⟩ : ByteArray)[n.val]'h = hexD n.val := by decide +kernel
  exact key ⟨n, hn⟩
/-- The table's cell that the walk reads. -/
def Deb (w : World) : Prop := w.cell? ⟨5, 15, none⟩ = some (.int .u8 4)
theorem Deb.pure {w w' : World} (h : Deb w) (hm : Pure w w') : Deb w' := hm.keep h id

set_option maxRecDepth 100000 in
set_option maxHeartbeats 400000 in
theorem tz64_calls (w : World) (h : Deb w) : Calls Tryd.prog 55 #[.int .u64 16] w fun e w' => e = .returned (.int .i64 4) ∧ w = w' := by
  unfold Deb at h
  have e1 : bits BinOp.and IntKind.u64 16 (IntKind.u64.wrap (-16)) = 16 := by decide +kernel
  have e2 : IntKind.u64.wrap 4573923408821661840 = 4573923408821661840 := by decide +kernel
  have e3 : IntKind.u64.wrap (16 * 285870213051353865) = 4573923408821661840 := by decide +kernel
  go_enter Tryd.func55, Tryd.ntmps55
  go_wp2_with fail
  go_ret
  exact ⟨rfl, rfl⟩
set_option maxRecDepth 100000 in
set_option maxHeartbeats 400000 in
theorem tz_calls (w : World) (h : Deb w) : Calls Tryd.prog 46 #[.int .u64 16] w fun e w' => e = .returned (.int .i64 4) ∧ w = w' := by
  go_enter Tryd.func46, Tryd.ntmps46
  go_wp2_with fail
  refine (tz64_calls _ h).mono ?_
  rintro e w' ⟨rfl, rfl⟩
  go_wp2_with fail
  go_ret
  exact ⟨rfl, rfl⟩
set_option maxRecDepth 100000 in
set_option maxHeartbeats 400000 in
theorem pow2_calls (w : World) : Calls Tryd.prog 45 #[.int .i64 16] w fun e w' => e = .returned (.bool true) ∧ w = w' := by
  go_enter Tryd.func45, Tryd.ntmps45
  go_wp2_with fail
  go_ret
  exact ⟨rfl, rfl⟩
theorem hdiv_step (h k : Nat) : h / 16 ^ k / 16 = h / 16 ^ (k + 1) := by rw [Nat.div_div_eq_div_mul, Nat.pow_succ]
theorem hdiv_bound {h k : Nat} (hh : h < 16 ^ 16) (hk : 16 ≤ h / 16 ^ k) : k < 15 := by
  refine Decidable.byContradiction fun hn => ?_
  have h1 : h / 16 ^ k ≤ h / 16 ^ 15 := Nat.div_le_div_left (Nat.pow_le_pow_right (by omega) (by omega)) (Nat.pow_pos (by omega))
  have h2 : h / 16 ^ 15 < 16 := Nat.div_lt_of_lt_mul (by rw [← Nat.pow_succ]; exact hh)
  omega
theorem hdiv_end {h k : Nat} (hk : h / 16 ^ k < 16) : h < 16 ^ (k + 1) := by
  have := (Nat.div_lt_iff_lt_mul (Nat.pow_pos (by omega))).1 hk
  rw [Nat.pow_succ, Nat.mul_comm]
  omega
theorem and15 (u : Nat) (h : u < 18446744073709551616) : bits BinOp.and IntKind.u64 (u : Int) 15 = ((u % 16 : Nat) : Int) := by
  have h1 := u64_and_nat u 15 h (by omega)
  have h2 : u &&& 15 = u % 16 := Nat.and_two_pow_sub_one_eq_mod u 4
  rw [h2] at h1
  exact h1
/-- The digits that have been written. -/
def DigAt (arr : Array Value) (h k : Nat) : Prop := arr.size = 65 ∧ ∀ j, j < k → arr[64 - j]? = some (.int .u8 ((hexD (h / 16 ^ j % 16)).toNat : Int))
theorem DigAt.step {arr : Array Value} {h k : Nat} (hd : DigAt arr h k) (hk : k < 64) : DigAt (arr.setIfInBounds (64 - k) (.int .u8 ((hexD (h / 16 ^ k % 16)).toNat : Int))) h (k + 1) := by
  refine ⟨by simpa using hd.1, fun j hj => ?_⟩
  have hs := hd.1
  by_cases e : j = k
  · subst e
    rw [Array.getElem?_setIfInBounds_self_of_lt (by omega)]
  · rw [Array.getElem?_setIfInBounds_ne (by omega)]
    exact hd.2 j (by omega)
theorem slice65 (g k : Nat) (hk : k ≤ 15) (W : World) : (Instr.sliceAt 81 (.pointer (some ⟨g, 0, none⟩)) (some (.int .i64 ((64 - k : Nat) : Int))) none none).run Tryd.prog W = .ok (.slice (some ⟨g, 64 - k, none⟩) (k + 1) (k + 1)) W := by
  have hal : Tryd.prog.arrayLen 81 = 65 := by kernel_rfl
  have hse : (Go.sizeOf (Tryd.prog.elem 81)).run Tryd.prog W = .ok 1 W := by kernel_rfl
  rw [run_sliceAt_array_l W 81 ⟨g, 0, none⟩ (by kernel_rfl) .i64 _ (by omega) (by rw [hal]; omega), hse, hal, Int.toNat_natCast]
  simp only [Result.andThen, slicedAt, Nat.mul_one, Addr.add]
  rw [if_neg (by omega), if_neg (by omega), Nat.zero_add, show 65 - (64 - k) = k + 1 by omega]
def FbRel (w : World) (h g gk : Nat) (u i : Value) (wr : World) : Prop :=
  ∃ (k : Nat) (arr : Array Value), 15 - k = gk ∧ k ≤ 15 ∧ u = .int .u64 ((h / 16 ^ k : Nat) : Int) ∧ i = .int .i64 (65 - (k : Int)) ∧ DigAt arr h k ∧ Blk wr g 81 arr ∧ Pure w wr
theorem hexR_get (h : Nat) : ∀ (k i : Nat) (hi : i < k), (hexR h k)[i]'(by rw [hexR_len]; exact hi) = hexD (h / 16 ^ (k - 1 - i) % 16)
  | 0, i, hi => absurd hi (by omega)
  | k + 1, 0, hi => by simp [hexR]
  | k + 1, i + 1, hi => by
    have := hexR_get h k i (by omega)
    simp only [hexR, List.getElem_cons_succ]
    rw [this]
    congr 4
    omega
theorem DigAt.cells {w : World} {arr : Array Value} {h k g : Nat} (hd : DigAt arr h k) (hb : Blk w g 81 arr) (hk : k ≤ 65) : ∀ j (hj : j < (hexR h k).length), w.cell? ((⟨g, 65 - k, none⟩ : Addr).add j) = some (.int .u8 ((hexR h k)[j].toNat : Int)) := by
  intro j hj
  have hj' : j < k := by rw [hexR_len] at hj; exact hj
  rw [hexR_get h k j hj']
  have h1 := hd.2 (k - 1 - j) (by omega)
  have h2 : w.cell? ⟨g, 65 - k + j, none⟩ = some (.int .u8 ((hexD (h / 16 ^ (k - 1 - j) % 16)).toNat : Int)) := by
    rw [hb.cell, show 65 - k + j = 64 - (k - 1 - j) by omega]
    exact h1
  unfold Addr.add
  split
  · rename_i e; subst e; simpa using h2
  · exact h2
/-- The hex digits without zeros ahead. -/
def FbPost (w : World) (h : Nat) (e : Ending) (w' : World) : Prop := ∃ k, 1 ≤ k ∧ k ≤ 16 ∧ h < 16 ^ k ∧ e = .returned (.tuple #[.slice none 0 0, .string ⟨(hexR h k).toArray⟩]) ∧ Pure w w'

set_option maxRecDepth 100000 in
set_option maxHeartbeats 2000000 in
theorem formatBits_calls (w : World) (h : Nat) (hh : h < 16 ^ 16) (hD : Deb w) : Calls Tryd.prog 36 #[.slice none 0 0, .int .u64 (h : Int), .int .i64 16, .bool false, .bool false] w (FbPost w h) := by
  have HH := Lib.hid hh
  clear hh
  have HD := Lib.hid (hD.pure ((Mod.refl (fun _ => False) w).alloc (.cells Tryd.zeroCells81 81)))
  have HB := Lib.hid (Blk.new w 81 Tryd.zeroCells81)
  have HM := Lib.hid ((Mod.refl (fun _ => False) w).alloc (.cells Tryd.zeroCells81 81))
  clear hD
  go_enter Tryd.func36, Tryd.ntmps36
  go_wp2_with fail
  generalize (w.alloc (.cells Tryd.zeroCells81 81)) = W at *
  generalize hb : w.heap.size = g at *
  have hb1 := Nat.le_of_eq hb
  clear hb
  refine (pow2_calls _).mono ?_
  rintro e w' ⟨rfl, rfl⟩
  go_wp2_with fail
  refine (tz_calls _ HD.out).mono ?_
  rintro e w' ⟨rfl, rfl⟩
  have HZ : Hid (DigAt Tryd.zeroCells81 h 0) := Lib.hid ⟨by kernel_rfl, fun j hj => absurd hj (by omega)⟩
  generalize Tryd.zeroCells81 = zc at *
  go_wp2_with fail
  go_loopg [1, 13] 15 (fun gk u i wr => FbRel w h g gk u i wr)
  case atStart => exact ⟨0, zc, rfl, by omega, by simp, rfl, HZ.out, HB.out, HM.out⟩
  case round =>
    clear HZ HB HM HD
    obtain ⟨k, arr, rfl, hk, rfl, rfl, hd, hB, hm⟩ := hrel
    have HDG := Lib.hid hd
    have hsz := hd.1
    have hul : h / 16 ^ k < 18446744073709551616 := Nat.lt_of_le_of_lt (Nat.div_le_self _ _) (by have := HH.out; rw [show (16 : Nat) ^ 16 = 18446744073709551616 by decide +kernel] at this; exact this)
    by_cases hge : 16 ≤ h / 16 ^ k
    · have hk15 := hdiv_bound HH.out hge
      have HS := Lib.hid (hdiv_step h k)
      have HN := Lib.hid (HDG.out.step (by omega))
      have hx := D36_get (h / 16 ^ k % 16) (by omega)
      generalize h / 16 ^ k = u at *
      have q1 : ∃ v0, arr[64 - k]? = some v0 := ⟨arr[64 - k]'(by omega), Array.getElem?_eq_getElem _⟩
      obtain ⟨v0, hv0⟩ := q1
      have qc := (hB.cell (64 - k)).trans hv0
      have qf := hB.frozen (64 - k)
      have hset := hB.set (64 - k) (.int .u8 ((hexD (u % 16)).toNat : Int))
      have HSET := Lib.hid hset
      have i1 : (65 : Int) - (k : Int) - 1 = ((64 - k : Nat) : Int) := by omega
      clear hset hd
      have hand := and15 u hul
      have j1 : u % 16 < 16 := Nat.mod_lt _ (by omega)
      have hge2 : (16 : Int) ≤ (u : Int) := by omega
      have M2 := Lib.hid (hm.setCell (p := ⟨g, 64 - k, none⟩) (.inr (by show _ ≤ g; omega)) (.int .u8 ((hexD (u % 16)).toNat : Int)))
      have hud : (u : Int) / 16 = ((u / 16 : Nat) : Int) := by omega
      rw [HS.out] at hud
      clear HS hB HDG hv0
      go_wp2_with fail
      go_roundg (15 - (k + 1))
      case measure => omega
      case rel => exact ⟨k + 1, _, rfl, by omega, rfl, by congr 1; omega, HN.out, HSET.out, M2.out⟩
    · have hlt : h / 16 ^ k < 16 := by omega
      have HE := Lib.hid (hdiv_end hlt)
      have HN := Lib.hid (HDG.out.step (by omega))
      have hx := D36_get (h / 16 ^ k) hlt
      have hmod : h / 16 ^ k % 16 = h / 16 ^ k := Nat.mod_eq_of_lt hlt
      rw [hmod] at HN
      clear hmod
      generalize h / 16 ^ k = u at *
      have q1 : ∃ v0, arr[64 - k]? = some v0 := ⟨arr[64 - k]'(by omega), Array.getElem?_eq_getElem _⟩
      obtain ⟨v0, hv0⟩ := q1
      have qc := (hB.cell (64 - k)).trans hv0
      have qf := hB.frozen (64 - k)
      have hset := hB.set (64 - k) (.int .u8 ((hexD u).toNat : Int))
      have i1 : (65 : Int) - (k : Int) - 1 = ((64 - k : Nat) : Int) := by omega
      have M2 := Lib.hid (hm.setCell (p := ⟨g, 64 - k, none⟩) (.inr (by show _ ≤ g; omega)) (.int .u8 ((hexD u).toNat : Int)))
      have hge2 : ¬ ((16 : Int) ≤ (u : Int)) := by omega
      have hcl := HN.out.cells hset (by omega)
      have hcv := fun cap => run_convert_bytes_back (P := Tryd.prog) _ 41 9 5 ⟨g, 65 - (k + 1), none⟩ cap (hexR h (k + 1)) Tryd.underlying41 Tryd.underlying5 Tryd.underlying9 hcl
      rw [hexR_len, show 65 - (k + 1) = 64 - k by omega] at hcv
      have hsl := slice65 g k hk
      clear hset hd hcl HDG hB hv0
      go_wp2_with fail
      go_ret2
      exact ⟨k + 1, by omega, by omega, HE.out, rfl, M2.out⟩

end Go.Proofs.YtbpicgmblpejoaaDoor
