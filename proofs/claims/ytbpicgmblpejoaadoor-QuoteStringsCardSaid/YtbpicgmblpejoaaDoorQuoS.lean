/- Quoted strings: strange strings, taken. -/
import Derived.Test.YtbpicgmblpejoaaDoorUnqB
import Derived.Test.YtbpicgmblpejoaaDoorDigB
namespace Go.Proofs.YtbpicgmblpejoaaDoor
set_option linter.unusedVariables false
set_option linter.unusedSimpArgs false
open Go.RowKit

def oddL : List Str := [[97], [32], [34], [92], [10], [0], [127], [255], [195, 169], [92, 120], [48], [240, 159, 152, 128], [195], [98], [61]]
theorem oddL_le : ∀ i (h : i < oddL.length), oddL[i].length ≤ 4 := by
  intro i h
  have key : ∀ i : Fin 15, (oddL[i.val]'i.isLt).length ≤ 4 := by decide
  exact key ⟨i, h⟩
def StrgPost (w : World) (b N : Nat) (e : Ending) (w' : World) : Prop :=
  ∃ a : ByteArray, a.size ≤ 32 ∧ e = .returned (.string a) ∧ Strm w' b (N + 9) ∧ Mod (· = b) w w'
def StrgRel (w : World) (b N m gk : Nat) (x i : Value) (wr : World) : Prop :=
  ∃ (j : Nat) (a : ByteArray), m - j = gk ∧ j ≤ m ∧ x = .string a ∧ i = .int .i64 (j : Int) ∧ a.size ≤ 4 * j ∧ Strm wr b (N + 1 + j) ∧ Mod (· = b) w wr

set_option maxRecDepth 100000 in
set_option maxHeartbeats 4000000 in
theorem strange_calls (w : World) (b N : Nat) (hS : Strm w b N) (hN : N ≤ 100000000) : Calls Tryd.prog 4 #[.pointer (some ⟨b, 0, none⟩)] w (StrgPost w b N) := by
  go_enter Tryd.func4, Tryd.ntmps4
  go_wp2_with fail
  refine (range_calls _ b N _ _ hS (by omega) (by omega) (by omega) (by omega)).mono ?_
  rintro e w1 ⟨m, hm0, hm8, rfl, hS1, hM1⟩
  obtain ⟨m, rfl⟩ := Int.eq_ofNat_of_zero_le hm0
  have hm8' : m ≤ 8 := by omega
  clear hS hm0 hm8
  go_wp2_with fail
  go_loopg [3, 6] m (fun gk x i wr => StrgRel w b N m gk x i wr)
  case atStart => exact ⟨0, ⟨#[]⟩, rfl, by omega, rfl, rfl, by simp [ByteArray.size], hS1, hM1⟩
  case round =>
    clear hS1 hM1
    obtain ⟨j, a, rfl, hj, rfl, rfl, ha, hS1, hM1⟩ := hrel
    by_cases hlt : j < m
    · have HS1 := Lib.hid hS1
      have hbl := hS1.lt
      clear hS1
      have HB := Lib.hid (Blk.new wr 9 (strsV oddL).toArray)
      go_wp2_with fail
      refine (next_calls _ b (N + 1 + j) _ (HS1.out.alloc _) (by omega) (by omega) (by omega)).mono ?_
      rintro e w2 ⟨i, hi0, hi1, rfl, hS2, hM2⟩
      obtain ⟨i, rfl⟩ := Int.eq_ofNat_of_zero_le hi0
      have hi : i < oddL.length := by show i < 15; omega
      have hc := (HB.out.mod hM2 (by omega)).cell i
      have hc2 : (strsV oddL).toArray[i]? = some (.string ⟨oddL[i].toArray⟩) := by simp [strsV, hi]
      rw [hc2] at hc
      have h4 : (⟨oddL[i].toArray⟩ : ByteArray).size ≤ 4 := by have := oddL_le i hi; simpa [ByteArray.size] using this
      generalize (⟨oddL[i].toArray⟩ : ByteArray) = z at hc h4
      clear hc2 HB hi
      go_wp2_with fail
      go_roundg (m - (j + 1))
      case measure => omega
      case rel =>
        refine ⟨j + 1, _, rfl, by omega, rfl, by simp, ?_, hS2, (hM1.alloc _).trans hM2⟩
        simp
        omega
    · obtain rfl : j = m := by omega
      go_wp2_with fail
      go_ret
      exact ⟨a, by omega, rfl, hS1.more (by omega), hM1⟩

theorem unq_a : unqS [34, 97, 34] = some ([97], 3) := by decide +kernel
theorem dig_a : digS [97] = [97, 102, 54, 51, 100, 99, 52, 99, 56, 54, 48, 49, 101, 99, 56, 99] := by decide +kernel
set_option maxRecDepth 100000 in
set_option maxHeartbeats 4000000 in
theorem taken_calls (w : World) (hE : ErrS w) (hD : Deb w) : Calls Tryd.prog 13 #[] w (fun e w' => e = .returned (.bool true) ∧ Pure w w') := by
  have HU := Lib.hid (Unquote_calls w [34, 97, 34] (by simp) hE)
  have HD := Lib.hid (fun w1 (hm : Pure w w1) => Digest_calls w1 ⟨#[97]⟩ (by simp [ByteArray.size]) (hD.pure hm))
  clear hE hD
  go_enter Tryd.func13, Tryd.ntmps13
  go_wp2_with fail
  refine HU.out.mono ?_
  rintro e w1 ⟨h | h, hm⟩
  · rw [unq_a] at h
    cases h.1
  · obtain ⟨out, n, h1, rfl⟩ := h
    rw [unq_a] at h1
    cases h1
    go_wp2_with fail
    refine (HD.out _ hm).mono ?_
    rintro e w2 ⟨rfl, hm2⟩
    rw [show digS (⟨#[97]⟩ : ByteArray).data.toList = _ from dig_a]
    go_wp2_with fail
    go_ret
    exact ⟨rfl, hm.trans hm2⟩

end Go.Proofs.YtbpicgmblpejoaaDoor
