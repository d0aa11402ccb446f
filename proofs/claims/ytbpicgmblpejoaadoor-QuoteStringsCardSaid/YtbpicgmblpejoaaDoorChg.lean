/- Changed strings of the stream. -/
import Derived.Test.YtbpicgmblpejoaaDoorQuoA
namespace Go.Proofs.YtbpicgmblpejoaaDoor
set_option linter.unusedVariables false
set_option linter.unusedSimpArgs false
open Go.RowKit

def ChgPost (w : World) (b N n : Nat) (e : Ending) (w' : World) : Prop :=
  ∃ a : ByteArray, a.size ≤ n ∧ e = .returned (.string a) ∧ Strm w' b (N + 3) ∧ Mod (· = b) w w'

set_option maxRecDepth 100000 in
set_option maxHeartbeats 4000000 in
theorem changed_calls (w : World) (b N : Nat) (t wi : ByteArray) (hS : Strm w b N) (hN : N ≤ 100000000) (ht : t.size ≤ 100000) (h1 : 1 ≤ wi.size) (h2 : wi.size ≤ 1000) (h3 : ∀ i (h : i < wi.size), wi[i].toNat < 128) :
    Calls Tryd.prog 10 #[.pointer (some ⟨b, 0, none⟩), .string t, .string wi] w (ChgPost w b N (t.size + wi.size)) := by
  have hwe : wi.toList.isEmpty = false := by
    rw [ByteArray.toList_eq]
    have hh : wi.data.toList.length = wi.size := by simp
    match hl : wi.data.toList with
    | [] => rw [hl] at hh; simp at hh; omega
    | _ :: _ => rfl
  by_cases h0 : t.size = 0
  · have hte : t = ⟨#[]⟩ := by
      apply ByteArray.ext
      exact Array.eq_empty_of_size_eq_zero h0
    subst hte
    go_enter Tryd.func10, Tryd.ntmps10
    go_wp2_with fail
    go_ret
    exact ⟨wi, by omega, rfl, hS.more (by omega), Mod.refl _ _⟩
  · have hte : t.toList.isEmpty = false := by
      rw [ByteArray.toList_eq]
      have hh : t.data.toList.length = t.size := by simp
      match hl : t.data.toList with
      | [] => rw [hl] at hh; simp at hh; omega
      | _ :: _ => rfl
    have H3 := Lib.hid h3
    clear h3
    go_enter Tryd.func10, Tryd.ntmps10
    go_wp2_with fail
    refine (next_calls _ b N _ hS (by omega) (by omega) (by omega)).mono ?_
    rintro e w1 ⟨i, hi0, hi1, rfl, hS1, hM1⟩
    obtain ⟨i, rfl⟩ := Int.eq_ofNat_of_zero_le hi0
    have hi : i < t.size := by omega
    clear hi0 hi1 hS
    go_wp2_with fail
    refine (next_calls _ b (N + 1) _ hS1 (by omega) (by omega) (by omega)).mono ?_
    rintro e w2 ⟨j, hj0, hj1, rfl, hS2, hM2⟩
    obtain ⟨j, rfl⟩ := Int.eq_ofNat_of_zero_le hj0
    have hj : j < wi.size := by omega
    clear hj0 hj1 hS1
    have hc := H3.out j hj
    generalize hcc : wi[j].toNat = c at *
    go_wp2_with fail
    refine (next_calls _ b (N + 1 + 1) _ hS2 (by omega) (by omega) (by omega)).mono ?_
    rintro e w3 ⟨u, hu0, hu1, rfl, hS3, hM3⟩
    have HM := Lib.hid ((hM1.trans hM2).trans hM3)
    have henc := enc_ascii c hc
    have hzs : (⟨#[UInt8.ofNat c]⟩ : ByteArray).size = 1 := by simp [ByteArray.size]
    generalize (⟨#[UInt8.ofNat c]⟩ : ByteArray) = z at *
    have hx1 : (t.extract 0 i).size = i := by simp; omega
    have hx2 : (t.extract (i + 1) t.size).size = t.size - (i + 1) := by simp
    have hx3 : (t.extract i t.size).size = t.size - i := by simp
    have hwr : IntKind.i32.wrap (c : Int) = (c : Int) := by simp [IntKind.wrap, IntKind.bits, IntKind.signed]; omega
    clear H3 hS2 hM1 hM2 hM3
    by_cases hu : u = 0
    · subst hu
      go_wp2_with fail
      go_quiet (fail)
      go_wp2_with fail
      go_ret
      exact ⟨_, by simp only [ByteArray.size_append, hx1, hx2, hzs]; omega, rfl, hS3, HM.out.drewN _⟩
    · by_cases hu' : u = 1
      · subst hu'
        go_wp2_with fail
        go_quiet (fail)
        go_wp2_with fail
        go_ret
        exact ⟨_, by simp only [ByteArray.size_append, hx1, hx2, hx3, hzs]; omega, rfl, hS3, HM.out.drewN _⟩
      · obtain rfl : u = 2 := by omega
        go_wp2_with fail
        go_quiet (fail)
        go_wp2_with fail
        go_ret
        exact ⟨_, by simp only [ByteArray.size_append, hx1, hx2, hx3, hzs]; omega, rfl, hS3, HM.out.drewN _⟩

end Go.Proofs.YtbpicgmblpejoaaDoor
