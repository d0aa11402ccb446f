/- Texts of the proof of StoreJoins, put together: RngI, HasI. -/
import Derived.Test.YtbdeicbdehgeiaaGreatDoorStoreJoinsZ32
import Derived.Test.YtbdeicbdehgeiaaGreatDoorStoreJoinsZ38
/- Range of the stream, from 0. -/
namespace Go.Proofs.YtbdeicbdehgeiaaGreatDoor
set_option linter.unusedVariables false
set_option linter.unusedSimpArgs false
open Go.RowKit

theorem pure_strmI {w w' : World} {o : Obj} (h : Mod (· = w.heap.size) (w.alloc o) w') : Pure w w' := ((Mod.refl (fun _ => False) w).alloc o).trans' h (fun i hi hlt => by omega)
theorem rangeI_calls (w : World) (b N : Nat) (hi : Int) (hS : Strm w b N) (hN : N ≤ 1000000000) (h1 : 0 ≤ hi) (h2 : hi ≤ 1000) : Calls Tryz.prog 9 #[.pointer (some ⟨b, 0, none⟩), .int .i64 0, .int .i64 hi] w (fun e w' => ∃ (m : Nat) (mI : Int), mI = (m : Int) ∧ mI ≤ hi ∧ e = .returned (.int .i64 mI) ∧ Strm w' b (N + 1) ∧ Mod (· = b) w w') := by
  refine (range_calls w b N 0 hi hS hN h1 (by omega) (by omega)).mono ?_
  rintro e w' ⟨k, h0, h1, rfl, h3, h4⟩
  exact ⟨k.toNat, k, by omega, h1, rfl, h3, h4⟩

end Go.Proofs.YtbdeicbdehgeiaaGreatDoor

/- has of the laws; AnyId of the generators. -/
namespace Go.Proofs.YtbdeicbdehgeiaaGreatDoor
set_option linter.unusedVariables false
set_option linter.unusedSimpArgs false
open Go.RowKit


theorem any_plc (s : Str) : ∀ l : List Itm, (l.any fun x => x.id == s) = (plc l s).isSome
  | [] => rfl
  | x :: l => by
    unfold plc
    rw [List.any_cons, any_plc s l]
    by_cases h : x.id = s
    · simp [h]
    · rw [if_neg h]
      have h2 : (x.id == s) = false := by simpa using h
      rw [h2]
      simp

set_option maxRecDepth 100000 in
set_option maxHeartbeats 2000000 in
theorem anyId_calls (w : World) (b N : Nat) (v : Value) (l : List Itm) (hS : Strm w b N) (hN : N ≤ 900000000) (hv : Its w v l) (hz : ∀ x ∈ l, ItB x) (hl : l.length ≤ 1000) : Calls Tryz.prog 84 #[.pointer (some ⟨b, 0, none⟩), v] w (StrB w b (N + 2) 100) := by
  have HZ := Lib.hid hz
  have HV := Lib.hid hv
  obtain ⟨A, n, c, rfl, _, _, hl2, _⟩ := hv
  have hln : l.length = n := by rw [itV_len] at hl2; omega
  subst hln
  clear hl2 hz
  have HW : Hid (∀ W M, Strm W b M → M ≤ N + 1 → Mod (· = b) w W → Calls Tryz.prog 40 #[.pointer (some ⟨b, 0, none⟩), .slice (some ⟨W.heap.size, 0, none⟩) 3 3] (W.alloc (.cells #[.string ⟨#[105, 122, 122]⟩, .string ⟨#[]⟩, .string ⟨#[65]⟩] 9)) (StrB w b (N + 2) 100)) := Lib.hid (fun W M h1 h2 h3 => by
    have := h1.lt
    refine (someb_calls _ b _ _ _ _ [[105, 122, 122], [], [65]] 3 rfl (by decide) (h1.alloc _) (by omega) (Blk.new _ _ _) (by omega) (by decide) (by decide)).mono ?_
    rintro e w2 ⟨s, hs, rfl, hS2, hM2⟩
    exact ⟨s, by omega, rfl, hS2.more (by omega), (h3.alloc _).trans hM2⟩)
  by_cases h0 : l.length = 0
  · have h0' : ((l.length : Int) == 0) = true := by simp [h0]
    have HS := Lib.hid (HW.out w N hS (by omega) (Mod.refl _ _))
    clear h0 HW hS
    go_enter Tryz.func84, Tryz.ntmps84
    go_wp2_with fail
    refine HS.out.mono ?_
    rintro e w2 ⟨s, hs, rfl, h1, h2⟩
    go_wp2_with fail
    go_ret
    exact ⟨s, hs, rfl, h1, h2⟩
  · have h0' : ((l.length : Int) == 0) = false := by rw [beq_eq_false_iff_ne]; omega
    go_enter Tryz.func84, Tryz.ntmps84
    go_wp2_with fail
    refine (flip_calls _ b _ _ hS (by omega) (by omega) (by omega)).mono ?_
    rintro e w1 ⟨fl, rfl, hS1, hM1⟩
    cases fl
    · have HV1 := Lib.hid (HV.out.strm hS hM1 (by decide))
      clear HW hS
      go_wp2_with fail
      refine (next_calls _ b _ _ hS1 (by omega) (by omega) (by omega)).mono ?_
      rintro e w2 ⟨k, hk0, hk1, rfl, hS2, hM2⟩
      obtain ⟨k, rfl⟩ := Int.eq_ofNat_of_zero_le hk0
      have hkl : k < l.length := by omega
      have hv2 := HV1.out.strm hS1 hM2 (by decide)
      obtain ⟨A', n', c', he, _, _, hl2, hr⟩ := hv2
      injection he with he1 he2 he3
      subst he1 he2 he3
      obtain ⟨g, off, rfl, hrow⟩ := hr (by omega)
      have q1 := (item_cells hrow hkl).1
      have hid := (HZ.out _ (List.getElem_mem hkl)).1
      have HM := Lib.hid (hM1.trans hM2)
      clear hl2 hr hrow hM1 hM2 hS1
      generalize l[k].id = s at *
      go_wp2_with fail
      go_ret
      exact ⟨s, hid, rfl, hS2, HM.out⟩
    · have HS := Lib.hid (HW.out w1 _ hS1 (by omega) hM1)
      clear HW hS hS1 hM1
      go_wp2_with fail
      refine HS.out.mono ?_
      rintro e w2 ⟨s, hs, rfl, h1, h2⟩
      go_wp2_with fail
      go_ret
      exact ⟨s, hs, rfl, h1, h2⟩

end Go.Proofs.YtbdeicbdehgeiaaGreatDoor
