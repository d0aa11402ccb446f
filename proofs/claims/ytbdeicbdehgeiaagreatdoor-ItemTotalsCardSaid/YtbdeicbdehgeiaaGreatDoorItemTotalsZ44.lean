/- Texts of the proof of ItemTotals, put together: RngI, LawItemTotals. -/
import Derived.Test.YtbdeicbdehgeiaaGreatDoorItemTotalsZ34
import Derived.Test.YtbdeicbdehgeiaaGreatDoorItemTotalsZ39
import Derived.Test.YtbdeicbdehgeiaaGreatDoorItemTotalsZ41
import Derived.Test.YtbdeicbdehgeiaaGreatDoorItemTotalsZ43
/- Range of the stream, from 0. -/
namespace Go.Proofs.YtbdeicbdehgeiaaGreatDoor
set_option linter.unusedVariables false
set_option linter.unusedSimpArgs false
open Go.RowKit

theorem pure_strmI {w w' : World} {o : Obj} (h : Mod (· = w.heap.size) (w.alloc o) w') : Pure w w' := ((Mod.refl (fun _ => False) w).alloc o).trans' h (fun i hi hlt => by omega)
theorem rangeI_calls (w : World) (b N : Nat) (hi : Int) (hS : Strm w b N) (hN : N ≤ 1000000000) (h1 : 0 ≤ hi) (h2 : hi ≤ 1000) : Calls Tryz.prog 9 #[.pointer (some ⟨b, 0, none⟩), .int .i64 0, .int .i64 hi] w (fun e w' => ∃ (m : Nat) (mI : Int), mI = (m : Int) ∧ mI ≤ hi ∧ e = .returned (.int .i64 mI) ∧ Strm w' b (N + 1) ∧ Mod (· = b) w w') := by
  refine (range_calls w b N 0 hi hS hN h1 (by omega) (by omega)).mono ?_
  rintro e w' ⟨k, h0, h1, rfl, h3, h4⟩
  exact ⟨k.toNat, k, by omega, h1, rfl, h3, h4⟩

end Go.Proofs.YtbdeicbdehgeiaaGreatDoor

/- The law ItemTotals. -/
namespace Go.Proofs.YtbdeicbdehgeiaaGreatDoor
set_option linter.unusedVariables false
set_option linter.unusedSimpArgs false
open Go.RowKit Go.Sort

set_option maxRecDepth 100000 in
set_option maxHeartbeats 8000000 in
theorem ItemTotals_calls (w : World) (A : Option Addr) (n c : Nat) (hA : ArgInts w A n) (hE : ErrS w) (hD : Deb w) (hV : Env w) :
    Calls Tryz.prog 4 #[.slice A n c] w (BoolPost w true) := by
  have hS0 := strm_new (c := c) hA
  have HE : Hid (∀ w1, Pure w w1 → ErrS w1) := Lib.hid (fun _ h => hE.pure h)
  have HD : Hid (∀ w1, Pure w w1 → Deb w1) := Lib.hid (fun _ h => hD.pure h)
  have HV : Hid (∀ w1, Pure w w1 → Env w1) := Lib.hid (fun _ h => hV.pure h)
  obtain ⟨b, hb⟩ : ∃ b, b = w.heap.size := ⟨_, rfl⟩
  have P0 := pure_alloc w (.cells #[.slice A n c, .int .i64 0] 25)
  have HPS : Hid (∀ {w1 w' : World}, Pure w w1 → Mod (· = b) w1 w' → Pure w w') := Lib.hid (fun k h => k.trans' h (fun i hi hlt => by omega))
  rw [← hb] at hS0
  clear hE hD hV hA
  go_enter Tryz.func4, Tryz.ntmps4
  go_wp2_with fail
  rw [← hb]
  generalize (w.alloc (.cells #[.slice A n c, .int .i64 0] 25)) = w0 at *
  clear hb
  refine (rangeI_calls _ _ _ _ hS0 (by omega) (by omega) (by omega)).mono ?_
  rintro e w1 ⟨m, mI, hmI, hm8, rfl, hS1, hM1⟩
  have P1 := HPS.out P0 hM1
  have hm20 : m ≤ 10 := by omega
  have HIT := Lib.hid (items_calls w1 b _ m mI hmI hS1 (by omega) (by omega) (fun W h => HV.out W (HPS.out P1 h)))
  clear hS0 P0 hM1 hmI hm8 hS1
  go_wp2_with fail
  refine HIT.out.mono ?_
  rintro e w2 ⟨v, xs, rfl, hxl, hxz, hown, hS2, hM2⟩
  have P2 := HPS.out P1 hM2
  have hv : Its w2 v xs := Sl.of_own hown
  have HFA := Lib.hid (itotals_calls w2 v xs hv hxz (by omega) (HV.out _ P2))
  have LAST2 : Hid (∀ W, Pure w2 W → Calls Tryz.prog 11 #[v] W (IntPost W (itsE itemE xs))) := Lib.hid (fun W h => itemsFault_calls W v xs (hv.pure h) hxz (by omega) (HV.out W (P2.trans h)))
  have HFO : Hid (∀ W, Pure w2 W → Calls Tryz.prog 22 #[v] W (RtPost W xs)) := Lib.hid (fun W h => totalsOf_calls W v xs (hv.pure h) hxz (by omega))
  have HT : Hid (∀ W, Pure w W → _) := Lib.hid (fun W hW => taken_calls W (HE.out _ hW) (HD.out _ hW))
  unfold TtPost at HFA
  generalize itsE itemE xs = f at *
  clear HIT hxz P1 hM2 hS2 hown hv HE HD HV HPS
  go_wp2_with fail
  refine HFA.out.mono ?_
  rintro e w3 ⟨A3, n3, c3, rfl, h3n, h30, m3⟩
  have H3N := Lib.hid h3n
  have H30 := Lib.hid h30
  have HL2 := Lib.hid (LAST2.out w3 m3)
  clear HFA h3n h30 LAST2
  go_wp2_with fail
  refine HL2.out.mono ?_
  rintro e w4 ⟨rfl, m4⟩
  have P4 := P2.trans (m3.trans m4)
  by_cases h0 : f = 0
  · subst h0
    have HFS := Lib.hid ((H30.out rfl).pure m4)
    have HO := Lib.hid (HFO.out w4 (m3.trans m4))
    clear H3N H30 HFO HL2
    go_wp2_with fail
    refine HO.out.mono ?_
    rintro e w5 ⟨A5, n5, c5, rfl, hgs, m5⟩
    have HEQ := Lib.hid (equalTot_calls w5 _ _ _ (HFS.out.pure m5) hgs)
    clear HO HFS hgs
    go_wp2_with fail
    refine HEQ.out.mono ?_
    rintro e w6 ⟨rfl, m6⟩
    have P6 := P4.trans (m5.trans m6)
    clear HEQ
    go_wp2_with fail
    refine (HT.out _ P6).mono ?_
    rintro e w7 ⟨rfl, m7⟩
    go_wp2_with fail
    go_ret
    exact ⟨rfl, P6.trans m7⟩
  · have h0' : (f != 0) = true := by simpa using h0
    obtain ⟨rfl, rfl, rfl⟩ := H3N.out h0
    have hff : (f == f) = true := by simp
    clear H3N H30 HFO HL2 h0
    go_wp2_with fail
    refine (HT.out _ P4).mono ?_
    rintro e w7 ⟨rfl, m7⟩
    go_wp2_with fail
    go_ret
    exact ⟨rfl, P4.trans m7⟩

end Go.Proofs.YtbdeicbdehgeiaaGreatDoor
