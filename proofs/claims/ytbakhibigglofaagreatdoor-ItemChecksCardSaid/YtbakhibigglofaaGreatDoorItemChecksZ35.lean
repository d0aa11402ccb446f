/- Texts of the proof of ItemChecks, put together: LawItemChecks. -/
import Derived.Test.YtbakhibigglofaaGreatDoorItemChecksZ27
import Derived.Test.YtbakhibigglofaaGreatDoorItemChecksZ32
import Derived.Test.YtbakhibigglofaaGreatDoorItemChecksZ33
/- The law ItemChecks. -/
namespace Go.Proofs.YtbakhibigglofaaGreatDoor
set_option linter.unusedVariables false
set_option linter.unusedSimpArgs false
open Go.RowKit

theorem pure_strm {w w' : World} {o : Obj} (h : Mod (· = w.heap.size) (w.alloc o) w') : Pure w w' := ((Mod.refl (fun _ => False) w).alloc o).trans' h (fun i hi hlt => by omega)
theorem itemE_kind {x : Itm} (h : itemE x = 0) : 1 ≤ x.kind ∧ x.kind ≤ 4 := by
  unfold itemE at h
  split at h
  · omega
  split at h
  · omega
  rename_i h2
  simp at h2
  exact inB_true h2
theorem range_callsI (w : World) (b N : Nat) (hi : Int) (hS : Strm w b N) (hN : N ≤ 1000000000) (h1 : 0 ≤ hi) (h2 : hi ≤ 1000) : Calls Tryz.prog 9 #[.pointer (some ⟨b, 0, none⟩), .int .i64 0, .int .i64 hi] w (fun e w' => ∃ (m : Nat) (mI : Int), mI = (m : Int) ∧ mI ≤ hi ∧ e = .returned (.int .i64 mI) ∧ Strm w' b (N + 1) ∧ Mod (· = b) w w') := by
  refine (range_calls w b N 0 hi hS hN h1 (by omega) (by omega)).mono ?_
  rintro e w' ⟨k, h0, h1, rfl, h3, h4⟩
  exact ⟨k.toNat, k, by omega, h1, rfl, h3, h4⟩

set_option maxRecDepth 100000 in
set_option maxHeartbeats 8000000 in
theorem ItemChecks_calls (w : World) (A : Option Addr) (n c : Nat) (hA : ArgInts w A n) (hE : ErrS w) (hD : Deb w) (hV : Env w) :
    Calls Tryz.prog 3 #[.slice A n c] w (BoolPost w true) := by
  have hS0 := strm_new (c := c) hA
  have HE : Hid (∀ w1, Pure w w1 → ErrS w1) := Lib.hid (fun _ h => hE.pure h)
  have HD : Hid (∀ w1, Pure w w1 → Deb w1) := Lib.hid (fun _ h => hD.pure h)
  have HV : Hid (∀ w1, Pure w w1 → Env w1) := Lib.hid (fun _ h => hV.pure h)
  obtain ⟨b, hb⟩ : ∃ b, b = w.heap.size := ⟨_, rfl⟩
  have P0 := pure_alloc w (.cells #[.slice A n c, .int .i64 0] 25)
  have HPS : Hid (∀ {w1 w' : World}, Pure w w1 → Mod (· = b) w1 w' → Pure w w') := Lib.hid (fun k h => k.trans' h (fun i hi hlt => by omega))
  rw [← hb] at hS0
  clear hE hD hV hA
  go_enter Tryz.func3, Tryz.ntmps3
  go_wp2_with fail
  rw [← hb]
  generalize (w.alloc (.cells #[.slice A n c, .int .i64 0] 25)) = w0 at *
  clear hb
  refine (range_callsI _ _ _ _ hS0 (by omega) (by omega) (by omega)).mono ?_
  rintro e w1 ⟨m, mI, hmI, hm8, rfl, hS1, hM1⟩
  have P1 := HPS.out P0 hM1
  have hm20 : m ≤ 20 := by omega
  have HIT := Lib.hid (items_calls w1 b _ m mI hmI hS1 (by omega) hm20 (fun W h => HV.out W (HPS.out P1 h)))
  clear hS0 P0 hM1 hmI hm8 hS1
  go_wp2_with fail
  refine HIT.out.mono ?_
  rintro e w2 ⟨v, xs, rfl, hxl, hxz, hown, hS2, hM2⟩
  have P2 := HPS.out P1 hM2
  have hv : Its w2 v xs := Sl.of_own hown
  have HXZ := Lib.hid hxz
  have hbo := own_block hown
  have hb1 := hM2.size
  clear HIT hxz P1 hM2
  go_wp2_with fail
  refine (item_calls _ b _ [105, 97] hS2 (by omega) (by simp)).mono ?_
  rintro e w3 ⟨x, hx, rfl, hS3, hM3⟩
  have P3 := HPS.out P2 hM3
  have hv3 := hv.strm hS2 hM3 (by decide)
  clear hS2 P2 hv hown hbo hM3 hS3
  have HB := Lib.hid (Blk.new w3 30 (itQ x))
  have P4 := P3.alloc (.cells (itQ x) 30)
  have hv4 := Sl.pure hv3 (pure_alloc w3 (.cells (itQ x) 30))
  have HS := Lib.hid (fun W (h : Pure w W) => Sum_calls W x hx (HD.out W h) (HV.out W h))
  have HF := Lib.hid (fun W (h : Pure w W) => itemFault_calls W x hx (HV.out W h))
  have HC := Lib.hid (fun W (h : Pure w W) => checkItem_calls W x hx (HV.out W h))
  have HK := Lib.hid (fun h => itemE_kind (x := x) h)
  have HSO := Lib.hid (fun W h1 h4 => SumOf_calls W x hx h1 h4)
  have P4' := Lib.hid P4
  have hv4' := Lib.hid hv4
  obtain ⟨e1, he1⟩ : ∃ e1, itemE x = e1 := ⟨_, rfl⟩
  unfold SumPost at HS
  rw [he1] at HS HF HC HK
  clear P3 hv3 hx P4 hv4 he1
  unfold itQ at HB P4' hv4'
  unfold itA at HS HF HC HSO ⊢
  go_wp2_with fail
  refine (HS.out _ P4'.out).mono ?_
  rintro e w5 ⟨s, rfl, hs, m5⟩
  have B5 := HB.out.mod m5 id
  have P5 := P4'.out.trans m5
  have hv5 := Sl.pure hv4'.out m5
  clear HB P4' hv4' HS m5
  generalize w3.heap.size = gx at *
  have HSS := Lib.hid hs
  clear hs
  have c0 := B5.cell 0; have c1 := B5.cell 1; have c2 := B5.cell 2; have c3 := B5.cell 3; have c4 := B5.cell 4; have c5 := B5.cell 5; have c6 := B5.cell 6; simp at c0 c1 c2 c3 c4 c5 c6
  go_wp2_with fail
  refine (HF.out _ P5).mono ?_
  rintro e w6 ⟨rfl, m6⟩
  have B6 := B5.mod m6 id
  have P6 := P5.trans m6
  have hv6 := Sl.pure hv5 m6
  clear B5 P5 hv5 HF m6 c0 c1 c2 c3 c4 c5 c6
  have c0 := B6.cell 0; have c1 := B6.cell 1; have c2 := B6.cell 2; have c3 := B6.cell 3; have c4 := B6.cell 4; have c5 := B6.cell 5; have c6 := B6.cell 6; simp at c0 c1 c2 c3 c4 c5 c6
  go_wp2_with fail
  refine (HC.out _ P6).mono ?_
  rintro e w7 ⟨rfl, m7⟩
  have B7 := B6.mod m7 id
  have P7 := P6.trans m7
  have hv7 := Sl.pure hv6 m7
  clear B6 P6 hv6 HC m7 c0 c1 c2 c3 c4 c5 c6
  have LAST : Hid (∀ W, Pure w W → Its W v xs → Calls Tryz.prog 15 #[v] W (IntPost W (itsE itemE xs))) := Lib.hid (fun W h h2 => check_calls W v xs h2 HXZ.out (by omega) (HV.out W h))
  have LAST2 : Hid (∀ W, Pure w W → Its W v xs → Calls Tryz.prog 16 #[v] W (IntPost W (itsE itemE xs))) := Lib.hid (fun W h h2 => itemsFault_calls W v xs h2 HXZ.out (by omega) (HV.out W h))
  have HT : Hid (∀ W, Pure w W → _) := Lib.hid (fun W hW => taken_calls W (HE.out _ hW) (HD.out _ hW))
  generalize itsE itemE xs = f at *
  clear HE HD HV HPS
  by_cases h0 : e1 = 0
  · subst h0
    obtain ⟨k1, k4⟩ := HK.out rfl
    rw [if_pos rfl] at HSS
    have HSX := Lib.hid (fun W => HSO.out W k1 k4)
    rw [← HSS.out] at HSX
    clear HK HSO HSS k1 k4
    have c0 := B7.cell 0; have c1 := B7.cell 1; have c2 := B7.cell 2; have c3 := B7.cell 3; have c4 := B7.cell 4; have c5 := B7.cell 5; have c6 := B7.cell 6; simp at c0 c1 c2 c3 c4 c5 c6
    have hse : (s == s) = true := by simp
    go_wp2_with fail
    refine (HSX.out _).mono ?_
    rintro e w8 ⟨rfl, m8⟩
    have P8 := P7.trans m8
    have hv8 := Sl.pure hv7 m8
    clear B7 P7 hv7 HSX m8 c0 c1 c2 c3 c4 c5 c6
    go_wp2_with fail
    refine (LAST.out _ P8 hv8).mono ?_
    rintro e w9 ⟨rfl, m9⟩
    have P9 := P8.trans m9
    have hv9 := Sl.pure hv8 m9
    clear P8 hv8 LAST m9
    go_wp2_with fail
    refine (LAST2.out _ P9 hv9).mono ?_
    rintro e w10 ⟨rfl, m10⟩
    have P10 := P9.trans m10
    have hff : (f == f) = true := by simp
    clear P9 hv9 LAST2 m10
    go_wp2_with fail
    refine (HT.out _ P10).mono ?_
    rintro e w11 ⟨rfl, m11⟩
    go_wp2_with fail
    go_ret
    exact ⟨rfl, P10.trans m11⟩
  · have h0' : (e1 == 0) = false := by simpa using h0
    have h0'' : (e1 != 0) = true := by simpa using h0
    rw [if_neg h0] at HSS
    obtain rfl : s = [] := HSS.out
    clear HK HSO HSS h0 B7
    go_wp2_with fail
    refine (LAST.out _ P7 hv7).mono ?_
    rintro e w9 ⟨rfl, m9⟩
    have P9 := P7.trans m9
    have hv9 := Sl.pure hv7 m9
    clear P7 hv7 LAST m9
    go_wp2_with fail
    refine (LAST2.out _ P9 hv9).mono ?_
    rintro e w10 ⟨rfl, m10⟩
    have P10 := P9.trans m10
    have hff : (f == f) = true := by simp
    clear P9 hv9 LAST2 m10
    go_wp2_with fail
    refine (HT.out _ P10).mono ?_
    rintro e w11 ⟨rfl, m11⟩
    go_wp2_with fail
    go_ret
    exact ⟨rfl, P10.trans m11⟩

end Go.Proofs.YtbakhibigglofaaGreatDoor
