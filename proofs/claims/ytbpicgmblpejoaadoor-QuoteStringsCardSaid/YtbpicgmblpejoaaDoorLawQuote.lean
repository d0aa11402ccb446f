/- The law QuoteStrings. -/
import Derived.Test.YtbpicgmblpejoaaDoorQuoS
import Derived.Test.YtbpicgmblpejoaaDoorChg
namespace Go.Proofs.YtbpicgmblpejoaaDoor
set_option linter.unusedVariables false
set_option linter.unusedSimpArgs false
open Go.RowKit

theorem pure_stream {w w' : World} {o : Obj} (h : Mod (· = w.heap.size) (w.alloc o) w') : Pure w w' := ((Mod.refl (fun _ => False) w).alloc o).trans' h (fun i hi hlt => by omega)
theorem pure_streams {w w1 w' : World} (k : Pure w w1) (h : Mod (· = w.heap.size) w1 w') : Pure w w' := k.trans' h (fun i hi hlt => by omega)
theorem quoS_le (l : Str) : (quoS l).length ≤ 2 + 4 * l.length := by
  have := flat_len l
  simp only [quoS, List.length_cons, List.length_append, List.length_nil]
  omega
def chgB : ByteArray := ⟨#[34, 92, 110, 120, 48, 97, 70, 32, 55, 102]⟩
theorem chgB_lt : ∀ i (h : i < chgB.size), chgB[i].toNat < 128 := by
  have key : ∀ i : Fin 10, (chgB[i.val]'i.isLt).toNat < 128 := by decide +kernel
  exact fun i h => key ⟨i, h⟩
def QsRel (w : World) (b m gk : Nat) (x i : Value) (wr : World) : Prop :=
  ∃ (j : Nat) (t : ByteArray), m - j = gk ∧ j ≤ m ∧ x = .string t ∧ i = .int .i64 (j : Int) ∧ t.size ≤ 200 + 10 * j ∧ Strm wr b (19 + 3 * j) ∧ Pure w wr

set_option maxRecDepth 100000 in
set_option maxHeartbeats 8000000 in
theorem QuoteStrings_calls (w : World) (A : Option Addr) (n c : Nat) (hA : ArgInts w A n) (hE : ErrS w) (hD : Deb w) :
    Calls Tryd.prog 3 #[.slice A n c] w (BoolPost w true) := by
  have hS0 := strm_new (c := c) hA
  have HE : Hid (∀ w1, Pure w w1 → ErrS w1) := Lib.hid (fun _ h => hE.pure h)
  have HD : Hid (∀ w1, Pure w w1 → Deb w1) := Lib.hid (fun _ h => hD.pure h)
  clear hE hD
  go_enter Tryd.func3, Tryd.ntmps3
  go_wp2_with fail
  refine (strange_calls _ _ _ hS0 (by omega)).mono ?_
  rintro e w1 ⟨a, ha, rfl, hS1, hM1⟩
  have P1 := pure_stream hM1
  clear hS0 hM1
  obtain ⟨b, hb⟩ : ∃ b, b = w.heap.size := ⟨_, rfl⟩
  rw [← hb] at hS1
  have hb1 := Nat.le_of_eq hb
  have hb2 := Nat.le_of_eq hb.symm
  rw [← hb]
  have HPS : Hid (∀ {w1 w' : World}, Pure w w1 → Mod (· = b) w1 w' → Pure w w') := Lib.hid (fun k h => by subst hb; exact pure_streams k h)
  clear hb
  go_wp2_with fail
  refine (Quote_calls _ a (by omega)).mono ?_
  rintro e w2 ⟨rfl, m2⟩
  have HQL : Hid ((⟨(quoS a.data.toList).toArray⟩ : ByteArray).size ≤ 130) := Lib.hid (by
    have h1 := quoS_le a.data.toList
    have h2 : a.data.toList.length = a.size := by simp
    have h3 : (⟨(quoS a.data.toList).toArray⟩ : ByteArray).size = (quoS a.data.toList).length := by simp [ByteArray.size]
    omega)
  have HQ2 : Hid (∀ W, Calls Tryd.prog 6 #[.string a] W (StrPost1 W (quoS a.data.toList))) := Lib.hid (fun W => Quoted_calls W a (by omega))
  generalize quoS a.data.toList = qa at *
  go_wp2_with fail
  refine (HQ2.out _).mono ?_
  rintro e w3 ⟨rfl, m3⟩
  have hqe : (qa == qa) = true := by simp
  go_wp2_with fail
  refine (Digest_calls _ a (by omega) (HD.out _ ((P1.trans m2).trans m3))).mono ?_
  rintro e w4 ⟨rfl, m4⟩
  have HD2 : Hid (∀ W, Calls Tryd.prog 8 #[.string a] W (StrPost1 W (digS a.data.toList))) := Lib.hid (fun W => DigestOf_calls W a (by omega))
  generalize digS a.data.toList = da at *
  go_wp2_with fail
  refine (HD2.out _).mono ?_
  rintro e w5 ⟨rfl, m5⟩
  have hde : (da == da) = true := by simp
  have m15 := ((m2.trans m3).trans m4).trans m5
  have P5 := P1.trans m15
  have hS5 := hS1.pure m15
  clear m2 m3 m4 m5 m15 P1 hS1 HD2
  go_wp2_with fail
  refine (HQ2.out _).mono ?_
  rintro e w6 ⟨rfl, m6⟩
  have hq := HQL.out
  generalize (⟨qa.toArray⟩ : ByteArray) = q at *
  have P6 := P5.trans m6
  have hS6 := hS5.pure m6
  clear P5 hS5 m6
  go_wp2_with fail
  refine (strange_calls _ _ _ hS6 (by omega)).mono ?_
  rintro e w7 ⟨z, hz, rfl, hS7, hM7⟩
  have P7 := HPS.out P6 hM7
  clear P6 hS6 hM7 HQ2 HQL
  go_wp2_with fail
  have hb7 := hS7.lt
  refine (pickv_calls _ b _ w7.heap.size _ _ #[.int .i64 0, .int .i64 0, .int .i64 1, .int .i64 2] (hS7.alloc _) (Blk.new _ _ _) (by omega) (by omega) rfl (by decide) (by decide) rfl).mono ?_
  rintro e w8 ⟨m, hmem, rfl, hS8, hM8⟩
  have P8 := HPS.out (P7.alloc _) hM8
  have hm02 : 0 ≤ m ∧ m ≤ 2 := by
    have : m = 0 ∨ m = 0 ∨ m = 1 ∨ m = 2 := by simpa [intsOf, intOf] using hmem
    omega
  obtain ⟨hm0, hm2⟩ := hm02
  obtain ⟨m, rfl⟩ := Int.eq_ofNat_of_zero_le hm0
  have hm2' : m ≤ 2 := by omega
  clear hmem hS7 hM8 P7 hm0 hm2 hb7
  have htz : (q ++ z).size ≤ 200 := by rw [ByteArray.size_append]; omega
  generalize q ++ z = t0 at *
  go_wp2_with fail
  go_loopg [5, 37] m (fun gk x i wr => QsRel w b m gk x i wr)
  case atStart => exact ⟨0, t0, rfl, by omega, rfl, rfl, by omega, hS8.more (by omega), P8⟩
  case round =>
    clear htz hS8 P8
    obtain ⟨j, t, rfl, hj, rfl, rfl, htz, hS8, P8⟩ := hrel
    by_cases hlt : j < m
    · have HC := Lib.hid (changed_calls wr b _ t chgB hS8 (by omega) (by omega) (by decide) (by decide) chgB_lt)
      go_wp2_with fail
      refine HC.out.mono ?_
      rintro e w9 ⟨t2, ht2, rfl, hS9, hM9⟩
      have hc10 : chgB.size = 10 := rfl
      rw [hc10] at ht2
      clear HC
      go_wp2_with fail
      go_roundg (m - (j + 1))
      case measure => omega
      case rel => exact ⟨j + 1, t2, rfl, by omega, rfl, by simp, by omega, hS9.more (by omega), HPS.out P8 hM9⟩
    · obtain rfl : j = m := by omega
      have htl : t.data.toList.length ≤ 10000 := by
        have : t.data.toList.length = t.size := by simp
        omega
      have HU := Lib.hid (Unquote_calls wr t.data.toList htl (HE.out _ P8))
      have HV : Hid (∀ W, _) := Lib.hid (fun W => Unquoted_calls W t.data.toList htl)
      have HT : Hid (∀ W, Pure w W → _) := Lib.hid (fun W hW => taken_calls W (HE.out _ hW) (HD.out _ hW))
      clear htl HE HD hS8 HPS
      go_wp2_with fail
      refine HU.out.mono ?_
      rintro e w9 ⟨h | h, m9⟩
      · obtain ⟨h1, rfl⟩ := h
        clear HU
        go_wp2_with fail
        refine (HV.out _).mono ?_
        rintro e w10 ⟨k | k, m10⟩
        · obtain ⟨k1, rfl⟩ := k
          have P10 := (P8.trans m9).trans m10
          clear HV h1 k1 P8 m9 m10
          go_wp2_with fail
          refine (HT.out _ P10).mono ?_
          rintro e w11 ⟨rfl, m11⟩
          go_wp2_with fail
          go_ret
          exact ⟨rfl, P10.trans m11⟩
        · obtain ⟨out, n', k1, rfl⟩ := k
          rw [h1] at k1
          cases k1
      · obtain ⟨out, n', h1, rfl⟩ := h
        clear HU
        go_wp2_with fail
        refine (HV.out _).mono ?_
        rintro e w10 ⟨k | k, m10⟩
        · obtain ⟨k1, rfl⟩ := k
          rw [h1] at k1
          cases k1
        · obtain ⟨out2, n2, k1, rfl⟩ := k
          rw [h1] at k1
          injection k1 with k1
          injection k1 with k1 k2
          subst k1 k2
          have P10 := (P8.trans m9).trans m10
          have hoo : (out == out) = true := by simp
          clear HV h1 P8 m9 m10
          go_wp2_with fail
          refine (HT.out _ P10).mono ?_
          rintro e w11 ⟨rfl, m11⟩
          go_wp2_with fail
          go_ret
          exact ⟨rfl, P10.trans m11⟩

end Go.Proofs.YtbpicgmblpejoaaDoor
