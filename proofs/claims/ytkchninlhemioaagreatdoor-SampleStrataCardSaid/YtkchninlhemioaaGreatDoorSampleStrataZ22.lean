/- Texts of the proof of SampleStrata, put together: Ids, Weights. -/
import Derived.Test.YtkchninlhemioaaGreatDoorSampleStrataZ12
import Derived.Test.YtkchninlhemioaaGreatDoorSampleStrataZ17
import Derived.Test.YtkchninlhemioaaGreatDoorSampleStrataZ19
/- Lists of ids: risingKeys, IdsFault of the reference; idsError of package sample. -/
namespace Go.Proofs.YtkchninlhemioaaGreatDoor
set_option linter.unusedVariables false
set_option linter.unusedSimpArgs false
open Go.RowKit

theorem bytes_toList (l : Str) : (⟨l.toArray⟩ : ByteArray).toList = l := by simp
theorem idAt_bad {ss : List Str} {k : Nat} (h : k < ss.length) (hk : keyB ss[k] = false) : idAt keyE ss k = 5 := by
  unfold idAt
  have e : ss.getD k [] = ss[k] := by simp [List.getD, h]
  rw [e]
  have e5 : keyE ss[k] = 5 := by unfold keyE; rw [hk]; rfl
  rw [e5]
  rfl
theorem idAt_ok {ss : List Str} {k : Nat} (h : k < ss.length) (hk : keyB ss[k] = true) : idAt keyE ss k = if 0 < k ∧ leS ss[k] (ss.getD (k - 1) []) = true then 7 else 0 := by
  unfold idAt
  have e : ss.getD k [] = ss[k] := by simp [List.getD, h]
  rw [e]
  have e0 : keyE ss[k] = 0 := by unfold keyE; rw [hk]; rfl
  rw [e0]
  rfl

set_option maxRecDepth 100000 in
set_option maxHeartbeats 2000000 in
theorem risingKeys_calls (w : World) (v : Value) (ss : List Str) (hv : Sl w 9 1 v (strsV ss)) (hz : ∀ s ∈ ss, s.length ≤ 1000) (hl : ss.length ≤ 1000000) : Calls Tryz.prog 38 #[v] w (IntPost w (risingE keyE ss)) := by
  obtain ⟨A, n, c, rfl, hc1, hc2, hl2, hr⟩ := hv
  have hln : ss.length = n := by simpa [strsV] using hl2
  subst hln
  have HR := Lib.hid hr
  have HZ := Lib.hid hz
  clear hl2 hr hz
  go_enter Tryz.func38, Tryz.ntmps38
  go_wp2_with fail
  go_loopg [7] ss.length (fun gk i wr => ∃ k : Nat, ss.length - k = gk ∧ k ≤ ss.length ∧ i = .int .i64 (k : Int) ∧ risingFrom keyE ss k = risingE keyE ss ∧ Pure w wr)
  case atStart => exact ⟨0, by omega, by omega, rfl, rfl, Mod.refl _ _⟩
  case round =>
    obtain ⟨k, rfl, hk, rfl, hix, hm⟩ := hrel
    have HIX := Lib.hid hix
    clear hix
    by_cases hlt : k < ss.length
    · obtain ⟨g, off, rfl, hrow⟩ := HR.out (by omega)
      have hq := (hrow.mod hm id).cell (strsV_get ss k hlt)
      have hi2 := risingFrom_step keyE ss k hlt
      rw [HIX.out] at hi2
      have HI2 := Lib.hid hi2
      have hzk := HZ.out _ (List.getElem_mem hlt)
      have HB := Lib.hid (fun h => idAt_bad hlt h)
      have HO := Lib.hid (fun h => idAt_ok hlt h)
      clear hi2 HIX
      have y1 : (⟨ss[k].toArray⟩ : ByteArray).size ≤ 1000000 := by simp [ByteArray.size]; omega
      by_cases h0 : k = 0
      · have d0 : decide ((0 : Int) < (k : Int)) = false := by simp; omega
        have d1 : decide (0 < k) = false := by simp; omega
        have hn0 : ¬ 0 < k := by omega
        clear hrow
        generalize ss[k] = x at *
        have h0' := Nat.le_of_eq h0
        clear h0
        go_wp2_with fail
        refine (rkey_calls _ _ y1).mono ?_
        rintro e w1 ⟨rfl, hm1⟩
        rw [show (⟨x.toArray⟩ : ByteArray).data.toList = x from rfl]
        cases hp : keyB x
        · go_wp2_with fail
          go_ret
          exact IntPost.of (by rw [HI2.out, HB.out hp]; rfl) (hm.trans hm1)
        · go_wp2_with fail
          go_roundg (ss.length - (k + 1))
          case measure => omega
          case rel => exact ⟨k + 1, rfl, hlt, by simp, by rw [HI2.out, HO.out hp]; simp [hn0], hm.trans hm1⟩
      · have hq2 := (hrow.mod hm id).cell (strsV_get ss (k - 1) (by omega))
        have e1 : ss.getD (k - 1) [] = ss[k - 1] := by simp [List.getD, show k - 1 < ss.length by omega]
        have HE1 := Lib.hid e1
        clear e1 hrow
        generalize hk1 : ss[k - 1] = y at *
        clear hk1
        generalize ss[k] = x at *
        obtain ⟨j, rfl⟩ : ∃ j, k = j + 1 := ⟨k - 1, by omega⟩
        simp only [Nat.add_sub_cancel] at hq2 HE1
        go_wp2_with fail
        refine (rkey_calls _ _ y1).mono ?_
        rintro e w1 ⟨rfl, hm1⟩
        rw [show (⟨x.toArray⟩ : ByteArray).data.toList = x from rfl]
        have hq3 := hm1.keep hq2 id
        cases hp : keyB x
        · go_wp2_with fail
          go_ret
          exact IntPost.of (by rw [HI2.out, HB.out hp]; rfl) (hm.trans hm1)
        · cases hle : leS x y
          · have hle2 : (Op.bytesLess x y || x == y) = false := hle
            go_wp2_with fail
            go_roundg (ss.length - (j + 1 + 1))
            case measure => omega
            case rel => exact ⟨j + 1 + 1, rfl, hlt, by simp, by rw [HI2.out, HO.out hp, Nat.add_sub_cancel, HE1.out, hle]; simp, hm.trans hm1⟩
          · have hle2 : (Op.bytesLess x y || x == y) = true := hle
            go_wp2_with fail
            go_ret
            exact IntPost.of (by rw [HI2.out, HO.out hp, Nat.add_sub_cancel, HE1.out, hle]; simp) (hm.trans hm1)
    · have hke : k = ss.length := by omega
      have HS := Lib.hid (risingFrom_end keyE ss)
      subst hke
      go_wp2_with fail
      go_ret
      exact IntPost.of (by rw [← HIX.out]; exact HS.out) hm


set_option maxRecDepth 100000 in
set_option maxHeartbeats 1000000 in
theorem idsFault_calls (w : World) (v : Value) (ss : List Str) (hv : Sl w 9 1 v (strsV ss)) (hz : ∀ s ∈ ss, s.length ≤ 1000) (hl : ss.length ≤ 2000) : Calls Tryz.prog 13 #[v] w (IntPost w (idsE keyE ss)) := by
  obtain ⟨A, n, c, rfl⟩ := hv.form
  have hln : ss.length = n := by
    obtain ⟨A', n', c', h1, _, _, h2, _⟩ := hv
    injection h1 with _ h3 _
    simp [strsV] at h2
    omega
  subst hln
  have HC := Lib.hid (risingKeys_calls w _ ss hv hz (by omega))
  have n1 : ¬ ((2000 : Int) < (ss.length : Int)) := by omega
  go_enter Tryz.func13, Tryz.ntmps13
  go_wp2_with fail
  refine HC.out.mono ?_
  rintro e w1 ⟨rfl, hm1⟩
  go_wp2_with fail
  go_ret
  exact IntPost.of (by unfold idsE; rw [if_neg (by omega)]) hm1

set_option maxRecDepth 100000 in
set_option maxHeartbeats 2000000 in
theorem idsError_calls (w : World) (v : Value) (ss : List Str) (hv : Sl w 9 1 v (strsV ss)) (hz : ∀ s ∈ ss, s.length ≤ 1000) (hl : ss.length ≤ 2000) : Calls Tryz.prog 32 #[v] w (IntPost w (idsE keyE ss)) := by
  obtain ⟨A, n, c, rfl, hc1, hc2, hl2, hr⟩ := hv
  have hln : ss.length = n := by simpa [strsV] using hl2
  subst hln
  have HR := Lib.hid hr
  have HZ := Lib.hid hz
  have n1 : ¬ ((2000 : Int) < (ss.length : Int)) := by omega
  have HE : Hid (idsE keyE ss = risingE keyE ss) := by
    show idsE keyE ss = _
    unfold idsE
    rw [if_neg (by omega)]
  clear hl2 hr hz
  go_enter Tryz.func32, Tryz.ntmps32
  go_wp2_with fail
  go_loopg [11] ss.length (fun gk i wr => ∃ k : Nat, ss.length - k = gk ∧ k ≤ ss.length ∧ i = .int .i64 (k : Int) ∧ risingFrom keyE ss k = risingE keyE ss ∧ Pure w wr)
  case atStart => exact ⟨0, by omega, by omega, rfl, rfl, Mod.refl _ _⟩
  case round =>
    obtain ⟨k, rfl, hk, rfl, hix, hm⟩ := hrel
    have HIX := Lib.hid hix
    clear hix
    by_cases hlt : k < ss.length
    · obtain ⟨g, off, rfl, hrow⟩ := HR.out (by omega)
      have hq := (hrow.mod hm id).cell (strsV_get ss k hlt)
      have hi2 := risingFrom_step keyE ss k hlt
      rw [HIX.out] at hi2
      have HI2 := Lib.hid hi2
      have hzk := HZ.out _ (List.getElem_mem hlt)
      have HB := Lib.hid (fun h => idAt_bad hlt h)
      have HO := Lib.hid (fun h => idAt_ok hlt h)
      clear hi2 HIX
      have y1 : (⟨ss[k].toArray⟩ : ByteArray).size ≤ 1000000 := by simp [ByteArray.size]; omega
      have hkk : ∀ x : Str, (keyB x = false → keyErr x = 5) ∧ (keyB x = true → keyErr x = 0) := fun x => ⟨keyErr_f, keyErr_t⟩
      have HKK := Lib.hid hkk
      clear hkk
      by_cases h0 : k = 0
      · have d0 : decide ((0 : Int) < (k : Int)) = false := by simp; omega
        have d1 : decide (0 < k) = false := by simp; omega
        have hn0 : ¬ 0 < k := by omega
        clear hrow
        generalize ss[k] = x at *
        have h0' := Nat.le_of_eq h0
        clear h0
        go_wp2_with fail
        refine (keyError_calls _ _ y1).mono ?_
        rintro e w1 ⟨rfl, rfl⟩
        rw [show (⟨x.toArray⟩ : ByteArray).data.toList = x from rfl]
        go_wp2_with fail
        refine (when_f _ _).mono ?_
        rintro e w1 ⟨rfl, rfl⟩
        go_wp2_with fail
        refine (firstE_calls _ _ _ [keyErr x, 0] (Blk.new _ _ _).row0 (by simp)).mono ?_
        rintro e w2 ⟨rfl, hm2⟩
        have m2 : Pure w w2 := (hm.alloc _).trans hm2
        cases hp : keyB x
        · have hf : firstErr [keyErr x, 0] = 5 := by rw [(HKK.out x).1 hp]; rfl
          rw [hf]
          clear hf
          go_wp2_with fail
          go_ret
          exact IntPost.of (by rw [HE.out, HI2.out, HB.out hp]; rfl) m2
        · have hf : firstErr [keyErr x, 0] = 0 := by rw [(HKK.out x).2 hp]; rfl
          rw [hf]
          clear hf
          go_wp2_with fail
          go_roundg (ss.length - (k + 1))
          case measure => omega
          case rel => exact ⟨k + 1, rfl, hlt, by simp, by rw [HI2.out, HO.out hp]; simp [hn0], m2⟩
      · have hq2 := (hrow.mod hm id).cell (strsV_get ss (k - 1) (by omega))
        have e1 : ss.getD (k - 1) [] = ss[k - 1] := by simp [List.getD, show k - 1 < ss.length by omega]
        have HE1 := Lib.hid e1
        clear e1 hrow
        generalize hk1 : ss[k - 1] = y at *
        clear hk1
        generalize ss[k] = x at *
        obtain ⟨j, rfl⟩ : ∃ j, k = j + 1 := ⟨k - 1, by omega⟩
        simp only [Nat.add_sub_cancel] at hq2 HE1
        have n3 : max ((j : Int) + 1) 1 = (j : Int) + 1 := by omega
        cases hle : leS x y
        · have hle2 : (Op.bytesLess x y || x == y) = false := hle
          go_wp2_with fail
          refine (keyError_calls _ _ y1).mono ?_
          rintro e w1 ⟨rfl, rfl⟩
          rw [show (⟨x.toArray⟩ : ByteArray).data.toList = x from rfl]
          go_wp2_with fail
          refine (when_f _ _).mono ?_
          rintro e w1 ⟨rfl, rfl⟩
          go_wp2_with fail
          refine (firstE_calls _ _ _ [keyErr x, 0] (Blk.new _ _ _).row0 (by simp)).mono ?_
          rintro e w2 ⟨rfl, hm2⟩
          have m2 : Pure w w2 := (hm.alloc _).trans hm2
          cases hp : keyB x
          · have hf : firstErr [keyErr x, 0] = 5 := by rw [(HKK.out x).1 hp]; rfl
            rw [hf]
            clear hf
            go_wp2_with fail
            go_ret
            exact IntPost.of (by rw [HE.out, HI2.out, HB.out hp]; rfl) m2
          · have hf : firstErr [keyErr x, 0] = 0 := by rw [(HKK.out x).2 hp]; rfl
            rw [hf]
            clear hf
            go_wp2_with fail
            go_roundg (ss.length - (j + 1 + 1))
            case measure => omega
            case rel => exact ⟨j + 1 + 1, rfl, hlt, by simp, by rw [HI2.out, HO.out hp, Nat.add_sub_cancel, HE1.out, hle]; simp, m2⟩
        · have hle2 : (Op.bytesLess x y || x == y) = true := hle
          go_wp2_with fail
          refine (keyError_calls _ _ y1).mono ?_
          rintro e w1 ⟨rfl, rfl⟩
          rw [show (⟨x.toArray⟩ : ByteArray).data.toList = x from rfl]
          go_wp2_with fail
          refine (when_t _ _).mono ?_
          rintro e w1 ⟨rfl, rfl⟩
          go_wp2_with fail
          refine (firstE_calls _ _ _ [keyErr x, 7] (Blk.new _ _ _).row0 (by simp)).mono ?_
          rintro e w2 ⟨rfl, hm2⟩
          have m2 : Pure w w2 := (hm.alloc _).trans hm2
          cases hp : keyB x
          · have hf : firstErr [keyErr x, 7] = 5 := by rw [(HKK.out x).1 hp]; rfl
            rw [hf]
            clear hf
            go_wp2_with fail
            go_ret
            exact IntPost.of (by rw [HE.out, HI2.out, HB.out hp]; rfl) m2
          · have hf : firstErr [keyErr x, 7] = 7 := by rw [(HKK.out x).2 hp]; rfl
            rw [hf]
            clear hf
            go_wp2_with fail
            go_ret
            exact IntPost.of (by rw [HE.out, HI2.out, HO.out hp, Nat.add_sub_cancel, HE1.out, hle]; simp) m2
    · have hke : k = ss.length := by omega
      have HS := Lib.hid (risingFrom_end keyE ss)
      subst hke
      go_wp2_with fail
      go_ret
      exact IntPost.of (by rw [HE.out, ← HIX.out]; exact HS.out) hm

end Go.Proofs.YtkchninlhemioaaGreatDoor

/- The error of weights: the reference's and package sample's. -/
namespace Go.Proofs.YtkchninlhemioaaGreatDoor
set_option linter.unusedVariables false
set_option linter.unusedSimpArgs false
open Go.RowKit

theorem sumI_take (ws : List Int) (k : Nat) (h : k < ws.length) : sumI (ws.take (k + 1)) = sumI (ws.take k) + ws[k] := by
  rw [List.take_succ_eq_append_getElem h]
  generalize ws.take k = l
  induction l with
  | nil => simp [sumI]
  | cons x l ih =>
    simp only [List.cons_append, sumI]
    rw [ih]
    omega
theorem sumI_take_bounds (ws : List Int) (k : Nat) (h : (ws.take k).any weightB = false) : 0 ≤ sumI (ws.take k) ∧ sumI (ws.take k) ≤ (k : Int) * 1000 := by
  have hz : ∀ z ∈ ws.take k, 0 ≤ z ∧ z ≤ 1000 := by
    intro z hz
    have h6 := List.any_eq_false.1 h z hz
    exact inB_true (by simpa [weightB] using h6)
  have h7 := sumI_nonneg _ (fun z h => (hz z h).1)
  have h8 := sumI_le 1000 _ (fun z h => (hz z h).2)
  have h9 : ((ws.take k).length : Int) ≤ k := by rw [List.length_take]; omega
  have := Int.mul_le_mul_of_nonneg_right h9 (show (0 : Int) ≤ 1000 by omega)
  omega
theorem any_take_snoc (ws : List Int) (k : Nat) (h : k < ws.length) : (ws.take (k + 1)).any weightB = ((ws.take k).any weightB || weightB ws[k]) := by
  rw [List.take_succ_eq_append_getElem h, List.any_append]
  simp
theorem any_of_at (ws : List Int) (k : Nat) (h : k < ws.length) (hb : weightB ws[k] = true) : ws.any weightB = true := List.any_eq_true.2 ⟨_, List.getElem_mem h, hb⟩
theorem weightsE_any {ws : List Int} (h0 : ws.length ≠ 0) (h1 : ws.length ≤ 20) (h : ws.any weightB = true) : weightsE ws = 1 := by
  unfold weightsE
  rw [if_neg h0, if_neg (by omega), if_pos h]
theorem weightsE_sum {ws : List Int} (h0 : ws.length ≠ 0) (h1 : ws.length ≤ 20) (h : ws.any weightB = false) : weightsE ws = if sumI ws = 0 then 1 else 0 := by
  unfold weightsE
  rw [if_neg h0, if_neg (by omega), if_neg (by rw [h]; decide)]
def WRel (w : World) (ws : List Int) (gk : Nat) (s i : Value) (wr : World) : Prop :=
  ∃ k : Nat, ws.length - k = gk ∧ k ≤ ws.length ∧ i = .int .i64 (k : Int) ∧ s = .int .i64 (sumI (ws.take k)) ∧ (ws.take k).any weightB = false ∧ Pure w wr

end Go.Proofs.YtkchninlhemioaaGreatDoor
