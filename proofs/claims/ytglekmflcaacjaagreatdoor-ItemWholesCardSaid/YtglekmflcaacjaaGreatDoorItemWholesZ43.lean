/- Texts of the proof of ItemWholes, put together: LawItemWholes. -/
import Derived.Test.YtglekmflcaacjaaGreatDoorItemWholesZ36
import Derived.Test.YtglekmflcaacjaaGreatDoorItemWholesZ37
import Derived.Test.YtglekmflcaacjaaGreatDoorItemWholesZ39
import Derived.Test.YtglekmflcaacjaaGreatDoorItemWholesZ42
/- The law ItemWholes. -/
namespace Go.Proofs.YtglekmflcaacjaaGreatDoor
set_option linter.unusedVariables false
set_option linter.unusedSimpArgs false
open Go.RowKit

def LW1 (w2 : World) (b base : Nat) (r gk : Nat) (x i : Value) (wr : World) : Prop :=
  ∃ (k : Nat) (ids : List Str) (A : Option Addr) (cap : Nat), r - k = gk ∧ k ≤ r ∧ x = .slice A k cap ∧ i = .int .i64 (k : Int) ∧ ids.length = k ∧ (∀ s ∈ ids, s.length ≤ 100) ∧
    wr.ownsRow base 9 1 (.slice A k cap) k (strsV ids) ∧ Strm wr b (2001 + 2 * k) ∧ Mod (· = b) w2 wr ∧ base ≤ wr.heap.size
def fauE (l : List Itm) (f0 : Int) (ids : List Str) : Int := if f0 ≠ 0 then f0 else if allIn l ids = true then 0 else 8
def LW2 (w : World) (l : List Itm) (ids : List Str) (f0 : Int) (gk : Nat) (x i : Value) (wr : World) : Prop :=
  ∃ k : Nat, ids.length - k = gk ∧ k ≤ ids.length ∧ x = .int .i64 (fauE l f0 (ids.take k)) ∧ i = .int .i64 (k : Int) ∧ Pure w wr
theorem allIn_snoc (l : List Itm) (ids : List Str) (s : Str) : allIn l (ids ++ [s]) = (allIn l ids && (plc l s).isSome) := by simp [allIn]

set_option maxRecDepth 100000 in
set_option maxHeartbeats 8000000 in
theorem ItemWholes_calls (w : World) (A : Option Addr) (n c : Nat) (hA : ArgInts w A n) (hE : ErrS w) (hD : Deb w) (hV : Env w) :
    Calls Tryz.prog 5 #[.slice A n c] w (BoolPost w true) := by
  obtain ⟨i0, hi0, hz0, hz1, hz2⟩ := info_parts info_str7
  have hS0 := strm_new (c := c) hA
  have HE : Hid (∀ w1, Pure w w1 → ErrS w1) := Lib.hid (fun _ h => hE.pure h)
  have HD : Hid (∀ w1, Pure w w1 → Deb w1) := Lib.hid (fun _ h => hD.pure h)
  have HV : Hid (∀ w1, Pure w w1 → Env w1) := Lib.hid (fun _ h => hV.pure h)
  obtain ⟨b, hb⟩ : ∃ b, b = w.heap.size := ⟨_, rfl⟩
  have P0 := pure_alloc w (.cells #[.slice A n c, .int .i64 0] 25)
  have HPS : Hid (∀ {w1 w' : World}, Pure w w1 → Mod (· = b) w1 w' → Pure w w') := Lib.hid (fun k h => k.trans' h (fun i hi hlt => by omega))
  rw [← hb] at hS0
  clear hE hD hV hA
  go_enter Tryz.func5, Tryz.ntmps5
  go_wp2_with fail
  rw [← hb]
  generalize (w.alloc (.cells #[.slice A n c, .int .i64 0] 25)) = w0 at *
  clear hb
  refine (range_calls _ b _ _ _ hS0 (by omega) (by omega) (by omega) (by omega)).mono ?_
  rintro e w1 ⟨mI, hm0, hm10, rfl, hS1, hM1⟩
  have P1 := HPS.out P0 hM1
  obtain ⟨m, hmI⟩ : ∃ m : Nat, mI = (m : Int) := Int.eq_ofNat_of_zero_le (by omega)
  have hm20 : m ≤ 10 := by omega
  have HIT := Lib.hid (items_calls w1 b _ m mI hmI hS1 (by omega) (by omega) (fun W h => HV.out W (HPS.out P1 h)))
  clear hS0 P0 hM1 hmI hm0 hm10 hS1
  go_wp2_with fail
  refine HIT.out.mono ?_
  rintro e w2 ⟨v, xs, rfl, hxl, hxz, hown, hS2, hM2⟩
  have P2 := Lib.hid (HPS.out P1 hM2)
  have hv : Its w2 v xs := Sl.of_own hown
  have HXZ := Lib.hid hxz
  have hx11 : xs.length ≤ 11 := by omega
  have HVB : Hid (∀ W, Mod (· = b) w2 W → Its W v xs) := Lib.hid (fun W h => hv.strm hS2 h (by decide))
  have hS2' := hS2.more (show _ ≤ 2000 by omega)
  have hw1 := hM2.size
  clear HIT hxz P1 hM2 hown hv hS2 hxl
  go_wp2_with fail
  refine (rangeI_calls _ _ _ _ hS2' (by omega) (by omega) (by omega)).mono ?_
  rintro e w3 ⟨r, rI, hrI, hr4, rfl, hS3, hM3⟩
  have hr4' : r ≤ 4 := by omega
  subst hrI
  have hb3 := hS3.lt
  obtain ⟨base, hba⟩ : ∃ base, base = w3.heap.size := ⟨_, rfl⟩
  have hb1 := Nat.le_of_eq hba
  have hb4 := Nat.le_of_eq hba.symm
  have hb2 := hM3.size
  clear hba hS2' hr4
  have HS3 := Lib.hid hS3
  have HM3 := Lib.hid hM3
  clear hS3 hM3
  go_wp2_with fail
  go_loopg [5, 20] r (fun gk x i wr => LW1 w2 b base r gk x i wr)
  case atStart => exact ⟨0, [], none, 0, by omega, by omega, rfl, rfl, rfl, fun s h => absurd h (by simp), ⟨rfl, .inl ⟨rfl, rfl⟩⟩, by have := HS3.out; simpa using this, HM3.out, hb1⟩
  case round =>
    clear HS3 HM3
    obtain ⟨k, ids, Ao, cap, rfl, hk, rfl, rfl, hil, hib, hown, hS, hM, hsz⟩ := hrel
    have HIB := Lib.hid hib
    have hil1 := Nat.le_of_eq hil
    have hil2 := Nat.le_of_eq hil.symm
    clear hib hil
    by_cases hlt : k < r
    · have HAN := Lib.hid (anyId_calls wr b _ v xs hS (by omega) (HVB.out _ hM) HXZ.out (by omega))
      have HMM := Lib.hid hM
      clear hS hM
      go_wp2_with fail
      refine HAN.out.mono ?_
      rintro e w4 ⟨s, hs, rfl, hS4, hM4⟩
      have hown4 := own_mod hown hM4 (fun g hg => by have := own_block hown g hg; omega)
      have hm4 := HMM.out.trans hM4
      have hob := own_block hown4
      have HOB := Lib.hid hob
      have HS4 := Lib.hid hS4
      have hzz := hM4.size
      have Hm4 := Lib.hid hm4
      clear HAN HMM hown hS4 hM4 hob
      go_wp2_with (at_builtin; refine wpList_append_lies _ rfl _ _ _ rfl base 9 i0 _ 1 16 Tryz.underlying29 hi0 hz0 hz1 hz2 rfl (by omega) (.slice Ao k cap) k (strsV ids) rfl (hown4.alloc _) ⟨w4.heap.size, 0, none⟩ 1 1 [.string ⟨s.toArray⟩] rfl rfl (World.news_of_block (cs := #[.string ⟨s.toArray⟩]) (t := 9) (fr := (0, 0)) (heap_alloc_new w4 _)) (by simp [Value.oneCell']) (by omega) (by simp [maxLen]; omega) (by omega) (by have := hm4.size; simp; omega) (w4.heap.size + 1) (by simp) ?_; intro g5 cap5 w5 hown5 hgrow hat hlt5)
      have hz5 := hgrow.size
      simp at hz5
      have hm5 := grown_mod (v := .slice Ao k cap) hgrow
      have hb5 : b < base := by omega
      go_roundg (r - (k + 1))
      case measure => omega
      case rel =>
        refine ⟨k + 1, ids ++ [s], some ⟨g5, 0, none⟩, cap5, rfl, by omega, rfl, by simp, by simp; omega, ?_, by have := hown5; simpa [strsV] using this, ((HS4.out.alloc _).mod hm5 (fun i hi h => by have := HOB.out _ h; omega)).more (by omega), (Hm4.out.alloc _).trans' hm5 (fun i h hl => by have := HOB.out _ h; omega), by omega⟩
        intro t ht
        rcases List.mem_append.1 ht with ht | ht
        · exact HIB.out t ht
        · rw [List.mem_singleton.1 ht]
          exact hs
    · obtain rfl : k = r := by omega
      have P4 := HPS.out P2.out hM
      have hv4 := HVB.out _ hM
      have hi4 : Sl wr 9 1 (.slice Ao k cap) (strsV ids) := Sl.of_own hown
      have HWH := Lib.hid (whole_calls wr v (.slice Ao k cap) xs ids hv4 HXZ.out (by omega) (HV.out _ P4) hi4 (fun s h => by have := HIB.out s h; omega) (by omega))
      have HI4 := Lib.hid hi4
      have HV4 := Lib.hid hv4
      have LAST2 : Hid (∀ W, Pure wr W → Calls Tryz.prog 24 #[v] W (IntPost W (itsE itemE xs))) := Lib.hid (fun W h => itemsFault_calls W v xs (hv4.pure h) HXZ.out (by omega) (HV.out W (P4.trans h)))
      have HWO : Hid (∀ W, Pure wr W → itsE itemE xs = 0 → Calls Tryz.prog 31 #[v, .slice Ao k cap] W (WorPost W xs ids)) := Lib.hid (fun W h h0 => wholeOf_calls W v _ xs ids (hv4.pure h) (right_of (E := itemE) (fun x hx => itemE_ne hx) h0) (by omega) (hi4.pure h))
      have HT : Hid (∀ W, Pure w W → _) := Lib.hid (fun W hW => taken_calls W (HE.out _ hW) (HD.out _ hW))
      have HP4 := Lib.hid P4
      have HEQ : Hid (∀ f0, itsE itemE xs = f0 → whE xs ids = fauE xs f0 ids) := Lib.hid (fun f0 h => by subst h; rfl)
      have HX0 : Hid (∀ f0, itsE itemE xs = f0 → fauE xs f0 ids = 0 → itsE itemE xs = 0) := Lib.hid (fun f0 h h2 => by
        unfold fauE at h2
        rw [h]
        split at h2
        · rename_i h3; exact absurd h2 h3
        · rename_i h3; simpa using h3)
      unfold WhPost at HWH
      obtain ⟨f0, hf0⟩ : ∃ f0, itsE itemE xs = f0 := ⟨_, rfl⟩
      rw [HEQ.out f0 hf0] at HWH
      have HX0 := Lib.hid (HX0.out f0 hf0)
      rw [hf0] at LAST2
      clear hown hS hM P4 hv4 hi4 HVB HV HE HD HPS HEQ hf0
      go_wp2_with fail
      refine HWH.out.mono ?_
      rintro e w5 ⟨v5, rfl, h5n, h50, m5⟩
      have H5N := Lib.hid h5n
      have H50 := Lib.hid h50
      have HL2 := Lib.hid (LAST2.out w5 m5)
      clear HWH h5n h50 LAST2
      go_wp2_with fail
      refine HL2.out.mono ?_
      rintro e w6 ⟨rfl, m6⟩
      have m56 := m5.trans m6
      have HM56 := Lib.hid m56
      clear HL2 m56
      go_wp2_with fail
      go_loopg [8, 39] ids.length (fun gk x i wr => LW2 w6 xs ids f0 gk x i wr)
      case atStart => exact ⟨0, by omega, by omega, by simp [fauE, allIn], rfl, Mod.refl _ _⟩
      case round =>
        obtain ⟨j, rfl, hj, rfl, rfl, hm⟩ := hrel
        have hm4 := HM56.out.trans hm
        have HM := Lib.hid hm
        clear hm
        by_cases hlt : j < ids.length
        · have s1 := HI4.out.pure hm4
          have hil3 : ids.length = k := by omega
          obtain ⟨gi, oi, rfl, hrow⟩ := s1.rowS (by omega)
          have q1 := hrow.cell (strsV_get ids j hlt)
          have HHAS := Lib.hid (has_calls wr v xs ids[j] (HV4.out.pure hm4))
          have HTK : Hid (allIn xs (ids.take (j + 1)) = (allIn xs (ids.take j) && (plc xs ids[j]).isSome)) := Lib.hid (by rw [List.take_succ_eq_append_getElem hlt, allIn_snoc])
          have HF1 : Hid (fauE xs f0 (ids.take (j + 1)) = if fauE xs f0 (ids.take j) = 0 then (if (plc xs ids[j]).isSome = true then 0 else 8) else fauE xs f0 (ids.take j)) := Lib.hid (by
            unfold fauE
            rw [HTK.out]
            by_cases hf : f0 = 0
            · subst hf
              cases allIn xs (ids.take j) <;> cases (plc xs ids[j]).isSome <;> simp
            · simp [hf])
          clear s1 hrow hm4 HTK hil3
          generalize (plc xs ids[j]).isSome = bd at *
          generalize ids[j] = id at *
          generalize fauE xs f0 (ids.take j) = ft at *
          by_cases hF : ft = 0
          · subst hF
            go_wp2_with fail
            refine HHAS.out.mono ?_
            rintro e w7 ⟨rfl, m7⟩
            have m8 := HM.out.trans m7
            clear HHAS
            cases bd
            · go_wp2_with fail
              go_roundg (ids.length - (j + 1))
              case measure => omega
              case rel => exact ⟨j + 1, rfl, by omega, by rw [HF1.out]; simp, by simp, m8⟩
            · go_wp2_with fail
              go_roundg (ids.length - (j + 1))
              case measure => omega
              case rel => exact ⟨j + 1, rfl, by omega, by rw [HF1.out]; simp, by simp, m8⟩
          · have hF' : (ft == 0) = false := by simpa using hF
            have HFF := Lib.hid hF
            clear hF HHAS
            go_wp2_with fail
            go_roundg (ids.length - (j + 1))
            case measure => omega
            case rel => exact ⟨j + 1, rfl, by omega, by rw [HF1.out, if_neg HFF.out], by simp, HM.out⟩
        · obtain rfl : j = ids.length := by omega
          rw [List.take_length]
          have P6 := HP4.out.trans hm4
          have HM4 := Lib.hid hm4
          generalize fauE xs f0 ids = ft at *
          clear hm4
          by_cases h0 : ft = 0
          · subst h0
            have HO := Lib.hid (HWO.out wr HM4.out (HX0.out rfl))
            have S5 := Lib.hid ((H50.out rfl).pure (m6.trans HM.out))
            clear H5N H50 HWO HX0
            go_wp2_with fail
            refine HO.out.mono ?_
            rintro e w7 ⟨v7, rfl, S7, m7⟩
            have HEQ := Lib.hid (equalS_calls w7 v5 v7 _ (S5.out.pure m7) S7)
            clear HO S5 S7
            go_wp2_with fail
            refine HEQ.out.mono ?_
            rintro e w8 ⟨rfl, m8⟩
            have P8 := P6.trans (m7.trans m8)
            clear HEQ
            go_wp2_with fail
            refine (HT.out _ P8).mono ?_
            rintro e w9 ⟨rfl, m9⟩
            go_wp2_with fail
            go_ret
            exact ⟨rfl, P8.trans m9⟩
          · have h0' : (ft != 0) = true := by simpa using h0
            obtain rfl : v5 = nilS := H5N.out h0
            have hff : (ft == ft) = true := by simp
            clear H5N H50 HWO HX0 h0
            unfold nilS
            go_wp2_with fail
            refine (HT.out _ P6).mono ?_
            rintro e w9 ⟨rfl, m9⟩
            go_wp2_with fail
            go_ret
            exact ⟨rfl, P6.trans m9⟩

end Go.Proofs.YtglekmflcaacjaaGreatDoor
