/- Split of package sample. -/
import Derived.Test.YtdknpekbonmmhaaGreatDoorSplit
namespace Go.Proofs.YtdknpekbonmmhaaGreatDoor
set_option linter.unusedVariables false
set_option linter.unusedSimpArgs false
open Go.RowKit

theorem firstErr3 {a b c : Int} (h : firstErr [a, b, c] = 0) : a = 0 ∧ b = 0 ∧ c = 0 := by
  simp only [firstErr] at h
  split at h
  · split at h
    · split at h
      · exact ⟨by assumption, by assumption, by assumption⟩
      · contradiction
    · contradiction
  · contradiction
def splitE (ids : List Str) (seed : Str) (ws : List Int) : Int := firstErr [idsE keyE ids, keyErr seed, weightsE ws]
def SplitAny (w : World) (ids : List Str) (seed : Str) (ws : List Int) (e : Ending) (w' : World) : Prop :=
  ∃ v er, e = .returned (.tuple #[v, .int .i64 er]) ∧ er = splitE ids seed ws ∧ (er ≠ 0 → v = nilS) ∧ (er = 0 → SlSS w' v (rowsTo (partF seed ws) ws.length ids)) ∧ Pure w w'
def FindRel2 (W : World) (ws : List Int) (h : Int) (gk : Nat) (i u : Value) (wr : World) : Prop :=
  ∃ (k : Nat) (x y : Int), ws.length - k = gk ∧ i = .int .i64 (k : Int) ∧ u = .int .i64 (h - x + y) ∧ ws[k]? = some y ∧ partAt ws h k x ∧ W = wr

set_option maxRecDepth 100000 in
set_option maxHeartbeats 8000000 in
theorem Split_calls (w : World) (v1 v2 : Value) (ids : List Str) (seed : Str) (ws : List Int) (hv1 : Sl w 9 1 v1 (strsV ids)) (hv2 : Sl w 3 1 v2 (intsV ws)) (hz : ∀ s ∈ ids, s.length ≤ 1000) (hzs : seed.length ≤ 1000) (hli : ids.length ≤ 2000) (hlw : ws.length ≤ 1000) :
    Calls Tryz.prog 36 #[v1, .string ⟨seed.toArray⟩, v2] w (SplitAny w ids seed ws) := by
  obtain ⟨i0, hi0, hz0, hz1, hz2⟩ := info_parts info_st_
  obtain ⟨A1, n1, c1, hf1⟩ := hv1.form
  obtain ⟨A2, n2, c2, hf2⟩ := hv2.form
  subst hf1 hf2
  have HV1 := Lib.hid hv1
  have HV2 := Lib.hid hv2
  have HZ := Lib.hid hz
  have y0 : (⟨seed.toArray⟩ : ByteArray).size ≤ 1000000 := by simp [ByteArray.size]; omega
  clear hv1 hv2 hz
  go_enter Tryz.func36, Tryz.ntmps36
  go_wp2_with fail
  refine (idsError_calls _ _ ids HV1.out HZ.out hli).mono ?_
  rintro e w1 ⟨rfl, hm1⟩
  go_wp2_with fail
  refine (keyError_calls _ _ y0).mono ?_
  rintro e w' ⟨rfl, rfl⟩
  rw [show (⟨seed.toArray⟩ : ByteArray).data.toList = seed from rfl]
  go_wp2_with fail
  refine (weightsError_calls _ _ ws (HV2.out.pure hm1) hlw).mono ?_
  rintro e w2 ⟨rfl, hm2⟩
  go_wp2_with fail
  refine (firstE_calls _ _ _ [idsE keyE ids, keyErr seed, weightsE ws] (Blk.new _ _ _).row0 (by simp)).mono ?_
  rintro e w3 ⟨rfl, hm3⟩
  have mA : Pure w w3 := ((hm1.trans hm2).alloc _).trans hm3
  clear hm1 hm2 hm3
  obtain ⟨er, her⟩ : ∃ er, firstErr [idsE keyE ids, keyErr seed, weightsE ws] = er := ⟨_, rfl⟩
  have HER : Hid (er = splitE ids seed ws) := her.symm
  rw [her]
  by_cases h0 : er = 0
  · rw [h0] at her
    have hw := (firstErr3 her).2.2
    have H0 := Lib.hid h0
    rw [h0]
    clear her h0
    obtain ⟨ww1, ww2, ww3, ww4, ww5⟩ := weights_ok hw
    have HW3 := Lib.hid ww3
    clear ww3 hw
    obtain ⟨A1', n1', c1', hf, hc11, hc12, hl1, hr1⟩ := HV1.out.pure mA
    injection hf with e1 e2 e3
    subst e1 e2 e3
    have hln1 : ids.length = n1 := by simpa [strsV] using hl1
    subst hln1
    obtain ⟨A2', n2', c2', hf, hc21, hc22, hl2, hr2⟩ := HV2.out.pure mA
    injection hf with e1 e2 e3
    subst e1 e2 e3
    have hln2 : ws.length = n2 := by simpa [intsV] using hl2
    subst hln2
    obtain ⟨g2, off2, rfl, hrow2⟩ := hr2 (by omega)
    have HR1 := Lib.hid hr1
    have HROW2 := Lib.hid hrow2
    clear hl1 hl2 hr1 hr2
    have hg2 := hrow2.lt
    clear hrow2 HV1 HV2
    have hmk := run_make_one (P := Tryz.prog) 60 35 nilS 24 Tryz.underlying60 info_strs_ rfl .i64 .i64 ws.length (ws.length : Int) rfl (by omega) (by omega) (nilRows ws.length) rfl
    have HMK := Lib.hid hmk
    clear hmk
    go_wp2_with fail
    go_loopg [9, 31] ws.length (fun gk s i wr => SumRel3 w3 ws gk s i wr)
    case atStart => exact ⟨0, by omega, by omega, rfl, by simp [sumI], rfl⟩
    case round =>
      obtain ⟨k, rfl, hk, rfl, rfl, rfl⟩ := hrel
      have hb := sumI_take_bounds ws k (by
        rw [List.any_eq_false]
        intro z hz
        have := HW3.out z (List.mem_of_mem_take hz)
        simp [weightB, inB, this])
      by_cases hlt : k < ws.length
      · have hq := HROW2.out.cell (intsV_get ws k hlt)
        have hy := HW3.out _ (List.getElem_mem hlt)
        have HT := Lib.hid (sumI_take ws k hlt)
        generalize ws[k] = y at *
        generalize sumI (ws.take k) = t0 at *
        go_wp2_with fail
        go_roundg (ws.length - (k + 1))
        case measure => omega
        case rel => exact ⟨k + 1, rfl, hlt, by simp, by rw [HT.out], rfl⟩
      · have hke : k = ws.length := by omega
        subst hke
        have e1 : sumI (ws.take ws.length) = sumI ws := by rw [List.take_length]
        rw [e1] at hb ⊢
        clear e1 hlt hk hb
        obtain ⟨sum, hsum⟩ : ∃ sum, sumI ws = sum := ⟨_, rfl⟩
        have HSUM := Lib.hid hsum
        rw [hsum] at ww4 ww5 ⊢
        clear hsum
        have hmk := HMK.out
        go_wp2_with fail
        clear hmk HMK
        have B0 := Blk.new w3 35 (nilRows ws.length)
        have m0 : Pure w (w3.alloc (.cells (nilRows ws.length) 35)) := mA.alloc _
        have p0 : Pure w3 (w3.alloc (.cells (nilRows ws.length) 35)) := (Mod.refl _ _).alloc _
        have T0 : TabAt (w3.alloc (.cells (nilRows ws.length) 35)) w3.heap.size (rowsTo (partF seed ws) ws.length []) := ⟨_, B0, by
          have := Tab.zeros (w3.alloc (.cells (nilRows ws.length) 35)) (w3.heap.size + 1) 9 ws.length
          have e : rowsV (rowsTo (partF seed ws) ws.length []) = List.replicate ws.length [] := by simp [rowsV, rowsTo, strsV]
          rw [e]
          exact this⟩
        have HT0 := Lib.hid T0
        clear T0 B0
        have hszW : (w3.alloc (.cells (nilRows ws.length) 35)).heap.size = w3.heap.size + 1 := by simp
        have hsW := Nat.le_of_eq hszW
        have hsW2 := Nat.le_of_eq hszW.symm
        have hbig := mA.size
        clear hszW
        generalize (w3.alloc (.cells (nilRows ws.length) 35)) = W at *
        generalize hdb : w3.heap.size = b at *
        have hle := Nat.le_of_eq hdb
        clear hdb
        go_loopg [44] ids.length (fun gk i wr => RowsRel W (partF seed ws) ws.length ids b gk i wr)
        case atStart => exact ⟨0, by omega, by omega, rfl, HT0.out, Mod.refl _ _⟩
        case round =>
          obtain ⟨k, rfl, hk, rfl, htab, hm⟩ := hrel
          have HTAB := Lib.hid htab
          clear htab
          by_cases hlt : k < ids.length
          · obtain ⟨g1, off1, rfl, hrow1⟩ := HR1.out (by omega)
            have hg1 := hrow1.lt
            have hq := ((hrow1.mod p0 id).mod hm (by omega)).cell (strsV_get ids k hlt)
            have hzk := HZ.out _ (List.getElem_mem hlt)
            have y1 : (⟨ids[k].toArray⟩ : ByteArray).size ≤ 1000 := by simp [ByteArray.size]; omega
            have y2 : (⟨seed.toArray⟩ : ByteArray).size ≤ 1000 := by simp [ByteArray.size]; omega
            have HP : Hid (partF seed ws ids[k] = partL ws ((hashN (seed ++ 32 :: ids[k]) : Int) % sum)) := by
              show partF seed ws ids[k] = _
              unfold partF
              rw [HSUM.out]
            have HST : Hid (rowsTo (partF seed ws) ws.length (ids.take (k + 1)) = rowStep (partF seed ws) (rowsTo (partF seed ws) ws.length (ids.take k)) ids[k]) := by
              show _ = _
              rw [List.take_succ_eq_append_getElem hlt, rowsTo_snoc]
            have HRL := Lib.hid (rows_row_len (partF seed ws) ws.length ids k hk)
            have HRL2 := Lib.hid (rowsTo_len (partF seed ws) ws.length (ids.take k))
            have HH := Lib.hid (hash_calls wr ⟨ids[k].toArray⟩ ⟨seed.toArray⟩ y1 y2)
            rw [show (⟨seed.toArray⟩ : ByteArray).data.toList ++ 32 :: (⟨ids[k].toArray⟩ : ByteArray).data.toList = seed ++ 32 :: ids[k] from rfl] at HH
            clear hrow1 y1 y2 hzk
            generalize hashN (seed ++ 32 :: ids[k]) = hh at *
            generalize ids[k] = idk at *
            have hms := hm.size
            go_wp2_with fail
            refine HH.out.mono ?_
            rintro e wq ⟨rfl, hmq⟩
            have hms2 := hmq.size
            have hmod1 := Int.emod_nonneg (hh : Int) (show sum ≠ 0 by omega)
            have hmod2 := Int.emod_lt_of_pos (hh : Int) (show 0 < sum by omega)
            have HPA := Lib.hid (partAt_zero (ws := ws) hmod1 (by rw [HSUM.out]; exact hmod2))
            have t1 : (hh : Int).tmod sum = (hh : Int) % sum := Int.tmod_eq_emod_of_nonneg (by omega)
            have hsne : (sum == 0) = false := by simp; omega
            have TQ := HTAB.out.mod hmq (fun j _ h => h)
            have HTQ := Lib.hid TQ
            have MQ : Mod (fun j => b ≤ j) W wq := hm.transp hmq
            have hq0 := ((HROW2.out.mod p0 id).mod MQ (by omega)).cell (intsV_get ws 0 (by omega))
            have hy0 := HW3.out _ (List.getElem_mem (show 0 < ws.length by omega))
            have HY0 : Hid (ws[0]? = some (ws[0]'(by omega))) := List.getElem?_eq_getElem (by omega)
            rw [Nat.add_zero] at hq0
            generalize ws[0]'(by omega) = y0' at *
            clear HH HTAB hq hm hmq TQ
            generalize hhs : (hh : Int) % sum = h at *
            clear hhs
            go_wp2_with fail
            go_loopg [16, 17] ws.length (fun gk i u wr => FindRel2 wq ws h gk i u wr)
            case atStart => exact ⟨0, h, y0', by omega, rfl, by simp, HY0.out, HPA.out, rfl⟩
            case round =>
              obtain ⟨j, x, y, rfl, rfl, rfl, hwy, hpa, rfl⟩ := hrel
              have hj := hpa.lt
              have hwj : ws[j] = y := by
                rw [List.getElem?_eq_getElem hj] at hwy
                injection hwy
              have hy := HW3.out _ (List.getElem_mem hj)
              have HD := Lib.hid (hpa.done hj)
              have HN := Lib.hid (hpa.next hj)
              have hx0 := hpa.2.2
              have hxl : x < 1000000 := by
                have h1 := hpa.2.1
                have h2 := sumI_le 1000 (ws.drop j) (fun z hz => (HW3.out z (List.mem_of_mem_drop hz)).2)
                have h3 : ((ws.drop j).length : Int) ≤ 20 := by rw [List.length_drop]; omega
                have h4 := Int.mul_le_mul_of_nonneg_right h3 (show (0 : Int) ≤ 1000 by omega)
                omega
              rw [hwj] at HD HN hy
              clear hpa hwy hwj hq0
              by_cases hxy : x < y
              · have hpart := HP.out.trans (HD.out hxy)
                have HPART := Lib.hid hpart
                clear hpart
                have n1 : ¬ (h - x + y ≤ h) := by omega
                have n2 : h < h - x + y := by omega
                obtain ⟨us, hbu, htu⟩ := HTQ.out
                have hju : j < us.length := by
                  have := htu.len
                  simp [rowsV, HRL2.out] at this
                  omega
                have hown := htu.own j hju
                rw [rowsV_getD] at hown
                have hrl := HRL.out j
                have hrl' : (strsV ((rowsTo (partF seed ws) ws.length (ids.take k)).getD j [])).length ≤ k := by rw [strsV_len]; exact hrl
                generalize (strsV ((rowsTo (partF seed ws) ws.length (ids.take k)).getD j [])).length = lr at *
                obtain ⟨Au, nu, cu, hu⟩ := (Sl.of_own hown).form
                have hnu : nu = lr := by
                  rw [hu] at hown
                  rcases hown.2 with ⟨h, h0⟩ | ⟨g, cap', cur, h, _⟩
                  · injection h with _ h1 _
                    omega
                  · injection h with _ h1 _
                subst hnu
                have qu := (hbu.cell j).trans (cell_of_tab hju)
                rw [hu] at hown qu
                have HU := Lib.hid hu
                have HBU := Lib.hid hbu
                have HTU := Lib.hid htu
                have hb1 := hbu.lt
                clear hu hbu htu
                have j1 : (0 : Int) ≤ (j : Int) := by omega
                have j2 : (j : Int) < (ws.length : Int) := by omega
                have hownA := hown.alloc (.cells #[.string ⟨idk.toArray⟩] 9)
                have hbA := HBU.out.alloc (.cells #[.string ⟨idk.toArray⟩] 9)
                have HBA := Lib.hid hbA
                have htA := HTU.out.mod (pure_alloc wq (.cells #[.string ⟨idk.toArray⟩] 9)) (fun _ _ h => h)
                have HTA := Lib.hid htA
                clear hbA htA HBU HTU HTQ hown
                have hob := own_block hownA
                have HOB := Lib.hid hob
                clear hob
                go_wp2_with (at_builtin; (refine wpList_append_own_at _ rfl _ _ _ rfl (b + 1) 9 i0 _ 1 16 Tryz.underlying35 hi0 hz0 hz1 hz2 rfl (by omega) (.slice Au nu cu) nu _ rfl hownA ⟨wq.heap.size, 0, none⟩ 1 1 [.string ⟨idk.toArray⟩] rfl rfl (cell_one_new _ _ _) (by simp [Value.oneCell']) (by simp [maxLen]; omega) (by omega) (by simp; omega) ?_); intro v5 w5 hown5 hgrow hnil hat; obtain ⟨A5, n5, c5, rfl⟩ := (Sl.of_own hown5).form; have hb5 := (hgrow.block b HBA.out.lt (fun h => by have := HOB.out b h.symm; omega)).trans HBA.out; have q5 := (Blk.cell hb5 j).trans (cell_of_tab hju); have f5 := Blk.frozen hb5 j; clear hnil)
                go_roundg (ids.length - (k + 1))
                case measure => omega
                case rel =>
                  refine ⟨k + 1, rfl, hlt, by simp, ?_, ?_⟩
                  · rw [HST.out]
                    unfold rowStep
                    rw [HPART.out]
                    exact tab_put HBA.out HTA.out hju (by rw [HU.out]; exact hgrow) hown5 (by rw [HU.out]; exact hat) (Nat.le_refl _)
                  · exact (((MQ.alloc _).grown hgrow (fun q hq => .inl (by have := HOB.out q hq; omega))).setCell (p := ⟨b, j, none⟩) (.inl (Nat.le_refl _)) _)
              · have hpa2 := HN.out (by omega)
                have hj2 := hpa2.lt
                have hq2 := ((HROW2.out.mod p0 id).mod MQ (by omega)).cell (intsV_get ws (j + 1) hj2)
                have hy2 := HW3.out _ (List.getElem_mem hj2)
                have HY2 : Hid (ws[j + 1]? = some ws[j + 1]) := List.getElem?_eq_getElem hj2
                have HPA2 := Lib.hid hpa2
                clear hpa2 HN HD
                generalize ws[j + 1] = y2 at *
                have n1 : h - x + y ≤ h := by omega
                have j1 : (0 : Int) ≤ (j : Int) + 1 := by omega
                have j2 : (j : Int) + 1 < (ws.length : Int) := by omega
                go_wp2_with fail
                go_roundg (ws.length - (j + 1))
                case measure => omega
                case rel => exact ⟨j + 1, x - y, y2, rfl, by simp, by congr 1; omega, HY2.out, HPA2.out, rfl⟩
          · have hke : k = ids.length := by omega
            subst hke
            go_wp2_with fail
            go_ret2
            obtain ⟨us, hbu, htu⟩ := HTAB.out
            rw [List.take_length] at htu
            exact ⟨_, 0, rfl, by rw [← HER.out]; exact H0.out.symm, fun h => absurd rfl h, fun _ => htu.slss hbu (rowsTo_len _ _ _) (by omega), m0.trans' hm (fun i hi hlt => by omega)⟩
  · have hne : (er != 0) = true := by simpa using h0
    clear her
    go_wp2_with fail
    go_ret2
    exact ⟨_, er, rfl, HER.out, fun _ => rfl, fun h => absurd h h0, mA⟩

end Go.Proofs.YtdknpekbonmmhaaGreatDoor
