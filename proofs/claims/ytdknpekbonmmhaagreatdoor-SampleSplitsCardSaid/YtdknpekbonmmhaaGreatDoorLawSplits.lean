/- The law SampleSplits. -/
import Derived.Test.YtdknpekbonmmhaaGreatDoorEqSS
import Derived.Test.YtdknpekbonmmhaaGreatDoorSplitB
import Derived.Test.YtdknpekbonmmhaaGreatDoorKeys
import Derived.Test.YtdknpekbonmmhaaGreatDoorSeed
import Derived.Test.YtdknpekbonmmhaaGreatDoorRCheck
import Derived.Lib.SliceRun
namespace Go.Proofs.YtdknpekbonmmhaaGreatDoor
set_option linter.unusedVariables false
set_option linter.unusedSimpArgs false
open Go.RowKit

theorem seedsz : ∀ s ∈ seeds, s.length ≤ 3 := by decide
theorem info_in_ : (Tryz.prog.info? 3).map (fun i => (i.zero, i.size, i.bytes)) = some (some (.int .i64 0), 1, 8) := by kernel_rfl
def SpLoop (w : World) (b m B : Nat) (vi : Value) (ids : List Str) (gk : Nat) (x i : Value) (wr : World) : Prop :=
  ∃ (ws : List Int) (A : Option Addr) (cap : Nat), m - ws.length = gk ∧ ws.length ≤ m ∧ i = .int .i64 (ws.length : Int) ∧ x = .slice A ws.length cap ∧
    wr.ownsRow B 3 1 (.slice A ws.length cap) ws.length (intsV ws) ∧ Sl wr 9 1 vi (strsV ids) ∧ Strm wr b (40 + ws.length) ∧ Pure w wr ∧ B ≤ wr.heap.size
def SpInv (w : World) (b B n : Nat) (v vi : Value) (ids : List Str) (N : Nat) (wx : World) : Prop :=
  ∃ (ws : List Int), ws.length = n ∧ wx.ownsRow B 3 1 v n (intsV ws) ∧ Sl wx 9 1 vi (strsV ids) ∧ Strm wx b N ∧ Pure w wx ∧ B ≤ wx.heap.size

theorem own_setCells {base g n cap : Nat} : ∀ (m o : Nat) (w : World) (zs : List Int), w.ownsRow base 3 1 (.slice (some ⟨g, 0, none⟩) n cap) n (intsV zs) →
    ∃ ys : List Int, ys.length = zs.length ∧ (w.setCells g o (List.replicate m (.int .i64 0))).ownsRow base 3 1 (.slice (some ⟨g, 0, none⟩) n cap) n (intsV ys) ∧ Mod (fun j => j = g) w (w.setCells g o (List.replicate m (.int .i64 0)))
  | 0, o, w, zs, h => ⟨zs, rfl, h, Mod.refl _ _⟩
  | m + 1, o, w, zs, h => by
    have h1 := (h.stored o (.int .i64 0)).1
    have e : (intsV zs).set o (.int .i64 0) = intsV (zs.set o 0) := by simp [intsV, List.map_set]
    rw [e] at h1
    obtain ⟨ys, hl, h2, h3⟩ := own_setCells m (o + 1) (w.setCell ⟨g, o, none⟩ (.int .i64 0)) (zs.set o 0) h1
    rw [List.replicate_succ]
    exact ⟨ys, by simpa using hl, h2, (Mod.setCell (S := fun j => j = g) (p := ⟨g, o, none⟩) (Mod.refl _ _) (.inl rfl) _).trans h3⟩

set_option maxRecDepth 100000 in
set_option maxHeartbeats 8000000 in
theorem SampleSplits_calls (w : World) (A : Option Addr) (n c : Nat) (hA : ArgInts w A n) :
    Calls Tryz.prog 5 #[.slice A n c] w (BoolPost w true) := by
  obtain ⟨i0, hi0, hz0, hz1, hz2⟩ := info_parts info_in_
  have hS0 := strm_new (c := c) hA
  go_enter Tryz.func5, Tryz.ntmps5
  go_wp2_with fail
  refine (range_calls _ _ _ _ _ hS0 (by omega) (by omega) (by omega) (by omega)).mono ?_
  rintro e w1 ⟨n', hn1, hn2, rfl, hS1, hM1⟩
  obtain ⟨m, rfl⟩ := Int.eq_ofNat_of_zero_le hn1
  have hm14 : m ≤ 14 := by omega
  have m1 : Pure w w1 := ((Mod.refl _ w).alloc _).trans' hM1 (fun i hi hlt => by omega)
  have hz1' := hM1.size
  simp at hz1'
  clear hn1 hn2 hM1 hS0
  generalize hb : w.heap.size = b at *
  have hwb := Nat.le_of_eq hb
  clear hb
  go_wp2_with fail
  refine (keys_calls _ _ _ m hS1 (by omega) (by omega)).mono ?_
  rintro e w2 ⟨vi, ni, ids, rfl, hil, hi3, howni, hS2, hM2⟩
  have m2 : Pure w w2 := m1.trans' hM2 (fun i hi hlt => by omega)
  have hsi := Sl.of_own howni
  have hz2' := hM2.size
  have hi1000 : ∀ s ∈ ids, s.length ≤ 1000 := fun s hs => Nat.le_trans (hi3 s hs) (by omega)
  have HI := Lib.hid hi1000
  clear hi3 hi1000 hM2 m1 hS1 howni
  go_wp2_with fail
  refine (seed_calls _ _ _ hS2 (by omega)).mono ?_
  rintro e w3 ⟨seed, hseed, rfl, hS3, hM3⟩
  have hsd := seedsz seed hseed
  have m3 : Pure w w3 := m2.trans' hM3 (fun i hi hlt => by omega)
  have hsi3 := hsi.strm hS2 hM3 (by decide)
  have hz3' := hM3.size
  have HSI := Lib.hid hsi3
  clear hsi hS2 hM3 m2 hseed hsi3
  obtain ⟨Ai, nni, ci, rfl⟩ := HSI.out.form
  go_wp2_with fail
  refine (pick_calls _ _ _ _ _ [0, 1, 2, 3, 20, 21] (hS3.alloc _) (by omega) (Blk.new _ _ _) (by omega) (by simp) (by simp)).mono ?_
  rintro e w4 ⟨q', hq', rfl, hS4, hM4⟩
  have hq21 : 0 ≤ q' ∧ q' ≤ 21 := by simp at hq'; omega
  obtain ⟨q, rfl⟩ := Int.eq_ofNat_of_zero_le hq21.1
  have hq : q ≤ 21 := by omega
  have m4 : Pure w w4 := (m3.alloc _).trans' hM4 (fun i hi hlt => by omega)
  have hsi4 := (HSI.out.pure (pure_alloc w3 (.cells #[.int .i64 0, .int .i64 1, .int .i64 2, .int .i64 3, .int .i64 20, .int .i64 21] 3))).strm (hS3.alloc _) hM4 (by decide)
  have hz4' := hM4.size
  simp at hz4'
  clear HSI hS3 hM4 m3 hq' hq21
  have hbB : b < w4.heap.size := hS4.lt
  generalize hBB : w4.heap.size = B at *
  have hBw : w.heap.size ≤ B := by omega
  have hB := Nat.le_of_eq hBB.symm
  clear hBB
  go_wp2_with fail
  go_loopg [6, 22] q (fun gk x i wr => SpLoop w b q B (.slice Ai nni ci) ids gk x i wr)
  case atStart => exact ⟨[], none, 0, by simp, by simp, rfl, rfl, ⟨by simp [intsV], .inl ⟨rfl, rfl⟩⟩, hsi4, hS4.more (by simp; omega), m4, by omega⟩
  case round =>
    clear hS4 m4 hsi4
    obtain ⟨ws, A, cap, rfl, hk, rfl, rfl, hown, hsi, hS1, hm, hbig⟩ := hrel
    generalize hkk : ws.length = k at *
    have HKK := Lib.hid hkk
    have HSI := Lib.hid hsi
    clear hkk hsi
    by_cases hlt : k < q
    · go_wp2_with fail
      refine (pick_calls _ _ _ _ _ [1, 1, 2, 5, 0, 1000] (hS1.alloc _) (by omega) (Blk.new _ _ _) (by omega) (by simp) (by simp)).mono ?_
      rintro e wa ⟨y, hy, rfl, hSa, hMa⟩
      have hown2 := own_mod (hown.alloc _) hMa (fun g hg => by have := own_block hown g hg; omega)
      have ma : Pure w wa := (hm.alloc _).trans' hMa (fun i hi hlt => by omega)
      have hsia := (HSI.out.pure (pure_alloc wr (.cells #[.int .i64 1, .int .i64 1, .int .i64 2, .int .i64 5, .int .i64 0, .int .i64 1000] 3))).strm (hS1.alloc _) hMa (by decide)
      have HSIA := Lib.hid hsia
      have hza := hMa.size
      simp at hza
      clear hown hS1 hm hMa hy HSI hsia
      go_wp2_with (at_builtin; refine wpList_append_lies _ rfl _ _ _ rfl B 3 i0 _ 1 8 Tryz.underlying22 hi0 hz0 hz1 hz2 rfl (by omega) (.slice A k cap) k (intsV ws) rfl (hown2.alloc _) ⟨wa.heap.size, 0, none⟩ 1 1 [.int .i64 y] rfl rfl (World.news_of_block (cs := #[.int .i64 y]) (t := 3) (fr := (0, 0)) (heap_alloc_new wa _)) (by simp [Value.oneCell']) (by omega) (by simp [maxLen]; omega) (by omega) (by have := ma.size; simp; omega) (wa.heap.size + 1) (by simp) ?_; intro g5 cap5 w5 hown5 hgrow hat hlt5)
      go_roundg (q - (k + 1))
      case measure => omega
      case rel =>
        have hS5 : Strm w5 b (40 + k + 1) := (hSa.alloc _).mod (mod_grown hgrow) (fun i hi h => by have := own_block hown2 i h; omega)
        have hsi5 := (HSIA.out.pure (pure_alloc wa (.cells #[.int .i64 y] 3))).grown (hown2.alloc _) hgrow (by decide)
        exact ⟨ws ++ [y], some ⟨g5, 0, none⟩, cap5, by simp [HKK.out], by simp [HKK.out]; omega, by simp [HKK.out], by simp [HKK.out], by simpa [HKK.out, intsV] using hown5, hsi5, hS5.more (by simp [HKK.out]; omega), (ma.alloc _).grown hgrow (fun k hk => .inr (by have := own_block hown2 k hk; omega)), by have := hgrow.size; simp at this; omega⟩
    · obtain rfl : q = k := by omega
      clear hlt hk
      go_upto_region 8 with (fail)
      go_cut [37] (fun p wx => ∃ fl : Bool, p = .bool fl ∧ (fl = true → 0 < q) ∧ SpInv w b B q (.slice A q cap) (.slice Ai nni ci) ids 70 wx)
      case first =>
        by_cases h0 : q = 0
        · subst h0
          go_wp2_with fail
          go_meet
          exact ⟨false, rfl, fun h => (by cases h), ws, HKK.out, hown, HSI.out, hS1.more (by omega), hm, hbig⟩
        · have h1 : decide ((0 : Int) < (q : Int)) = true := by simp; omega
          have h2 : decide (0 < q) = true := by simp; omega
          go_wp2_with fail
          refine (flip_calls _ _ _ _ hS1 (by omega) (by omega) (by omega)).mono ?_
          rintro e wa ⟨fl, rfl, hSa, hMa⟩
          have hza := hMa.size
          go_wp2_with fail
          go_meet
          exact ⟨fl, by simp, fun _ => by omega, ws, HKK.out, own_mod hown hMa (fun g hg => by have := own_block hown g hg; omega), HSI.out.strm hS1 hMa (by decide), hSa.more (by omega), hm.trans' hMa (fun i hi hlt => by omega), by omega⟩
      case rest =>
        obtain ⟨fl, rfl, hfl, hinv⟩ := hcut
        generalize wc = w5 at *
        clear hown hS1 hm hbig HSI HKK
        obtain ⟨xs, hlx, hownx, hsx, hSx, mx, hbx⟩ := hinv
        have HLX := Lib.hid hlx
        have HSX := Lib.hid hsx
        clear ws hlx hsx
        go_upto_if 37 with (fail)
        go_cut [] (fun wx => SpInv w b B q (.slice A q cap) (.slice Ai nni ci) ids 80 wx)
        case first =>
          cases fl
          · clear hfl
            go_wp2_with fail
            go_meet
            exact ⟨xs, HLX.out, hownx, HSX.out, hSx.more (by omega), mx, hbx⟩
          · have hpos := hfl rfl
            clear hfl
            obtain ⟨gx, cx, hvx, hgb, hgl, _, _⟩ := own_form hownx hpos
            injection hvx with hA _ hC
            subst hA hC
            go_wp2_with fail
            refine (next_calls _ _ _ _ hSx (by omega) (by omega) (by omega)).mono ?_
            rintro e wa ⟨j', hj1, hj2, rfl, hSa, hMa⟩
            obtain ⟨j, rfl⟩ := Int.eq_ofNat_of_zero_le hj1
            have hjm : j < q := by omega
            have hown3 := own_mod hownx hMa (fun g hg => by have := own_block hownx g hg; omega)
            have m3 : Pure w wa := mx.trans' hMa (fun i hi hlt => by omega)
            have hs3 := HSX.out.strm hSx hMa (by decide)
            have HS3 := Lib.hid hs3
            have hz3 := hMa.size
            clear hownx hSx mx hMa HSX hs3
            go_wp2_with fail
            refine (pick_calls _ _ _ _ _ [-1, 1001] (hSa.alloc _) (by omega) (Blk.new _ _ _) (by omega) (by simp) (by simp)).mono ?_
            rintro e wd ⟨y, hy, rfl, hSd, hMd⟩
            have hown4 := own_mod (hown3.alloc _) hMd (fun g hg => by have := own_block hown3 g hg; omega)
            have m4 : Pure w wd := (m3.alloc _).trans' hMd (fun i hi hlt => by omega)
            have hs4 := (HS3.out.pure (pure_alloc wa (.cells #[.int .i64 (-1), .int .i64 1001] 3))).strm (hSa.alloc _) hMd (by decide)
            have HS4 := Lib.hid hs4
            have hz4 := hMd.size
            simp at hz4
            clear hown3 hSa m3 hMd hy HS3 hs4
            have hjz : j < xs.length := by rw [HLX.out]; exact hjm
            have q1 := (hown4.cellAt j (by omega)).trans (intsV_get xs j hjz)
            have q2 := hown4.frozenAt j
            obtain ⟨hset, hgr⟩ := hown4.stored j (.int .i64 y)
            have hset2 : (wd.setCell ⟨gx, j, none⟩ (.int .i64 y)).ownsRow B 3 1 (.slice (some ⟨gx, 0, none⟩) q cap) q (intsV (xs.set j y)) := by
              have e : (intsV xs).set j (.int .i64 y) = intsV (xs.set j y) := by simp [intsV, List.map_set]
              rw [e] at hset
              exact hset
            have hS5 : Strm (wd.setCell ⟨gx, j, none⟩ (.int .i64 y)) b 80 := (hSd.setCell (by show b < gx; omega) _).more (by omega)
            have m5 : Pure w (wd.setCell ⟨gx, j, none⟩ (.int .i64 y)) := m4.setCell (.inr (by show _ ≤ gx; omega)) _
            have hs5 := HS4.out.grown hown4 hgr (by decide)
            have HS5 := Lib.hid hs5
            have HSET := Lib.hid hset2
            clear hset hset2 hgr hs5
            generalize xs[j] = z0 at *
            go_wp2_with fail
            go_meet
            exact ⟨xs.set j y, by rw [List.length_set]; exact HLX.out, HSET.out, HS5.out, hS5, m5, by simp; omega⟩
        case rest =>
          obtain ⟨ys, hly, howny, hsy, hSy, my, hby⟩ := hcut
          generalize wc = w6 at *
          have HLY := Lib.hid hly
          have HSY := Lib.hid hsy
          clear hownx HSX hSx mx hbx hfl HLX hly hsy xs
          go_wp2_with fail
          refine (flip_calls _ _ _ _ hSy (by omega) (by omega) (by omega)).mono ?_
          rintro e wa ⟨fl, rfl, hSa, hMa⟩
          have hza := hMa.size
          have hown7 := own_mod howny hMa (fun g hg => by have := own_block howny g hg; omega)
          have hs7 := HSY.out.strm hSy hMa (by decide)
          have m7 : Pure w wa := my.trans' hMa (fun i hi hlt => by omega)
          have HS7 := Lib.hid hs7
          have hb7 : B ≤ wa.heap.size := by omega
          clear howny HSY hSy my hMa hs7
          go_upto_if 48 with (fail)
          go_cut [] (fun wx => SpInv w b B q (.slice A q cap) (.slice Ai nni ci) ids 90 wx)
          case first =>
            cases fl
            · go_wp2_with fail
              go_meet
              exact ⟨ys, HLY.out, hown7, HS7.out, hSa.more (by omega), m7, hb7⟩
            · by_cases h0 : q = 0
              · subst h0
                have hclr0 : ∀ ty W, (Builtin.clear_ #[22] ty #[.slice A 0 cap]).run Tryz.prog W = .ok (.tuple #[]) W := fun ty W => by
                  cases A <;> simp [Builtin.clear_, run_underlying Tryz.underlying22]
                go_wp2_with fail
                go_meet
                exact ⟨ys, HLY.out, hown7, HS7.out, hSa.more (by omega), m7, hb7⟩
              · obtain ⟨gx, cx, hvx, hgb, hgl, _, _⟩ := own_form hown7 (by omega)
                injection hvx with hA _ hC
                subst hA hC
                obtain ⟨zs, hlz, hownz, hmz⟩ := own_setCells (g := gx) q 0 wa ys hown7
                have hclr := fun ty => Lib.run_clear_slice (P := Tryz.prog) wa 22 3 ty (.int .i64 0) Tryz.underlying22 (fun _ => by kernel_rfl) rfl rfl gx 0 q cap (by omega)
                  (fun j hj => by rw [Nat.zero_add, hown7.cellAt j (by omega), intsV_get ys j (by rw [HLY.out]; omega)]; rfl) (fun j hj => by rw [Nat.zero_add]; exact hown7.frozenAt j)
                have HOZ := Lib.hid hownz
                have hSz : Strm (wa.setCells gx 0 (List.replicate q (.int .i64 0))) b 90 := (hSa.mod hmz (fun i hi h => by omega)).more (by omega)
                have hsz := HS7.out.mod hmz (fun g arr fr hh hg => by
                  subst hg
                  rcases hown7.2 with ⟨h, _⟩ | ⟨g', cap', cur, h, _, hh', _⟩
                  · cases h
                  · cases h
                    rw [hh] at hh'
                    injection hh' with hh'
                    injection hh' with _ ht
                    exact absurd ht (by decide))
                have HSZ := Lib.hid hsz
                have mz : Pure w (wa.setCells gx 0 (List.replicate q (.int .i64 0))) := m7.trans' hmz (fun i hi hlt => by omega)
                have hbz := hmz.size
                clear hownz hmz hsz
                go_wp2_with fail
                go_meet
                exact ⟨zs, hlz.trans HLY.out, HOZ.out, HSZ.out, hSz, mz, by omega⟩
          case rest =>
            obtain ⟨zs, hlz, hownz, hsz, hSz, mz, hbz⟩ := hcut
            generalize wc = w8 at *
            clear hown7 HS7 hSa m7 hb7 HLY hSz
            have HSZ := Lib.hid hsz
            have hvz := Sl.of_own hownz
            have HVZ := Lib.hid hvz
            subst hlz
            clear hsz hvz hownz
            have y0 : (⟨seed.toArray⟩ : ByteArray).size ≤ 1000000 := by simp [ByteArray.size]; omega
            go_wp2_with fail
            refine (Split_calls _ _ _ ids seed zs HSZ.out HVZ.out HI.out (by omega) (by omega) (by omega)).mono ?_
            rintro e w9 ⟨vo, er, rfl, her, hne, hok, hm9⟩
            have HER := Lib.hid her
            have HNE := Lib.hid hne
            have HOK := Lib.hid hok
            have HSZ9 := Lib.hid (HSZ.out.pure hm9)
            have HVZ9 := Lib.hid (HVZ.out.pure hm9)
            have m9 := mz.trans hm9
            clear her hne hok HSZ HVZ mz hm9
            go_wp2_with fail
            refine (idsFault_calls _ _ ids HSZ9.out HI.out (by omega)).mono ?_
            rintro e wa ⟨rfl, hma⟩
            go_wp2_with fail
            refine (seedFault_calls _ _ y0).mono ?_
            rintro e wd ⟨rfl, hmd⟩
            rw [show keyE (⟨seed.toArray⟩ : ByteArray).data.toList = keyErr seed from rfl]
            go_wp2_with fail
            refine (weightsFault_calls _ _ zs ((HVZ9.out.pure hma).pure hmd) (by omega)).mono ?_
            rintro e we ⟨rfl, hme⟩
            go_wp2_with fail
            refine (wrongOr_calls _ _ _ [idsE keyE ids, keyErr seed, weightsE zs] (Blk.new _ _ _).row0 (by simp)).mono ?_
            rintro e wf ⟨rfl, hmf⟩
            have pf : Pure w9 wf := (((hma.trans hmd).trans hme).alloc _).trans hmf
            have mf := m9.trans pf
            rw [show firstErr [idsE keyE ids, keyErr seed, weightsE zs] = splitE ids seed zs from rfl, ← HER.out]
            clear hma hmd hme hmf
            by_cases h0 : er = 0
            · have hw : weightsE zs = 0 := (firstErr3 (show firstErr [idsE keyE ids, keyErr seed, weightsE zs] = 0 from HER.out.symm.trans h0)).2.2
              have hss := (HOK.out h0).pure pf
              have HSS := Lib.hid hss
              have HSO := Lib.hid (SplitOf_calls wf _ _ ids seed zs (HSZ9.out.pure pf) (HVZ9.out.pure pf) HI.out (by omega) (by omega) hw)
              subst h0
              clear hw hss
              go_wp2_with fail
              refine HSO.out.mono ?_
              rintro e wg ⟨vg, rfl, hsg, hmg⟩
              go_wp2_with fail
              refine (equalSS_calls _ _ _ _ (HSS.out.pure hmg) hsg).mono ?_
              rintro e wh ⟨rfl, hmh⟩
              go_wp2_with fail
              refine (drawn_calls _).mono ?_
              rintro e wi ⟨rfl, hmi⟩
              go_wp2_with fail
              go_ret
              exact BoolPost.of rfl (((mf.trans hmg).trans hmh).trans hmi)
            · have hne2 : (er != 0) = true := by simpa using h0
              have hee : (er == er) = true := by simp
              obtain rfl := HNE.out h0
              clear h0
              go_wp2_with fail
              refine (drawn_calls _).mono ?_
              rintro e wi ⟨rfl, hmi⟩
              go_wp2_with fail
              go_ret
              exact BoolPost.of rfl (mf.trans hmi)

end Go.Proofs.YtdknpekbonmmhaaGreatDoor
