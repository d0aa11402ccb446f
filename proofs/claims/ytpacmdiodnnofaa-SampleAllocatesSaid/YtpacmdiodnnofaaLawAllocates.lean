/- The law SampleAllocates. -/
import Derived.Test.YtpacmdiodnnofaaAllocG
import Derived.Test.YtpacmdiodnnofaaDrawn
import Derived.Test.YtpacmdiodnnofaaStopsL
import Derived.Deep.CutBlock
namespace Go.Proofs.Ytpacmdiodnnofaa
set_option linter.unusedVariables false
set_option linter.unusedSimpArgs false
open Go.RowKit
attribute [local go_sem ↓] Go.wp_at_zero Go.wp_at_succ

def AlLoop (w : World) (b m gk : Nat) (x i : Value) (wr : World) : Prop :=
  ∃ (zs : List Int) (A : Option Addr) (cap : Nat), m - zs.length = gk ∧ zs.length ≤ m ∧ i = .int .i64 (zs.length : Int) ∧ x = .slice A zs.length cap ∧
    wr.ownsRow (b + 1) 3 1 (.slice A zs.length cap) zs.length (intsV zs) ∧ Strm wr b (1 + zs.length) ∧ Pure w wr ∧ b + 1 ≤ wr.heap.size
def AlInv (w : World) (b : Nat) (v : Value) (wx : World) : Prop :=
  ∃ (zs : List Int), zs.length < 20 ∧ wx.ownsRow (b + 1) 3 1 v zs.length (intsV zs) ∧ Strm wx b 100 ∧ Pure w wx ∧ b + 1 ≤ wx.heap.size

set_option maxRecDepth 100000 in
set_option maxHeartbeats 8000000 in
theorem SampleAllocates_calls (w : World) (A : Option Addr) (n c : Nat) (hA : ArgInts w A n) :
    Calls Try.prog 12 #[.slice A n c] w (BoolPost w true) := by
  obtain ⟨i0, hi0, hz0, hz1, hz2⟩ := info_parts info_int_
  have hS0 := strm_new (c := c) hA
  go_enter Try.func12, Try.ntmps12
  go_wp2_with fail
  refine (pick_calls _ _ _ _ _ [0, 1, 2, 3, 5, 9] (hS0.alloc _) (by omega) (Blk.snd _ _ _ _) (by omega) (by simp) (by simp)).mono ?_
  rintro e w1 ⟨n', hn', rfl, hS1, hM1⟩
  have hn9 : 0 ≤ n' ∧ n' ≤ 9 := by simp at hn'; omega
  obtain ⟨m, rfl⟩ := Int.eq_ofNat_of_zero_le hn9.1
  have hm9 : m ≤ 9 := by omega
  have hb1 : w.heap.size + 1 ≤ w1.heap.size := by have := hM1.size; simp at this; omega
  have m1 : Pure w w1 := (((Mod.refl _ w).alloc _).alloc _).trans' hM1 (fun i hi hlt => by omega)
  clear hn' hn9 hM1 hS0
  generalize hb : w.heap.size = b at *
  have hwb := Nat.le_of_eq hb
  clear hb
  go_wp2_with fail
  go_loopg [4, 15] m (fun gk x i wr => AlLoop w b m gk x i wr)
  case atStart => exact ⟨[], none, 0, by simp, by simp, rfl, rfl, ⟨by simp [intsV], .inl ⟨rfl, rfl⟩⟩, hS1.more (by simp), m1, hb1⟩
  case round =>
    clear hS1 m1 hb1
    obtain ⟨zs, A, cap, rfl, hk, rfl, rfl, hown, hS1, hm, hbig⟩ := hrel
    generalize hkk : zs.length = k at *
    have HKK := Lib.hid hkk
    clear hkk
    by_cases hlt : k < m
    · go_wp2_with fail
      refine (pick_calls _ _ _ _ _ [0, 1, 2, 3, 10, 10, 17, 2000] (hS1.alloc _) (by omega) (Blk.new _ _ _) (by omega) (by simp) (by simp)).mono ?_
      rintro e w2 ⟨y, hy, rfl, hS2, hM2⟩
      have hown2 := own_mod (hown.alloc _) hM2 (fun g hg => by have := own_block hown g hg; omega)
      have m2 : Pure w w2 := (hm.alloc _).trans' hM2 (fun i hi hlt => by omega)
      have hz2' := hM2.size
      simp at hz2'
      clear hown hS1 hm hM2 hy
      go_wp2_with (at_builtin; refine wpList_append_lies _ rfl _ _ _ rfl (b + 1) 3 i0 _ 1 8 Try.underlying22 hi0 hz0 hz1 hz2 rfl (by omega) (.slice A k cap) k (intsV zs) rfl (hown2.alloc _) ⟨w2.heap.size, 0, none⟩ 1 1 [.int .i64 y] rfl rfl (World.news_of_block (cs := #[.int .i64 y]) (t := 3) (fr := (0, 0)) (heap_alloc_new w2 _)) (by simp [Value.oneCell']) (by omega) (by simp [maxLen]; omega) (by omega) (by have := m2.size; simp; omega) (w2.heap.size + 1) (by simp) ?_; intro g5 cap5 w5 hown5 hgrow hat hlt5)
      go_roundg (m - (k + 1))
      case measure => omega
      case rel =>
        have hS5 : Strm w5 b (1 + k + 1) := (hS2.alloc _).mod (mod_grown hgrow) (fun i hi h => by have := own_block hown2 i h; omega)
        exact ⟨zs ++ [y], some ⟨g5, 0, none⟩, cap5, by simp [HKK.out], by simp [HKK.out]; omega, by simp [HKK.out], by simp [HKK.out], by simpa [HKK.out, intsV] using hown5, hS5.more (by simp [HKK.out]; omega), (m2.alloc _).grown hgrow (fun k hk => .inr (by have := own_block hown2 k hk; omega)), by have := hgrow.size; simp at this; omega⟩
    · obtain rfl : m = k := by omega
      clear hlt hk
      go_upto_region 7 with (fail)
      go_cut [30] (fun q wx => ∃ fl : Bool, q = .bool fl ∧ (fl = true → 0 < m) ∧ wx.ownsRow (b + 1) 3 1 (.slice A m cap) m (intsV zs) ∧ Strm wx b 40 ∧ Pure w wx ∧ b + 1 ≤ wx.heap.size)
      case first =>
        by_cases h0 : m = 0
        · subst h0
          go_wp2_with fail
          go_meet
          exact ⟨false, rfl, fun h => (by cases h), hown, hS1.more (by omega), hm, hbig⟩
        · have h1 : decide ((0 : Int) < (m : Int)) = true := by simp; omega
          have h2 : decide (0 < m) = true := by simp; omega
          go_wp2_with fail
          refine (flip_calls _ _ _ _ hS1 (by omega) (by omega) (by omega)).mono ?_
          rintro e w2 ⟨fl, rfl, hS2, hM2⟩
          have hz2' := hM2.size
          go_wp2_with fail
          go_meet
          exact ⟨fl, by simp, fun _ => by omega, own_mod hown hM2 (fun g hg => by have := own_block hown g hg; omega), hS2.more (by omega), hm.trans' hM2 (fun i hi hlt => by omega), by omega⟩
      case rest =>
        obtain ⟨fl, rfl, hfl, hown2, hS2, m2, hbig2⟩ := hcut
        generalize wc = w2 at *
        clear hown hS1 hm hbig
        go_upto_if 30 with (fail)
        go_cut [] (fun wx => AlInv w b (.slice A m cap) wx)
        case first =>
          cases fl
          · clear hfl
            go_wp2_with fail
            go_meet
            exact ⟨zs, by rw [HKK.out]; omega, by rw [HKK.out]; exact hown2, hS2.more (by omega), m2, hbig2⟩
          · have hpos := hfl rfl
            clear hfl
            obtain ⟨gx, cx, hvx, hgb, hgl, _, _⟩ := own_form hown2 hpos
            injection hvx with hA _ hC
            subst hA hC
            go_wp2_with fail
            refine (next_calls _ _ _ _ hS2 (by omega) (by omega) (by omega)).mono ?_
            rintro e w3 ⟨j', hj1, hj2, rfl, hS3, hM3⟩
            obtain ⟨j, rfl⟩ := Int.eq_ofNat_of_zero_le hj1
            have hjm : j < m := by omega
            have hown3 := own_mod hown2 hM3 (fun g hg => by have := own_block hown2 g hg; omega)
            have m3 : Pure w w3 := m2.trans' hM3 (fun i hi hlt => by omega)
            have hz3 := hM3.size
            clear hown2 hS2 m2 hM3
            go_wp2_with fail
            refine (pick_calls _ _ _ _ _ [-1, 2001] (hS3.alloc _) (by omega) (Blk.new _ _ _) (by omega) (by simp) (by simp)).mono ?_
            rintro e w4 ⟨y, hy, rfl, hS4, hM4⟩
            have hown4 := own_mod (hown3.alloc _) hM4 (fun g hg => by have := own_block hown3 g hg; omega)
            have m4 : Pure w w4 := (m3.alloc _).trans' hM4 (fun i hi hlt => by omega)
            have hz4 := hM4.size
            simp at hz4
            clear hown3 hS3 m3 hM4 hy
            have hjz : j < zs.length := by rw [HKK.out]; exact hjm
            have q1 := (hown4.cellAt j (by omega)).trans (intsV_get zs j hjz)
            have q2 := hown4.frozenAt j
            obtain ⟨hset, hgr⟩ := hown4.stored j (.int .i64 y)
            have hset2 : (w4.setCell ⟨gx, j, none⟩ (.int .i64 y)).ownsRow (b + 1) 3 1 (.slice (some ⟨gx, 0, none⟩) m cap) m (intsV (zs.set j y)) := by
              have e : (intsV zs).set j (.int .i64 y) = intsV (zs.set j y) := by simp [intsV, List.map_set]
              rw [e] at hset
              exact hset
            have hS5 : Strm (w4.setCell ⟨gx, j, none⟩ (.int .i64 y)) b 100 := (hS4.setCell (by show b < gx; omega) _).more (by omega)
            have m5 : Pure w (w4.setCell ⟨gx, j, none⟩ (.int .i64 y)) := m4.setCell (.inr (by show _ ≤ gx; omega)) _
            have HSET := Lib.hid hset2
            clear hset hset2 hgr
            generalize zs[j] = z0 at *
            go_wp2_with fail
            go_meet
            exact ⟨zs.set j y, by rw [List.length_set, HKK.out]; omega, by rw [List.length_set, HKK.out]; exact HSET.out, hS5, m5, by simp; omega⟩
        case rest =>
          obtain ⟨ys, hl20, hown3, hS3, m3, hbig3⟩ := hcut
          generalize wc = w3 at *
          clear hown2 hS2 m2 hfl HKK hbig2
          have hlen : ys.length = m := by
            rcases hown3.2 with ⟨h, h0⟩ | ⟨g, cap', cur, h, _⟩
            · injection h with _ h1 _
              omega
            · injection h with _ h1 _
              omega
          subst hlen
          have HOWN := Lib.hid hown3
          clear hown3 hm9
          go_wp2_with fail
          refine (pick_calls _ _ _ _ _ [0, 1, 2, 5, 7, 20, 2000, -1, 2001] (hS3.alloc _) (by omega) (Blk.new _ _ _) (by omega) (by simp) (by simp)).mono ?_
          rintro e w4 ⟨many, hr, rfl, hS4, hM4⟩
          have hown4 := own_mod (HOWN.out.alloc _) hM4 (fun g hg => by have := own_block HOWN.out g hg; omega)
          have m4 : Pure w w4 := (m3.alloc _).trans' hM4 (fun i hi hlt => by omega)
          have HOWN4 := Lib.hid hown4
          clear hr hS3 hM4 m3 HOWN hown4 hS4
          go_wp2_with fail
          refine (Allocate_calls _ _ ys many (Sl.of_own HOWN4.out) hl20).mono ?_
          rintro e w5 ⟨vo, no, er, rfl, her, hne, hok, hm5⟩
          have m5 := m4.trans hm5
          have hown5 := own_pure HOWN4.out hm5
          have HOWN5 := Lib.hid hown5
          have HER := Lib.hid her
          have HNE := Lib.hid hne
          have HOK := Lib.hid hok
          clear her hne hok hown5 HOWN4
          go_wp2_with fail
          refine (sizesFault_calls _ _ ys (Sl.of_own HOWN5.out) (by omega)).mono ?_
          rintro e w6 ⟨rfl, hm6⟩
          have m6 := m5.trans hm6
          have hown6 := own_pure HOWN5.out hm6
          have HOWN6 := Lib.hid hown6
          clear hown6
          cases hb : ys.any sizeB
          · have HB := Lib.hid hb
            have HSE : sizesErr ys = 0 := by unfold sizesErr; rw [hb]; rfl
            rw [HSE]
            clear hb HSE
            by_cases h0 : manyErr many = 0
            · have hmo := many_ok h0
              obtain rfl : er = 0 := by
                rw [HER.out]
                unfold allocE
                rw [HB.out]
                exact h0
              obtain ⟨out, hsp, hown7⟩ := HOK.out rfl
              obtain ⟨Av, nv, cv, rfl⟩ := (Sl.of_own hown7).form
              have HAO := Lib.hid (AllocateOf_calls w6 (.slice A ys.length cap) _ _ ys out many HOWN6.out hl20 (any_ok HB.out) hmo hsp)
              have hv6 := (Sl.of_own hown7).pure hm6
              have HV6 := Lib.hid hv6
              have n1 : ¬ many < 0 := by omega
              have n2 : ¬ 2000 < many := by omega
              clear hsp hown7 hv6 h0
              go_wp2_with fail
              refine HAO.out.mono ?_
              rintro e w7 ⟨v7, n7, rfl, hown7, hm7⟩
              go_wp2_with fail
              refine (equalInts_calls _ _ _ out (HV6.out.pure hm7) (Sl.of_own hown7)).mono ?_
              rintro e w8 ⟨rfl, hm8⟩
              go_wp2_with fail
              refine (drawn_calls _).mono ?_
              rintro e w9 ⟨rfl, hm9⟩
              go_wp2_with fail
              go_ret
              exact BoolPost.of rfl (((m6.trans hm7).trans hm8).trans hm9)
            · have h1 : manyErr many = 1 ∧ (many < 0 ∨ 2000 < many) := by
                unfold manyErr at h0 ⊢
                split at h0
                · exact absurd rfl h0
                · rename_i h
                  rw [if_neg h]
                  exact ⟨rfl, by omega⟩
              obtain rfl : er = 1 := by
                rw [HER.out]
                unfold allocE
                rw [HB.out]
                exact h1.1
              obtain rfl := HNE.out (by decide)
              have h2 := h1.2
              clear h0 h1
              by_cases h3 : many < 0
              · go_wp2_with fail
                refine (drawn_calls _).mono ?_
                rintro e w9 ⟨rfl, hm9⟩
                go_wp2_with fail
                go_ret
                exact BoolPost.of rfl (m6.trans hm9)
              · have h4 : 2000 < many := by omega
                clear h2
                go_wp2_with fail
                refine (drawn_calls _).mono ?_
                rintro e w9 ⟨rfl, hm9⟩
                go_wp2_with fail
                go_ret
                exact BoolPost.of rfl (m6.trans hm9)
          · have HB := Lib.hid hb
            have HSE : sizesErr ys = 1 := by unfold sizesErr; rw [hb]; rfl
            rw [HSE]
            clear hb HSE
            obtain rfl : er = 1 := by
              rw [HER.out]
              unfold allocE
              rw [HB.out]
              rfl
            obtain rfl := HNE.out (by decide)
            go_wp2_with fail
            refine (drawn_calls _).mono ?_
            rintro e w9 ⟨rfl, hm9⟩
            go_wp2_with fail
            go_ret
            exact BoolPost.of rfl (m6.trans hm9)

end Go.Proofs.Ytpacmdiodnnofaa
