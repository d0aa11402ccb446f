/- Texts of the proof of WordCuts, put together: LawWordCuts, LaidI. -/
import Derived.Test.YtanblgcgbncbpaaGreatDoorWordCutsZ6
import Derived.Test.YtanblgcgbncbpaaGreatDoorWordCutsZ39
import Derived.Test.YtanblgcgbncbpaaGreatDoorWordCutsZ40
import Derived.Test.YtanblgcgbncbpaaGreatDoorWordCutsZ42
import Derived.Test.YtanblgcgbncbpaaGreatDoorRows
import Derived.Stop.LaidErr
import Derived.Lib.LaidTab
import Derived.Lib.LaidU8T
import Derived.ProofKit
/- The law WordCuts. -/
namespace Go.Proofs.YtanblgcgbncbpaaGreatDoor
set_option linter.unusedVariables false
set_option linter.unusedSimpArgs false
open Go.RowKit
theorem bytes_str (a : ByteArray) : ∃ s : Str, a = ⟨s.toArray⟩ ∧ s.length = a.size := ⟨a.data.toList, by cases a; rfl, Array.length_toList⟩
set_option maxRecDepth 100000 in
set_option maxHeartbeats 16000000 in
theorem WordCuts_calls (w : World) (A : Option Addr) (n c : Nat) (hA : ArgInts w A n) (hE : ErrS w) (hD : Deb w) (hV : Env w) :
  Calls Tryz.prog 3 #[.slice A n c] w (BoolPost w true) := by
 have hS0 := strm_new (c := c) hA
 have HV : Hid (∀ w1, Pure w w1 → Env w1) := Lib.hid (fun _ h => hV.pure h)
 obtain ⟨b, hb⟩ : ∃ b, b = w.heap.size := ⟨_, rfl⟩
 have P0 := pure_alloc w (.cells #[.slice A n c, .int .i64 0] 25)
 have HPS : Hid (∀ {w1 w' : World}, Pure w w1 → Mod (· = b) w1 w' → Pure w w') := Lib.hid (fun k h => k.trans' h (fun i hi hlt => by omega))
 rw [← hb] at hS0
 clear hE hD hV hA
 go_enter Tryz.func3, Tryz.ntmps3
 go_wp2_with fail
 rw [← hb]
 generalize (w.alloc (.cells #[.slice A n c, .int .i64 0] 25)) = w0 at *
 clear hb
 refine (itemText_calls w0 b 0 hS0 (by omega)).mono ?_
 rintro e w1 ⟨s1, hs1, rfl, hS1, hM1⟩
 have P1 := HPS.out P0 hM1
 have hz1 : (⟨s1.toArray⟩ : ByteArray).size = s1.length := by simp [ByteArray.size]
 have HST := Lib.hid (strange_calls w1 b _ hS1 (by omega))
 clear hS0 P0 hM1 hS1
 go_wp2_with fail
 refine HST.out.mono ?_
 rintro e w2 ⟨a2, ha2, rfl, hS2, hM2⟩
 have P2 := HPS.out P1 hM2
 have HPT := Lib.hid (pattern_calls w2 b _ hS2 (by omega))
 clear HST P1 hM2 hS2
 go_upto_region 3 with (fail)
 have htb : ((⟨s1.toArray⟩ : ByteArray) ++ a2).size ≤ 400 := by rw [ByteArray.size_append]; omega
 generalize ((⟨s1.toArray⟩ : ByteArray) ++ a2) = tb at *
 obtain ⟨t, rfl, htl⟩ := bytes_str tb
 rw [← htl] at htb
 clear htl
 go_wp2_with fail
 refine HPT.out.mono ?_
 rintro e w3 ⟨p0, hp0, rfl, hS3, hM3⟩
 have P3 := HPS.out P2 hM3
 have HFL := Lib.hid (flip_calls w3 b _ 4 hS3 (by omega) (by omega) (by omega))
 clear HPT P2 hM3 hS3
 go_wp2_with fail
 refine HFL.out.mono ?_
 rintro e w4 ⟨fl, rfl, hS4, hM4⟩
 have P4 := HPS.out P3 hM4
 have HP4 := Lib.hid P4
 have HS4 := Lib.hid hS4
 clear HFL P3 hM4 hS4 P4
 have hz0 : (⟨p0.toArray⟩ : ByteArray).size = p0.length := by simp [ByteArray.size]
 go_upto_if 20 with (fail)
 go_cut [5] (fun q wx => ∃ p : Str, q = .string ⟨p.toArray⟩ ∧ p.length ≤ 100 ∧ Pure w wx)
 case first =>
  cases fl
  ·go_wp2_with fail
   go_meet
   exact ⟨p0, rfl, by omega, HP4.out⟩
  ·have HCH := Lib.hid (changed_calls w4 b _ ⟨p0.toArray⟩ ⟨#[42, 63, 97, 65, 32]⟩ HS4.out (by omega) (by omega) (by decide) (by decide) (by decide))
   go_wp2_with fail
   refine HCH.out.mono ?_
   rintro e w5 ⟨a5, ha5, rfl, _, hM5⟩
   obtain ⟨p5, rfl, hp5⟩ := bytes_str a5
   have hs5 : (⟨#[42, 63, 97, 65, 32]⟩ : ByteArray).size = 5 := rfl
   have hl5 : p5.length ≤ 100 := by omega
   have P5 := Lib.hid (HPS.out HP4.out hM5)
   clear HCH hM5 ha5 hp5 hs5
   go_wp2_with fail
   go_meet
   exact ⟨p5, rfl, hl5, P5.out⟩
 case rest =>
  obtain ⟨p, rfl, hpl, P5⟩ := hcut
  generalize wc = w5 at *
  have HP5 := Lib.hid P5
  have HW1 := Lib.hid (words_calls w5 t (by omega))
  clear P5 HP4 HS4 hz0
  go_wp2_with fail
  refine HW1.out.mono ?_
  rintro e w6 ⟨v, rfl, hq, hm6⟩
  have hsl := Sl.of_own hq
  obtain ⟨Aw, nw, cw, rfl⟩ := hsl.form
  have hwn : nw = (wordsQ t).length ∧ (wordsQ t).length ≤ cw ∧ cw ≤ 9223372036854775807 := by
   obtain ⟨_, _, _, e, h1, h2, h, _⟩ := hsl
   cases e
   rw [wdV_len] at h
   exact ⟨by omega, by omega, h2⟩
  obtain ⟨rfl, hc1, hc2⟩ := hwn
  have HSL : Hid (Wds w6 (.slice Aw (wordsQ t).length cw) (wordsQ t)) := Lib.hid hsl
  have HP6 := Lib.hid (HP5.out.trans hm6)
  have HW2 := Lib.hid (wordsOf_calls w6 t (by omega))
  have HWL : Hid (∀ x ∈ wordsQ t, x.2.length ≤ 1000000) := Lib.hid (fun x hx => by
   obtain ⟨q, _, rfl⟩ := List.mem_map.1 hx
   have h : (wdAt t q).2.length ≤ t.length := by
    show (lowS (subS t q.1 q.2)).length ≤ _
    unfold lowS subS
    rw [List.length_map, List.length_drop, List.length_take]
    omega
   omega)
  clear hq hsl hm6 HW1 HP5
  generalize wordsQ t = wl at *
  go_wp2_with fail
  refine HW2.out.mono ?_
  rintro e w7 ⟨v2, rfl, hq, hm7⟩
  have HEQ := Lib.hid (equalWds_calls w7 _ _ wl (HSL.out.pure hm7) (Sl.of_own hq))
  have HP7 := Lib.hid (HP6.out.trans hm7)
  have HSL7 : Hid (Wds w7 (.slice Aw wl.length cw) wl) := Lib.hid (HSL.out.pure hm7)
  clear hq hm7 HW2 HP6 HSL
  go_wp2_with fail
  refine HEQ.out.mono ?_
  rintro e w8 ⟨rfl, hm8⟩
  have HP8 := Lib.hid (HP7.out.trans hm8)
  have HSL8 : Hid (Wds w8 (.slice Aw wl.length cw) wl) := Lib.hid (HSL7.out.pure hm8)
  have HI1 := Lib.hid (isPattern_calls w8 p (by omega))
  have HI2 := Lib.hid (patternIs_calls w8 p (by omega))
  clear hm8 HEQ HP7 HSL7
  generalize patB p = pb at *
  have hpb : (pb != pb) = false := by cases pb <;> rfl
  go_wp2_with fail
  refine HI1.out.mono ?_
  rintro e w9 ⟨rfl, rfl⟩
  go_wp2_with fail
  refine HI2.out.mono ?_
  rintro e w9 ⟨rfl, hm9⟩
  have HP9 := Lib.hid (HP8.out.trans hm9)
  have HSL9 : Hid (Wds w9 (.slice Aw wl.length cw) wl) := Lib.hid (HSL8.out.pure hm9)
  clear hm9 HI1 HI2 HP8 HSL8
  go_wp2_with fail
  have HAS := Lib.hid (fun W (h : Pure w W) => asks_calls W (HV.out W h))
  have HFE := Lib.hid (fun W (x : Str) (hx : x.length ≤ 1000000) => fits_calls W p x (by omega) hx)
  have HFO := Lib.hid (fun W (x : Str) (hx : x.length ≤ 1000000) => fitsOf_calls W p x (by omega) hx)
  clear HV HPS hpb
  generalize w8 = w10 at *
  go_loopg [40] wl.length (fun gk i wr => ∃ k : Nat, wl.length - k = gk ∧ k ≤ wl.length ∧ i = .int .i64 (k : Int) ∧ Pure w9 wr)
  case atStart => exact ⟨0, by omega, by omega, rfl, Mod.refl _ _⟩
  case round =>
   obtain ⟨k, rfl, hk, rfl, hm⟩ := hrel
   have HMR := Lib.hid hm
   have HPR := Lib.hid (HP9.out.trans hm)
   clear hm
   by_cases hlt : k < wl.length
   ·obtain ⟨_, _, _, e, _, _, _, hr0⟩ := HSL9.out.pure HMR.out
    cases e
    obtain ⟨gw, ow, hAw, hrow⟩ := hr0 (by omega)
    subst hAw
    obtain ⟨g0, g1, g2⟩ := wdV_get wl k hlt
    have c0 := hrow.cell g0
    have c1 := hrow.cell g1
    have c2 := hrow.cell g2
    rw [← Nat.add_assoc] at c1 c2
    have hxl := HWL.out _ (List.getElem_mem hlt)
    clear hr0 hrow g0 g1 g2
    generalize wl[k] = x at *
    have hB := Blk.new wr 36 #[.int .i64 (x.1.1 : Int), .int .i64 (x.1.2 : Int), .string ⟨x.2.toArray⟩]
    have HB := Lib.hid hB
    have HMA := Lib.hid (pure_alloc wr (.cells #[.int .i64 (x.1.1 : Int), .int .i64 (x.1.2 : Int), .string ⟨x.2.toArray⟩] 36))
    clear hB
    have hff : ∀ f : Bool, (f != f) = false := fun f => by cases f <;> rfl
    go_upto_region 12 with (fail)
    generalize (wr.alloc (.cells #[.int .i64 (x.1.1 : Int), .int .i64 (x.1.2 : Int), .string ⟨x.2.toArray⟩] 36)) = w11 at *
    generalize hb8 : wr.heap.size = b8 at *
    clear hb8 c0 c1 c2
    have HF1 := Lib.hid (fun W => HFE.out W x.2 hxl)
    have HF2 := Lib.hid (fun W => HFO.out W x.2 hxl)
    generalize fitsB p x.2 = f at *
    have hf := hff f
    clear hff
    have HGs := Lib.hid (show ∀ (D : Nat → Bool) (zzi : Nat) (zq zq' : World), (fun _ zq => (fun Z => Blk Z b8 36 #[.int .i64 (x.1.1 : Int), .int .i64 (x.1.2 : Int), .string ⟨x.2.toArray⟩]) zq) D zq → Mod (fun _ => False) zq zq' → (fun _ zq => (fun Z => Blk Z b8 36 #[.int .i64 (x.1.1 : Int), .int .i64 (x.1.2 : Int), .string ⟨x.2.toArray⟩]) zq) (upd D zzi true) zq' from by intro D zzi zq zq' h hm; (exact h.modp hm))
    refine wp_region_inv (by kernel_rfl) (by kernel_rfl) (InvF (R := Mod (fun _ => False)) [.is (.string ⟨p.toArray⟩),
      .is (.pointer (some ⟨b8, 2, none⟩)),
      .is (.string ⟨x.2.toArray⟩),
      .is (.bool f),
      .is (.string ⟨p.toArray⟩),
      .is (.pointer (some ⟨b8, 2, none⟩)),
      .is (.string ⟨x.2.toArray⟩),
      .is (.bool f),
      .is (.bool false)]
      (PB w11 (fun _ => False) w11.heap.size (fun _ zq => (fun Z => Blk Z b8 36 #[.int .i64 (x.1.1 : Int), .int .i64 (x.1.2 : Int), .string ⟨x.2.toArray⟩]) zq))) (InvF.start (PB.start (Mod.refl _ _) (Nat.le_refl _) (HB.out.drew))) ?_ ?_
    ·refine .cons ?_ (.cons ?_ (.cons ?_ (.cons ?_ (.cons ?_ (.cons ?_ (.cons ?_ (.cons ?_ (.cons ?_ .nil))))))))
     ·intro D V zw1 a hR hI K hK
      obtain ⟨hM1, hB1, hG1⟩ := hI.1
      have ze5 := hR.frame.other (t := 5) (by kernel_rfl) rfl
      rw [if_pos (by rfl)]
      go_simp
      exact hK (.string ⟨p.toArray⟩) _ (hI.next hR (by kernel_rfl) (Mod.refl _ _) (PB.quiet hI.1 (Mod.refl _ _) (HGs.out D 0 zw1 zw1 (hI.1).g (Mod.refl _ _))) (upd_same V 0 _))
     ·intro D V zw1 a hR hI K hK
      obtain ⟨hM1, hB1, hG1⟩ := hI.1
      have ze8 := hR.frame.other (t := 8) (by kernel_rfl) rfl
      rw [if_pos (by rfl)]
      go_simp
      exact hK (.pointer (some ⟨b8, 2, none⟩)) _ (hI.next hR (by kernel_rfl) (Mod.refl _ _) (PB.quiet hI.1 (Mod.refl _ _) (HGs.out D 1 zw1 zw1 (hI.1).g (Mod.refl _ _))) (upd_same V 1 _))
     ·intro D V zw1 a hR hI K hK
      obtain ⟨hM1, hB1, hG1⟩ := hI.1
      have zd1 := hR.pred 1 (by kernel_rfl)
      have zF1 : V 1 = .pointer (some ⟨b8, 2, none⟩) := hI.2 1 zd1 rfl
      have zf1 := zF1; clear zF1
      have ze45 := hR.frame.done (t := 45) (j := 1) (by kernel_rfl) hR.ok zd1
      have zx2 := (hG1).cell 2; have zy2 := (hG1).frozen 2; simp at zx2
      rw [if_pos (by rfl)]
      go_simp
      exact hK (.string ⟨x.2.toArray⟩) _ (hI.next hR (by kernel_rfl) (Mod.refl _ _) (PB.quiet hI.1 (Mod.refl _ _) (HGs.out D 2 zw1 zw1 (hI.1).g (Mod.refl _ _))) (upd_same V 2 _))
     ·intro D V zw1 a hR hI K hK
      obtain ⟨hM1, hB1, hG1⟩ := hI.1
      have zd0 := hR.pred 0 (by kernel_rfl)
      have zF0 : V 0 = .string ⟨p.toArray⟩ := hI.2 0 zd0 rfl
      have zf0 := zF0; clear zF0
      have zd2 := hR.pred 2 (by kernel_rfl)
      have zF2 : V 2 = .string ⟨x.2.toArray⟩ := hI.2 2 zd2 rfl
      have zf2 := zF2; clear zF2
      have ze44 := hR.frame.done (t := 44) (j := 0) (by kernel_rfl) hR.ok zd0
      have ze46 := hR.frame.done (t := 46) (j := 2) (by kernel_rfl) hR.ok zd2
      rw [if_pos (by rfl)]
      go_simp
      refine (HF1.out zw1).mono ?_
      rintro e zw2 ⟨rfl, hm2⟩
      exact hK (.bool f) _ (hI.next hR (by kernel_rfl) hm2 (PB.quiet hI.1 hm2 (HGs.out D 3 _ _ (hI.1).g hm2)) (upd_same V 3 _))
     ·intro D V zw1 a hR hI K hK
      obtain ⟨hM1, hB1, hG1⟩ := hI.1
      have ze5 := hR.frame.other (t := 5) (by kernel_rfl) rfl
      rw [if_pos (by rfl)]
      go_simp
      exact hK (.string ⟨p.toArray⟩) _ (hI.next hR (by kernel_rfl) (Mod.refl _ _) (PB.quiet hI.1 (Mod.refl _ _) (HGs.out D 4 zw1 zw1 (hI.1).g (Mod.refl _ _))) (upd_same V 4 _))
     ·intro D V zw1 a hR hI K hK
      obtain ⟨hM1, hB1, hG1⟩ := hI.1
      have ze8 := hR.frame.other (t := 8) (by kernel_rfl) rfl
      rw [if_pos (by rfl)]
      go_simp
      exact hK (.pointer (some ⟨b8, 2, none⟩)) _ (hI.next hR (by kernel_rfl) (Mod.refl _ _) (PB.quiet hI.1 (Mod.refl _ _) (HGs.out D 5 zw1 zw1 (hI.1).g (Mod.refl _ _))) (upd_same V 5 _))
     ·intro D V zw1 a hR hI K hK
      obtain ⟨hM1, hB1, hG1⟩ := hI.1
      have zd5 := hR.pred 5 (by kernel_rfl)
      have zF5 : V 5 = .pointer (some ⟨b8, 2, none⟩) := hI.2 5 zd5 rfl
      have zf5 := zF5; clear zF5
      have ze49 := hR.frame.done (t := 49) (j := 5) (by kernel_rfl) hR.ok zd5
      have zx2 := (hG1).cell 2; have zy2 := (hG1).frozen 2; simp at zx2
      rw [if_pos (by rfl)]
      go_simp
      exact hK (.string ⟨x.2.toArray⟩) _ (hI.next hR (by kernel_rfl) (Mod.refl _ _) (PB.quiet hI.1 (Mod.refl _ _) (HGs.out D 6 zw1 zw1 (hI.1).g (Mod.refl _ _))) (upd_same V 6 _))
     ·intro D V zw1 a hR hI K hK
      obtain ⟨hM1, hB1, hG1⟩ := hI.1
      have zd4 := hR.pred 4 (by kernel_rfl)
      have zF4 : V 4 = .string ⟨p.toArray⟩ := hI.2 4 zd4 rfl
      have zf4 := zF4; clear zF4
      have zd6 := hR.pred 6 (by kernel_rfl)
      have zF6 : V 6 = .string ⟨x.2.toArray⟩ := hI.2 6 zd6 rfl
      have zf6 := zF6; clear zF6
      have ze48 := hR.frame.done (t := 48) (j := 4) (by kernel_rfl) hR.ok zd4
      have ze50 := hR.frame.done (t := 50) (j := 6) (by kernel_rfl) hR.ok zd6
      rw [if_pos (by rfl)]
      go_simp
      refine (HF2.out zw1).mono ?_
      rintro e zw2 ⟨rfl, hm2⟩
      exact hK (.bool f) _ (hI.next hR (by kernel_rfl) hm2 (PB.quiet hI.1 hm2 (HGs.out D 7 _ _ (hI.1).g hm2)) (upd_same V 7 _))
     ·intro D V zw1 a hR hI K hK
      obtain ⟨hM1, hB1, hG1⟩ := hI.1
      have zd3 := hR.pred 3 (by kernel_rfl)
      have zF3 : V 3 = .bool f := hI.2 3 zd3 rfl
      have zf3 := zF3; clear zF3
      have zd7 := hR.pred 7 (by kernel_rfl)
      have zF7 : V 7 = .bool f := hI.2 7 zd7 rfl
      have zf7 := zF7; clear zF7
      have ze47 := hR.frame.done (t := 47) (j := 3) (by kernel_rfl) hR.ok zd3
      have ze51 := hR.frame.done (t := 51) (j := 7) (by kernel_rfl) hR.ok zd7
      rw [if_pos (by rfl)]
      go_simp <;> try rw [hf]
      exact hK (.bool false) _ (hI.next hR (by kernel_rfl) (Mod.refl _ _) (PB.quiet hI.1 (Mod.refl _ _) (HGs.out D 8 zw1 zw1 (hI.1).g (Mod.refl _ _))) (upd_same V 8 _))
    ·intro D V w12 hD hI
     obtain ⟨hM1, hB1, hG1⟩ := hI.1
     have hMx := hM1
     clear hM1
     have hBx := hB1
     clear hB1
     have hGx := hG1
     clear hG1
     have zF0 : V 0 = .string ⟨p.toArray⟩ := hI.2 0 (hD 0 (by decide)) rfl
     have zf0 := zF0; clear zF0
     have zF1 : V 1 = .pointer (some ⟨b8, 2, none⟩) := hI.2 1 (hD 1 (by decide)) rfl
     have zf1 := zF1; clear zF1
     have zF2 : V 2 = .string ⟨x.2.toArray⟩ := hI.2 2 (hD 2 (by decide)) rfl
     have zf2 := zF2; clear zF2
     have zF3 : V 3 = .bool f := hI.2 3 (hD 3 (by decide)) rfl
     have zf3 := zF3; clear zF3
     have zF4 : V 4 = .string ⟨p.toArray⟩ := hI.2 4 (hD 4 (by decide)) rfl
     have zf4 := zF4; clear zF4
     have zF5 : V 5 = .pointer (some ⟨b8, 2, none⟩) := hI.2 5 (hD 5 (by decide)) rfl
     have zf5 := zF5; clear zF5
     have zF6 : V 6 = .string ⟨x.2.toArray⟩ := hI.2 6 (hD 6 (by decide)) rfl
     have zf6 := zF6; clear zF6
     have zF7 : V 7 = .bool f := hI.2 7 (hD 7 (by decide)) rfl
     have zf7 := zF7; clear zF7
     have zF8 : V 8 = .bool false := hI.2 8 (hD 8 (by decide)) rfl
     have zf8 := zF8; clear zF8
     clear hI hD HGs
     simp only [frAll, Act.put, List.setIfInBounds_toArray, List.set_cons_zero, List.set_cons_succ, Nat.zero_add, Nat.reduceAdd, zf0, zf1, zf2, zf3, zf4, zf5, zf6, zf7, zf8]
     clear zf0 zf1 zf2 zf3 zf4 zf5 zf6 zf7 zf8
     clear V D
     have HM12 := Lib.hid ((HMR.out.trans HMA.out).trans hMx)
     clear hGx hMx HB HMA HF1 HF2 hf
     go_wp2_with fail
     go_roundg (wl.length - (k + 1))
     case measure => omega
     case rel => exact ⟨k + 1, rfl, by omega, by simp, HM12.out⟩
   ·obtain rfl : k = wl.length := by omega
    have HF1 := Lib.hid (HFE.out wr [115, 105, 103, 110, 101, 100] (by decide))
    have HF2 := Lib.hid (fun W => HFO.out W [115, 105, 103, 110, 101, 100] (by decide))
    have HAS2 := Lib.hid (fun W (h : Pure wr W) => HAS.out W (HPR.out.trans h))
    generalize fitsB p [115, 105, 103, 110, 101, 100] = f at *
    have hf : (f == f) = true := by cases f <;> rfl
    go_wp2_with fail
    refine HF1.out.mono ?_
    rintro e w12 ⟨rfl, hm12⟩
    have HM12 := Lib.hid hm12
    clear hm12 HF1
    go_wp2_with fail
    refine (HF2.out _).mono ?_
    rintro e w13 ⟨rfl, hm13⟩
    have HM13 := Lib.hid (HM12.out.trans hm13)
    clear hm13 HF2 HM12
    have HA := Lib.hid (HAS2.out _ HM13.out)
    go_wp2_with fail
    refine HA.out.mono ?_
    rintro e w14 ⟨rfl, hm14⟩
    go_wp2_with fail
    go_ret
    exact ⟨rfl, HPR.out.trans (HM13.out.trans hm14)⟩

end Go.Proofs.YtanblgcgbncbpaaGreatDoor

/- What the listed variables of the item laws hold. -/
namespace Go.Proofs.YtanblgcgbncbpaaGreatDoor
set_option linter.unusedVariables false
set_option linter.unusedSimpArgs false
open Go.RowKit

def litZ : DataW Unit → Int
 | .lit (.int _ n) => n
 | _ => 0
def litsZ : DataW Unit → List Int
 | .agg ps => ps.map litZ
 | _ => []
theorem cell_of_var {W : World} {g : Nat} {name : String} {cs : Array Value} (hg : Tryz.prog.globalNamed name = some g) (h : W.var? Tryz.prog name = some cs) (i : Nat) : W.cell? ⟨g, i, none⟩ = cs[i]? := by
 unfold World.var? at h
 rw [hg] at h
 simp only [Option.bind_some] at h
 split at h
 ·rename_i hh
  injection h with h
  subst h
  exact cell_of_row W g i _ _ _ hh
 ·cases h
theorem star : "*" ++ "errors.errorString" = "*errors.errorString" := by decide
theorem rowErr (u : TypeId) (h : Tryz.prog.typeName? 3 u = some "*errors.errorString") : u = 252 :=
 typeName_ptr_named (nm := "errors.errorString") (by rw [star]; kernel_rfl) (by kernel_rfl) (by decide) u (by rw [star]; exact h)
/-- The list that all rows of this seat have. -/
abbrev laidI : List (String × DataW Unit) := [("math/bits.deBruijn32tab", Rows.laid_math_bits_deBruijn32tab), ("math/bits.deBruijn64tab", Rows.laid_math_bits_deBruijn64tab), ("internal/strconv.uint64pow10", Rows.laid_internal_strconv_uint64pow10), ("unicode/utf8.acceptRanges", Rows.laid_unicode_utf8_acceptRanges), ("strconv.ErrRange", Rows.laid_strconv_ErrRange), ("strconv.ErrSyntax", Rows.laid_strconv_ErrSyntax), ("unicode/utf8.first", Rows.laid_unicode_utf8_first)]
theorem deb_of {W : World} (hL : laidMet Tryz.prog laidI W) : Deb W := by
 have h1 := Lib.tabIs_of_head (k := .u8) (zs := litsZ Rows.laid_math_bits_deBruijn64tab) (g := 5) (name := "math/bits.deBruijn64tab") (P := Tryz.prog) (W := W) (n := 64) (t := 230) (e := 5) (by kernel_rfl) (by kernel_rfl) (by kernel_rfl) (by kernel_rfl) (by kernel_rfl) (by kernel_rfl) hL.tail
 exact (cell_of_var (by kernel_rfl) h1 15).trans (by kernel_rfl)
theorem err_of {W : World} (hL : laidMet Tryz.prog laidI W) : ErrS W := by
 obtain ⟨a, s, hv, _⟩ := laid_sentinel (g := 6) hL.tail.tail.tail.tail.tail (by kernel_rfl) (by kernel_rfl) Tryz.underlying144 rowErr Tryz.underlying252 Tryz.underlying254 rfl rfl Tryz.underlying9 (by kernel_rfl) (by kernel_rfl)
 exact ⟨_, _, (cell_of_var (by kernel_rfl) hv 0).trans rfl⟩
theorem dFirst : Rows.laid_unicode_utf8_first = Lib.firstData := by kernel_rfl
theorem dAccept : (Rows.laid_unicode_utf8_acceptRanges : DataW Unit) = Lib.acceptData := by kernel_rfl
theorem utf_of {W : World} (hL : laidMet Tryz.prog laidI W) : Utf W :=
 utf8Tabs_of_readsT (ρ := Tryz.lays196_ren) (U8Types.of196 Tryz.lays196) ⟨by kernel_rfl, by kernel_rfl, by kernel_rfl, by kernel_rfl, by kernel_rfl, by kernel_rfl, by kernel_rfl⟩
  (dFirst ▸ Lib.laidMet.reads hL (by simp [laidI])) (dAccept ▸ Lib.laidMet.reads hL (by simp [laidI]))
theorem mln_of {W : World} (h : W.ShapedOpen Tryz.prog) : Mln W := Tryz.laysM144.s1_3 W h
theorem env_of {W : World} (hL : laidMet Tryz.prog laidI W) (h : W.ShapedOpen Tryz.prog) : Env W := ⟨utf_of hL, mln_of h⟩

end Go.Proofs.YtanblgcgbncbpaaGreatDoor
