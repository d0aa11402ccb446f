/- Texts of the proof of CodingSpreads, put together: LayD. -/
import Derived.Test.YtpinlcapgoljfaaGreatDoorCodingSpreadsZ21
import Derived.Test.YtpinlcapgoljfaaGreatDoorCodingSpreadsZ23
set_option linter.unusedVariables false
set_option linter.unusedSimpArgs false
/- LayoutFault of the reference. -/
namespace Go.Proofs.YtpinlcapgoljfaaGreatDoor
open Go.RowKit

theorem rkeyP_calls (w : World) (s : Str) (b : Bool) (h : keyB s = b) (hs : s.length ≤ 1000) : Calls Tryz.prog 57 #[.string ⟨s.toArray⟩] w (BoolPost w b) :=
 (rkey_calls w ⟨s.toArray⟩ (by simp [ByteArray.size]; omega)).mono fun e w' hh => ⟨by rw [hh.1, ← h], hh.2⟩
theorem offB_none {al : List AskR} {f ch : Str} {e : Bool} (h : askIx al f = none) : offB al f ch e = false := by
 unfold offB;rw [askIx_none h]
theorem offB_empty {al : List AskR} {f : Str} {k : Nat} (h : askIx al f = some k) : offB al f [] true = true := by
 obtain ⟨hk, _, hc, _⟩ := askIx_some h;unfold offB;rw [hc];simp
theorem offB_some {al : List AskR} {f ch : Str} (h : ch ≠ []) : offB al f ch true = offB al f ch false := by
 unfold offB
 cases choOf al f with
 | none => rfl
 | some cs => simp [h]
set_option maxRecDepth 100000 in
set_option maxHeartbeats 16000000 in
theorem layoutFault_calls (w : World) (v : Value) (L : LayR) (hL : LayV w L v) (hb : LayB L) : Calls Tryz.prog 30 #[v] w (IntPost w (layE L)) := by
 obtain ⟨A, n, c, A2, n2, c2, rfl, hA, hR⟩ := hL;have hn := hA.len;obtain ⟨hcap, hcap2⟩ := hA.cap;have hn2 := Ruls.len hR;have HA := Lib.hid hA;have HR := Lib.hid hR;have HLB := Lib.hid hb
 have HLE : Hid (layE L = if L.asks.length = 0 then 3 else if 40 < L.asks.length then 2 else if errsOf (askE L.asks) L.asks.length ≠ 0 then errsOf (askE L.asks) L.asks.length
  else if 60 < L.rules.length then 2 else errsOf (fun k => rulE L.asks (L.rules.getD k rulN)) L.rules.length) := Lib.hid rfl
 have HB0 := Lib.hid (Blk.new w 63 #[.slice A n c, .slice A2 n2 c2]);have HP0 := Lib.hid (pure_alloc w (.cells #[.slice A n c, .slice A2 n2 c2] 63));have HAT : Hid (∀ W, Pure w W → ∀ f, Calls Tryz.prog 70 #[.agg #[.slice A n c, .slice A2 n2 c2], .string ⟨f.toArray⟩] W (IntPost W (askI L.asks f))) := Lib.hid (fun W h f => askAt_calls W _ L f ⟨A, n, c, A2, n2, c2, rfl, hA.pure h, Sl.pure hR h⟩);have HHC : Hid (∀ W, Pure w W → ∀ f ch, Calls Tryz.prog 71 #[.agg #[.slice A n c, .slice A2 n2 c2], .string ⟨f.toArray⟩, .string ⟨ch.toArray⟩] W (BoolPost W (offB L.asks f ch false))) := Lib.hid (fun W h f ch => hasChoice_calls W _ L f ch ⟨A, n, c, A2, n2, c2, rfl, hA.pure h, Sl.pure hR h⟩);generalize layE L = le at *;clear hA hR hb
 go_enter Tryz.func30, Tryz.ntmps30
 go_upto_region 1 with (fail)
 generalize (w.alloc (.cells #[.slice A n c, .slice A2 n2 c2] 63)) = w1 at *;generalize w.heap.size = g1 at *;have hB0 := HB0.out;have c0 := hB0.cell 0; have c1 := hB0.cell 1; simp at c0 c1;clear hB0
 by_cases hn0 : n = 0
 ·subst hn0
  go_wp2_with fail
  go_ret;exact IntPost.of (by rw [HLE.out, if_pos hn]) HP0.out
 have hn0' : ((n : Int) == 0) = false := by rw [beq_eq_false_iff_ne]; omega
 by_cases hn40 : 40 < n
 ·have hn40' : (40 : Int) < (n : Int) := by omega
  go_wp2_with fail
  go_ret;exact IntPost.of (by rw [HLE.out, if_neg (by omega), if_pos (by omega)]) HP0.out
 have hn40' : ¬ (40 : Int) < (n : Int) := by omega
 rw [if_neg (by omega), if_neg (by omega)] at HLE
 go_wp2_with fail
 clear hn0' hn40'
 go_loopg [20] n (fun gk i wr => ∃ k : Nat, n - k = gk ∧ k ≤ n ∧ i = .int .i64 (k : Int) ∧ errsFrom (askE L.asks) L.asks.length k = errsOf (askE L.asks) L.asks.length ∧ Pure w1 wr)
 case atStart => exact ⟨0, by omega, by omega, rfl, rfl, Mod.refl _ _⟩
 case round =>
  obtain ⟨k, rfl, hk, rfl, hix, hm⟩ := hrel;have HIX := Lib.hid hix;clear hix c0 c1;have hm0 := HP0.out.trans hm
  by_cases hlt : k < n
  ·have hkl : k < L.asks.length := by omega
   have hAk := HA.out.pure hm0;obtain ⟨g, off, rfl, q0, q1, q2, q3⟩ := hAk.cells hkl;have HSTP := Lib.hid (fun W (h : Pure w W) => (HA.out.pure h).2 _ (List.getElem_mem hkl));have hxb := HLB.out.2.2.1 _ (List.getElem_mem hkl);have hi2 := errsFrom_step (askE L.asks) hkl;rw [HIX.out] at hi2
   have HRET : Hid (∀ e, askE L.asks k = e → e ≠ 0 → le = e) := Lib.hid (fun e h1 h2 => by
    rw [HLE.out, hi2, h1, if_neg h2, if_pos h2])
   have HNX : Hid (askE L.asks k = 0 → errsFrom (askE L.asks) L.asks.length (k + 1) = errsOf (askE L.asks) L.asks.length) := Lib.hid (fun h1 => by rw [hi2, if_pos h1])
   have HAE : Hid (askE L.asks k = if keyB L.asks[k].field = false then 5 else if twB L.asks k L.asks[k].field = true then 6 else if L.asks[k].ch.length = 0 then 3 else if 30 < L.asks[k].ch.length then 2 else if chsE L.asks[k].ch ≠ 0 then chsE L.asks[k].ch else if 0 ≤ L.asks[k].spread ∧ L.asks[k].spread ≤ 2 then 0 else 4) := Lib.hid (by
    unfold askE
    rw [show L.asks.getD k askN = L.asks[k] by simp [List.getD, hkl]])
   obtain ⟨q, hqi, hqt⟩ := twB_ix hkl
   have hai : askI L.asks L.asks[k].field = (q : Int) := by unfold askI; rw [hqi]
   have HQT := Lib.hid hqt;have HAC := Lib.hid (fun W h => HAT.out W h L.asks[k].field);rw [hai] at HAC;generalize L.asks[k] = x at *;obtain ⟨xf, xA, xc, xs, xm, xp⟩ := x;simp only [] at q0 q1 q2 q3 HSTP hxb HAE HQT HAC;obtain ⟨hxf, ⟨hxs, hxz⟩, _, _⟩ := hxb;simp only [StB] at hxf hxs hxz;have HXZ := Lib.hid hxz;have HXB := Lib.hid (Blk.new wr 113 #[.string ⟨xf.toArray⟩, .slice xA xs.length xc, .bool xm, .int .i64 xp]);have HPA := Lib.hid (hm.alloc (.cells #[.string ⟨xf.toArray⟩, .slice xA xs.length xc, .bool xm, .int .i64 xp] 113));have hBw := (HB0.out.modp hm).alloc (.cells #[.string ⟨xf.toArray⟩, .slice xA xs.length xc, .bool xm, .int .i64 xp] 113);have hBv := HB0.out.modp hm;have hx1 := HXB.out;have c0 := hBv.cell 0; have c1 := hBv.cell 1; simp at c0 c1;have d0 := hBw.cell 0; have d1 := hBw.cell 1; simp at d0 d1;have x0 := hx1.cell 0; have x1 := hx1.cell 1; have x2 := hx1.cell 2; have x3 := hx1.cell 3; simp at x0 x1 x2 x3;clear hBw hBv hx1 hi2 HIX hxz hqi hqt hai hAk;obtain ⟨kb, hkb⟩ : ∃ kb, keyB xf = kb := ⟨_, rfl⟩;have HKB := Lib.hid hkb;rw [hkb] at HAE
   go_wp2_with fail
   refine (rkeyP_calls _ _ kb HKB.out hxf).mono ?_;rintro e w4 ⟨rfl, hm4⟩;have HP4 := Lib.hid (HPA.out.trans hm4);have hx1 := HXB.out.modp hm4;have HX4 := Lib.hid hx1;have hb1 := HB0.out.modp HP4.out;clear q0 q1 q2 q3 c0 c1 d0 d1 x0 x1 x2 x3 hm4 hkb HKB hm hm0
   cases kb
   ·have HL := HRET.out 5 (by rw [HAE.out, if_pos rfl]) (by decide);have HP := Lib.hid (HP0.out.trans HP4.out);clear HNX HRET HAE
    go_wp2_with fail
    go_ret;exact IntPost.of HL HP.out
   rw [if_neg (by simp)] at HAE;have c0 := hb1.cell 0; have c1 := hb1.cell 1; simp at c0 c1;have x0 := hx1.cell 0; have x1 := hx1.cell 1; have x2 := hx1.cell 2; have x3 := hx1.cell 3; simp at x0 x1 x2 x3;clear hb1 hx1
   go_wp2_with fail
   refine (HAC.out _ (HP0.out.trans HP4.out)).mono ?_;rintro e w5 ⟨rfl, hm5⟩;have hx1 := HX4.out.modp hm5;have HX5 := Lib.hid hx1;have HP5 := Lib.hid (HP4.out.trans hm5);clear c0 c1 x0 x1 x2 x3 HX4 HAC
   by_cases hqk : q < k
   ·have hqk2 : (q : Int) < (k : Int) := by omega
    have HL := HRET.out 6 (by rw [HAE.out, if_pos (HQT.out.2 hqk)]) (by decide);have HP := Lib.hid (HP0.out.trans HP5.out);clear HNX HRET HAE HQT hqk
    go_wp2_with fail
    go_ret;exact IntPost.of HL HP.out
   have hqd : decide (q < k) = false := by rw [decide_eq_false_iff_not]; exact hqk
   rw [if_neg (fun h => hqk (HQT.out.1 h))] at HAE;clear HQT hqk;have x0 := hx1.cell 0; have x1 := hx1.cell 1; have x2 := hx1.cell 2; have x3 := hx1.cell 3; simp at x0 x1 x2 x3;clear hx1
   by_cases hx0 : xs.length = 0
   ·have HL := HRET.out 3 (by rw [HAE.out, if_pos hx0]) (by decide);have HP := Lib.hid (HP0.out.trans HP5.out)
    have hxz0 : ((xs.length : Int) == 0) = true := by rw [hx0]; rfl
    have hxz1 : (xs.length : Int) = 0 := by omega
    clear HNX HRET HAE hx0
    go_wp2_with fail
    go_ret;exact IntPost.of HL HP.out
   have hx0' : ((xs.length : Int) == 0) = false := by rw [beq_eq_false_iff_ne]; omega
   rw [if_neg hx0] at HAE
   by_cases hx30 : 30 < xs.length
   ·have HL := HRET.out 2 (by rw [HAE.out, if_pos hx30]) (by decide);have HP := Lib.hid (HP0.out.trans HP5.out)
    have hx30' : (30 : Int) < (xs.length : Int) := by omega
    clear HNX HRET HAE hx0
    go_wp2_with fail
    go_ret;exact IntPost.of HL HP.out
   have hx30' : ¬ (30 : Int) < (xs.length : Int) := by omega
   rw [if_neg hx30] at HAE;clear hx0 hx30;have HS5 := Lib.hid (HSTP.out w5 (HP0.out.trans HP5.out));clear HSTP
   go_wp2_with fail
   go_loopg [50] xs.length (fun gk i wi => ∃ j : Nat, xs.length - j = gk ∧ j ≤ xs.length ∧ i = .int .i64 (j : Int) ∧ errsFrom (chE xs) xs.length j = chsE xs ∧ Pure w5 wi)
   case atStart => exact ⟨0, by omega, by omega, rfl, rfl, Mod.refl _ _⟩
   case round =>
    obtain ⟨j, rfl, hj, rfl, hjx, hmj⟩ := hrel;have HJX := Lib.hid hjx;clear hjx x0 x1 x2 x3
    by_cases hjl : j < xs.length
    ·obtain ⟨A', n', c', e1, hc1, hc2, hl1, hr1⟩ := HS5.out
     injection e1 with e1 e2 e3
     subst e1 e2 e3;obtain ⟨gs, offs, rfl, hrs⟩ := hr1 (by omega);have hq := (hrs.mod hmj _root_.id).cell (strsV_get xs j hjl);have HTK := Lib.hid (slTake hrs hj (by omega : j ≤ xc) hc2);have hi3 := errsFrom_step (chE xs) hjl;rw [HJX.out] at hi3;have HI3 := Lib.hid hi3
     have HCE : Hid (chE xs j = if keyB xs[j] = false then 5 else if xs[j] ∈ xs.take j then 6 else 0) := Lib.hid (by
      unfold chE
      rw [show xs.getD j [] = xs[j] by simp [List.getD, hjl]])
     have hzs := HXZ.out _ (List.getElem_mem hjl);generalize xs[j] = s at *;have HCS := Lib.hid (fun W (h : Pure w5 W) => containsQs_calls W _ _ s (HTK.out.pure h));simp only [any_memT] at HCS;obtain ⟨kb2, hkb⟩ : ∃ kb, keyB s = kb := ⟨_, rfl⟩;have HKB := Lib.hid hkb;rw [hkb] at HCE;have hx1 := HX5.out.modp hmj;have HXJ := Lib.hid hx1;have HMJ := Lib.hid hmj;clear hkb hi3 hr1 hl1 hrs HJX hx1 hmj
     go_wp2_with fail
     refine (rkeyP_calls _ _ kb2 HKB.out hzs).mono ?_;rintro e w6 ⟨rfl, hm6⟩;have HM6 := Lib.hid (HMJ.out.trans hm6);have hx1 := HXJ.out.modp hm6;clear hm6 HXJ HMJ HKB hq
     cases kb2
     ·have h1 : chsE xs = 5 := by rw [HI3.out, if_neg (by rw [HCE.out, if_pos rfl]; decide), HCE.out, if_pos rfl]
      have HL := HRET.out 5 (by rw [HAE.out, h1, if_pos (by decide)]) (by decide);have HP := Lib.hid (HP0.out.trans (HP5.out.trans HM6.out));clear h1 HRET HNX HAE HI3 HCE hx1
      go_wp2_with fail
      go_ret;exact IntPost.of HL HP.out
     rw [if_neg (by simp)] at HCE;have x0 := hx1.cell 0; have x1 := hx1.cell 1; have x2 := hx1.cell 2; have x3 := hx1.cell 3; simp at x0 x1 x2 x3;clear hx1
     go_wp2_with fail
     refine (HCS.out _ HM6.out).mono ?_;rintro e w7 ⟨rfl, hm7⟩;have HM7 := Lib.hid (HM6.out.trans hm7);clear hm7 HM6 HCS x0 x1 x2 x3
     by_cases hin : s ∈ xs.take j
     ·have hd : decide (s ∈ xs.take j) = true := by simpa using hin
      rw [hd]
      have h1 : chsE xs = 6 := by rw [HI3.out, if_neg (by rw [HCE.out, if_pos hin]; decide), HCE.out, if_pos hin]
      have HL := HRET.out 6 (by rw [HAE.out, h1, if_pos (by decide)]) (by decide);have HP := Lib.hid (HP0.out.trans (HP5.out.trans HM7.out));clear h1 HRET HNX HAE HI3 HCE hin hd
      go_wp2_with fail
      go_ret;exact IntPost.of HL HP.out
     ·have hd : decide (s ∈ xs.take j) = false := by simpa using hin
      rw [hd];have HN : Hid (errsFrom (chE xs) xs.length (j + 1) = chsE xs) := Lib.hid (by rw [HI3.out, if_pos (by rw [HCE.out, if_neg hin])]);clear HI3 HCE hin hd
      go_wp2_with fail
      go_roundg (xs.length - (j + 1))
      case measure => omega
      case rel => exact ⟨j + 1, rfl, hjl, by simp, HN.out, HM7.out⟩
    ·have hje : xs.length = j := by omega
     have HM6 := Lib.hid (HP5.out.trans hmj)
     have hcz : chsE xs = 0 := by rw [← HJX.out, ← hje]; exact errsFrom_end _ _
     rw [hcz, if_neg (by simp)] at HAE;have hx1 := HX5.out.modp hmj;have x0 := hx1.cell 0; have x1 := hx1.cell 1; have x2 := hx1.cell 2; have x3 := hx1.cell 3; simp at x0 x1 x2 x3;clear hx1 hcz HJX
     have hjl2 : ¬ (j : Int) < (xs.length : Int) := by omega
     clear hjl hj hje hmj
     go_wp2_with fail
     refine (rin_calls _ _ _ _).mono ?_;rintro e w7 ⟨rfl, rfl⟩
     have HIN : Hid (inB xp 0 2 = true ↔ (0 ≤ xp ∧ xp ≤ 2)) := Lib.hid ⟨inB_true, fun h => by
      cases hb : inB xp 0 2
      ·exact absurd h (inB_false hb)
      ·rfl⟩
     cases hin : inB xp 0 2
     ·have HP := Lib.hid (HP0.out.trans HM6.out);have HL := HRET.out 4 (by rw [HAE.out, if_neg (fun h => by rw [HIN.out.2 h] at hin; cases hin)]) (by decide);clear HRET HNX HAE HIN
      go_wp2_with fail
      go_ret;exact IntPost.of HL HP.out
     ·have HN := Lib.hid (HNX.out (by rw [HAE.out, if_pos (HIN.out.1 hin)]));clear HRET HNX HAE HIN
      go_wp2_with fail
      go_roundg (n - (k + 1))
      case measure => omega
      case rel => exact ⟨k + 1, rfl, hlt, by simp, HN.out, HM6.out⟩
  ·have hke : k = L.asks.length := by omega
   have hez : errsOf (askE L.asks) L.asks.length = 0 := by rw [← HIX.out, hke]; exact errsFrom_end _ _
   rw [hez, if_neg (by simp)] at HLE;have hBw := HB0.out.modp hm;have c0 := hBw.cell 0; have c1 := hBw.cell 1; simp at c0 c1
   have hkn : n = k := by omega
   have HMM := Lib.hid hm;clear hBw hez hke HIX hm0 hk hm
   by_cases h60 : 60 < n2
   ·have hg60 : (60 : Int) < (n2 : Int) := by omega
    have HL : le = 2 := by rw [HLE.out, if_pos (by omega)]
    have HP := Lib.hid (HP0.out.trans HMM.out);subst hkn;clear hlt
    go_wp2_with fail
    go_ret;exact IntPost.of HL HP.out
   have hg60 : ¬ (60 : Int) < (n2 : Int) := by omega
   rw [if_neg (by omega)] at HLE
   have hn60 : n2 ≤ 60 := by omega
   subst hkn;clear hlt h60
   go_wp2_with fail
   clear hg60
   go_loopg [77] n2 (fun gk i wr => ∃ j : Nat, n2 - j = gk ∧ j ≤ n2 ∧ i = .int .i64 (j : Int) ∧ errsFrom (fun k => rulE L.asks (L.rules.getD k rulN)) L.rules.length j = errsOf (fun k => rulE L.asks (L.rules.getD k rulN)) L.rules.length ∧ Pure w1 wr)
   case atStart => exact ⟨0, by omega, by omega, rfl, rfl, HMM.out⟩
   case round =>
    clear c0 c1 HMM;obtain ⟨j, rfl, hj, rfl, hjx, hmj⟩ := hrel;have HJX := Lib.hid hjx;clear hjx
    by_cases hjl : j < n2
    ·have hjr : j < L.rules.length := by omega
     have hRj := Sl.pure HR.out (HP0.out.trans hmj);obtain ⟨gr, offr, rfl, q0, q1, q2, q3, q4⟩ := Ruls.cells hRj hjr;have hrb := HLB.out.2.2.2 _ (List.getElem_mem hjr);have hi2 := errsFrom_step (fun k => rulE L.asks (L.rules.getD k rulN)) hjr;rw [HJX.out] at hi2;simp only [show L.rules.getD j rulN = L.rules[j] by simp [List.getD, hjr]] at hi2;obtain ⟨re, hre⟩ : ∃ re, rulE L.asks L.rules[j] = re := ⟨_, rfl⟩;rw [hre] at hi2;have HRET : Hid (∀ e, re = e → e ≠ 0 → le = e) := Lib.hid (fun e h1 h2 => by rw [HLE.out, hi2, if_neg (by rw [h1]; exact h2), h1]);have HNX : Hid (re = 0 → errsFrom (fun k => rulE L.asks (L.rules.getD k rulN)) L.rules.length (j + 1) = errsOf (fun k => rulE L.asks (L.rules.getD k rulN)) L.rules.length) := Lib.hid (fun h1 => by rw [hi2, if_pos h1]);have HRE := Lib.hid hre.symm;unfold rulE at HRE;generalize L.rules[j] = r at *;obtain ⟨rk, rf, ri, ro, rt⟩ := r;simp only [] at q0 q1 q2 q3 q4 hrb HRE;have HX7 := Lib.hid (Blk.new wr 115 #[.int .i64 rk, .string ⟨rf.toArray⟩, .string ⟨ri.toArray⟩, .string ⟨ro.toArray⟩, .string ⟨rt.toArray⟩]);have HM7 := Lib.hid (hmj.alloc (.cells #[.int .i64 rk, .string ⟨rf.toArray⟩, .string ⟨ri.toArray⟩, .string ⟨ro.toArray⟩, .string ⟨rt.toArray⟩] 115));have hb1 := HB0.out.modp HM7.out;have hx1 := HX7.out;clear hre hi2 hRj hrb HJX
     go_upto_region 32 with (fail)
     generalize (wr.alloc (.cells #[.int .i64 rk, .string ⟨rf.toArray⟩, .string ⟨ri.toArray⟩, .string ⟨ro.toArray⟩, .string ⟨rt.toArray⟩] 115)) = W7 at *;generalize wr.heap.size = g7 at *;clear q0 q1 q2 q3 q4 hmj wr;have c0 := hb1.cell 0; have c1 := hb1.cell 1; simp at c0 c1;have x0 := hx1.cell 0; have x1 := hx1.cell 1; have x2 := hx1.cell 2; have x3 := hx1.cell 3; have x4 := hx1.cell 4; simp at x0 x1 x2 x3 x4;clear hb1 hx1
     go_wp2_with fail
     refine (rin_calls _ _ _ _).mono ?_;rintro e w8 ⟨rfl, rfl⟩
     have HIN : Hid (inB rk 1 2 = true ↔ (rk = 1 ∨ rk = 2)) := Lib.hid ⟨fun h => by have := inB_true h; omega, fun h => by
      cases hb : inB rk 1 2
      ·exact absurd (by omega) (inB_false hb)
      ·rfl⟩
     cases hin : inB rk 1 2
     ·have HL := HRET.out 4 (by rw [HRE.out, if_pos (fun h => by rw [HIN.out.2 h] at hin; cases hin)]) (by decide);have HP := Lib.hid (HP0.out.trans HM7.out);clear HRET HNX HRE HIN
      go_wp2_with fail
      go_ret;exact IntPost.of HL HP.out
     rw [if_neg (fun h => h (HIN.out.1 hin))] at HRE;clear HIN
     go_wp2_with fail
     refine (HHC.out _ (HP0.out.trans HM7.out) _ _).mono ?_;rintro e w9 ⟨rfl, hm9⟩;have HM9 := Lib.hid (HM7.out.trans hm9);have HX9 := Lib.hid (HX7.out.modp hm9);have hb1 := HB0.out.modp HM9.out;have hx1 := HX9.out;clear c0 c1 x0 x1 x2 x3 x4 HX7 HM7 hm9
     cases ho1 : offB L.asks rf ri false
     ·have HL := HRET.out 8 (by rw [HRE.out, if_pos (.inl ho1)]) (by decide);have HP := Lib.hid (HP0.out.trans HM9.out);clear HRET HNX HRE hb1 hx1
      go_wp2_with fail
      go_ret;exact IntPost.of HL HP.out
     have c0 := hb1.cell 0; have c1 := hb1.cell 1; simp at c0 c1;have x0 := hx1.cell 0; have x1 := hx1.cell 1; have x2 := hx1.cell 2; have x3 := hx1.cell 3; have x4 := hx1.cell 4; simp at x0 x1 x2 x3 x4;clear hb1 hx1
     go_wp2_with fail
     refine (HAT.out _ (HP0.out.trans HM9.out) _).mono ?_;rintro e w10 ⟨rfl, hm10⟩;have HM10 := Lib.hid (HM9.out.trans hm10);have HX10 := Lib.hid (HX9.out.modp hm10);have hb1 := HB0.out.modp HM10.out;have hx1 := HX10.out;clear c0 c1 x0 x1 x2 x3 x4 HX9 HM9 hm10;have TAIL : Hid (offB L.asks ro rt true = true → re = if rf = ro then 14 else 0) := Lib.hid (fun h => by rw [HRE.out, if_neg (by rw [ho1, h]; simp)]);have TAIL8 : Hid (offB L.asks ro rt true = false → le = 8) := Lib.hid (fun h => HRET.out 8 (by rw [HRE.out, if_pos (.inr h)]) (by decide));have TRET : Hid (offB L.asks ro rt true = true → rf = ro → le = 14) := Lib.hid (fun h h2 => HRET.out 14 (by rw [TAIL.out h, if_pos h2]) (by decide));have TNX : Hid (offB L.asks ro rt true = true → rf ≠ ro → errsFrom (fun k => rulE L.asks (L.rules.getD k rulN)) L.rules.length (j + 1) = errsOf (fun k => rulE L.asks (L.rules.getD k rulN)) L.rules.length) := Lib.hid (fun h h2 => HNX.out (by rw [TAIL.out h, if_neg h2]));clear TAIL HRET HNX HRE
     cases hix : askIx L.asks ro with
     | none =>
      have hai : askI L.asks ro = -1 := by unfold askI; rw [hix]
      rw [hai];have HL := TAIL8.out (offB_none hix);have HP := Lib.hid (HP0.out.trans HM10.out);clear TAIL8 TRET TNX hai hix hb1 hx1
      go_wp2_with fail
      go_ret;exact IntPost.of HL HP.out
     | some q =>
      have hai : askI L.asks ro = (q : Int) := by unfold askI; rw [hix]
      rw [hai];have HIX2 := Lib.hid hix;clear hai hix;have c0 := hb1.cell 0; have c1 := hb1.cell 1; simp at c0 c1;have x0 := hx1.cell 0; have x1 := hx1.cell 1; have x2 := hx1.cell 2; have x3 := hx1.cell 3; have x4 := hx1.cell 4; simp at x0 x1 x2 x3 x4;clear hb1 hx1;obtain ⟨bf, hbf⟩ : ∃ bf, (rf == ro) = bf := ⟨_, rfl⟩;have HBF := Lib.hid hbf
      by_cases hrt : rt = []
      ·subst hrt;have hob := offB_empty HIX2.out
       cases bf
       ·have HN := Lib.hid (TNX.out hob (by simpa using HBF.out));clear TAIL8 TRET TNX hob HBF
        go_wp2_with fail
        go_roundg (n2 - (j + 1))
        case measure => omega
        case rel => exact ⟨j + 1, rfl, hjl, by simp, HN.out, HM10.out⟩
       ·have HL := TRET.out hob (by simpa using HBF.out);have HP := Lib.hid (HP0.out.trans HM10.out);clear TAIL8 TRET TNX hob HBF
        go_wp2_with fail
        go_ret;exact IntPost.of HL HP.out
      ·have hrt2 : List.isEmpty rt = false := by simpa using hrt
       rw [offB_some hrt] at TAIL8 TRET TNX;have hrt3 : rt ≠ [] := hrt;clear hrt hrt3
       go_wp2_with fail
       refine (HHC.out _ (HP0.out.trans HM10.out) _ _).mono ?_;rintro e w11 ⟨rfl, hm11⟩;have HM11 := Lib.hid (HM10.out.trans hm11);have hx1 := HX10.out.modp hm11;clear c0 c1 x0 x1 x2 x3 x4 hm11
       cases ho2 : offB L.asks ro rt false
       ·have HL := TAIL8.out ho2;have HP := Lib.hid (HP0.out.trans HM11.out);clear TAIL8 TRET TNX HBF hx1
        go_wp2_with fail
        go_ret;exact IntPost.of HL HP.out
       ·have x0 := hx1.cell 0; have x1 := hx1.cell 1; have x2 := hx1.cell 2; have x3 := hx1.cell 3; have x4 := hx1.cell 4; simp at x0 x1 x2 x3 x4;clear hx1
        cases bf
        ·have HN := Lib.hid (TNX.out ho2 (by simpa using HBF.out));clear TAIL8 TRET TNX HBF
         go_wp2_with fail
         go_roundg (n2 - (j + 1))
         case measure => omega
         case rel => exact ⟨j + 1, rfl, hjl, by simp, HN.out, HM11.out⟩
        ·have HL := TRET.out ho2 (by simpa using HBF.out);have HP := Lib.hid (HP0.out.trans HM11.out);clear TAIL8 TRET TNX HBF
         go_wp2_with fail
         go_ret;exact IntPost.of HL HP.out
    ·have hje : j = L.rules.length := by omega
     have HL : le = 0 := by rw [HLE.out, ← HJX.out, hje]; exact errsFrom_end _ _
     have HP := Lib.hid (HP0.out.trans hmj)
     have hjn : n2 = j := by omega
     subst hjn;clear hje HJX hjl hj hmj
     go_wp2_with fail
     go_ret;exact IntPost.of HL HP.out

end Go.Proofs.YtpinlcapgoljfaaGreatDoor
