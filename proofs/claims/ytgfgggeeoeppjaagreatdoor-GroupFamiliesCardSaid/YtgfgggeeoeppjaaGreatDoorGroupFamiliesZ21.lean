/- Texts of the proof of GroupFamilies, put together: GroA. -/
import Derived.Test.YtgfgggeeoeppjaaGreatDoorGroupFamiliesZ14
import Derived.Test.YtgfgggeeoeppjaaGreatDoorGroupFamiliesZ16
import Derived.Test.YtgfgggeeoeppjaaGreatDoorGroupFamiliesZ17
set_option linter.unusedVariables false
set_option linter.unusedSimpArgs false
set_option maxRecDepth 100000
/- RanksFault of the reference. -/
namespace Go.Proofs.YtgfgggeeoeppjaaGreatDoor
open Go.RowKit
def rnkE (ss : List Str) : Int := if 200 < ss.length then 2 else chsE ss
theorem chE_at {ss : List Str} {k : Nat} (h : k < ss.length) : chE ss k = if keyB ss[k] = false then 5 else if ss[k] ∈ ss.take k then 6 else 0 := by
 unfold chE;rw [show ss.getD k [] = ss[k] by simp [List.getD, h]]
set_option maxHeartbeats 4000000 in
theorem ranksFault_calls (w : World) (v : Value) (ss : List Str) (hv : Sl w 9 1 v (strsV ss)) (hz : ∀ s ∈ ss, s.length ≤ 1000) (hl : ss.length ≤ 1000000) : Calls Tryz.prog 31 #[v] w (IntPost w (rnkE ss)) := by
 obtain ⟨A, n, c, rfl, hc1, hc2, hl2, hr⟩ := hv
 have hln : ss.length = n := by simpa [strsV] using hl2
 subst hln;have HR := Lib.hid hr;have HZ := Lib.hid hz;have HRN : Hid (rnkE ss = if 200 < ss.length then 2 else chsE ss) := Lib.hid rfl;clear hl2 hr hz;generalize rnkE ss = re at *
 go_enter Tryz.func31, Tryz.ntmps31
 by_cases hbig : 200 < ss.length
 ·have hbig2 : (200 : Int) < (ss.length : Int) := by omega
  go_wp2_with fail
  go_ret;exact IntPost.of (by rw [HRN.out, if_pos hbig]) (Mod.refl _ _)
 have hbig2 : ¬ (200 : Int) < (ss.length : Int) := by omega
 rw [if_neg hbig] at HRN
 go_wp2_with fail
 clear hbig2
 go_loopg [10] ss.length (fun gk i wr => ∃ k : Nat, ss.length - k = gk ∧ k ≤ ss.length ∧ i = .int .i64 (k : Int) ∧ errsFrom (chE ss) ss.length k = chsE ss ∧ Pure w wr)
 case atStart => exact ⟨0, by omega, by omega, rfl, rfl, Mod.refl _ _⟩
 case round =>
  obtain ⟨k, rfl, hk, rfl, hix, hm⟩ := hrel;have HIX := Lib.hid hix;clear hix
  by_cases hlt : k < ss.length
  ·obtain ⟨g, off, rfl, hrow⟩ := HR.out (by omega);have hrw := hrow.mod hm id;have hq := hrw.cell (strsV_get ss k hlt);have HT := Lib.hid (slTake hrw hk (by omega : k ≤ c) hc2);have hi2 := errsFrom_step (chE ss) hlt;rw [HIX.out] at hi2;have HI2 := Lib.hid hi2;have HAT := Lib.hid (chE_at hlt);have hzk := HZ.out _ (List.getElem_mem hlt)
   have y1 : (⟨ss[k].toArray⟩ : ByteArray).size ≤ 1000000 := by simp [ByteArray.size]; omega
   clear hi2 HIX hrow hrw;generalize ss[k] = x at *
   go_wp2_with fail
   refine (rkey_calls _ _ y1).mono ?_;rintro e w1 ⟨rfl, hm1⟩;rw [show (⟨x.toArray⟩ : ByteArray).data.toList = x from rfl]
   cases hp : keyB x
   ·go_wp2_with fail
    go_ret;exact IntPost.of (by rw [HRN.out, HI2.out, show chE ss k = 5 from by rw [HAT.out, if_pos hp]]; rfl) (hm.trans hm1)
   ·have HC := Lib.hid (containsQs_calls w1 _ _ x (HT.out.pure hm1));rw [any_memT] at HC
    go_wp2_with fail
    refine HC.out.mono ?_;rintro e w2 ⟨rfl, hm2⟩;have HM := Lib.hid ((hm.trans hm1).trans hm2)
    by_cases hin : x ∈ ss.take k
    ·have hd : decide (x ∈ ss.take k) = true := by simpa using hin
     have HIN := Lib.hid hin;rw [hd];clear hin hd
     go_wp2_with fail
     go_ret;exact IntPost.of (by rw [HRN.out, HI2.out, show chE ss k = 6 from by rw [HAT.out, if_neg (by rw [hp]; simp), if_pos HIN.out]]; rfl) HM.out
    ·have hd : decide (x ∈ ss.take k) = false := by simpa using hin
     have HIN := Lib.hid hin;rw [hd];clear hin hd
     go_wp2_with fail
     go_roundg (ss.length - (k + 1))
     case measure => omega
     case rel => exact ⟨k + 1, rfl, hlt, by simp, by rw [HI2.out, show chE ss k = 0 from by rw [HAT.out, if_neg (by rw [hp]; simp), if_neg HIN.out]]; rfl, HM.out⟩
  ·have hke : k = ss.length := by omega
   have HS := Lib.hid (errsFrom_end (chE ss) ss.length);subst hke
   go_wp2_with fail
   go_ret;exact IntPost.of (by rw [HRN.out, ← HIX.out]; exact HS.out) hm
end Go.Proofs.YtgfgggeeoeppjaaGreatDoor
