/- Package sample's natural numbers: times. -/
import Derived.Test.YtdknpekbonmmhaaGreatDoorNatA
namespace Go.Proofs.YtdknpekbonmmhaaGreatDoor
set_option linter.unusedVariables false
set_option linter.unusedSimpArgs false
open Go.RowKit

def TimesRel (w : World) (g : Nat) (xs ys : List Nat) (gk : Nat) (i : Value) (wr : World) : Prop :=
  ∃ (k : Nat) (us : List Nat), xs.length - k = gk ∧ k ≤ xs.length ∧ i = .int .i64 (k : Int) ∧ us.length = xs.length + ys.length ∧ (∀ d ∈ us, d < 4294967296) ∧
    (∀ j, k + ys.length ≤ j → us.getD j 0 = 0) ∧ val B32 us = val B32 (xs.take k) * val B32 ys ∧ Blk wr g 231 (u32s us).toArray ∧ Pure w wr
def TimesIn (w : World) (g : Nat) (xs ys : List Nat) (i a V0 gk : Nat) (cy kk : Value) (wr : World) : Prop :=
  ∃ (k c : Nat) (us : List Nat), ys.length - k = gk ∧ k ≤ ys.length ∧ cy = .int .u64 (c : Int) ∧ c < 4294967296 ∧ kk = .int .i64 (k : Int) ∧ us.length = xs.length + ys.length ∧ (∀ d ∈ us, d < 4294967296) ∧
    (∀ j, i + ys.length ≤ j → us.getD j 0 = 0) ∧ val B32 us + B32 ^ (i + k) * c = V0 + B32 ^ i * a * val B32 (ys.take k) ∧ Blk wr g 231 (u32s us).toArray ∧ Pure w wr

theorem times_step {w wr : World} {g : Nat} {xs ys us : List Nat} {i a V0 k c : Nat} {n : Int} (hi : i < xs.length) (hk : k < ys.length) (hul : us.length = xs.length + ys.length) (hud : ∀ d ∈ us, d < 4294967296)
    (hz : ∀ j, i + ys.length ≤ j → us.getD j 0 = 0) (hval : val B32 us + B32 ^ (i + k) * c = V0 + B32 ^ i * a * val B32 (ys.take k)) (hB : Blk wr g 231 (u32s us).toArray) (hm : Pure w wr) (hg : w.heap.size ≤ g)
    (ha : a < 4294967296) (hb : ys.getD k 0 < 4294967296) (hc : c < 4294967296) (hn : n = ((a * ys.getD k 0 + us.getD (i + k) 0 + c : Nat) : Int)) :
    TimesIn w g xs ys i a V0 (ys.length - (k + 1)) (.int .u64 (n / 4294967296)) (.int .i64 ((k : Int) + 1)) (wr.setCell ⟨g, i + k, none⟩ (.int .u32 (n % 4294967296))) := by
  have hv := val_set B32 us (i + k) ((a * ys.getD k 0 + us.getD (i + k) 0 + c) % B32) (by omega)
  have hstep := mul_step B32 i k a (ys.getD k 0) c (us.getD (i + k) 0) _ V0 _ _ hval hv
  rw [← val_take_succ] at hstep
  have hp := mul_bound a (ys.getD k 0) ha hb
  have ho := getD_lt (B := 4294967296) (by omega) hud (i + k)
  rw [B32_eq] at hstep
  generalize a * ys.getD k 0 = p at *
  generalize us.getD (i + k) 0 = o at *
  have e1 : n / 4294967296 = (((p + o + c) / 4294967296 : Nat) : Int) := by omega
  have e2 : n % 4294967296 = (((p + o + c) % 4294967296 : Nat) : Int) := by omega
  rw [e1, e2]
  refine ⟨k + 1, (p + o + c) / 4294967296, us.set (i + k) ((p + o + c) % 4294967296), by omega, by omega, rfl, by omega, by simp, by simpa using hul, mem_set_lt hud (by omega), ?_, ?_, ?_, hm.setCell (.inr hg) _⟩
  · intro j hj
    rw [getD_set_ne _ _ _ _ (by omega)]
    exact hz j hj
  · rw [B32_eq]; exact hstep
  · have := hB.set (i + k) (.int .u32 (((p + o + c) % 4294967296 : Nat) : Int))
    rwa [u32s_set] at this

theorem times_round {w wr : World} {g : Nat} {xs ys us : List Nat} {i a V0 c : Nat} (hi : i < xs.length) (hul : us.length = xs.length + ys.length) (hud : ∀ d ∈ us, d < 4294967296)
    (hz : ∀ j, i + ys.length ≤ j → us.getD j 0 = 0) (hval : val B32 us + B32 ^ (i + ys.length) * c = V0 + B32 ^ i * a * val B32 (ys.take ys.length)) (hB : Blk wr g 231 (u32s us).toArray) (hm : Pure w wr) (hg : w.heap.size ≤ g)
    (ha : xs.getD i 0 = a) (hc : c < 4294967296) (hV0 : V0 = val B32 (xs.take i) * val B32 ys) :
    TimesRel w g xs ys (xs.length - (i + 1)) (.int .i64 ((i : Int) + 1)) (wr.setCell ⟨g, i + ys.length, none⟩ (.int .u32 (c : Int))) := by
  have hv := val_set B32 us (i + ys.length) c (by omega)
  rw [hz _ (Nat.le_refl _)] at hv
  rw [List.take_of_length_le (Nat.le_refl _)] at hval
  refine ⟨i + 1, us.set (i + ys.length) c, by omega, by omega, by simp, by simpa using hul, mem_set_lt hud hc, ?_, ?_, ?_, hm.setCell (.inr hg) _⟩
  · intro j hj
    rw [getD_set_ne _ _ _ _ (by omega)]
    exact hz j (by omega)
  · rw [val_take_succ, ha]
    exact mul_round B32 i ys.length c _ _ V0 _ _ a hval hV0 hv
  · have := hB.set (i + ys.length) (.int .u32 (c : Int))
    rwa [u32s_set] at this

set_option maxRecDepth 100000 in
set_option maxHeartbeats 1000000 in
theorem times_calls (w : World) (a b : Value) (x y L M : Nat) (hx : IsNat w a x L) (hy : IsNat w b y M) (hL : L ≤ 1000000) (hM : M ≤ 1000000) :
    Calls Tryz.prog 325 #[a, b] w (NatPost w (x * y) (L + M)) := by
  obtain ⟨xs, ⟨A1, n1, c1, rfl, hc1, hc1', hl1, hr1⟩, hd1, hN1, rfl, hxl⟩ := hx
  obtain ⟨ys, ⟨A2, n2, c2, rfl, hc2, hc2', hl2, hr2⟩, hd2, hN2, rfl, hyl⟩ := hy
  rw [u32s_length, Nat.mul_one] at hl1 hl2
  subst hl1 hl2
  have hmk := run_make_one (P := Tryz.prog) 335 231 (.int .u32 0) 4 Tryz.underlying335 info_u32 rfl .i64 .i64 (xs.length + ys.length) ((xs.length : Int) + (ys.length : Int)) (by omega) (by omega) (by omega) (zero32 (xs.length + ys.length)) (by simp only [zero32, u32s_zeros])
  have HD1 := Lib.hid hd1
  have HD2 := Lib.hid hd2
  have HR1 := Lib.hid hr1
  have HR2 := Lib.hid hr2
  clear hd1 hd2 hr1 hr2 hN1 hN2
  go_enter Tryz.func325, Tryz.ntmps325
  go_wp2_with fail
  clear hmk
  go_loopg [20] xs.length (fun gk i wr => TimesRel w w.heap.size xs ys gk i wr)
  case atStart =>
    refine ⟨0, List.replicate (xs.length + ys.length) 0, by omega, by omega, rfl, by simp, ?_, ?_, ?_, Blk.new _ _ _, (Mod.refl _ _).alloc _⟩
    · intro d hd
      rw [List.mem_replicate] at hd
      omega
    · intro j _
      simp [List.getD, List.getElem?_replicate]
      split <;> rfl
    · rw [val_zeros]; simp [val_nil]
  case round =>
    obtain ⟨i, us, rfl, hi, rfl, hul, hud, hz, hval, hB, hm⟩ := hrel
    have HUL := Lib.hid hul
    have HUD := Lib.hid hud
    have HV := Lib.hid hval
    have HZ := Lib.hid hz
    clear hul hud hval hz
    by_cases hlt : i < xs.length
    · obtain ⟨g1, o1, rfl, hrr1⟩ := HR1.out (by omega)
      have hq1 := (hrr1.mod hm id).cell (u32s_get xs i hlt)
      have hb1 := getD_lt (B := 4294967296) (by omega) HD1.out i
      obtain ⟨a, ha⟩ : ∃ a, xs.getD i 0 = a := ⟨_, rfl⟩
      rw [ha] at hq1 hb1
      have HA := Lib.hid ha
      clear ha hrr1
      go_wp2_with fail
      obtain ⟨wo, rfl⟩ : ∃ wo : World, wo = wr := ⟨_, rfl⟩
      clear hq1
      go_loopg [8, 27] ys.length (fun gk cy kk wr => TimesIn w w.heap.size xs ys i a (val B32 us) gk cy kk wr)
      case atStart => exact ⟨0, 0, us, by omega, by omega, rfl, by omega, rfl, HUL.out, HUD.out, HZ.out, by simp [val_nil], hB, hm⟩
      case round =>
        clear hB hm
        have HV0 := HV
        clear HV HUL HUD HZ
        obtain ⟨k, c, vs, rfl, hk, rfl, hc, rfl, hul, hud, hz, hval, hB, hm⟩ := hrel
        have HUL := Lib.hid hul
        have HUD := Lib.hid hud
        have HV := Lib.hid hval
        have HZ := Lib.hid hz
        clear hul hud hval hz
        by_cases hkl : k < ys.length
        · obtain ⟨g2, o2, rfl, hrr2⟩ := HR2.out (by omega)
          have hq2 := (hrr2.mod hm id).cell (u32s_get ys k hkl)
          have hb2 := getD_lt (B := 4294967296) (by omega) HD2.out k
          obtain ⟨b, hb⟩ : ∃ b, ys.getD k 0 = b := ⟨_, rfl⟩
          rw [hb] at hq2 hb2
          have HBB := Lib.hid hb
          clear hb hrr2
          have hcell := (hB.cell (i + k)).trans ((by simp : (u32s vs).toArray[i + k]? = (u32s vs)[i + k]?).trans (u32s_get vs (i + k) (by rw [HUL.out]; omega)))
          have hb3 := getD_lt (B := 4294967296) (by omega) HUD.out (i + k)
          obtain ⟨o, ho⟩ : ∃ o, vs.getD (i + k) 0 = o := ⟨_, rfl⟩
          rw [ho] at hcell hb3
          have HO := Lib.hid ho
          clear ho
          have hfr := hB.frozen (i + k)
          obtain ⟨p, hp⟩ : ∃ p : Nat, a * b = p := ⟨_, rfl⟩
          have hpb := mul_bound a b hb1 hb2
          rw [hp] at hpb
          have hpi : (a : Int) * (b : Int) = (p : Int) := by rw [← hp]; simp
          have HP := Lib.hid hp
          clear hp
          go_wp2_with fail
          go_roundg (ys.length - (k + 1))
          case measure => omega
          case rel =>
            exact times_step hlt hkl HUL.out HUD.out HZ.out HV.out hB hm (Nat.le_refl _) hb1 (by rw [HBB.out]; exact hb2) hc (by rw [HBB.out, HP.out, HO.out]; omega)
        · have hke : k = ys.length := by omega
          subst hke
          have hcell := (hB.cell (i + ys.length)).trans ((by simp : (u32s vs).toArray[i + ys.length]? = (u32s vs)[i + ys.length]?).trans (u32s_get vs (i + ys.length) (by rw [HUL.out]; omega)))
          have hfr := hB.frozen (i + ys.length)
          generalize vs.getD (i + ys.length) 0 = o at hcell
          go_wp2_with fail
          go_roundg (xs.length - (i + 1))
          case measure => omega
          case rel => exact times_round hlt HUL.out HUD.out HZ.out HV.out hB hm (Nat.le_refl _) HA.out hc HV0.out
    · have hend : val B32 us = val B32 xs * val B32 ys := by
        have := HV.out
        rwa [List.take_of_length_le (by omega)] at this
      have HEND := Lib.hid hend
      clear hend
      go_wp2_with fail
      rw [show xs.length + ys.length = us.length from HUL.out.symm]
      refine (cut_calls _ w.heap.size _ us hB.row0 HUD.out (Nat.le_refl _) (by rw [HUL.out]; omega)).mono ?_
      rintro e w' ⟨v, rfl, hv, hm'⟩
      go_wp2_with fail
      go_ret
      refine ⟨v, rfl, ?_, hm.trans hm'⟩
      rw [HEND.out] at hv
      exact hv.more (by rw [HUL.out]; omega)

end Go.Proofs.YtdknpekbonmmhaaGreatDoor
