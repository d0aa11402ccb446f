/- Package sample's natural numbers: over, compare, newNatural; bits.Div32. -/
import Derived.Test.YtdknpekbonmmhaaGreatDoorNatB
namespace Go.Proofs.YtdknpekbonmmhaaGreatDoor
set_option linter.unusedVariables false
set_option linter.unusedSimpArgs false
open Go.RowKit

theorem nat_or_add (hi lo : Nat) (h : lo < 4294967296) : hi * 4294967296 ||| lo = hi * 4294967296 + lo := by
  have := Nat.shiftLeft_add_eq_or_of_lt (i := 32) (b := lo) (by omega) hi
  rw [Nat.shiftLeft_eq] at this
  exact this.symm

set_option maxRecDepth 100000 in
set_option maxHeartbeats 1000000 in
theorem div32_calls (w : World) (hi lo y : Nat) (h1 : hi < y) (h2 : lo < 4294967296) (h3 : y < 4294967296) :
    Calls Tryz.prog 383 #[.int .u32 (hi : Int), .int .u32 (lo : Int), .int .u32 (y : Int)] w fun e w' =>
      e = .returned (.tuple #[.int .u32 (((hi * 4294967296 + lo) / y : Nat) : Int), .int .u32 (((hi * 4294967296 + lo) % y : Nat) : Int)]) ∧ Pure w w' := by
  have hy0 : ((y : Int) != 0) = true := by simp; omega
  have hor : bits BinOp.or IntKind.u64 ((hi : Int) * 4294967296) (lo : Int) = ((hi * 4294967296 + lo : Nat) : Int) := by
    have e : ((hi : Int) * 4294967296) = ((hi * 4294967296 : Nat) : Int) := by omega
    rw [e, u64_or_nat _ _ (by omega) (by omega), nat_or_add hi lo h2]
  obtain ⟨z, hz⟩ : ∃ z, hi * 4294967296 + lo = z := ⟨_, rfl⟩
  have hzb : z / y < 4294967296 := by
    rw [Nat.div_lt_iff_lt_mul (by omega)]
    have : (hi + 1) * 4294967296 ≤ y * 4294967296 := Nat.mul_le_mul_right _ h1
    rw [Nat.mul_comm]
    omega
  have hrb : z % y < y := Nat.mod_lt _ (by omega)
  have hz64 : z < 18446744073709551616 := by omega
  rw [hz] at hor ⊢
  have hq : (z : Int) / (y : Int) = ((z / y : Nat) : Int) := by omega
  have hr : (z : Int) % (y : Int) = ((z % y : Nat) : Int) := by omega
  generalize z / y = q at *
  generalize z % y = r at *
  have HZ := Lib.hid hz
  clear hz
  go_enter Tryz.func383, Tryz.ntmps383
  go_wp2_with fail
  go_quiet (fail)
  go_wp2_with fail
  go_ret2
  exact ⟨rfl, (Mod.refl _ _).drewN _⟩

def OverRel (w : World) (g : Nat) (xs : List Nat) (K gk : Nat) (rs i : Value) (wr : World) : Prop :=
  ∃ (m r : Nat) (us : List Nat), m = gk ∧ m ≤ xs.length ∧ rs = .int .u32 (r : Int) ∧ r < K ∧ i = .int .i64 ((m : Int) - 1) ∧ us.length = xs.length ∧ (∀ d ∈ us, d < 4294967296) ∧
    val B32 (xs.drop m) = val B32 (us.drop m) * K + r ∧ Blk wr g 231 (u32s us).toArray ∧ Pure w wr

theorem over_step {w wr : World} {g : Nat} {xs us : List Nat} {K k r d : Nat} (hk : k < xs.length) (hul : us.length = xs.length) (hud : ∀ d ∈ us, d < 4294967296) (hr : r < K) (hd : d < 4294967296)
    (hval : val B32 (xs.drop (k + 1)) = val B32 (us.drop (k + 1)) * K + r) (hB : Blk wr g 231 (u32s us).toArray) (hm : Pure w wr) (hg : w.heap.size ≤ g) (hx : xs.getD k 0 = d) :
    OverRel w g xs K k (.int .u32 (((r * 4294967296 + d) % K : Nat) : Int)) (.int .i64 ((k : Int) - 1)) (wr.setCell ⟨g, k, none⟩ (.int .u32 (((r * 4294967296 + d) / K : Nat) : Int))) := by
  have hq : (r * 4294967296 + d) / K < 4294967296 := by
    rw [Nat.div_lt_iff_lt_mul (by omega)]
    have : (r + 1) * 4294967296 ≤ K * 4294967296 := Nat.mul_le_mul_right _ hr
    rw [Nat.mul_comm]
    omega
  have hs := div_step B32 K r d _ _ hval
  rw [B32_eq] at hs
  refine ⟨k, (r * 4294967296 + d) % K, us.set k ((r * 4294967296 + d) / K), rfl, by omega, rfl, Nat.mod_lt _ (by omega), rfl, by simpa using hul, mem_set_lt hud hq, ?_, ?_, hm.setCell (.inr hg) _⟩
  · rw [val_drop _ xs k hk, val_drop _ (us.set k _) k (by simp; omega), drop_set_same, getD_set_same (by omega), hx, B32_eq]
    exact hs
  · have := hB.set k (.int .u32 (((r * 4294967296 + d) / K : Nat) : Int))
    rwa [u32s_set] at this

set_option maxRecDepth 100000 in
set_option maxHeartbeats 1000000 in
theorem over_calls (w : World) (a : Value) (x L K : Nat) (hx : IsNat w a x L) (hL : L ≤ 1000000) (hK : 0 < K) (hK2 : K < 4294967296) :
    Calls Tryz.prog 364 #[a, .int .u32 (K : Int)] w (NatPost w (x / K) L) := by
  obtain ⟨xs, ⟨A1, n1, c1, rfl, hc1, hc1', hl1, hr1⟩, hd1, hN1, rfl, hxl⟩ := hx
  rw [u32s_length, Nat.mul_one] at hl1
  subst hl1
  have hmk := run_make_one (P := Tryz.prog) 335 231 (.int .u32 0) 4 Tryz.underlying335 info_u32 rfl .i64 .i64 xs.length (xs.length : Int) (by omega) (by omega) (by omega) (zero32 xs.length) (by simp only [zero32, u32s_zeros])
  have HD1 := Lib.hid hd1
  have HR1 := Lib.hid hr1
  clear hd1 hr1 hN1
  go_enter Tryz.func364, Tryz.ntmps364
  go_wp2_with fail
  clear hmk
  go_loopg [6, 7] xs.length (fun gk rs i wr => OverRel w w.heap.size xs K gk rs i wr)
  case atStart =>
    refine ⟨xs.length, 0, List.replicate xs.length 0, rfl, by omega, rfl, by omega, rfl, by simp, ?_, ?_, Blk.new _ _ _, (Mod.refl _ _).alloc _⟩
    · intro d hd
      rw [List.mem_replicate] at hd
      omega
    · simp [val_nil]
  case round =>
    obtain ⟨m, r, us, rfl, hm0, rfl, hr, rfl, hul, hud, hval, hB, hm⟩ := hrel
    have HUL := Lib.hid hul
    have HUD := Lib.hid hud
    have HV := Lib.hid hval
    clear hul hud hval
    rcases m with _ | k
    · have hend : val B32 us = val B32 xs / K := by
        have := HV.out
        simp only [List.drop_zero] at this
        rw [this, Nat.mul_comm, Nat.mul_add_div hK, Nat.div_eq_of_lt hr]
        simp
      have HEND := Lib.hid hend
      clear hend
      go_wp2_with fail
      rw [show xs.length = us.length from HUL.out.symm]
      refine (cut_calls _ w.heap.size _ us hB.row0 HUD.out (Nat.le_refl _) (by rw [HUL.out]; omega)).mono ?_
      rintro e w' ⟨v, rfl, hv, hm'⟩
      go_wp2_with fail
      go_ret
      refine ⟨v, rfl, ?_, hm.trans hm'⟩
      rw [HEND.out] at hv
      exact hv.more (by rw [HUL.out]; omega)
    · obtain ⟨g1, o1, rfl, hrr1⟩ := HR1.out (by omega)
      have hq1 := (hrr1.mod hm id).cell (u32s_get xs k hm0)
      have hb1 := getD_lt (B := 4294967296) (by omega) HD1.out k
      obtain ⟨d, ha⟩ : ∃ a, xs.getD k 0 = a := ⟨_, rfl⟩
      rw [ha] at hq1 hb1
      have HA := Lib.hid ha
      clear ha hrr1
      rw [show (((k + 1 : Nat) : Int) - 1) = (k : Int) from by omega]
      go_wp2_with fail
      refine (div32_calls _ r d K hr hb1 hK2).mono ?_
      rintro e w' ⟨rfl, hm'⟩
      have hB' := hB.mod hm' id
      have hmm := hm.trans hm'
      have hcell := (hB'.cell k).trans ((by simp : (u32s us).toArray[k]? = (u32s us)[k]?).trans (u32s_get us k (by rw [HUL.out]; omega)))
      generalize us.getD k 0 = o at hcell
      have hfr := hB'.frozen k
      have hov := over_step hm0 HUL.out HUD.out hr hb1 HV.out hB' hmm (Nat.le_refl _) HA.out
      have HOV := Lib.hid hov
      clear hov
      generalize (r * 4294967296 + d) / K = q at *
      generalize (r * 4294967296 + d) % K = r' at *
      go_wp2_with fail
      go_roundg k
      case measure => omega
      case rel => exact HOV.out

end Go.Proofs.YtdknpekbonmmhaaGreatDoor
