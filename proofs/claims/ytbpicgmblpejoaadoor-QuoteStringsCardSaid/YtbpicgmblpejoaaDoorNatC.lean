/- Package sample's natural numbers: over, compare, newNatural; bits.Div32. -/
import Derived.Test.YtbpicgmblpejoaaDoorNatB
namespace Go.Proofs.YtbpicgmblpejoaaDoor
set_option linter.unusedVariables false
set_option linter.unusedSimpArgs false
open Go.RowKit

theorem nat_or_add (hi lo : Nat) (h : lo < 4294967296) : hi * 4294967296 ||| lo = hi * 4294967296 + lo := by
  have := Nat.shiftLeft_add_eq_or_of_lt (i := 32) (b := lo) (by omega) hi
  rw [Nat.shiftLeft_eq] at this
  exact this.symm

def OverRel (w : World) (g : Nat) (xs : List Nat) (K gk : Nat) (rs i : Value) (wr : World) : Prop :=
  ∃ (m r : Nat) (us : List Nat), m = gk ∧ m ≤ xs.length ∧ rs = .int .u32 (r : Int) ∧ r < K ∧ i = .int .i64 ((m : Int) - 1) ∧ us.length = xs.length ∧ (∀ d ∈ us, d < 4294967296) ∧
    val B32 (xs.drop m) = val B32 (us.drop m) * K + r ∧ Blk wr g 73 (u32s us).toArray ∧ Pure w wr

theorem over_step {w wr : World} {g : Nat} {xs us : List Nat} {K k r d : Nat} (hk : k < xs.length) (hul : us.length = xs.length) (hud : ∀ d ∈ us, d < 4294967296) (hr : r < K) (hd : d < 4294967296)
    (hval : val B32 (xs.drop (k + 1)) = val B32 (us.drop (k + 1)) * K + r) (hB : Blk wr g 73 (u32s us).toArray) (hm : Pure w wr) (hg : w.heap.size ≤ g) (hx : xs.getD k 0 = d) :
    OverRel w g xs K k (.int .u32 (((r * 4294967296 + d) % K : Nat) : Int)) (.int .i64 ((k : Int) - 1)) (wr.setCell ⟨g, k, none⟩ (.int .u32 (((r * 4294967296 + d) / K : Nat) : Int))) := by
  have hq : (r * 4294967296 + d) / K < 4294967296 := by
    rw [Nat.div_lt_iff_lt_mul (by omega)]
    have : (r + 1) * 4294967296 ≤ K * 4294967296 := Nat.mul_le_mul_right _ hr
    rw [Nat.mul_comm]
    omega
  have hs := div_step B32 K r d _ _ hval
  rw [B32_eq] at hs
  refine ⟨k, (r * 4294967296 + d) % K, us.set k ((r * 4294967296 + d) / K), rfl, by omega, rfl, Nat.mod_lt _ (by omega), rfl, by simpa using hul, mem_set_lt hud hq, ?_, ?_, hm.setCell (.inr hg) _⟩
  · rw [val_drop _ xs k hk, val_drop _ (us.set k _) k (by simp; omega), drop_set_same, getD_set_same (by omega), hx, B32_eq]
    exact hs
  · have := hB.set k (.int .u32 (((r * 4294967296 + d) / K : Nat) : Int))
    rwa [u32s_set] at this

end Go.Proofs.YtbpicgmblpejoaaDoor
