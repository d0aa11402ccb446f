/- Package sample's natural numbers: times. -/
import Derived.Test.YtbpicgmblpejoaaDoorNatA
namespace Go.Proofs.YtbpicgmblpejoaaDoor
set_option linter.unusedVariables false
set_option linter.unusedSimpArgs false
open Go.RowKit

def TimesRel (w : World) (g : Nat) (xs ys : List Nat) (gk : Nat) (i : Value) (wr : World) : Prop :=
  ∃ (k : Nat) (us : List Nat), xs.length - k = gk ∧ k ≤ xs.length ∧ i = .int .i64 (k : Int) ∧ us.length = xs.length + ys.length ∧ (∀ d ∈ us, d < 4294967296) ∧
    (∀ j, k + ys.length ≤ j → us.getD j 0 = 0) ∧ val B32 us = val B32 (xs.take k) * val B32 ys ∧ Blk wr g 73 (u32s us).toArray ∧ Pure w wr
def TimesIn (w : World) (g : Nat) (xs ys : List Nat) (i a V0 gk : Nat) (cy kk : Value) (wr : World) : Prop :=
  ∃ (k c : Nat) (us : List Nat), ys.length - k = gk ∧ k ≤ ys.length ∧ cy = .int .u64 (c : Int) ∧ c < 4294967296 ∧ kk = .int .i64 (k : Int) ∧ us.length = xs.length + ys.length ∧ (∀ d ∈ us, d < 4294967296) ∧
    (∀ j, i + ys.length ≤ j → us.getD j 0 = 0) ∧ val B32 us + B32 ^ (i + k) * c = V0 + B32 ^ i * a * val B32 (ys.take k) ∧ Blk wr g 73 (u32s us).toArray ∧ Pure w wr

theorem times_step {w wr : World} {g : Nat} {xs ys us : List Nat} {i a V0 k c : Nat} {n : Int} (hi : i < xs.length) (hk : k < ys.length) (hul : us.length = xs.length + ys.length) (hud : ∀ d ∈ us, d < 4294967296)
    (hz : ∀ j, i + ys.length ≤ j → us.getD j 0 = 0) (hval : val B32 us + B32 ^ (i + k) * c = V0 + B32 ^ i * a * val B32 (ys.take k)) (hB : Blk wr g 73 (u32s us).toArray) (hm : Pure w wr) (hg : w.heap.size ≤ g)
    (ha : a < 4294967296) (hb : ys.getD k 0 < 4294967296) (hc : c < 4294967296) (hn : n = ((a * ys.getD k 0 + us.getD (i + k) 0 + c : Nat) : Int)) :
    TimesIn w g xs ys i a V0 (ys.length - (k + 1)) (.int .u64 (n / 4294967296)) (.int .i64 ((k : Int) + 1)) (wr.setCell ⟨g, i + k, none⟩ (.int .u32 (n % 4294967296))) := by
  have hv := val_set B32 us (i + k) ((a * ys.getD k 0 + us.getD (i + k) 0 + c) % B32) (by omega)
  have hstep := mul_step B32 i k a (ys.getD k 0) c (us.getD (i + k) 0) _ V0 _ _ hval hv
  rw [← val_take_succ] at hstep
  have hp := mul_bound a (ys.getD k 0) ha hb
  have ho := getD_lt (B := 4294967296) (by omega) hud (i + k)
  rw [B32_eq] at hstep
  generalize a * ys.getD k 0 = p at *
  generalize us.getD (i + k) 0 = o at *
  have e1 : n / 4294967296 = (((p + o + c) / 4294967296 : Nat) : Int) := by omega
  have e2 : n % 4294967296 = (((p + o + c) % 4294967296 : Nat) : Int) := by omega
  rw [e1, e2]
  refine ⟨k + 1, (p + o + c) / 4294967296, us.set (i + k) ((p + o + c) % 4294967296), by omega, by omega, rfl, by omega, by simp, by simpa using hul, mem_set_lt hud (by omega), ?_, ?_, ?_, hm.setCell (.inr hg) _⟩
  · intro j hj
    rw [getD_set_ne _ _ _ _ (by omega)]
    exact hz j hj
  · rw [B32_eq]; exact hstep
  · have := hB.set (i + k) (.int .u32 (((p + o + c) % 4294967296 : Nat) : Int))
    rwa [u32s_set] at this

theorem times_round {w wr : World} {g : Nat} {xs ys us : List Nat} {i a V0 c : Nat} (hi : i < xs.length) (hul : us.length = xs.length + ys.length) (hud : ∀ d ∈ us, d < 4294967296)
    (hz : ∀ j, i + ys.length ≤ j → us.getD j 0 = 0) (hval : val B32 us + B32 ^ (i + ys.length) * c = V0 + B32 ^ i * a * val B32 (ys.take ys.length)) (hB : Blk wr g 73 (u32s us).toArray) (hm : Pure w wr) (hg : w.heap.size ≤ g)
    (ha : xs.getD i 0 = a) (hc : c < 4294967296) (hV0 : V0 = val B32 (xs.take i) * val B32 ys) :
    TimesRel w g xs ys (xs.length - (i + 1)) (.int .i64 ((i : Int) + 1)) (wr.setCell ⟨g, i + ys.length, none⟩ (.int .u32 (c : Int))) := by
  have hv := val_set B32 us (i + ys.length) c (by omega)
  rw [hz _ (Nat.le_refl _)] at hv
  rw [List.take_of_length_le (Nat.le_refl _)] at hval
  refine ⟨i + 1, us.set (i + ys.length) c, by omega, by omega, by simp, by simpa using hul, mem_set_lt hud hc, ?_, ?_, ?_, hm.setCell (.inr hg) _⟩
  · intro j hj
    rw [getD_set_ne _ _ _ _ (by omega)]
    exact hz j (by omega)
  · rw [val_take_succ, ha]
    exact mul_round B32 i ys.length c _ _ V0 _ _ a hval hV0 hv
  · have := hB.set (i + ys.length) (.int .u32 (c : Int))
    rwa [u32s_set] at this

end Go.Proofs.YtbpicgmblpejoaaDoor
