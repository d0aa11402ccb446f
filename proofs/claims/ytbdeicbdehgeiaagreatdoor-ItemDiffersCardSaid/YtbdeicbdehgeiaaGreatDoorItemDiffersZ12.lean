/- Texts of the proof of ItemDiffers, put together: NatA, NatB, NatC, NatD, First. -/
import Derived.Test.YtbdeicbdehgeiaaGreatDoorItemDiffersZ1
import Derived.Test.YtbdeicbdehgeiaaGreatDoorItemDiffersZ9
import Derived.Deep.RegionHeld3
import Derived.Deep.DeepCutAuto
/- Package sample's natural numbers: cut, plus. -/
namespace Go.Proofs.YtbdeicbdehgeiaaGreatDoor
set_option linter.unusedVariables false
set_option linter.unusedSimpArgs false
open Go.RowKit

def u32s (ds : List Nat) : List Value := ds.map (fun (d : Nat) => Value.int .u32 (d : Int))
theorem u32s_length (ds : List Nat) : (u32s ds).length = ds.length := by simp [u32s]
theorem u32s_get (ds : List Nat) (i : Nat) (h : i < ds.length) : (u32s ds)[i]? = some (.int .u32 ((ds.getD i 0 : Nat) : Int)) := by
  simp [u32s, List.getD, h]
/-- A natural of package sample: its digits, all below 2^32, no zero at the end, at most L of them. -/
def IsNat (w : World) (v : Value) (x L : Nat) : Prop :=
  ∃ ds : List Nat, Sl w 193 1 v (u32s ds) ∧ (∀ d ∈ ds, d < 4294967296) ∧ Norm ds ∧ val B32 ds = x ∧ ds.length ≤ L
theorem IsNat.pure {w w' : World} {v : Value} {x L : Nat} (h : IsNat w v x L) (hm : Pure w w') : IsNat w' v x L := by
  obtain ⟨ds, h1, h2⟩ := h
  exact ⟨ds, h1.pure hm, h2⟩
theorem IsNat.more {w : World} {v : Value} {x L M : Nat} (h : IsNat w v x L) (hL : L ≤ M) : IsNat w v x M := by
  obtain ⟨ds, h1, h2, h3, h4, h5⟩ := h
  exact ⟨ds, h1, h2, h3, h4, by omega⟩

/-- As IsNat, zeros at the end let by. -/
def IsDig (w : World) (v : Value) (x L : Nat) : Prop :=
  ∃ ds : List Nat, Sl w 193 1 v (u32s ds) ∧ (∀ d ∈ ds, d < 4294967296) ∧ val B32 ds = x ∧ ds.length ≤ L
theorem IsNat.dig {w : World} {v : Value} {x L : Nat} (h : IsNat w v x L) : IsDig w v x L := by
  obtain ⟨ds, h1, h2, h3, h4, h5⟩ := h
  exact ⟨ds, h1, h2, h4, h5⟩

def CutPost (w : World) (ds : List Nat) (e : Ending) (w' : World) : Prop :=
  ∃ v, e = .returned v ∧ IsNat w' v (val B32 ds) ds.length ∧ Pure w w'

theorem info_u32 : (Tryz.prog.info? 193).map (fun i => (i.zero, i.size, i.bytes)) = some (some (.int .u32 0), 1, 4) := by kernel_rfl
theorem u32s_zeros (n : Nat) : List.replicate n (Value.int .u32 0) = u32s (List.replicate n 0) := by simp [u32s]

def zero32 (n : Nat) : Array Value := (u32s (List.replicate n 0)).toArray
def NatPost (w : World) (x L : Nat) (e : Ending) (w' : World) : Prop := ∃ v, e = .returned v ∧ IsNat w' v x L ∧ Pure w w'

def PlusRel (w : World) (g : Nat) (xs ys : List Nat) (M gk : Nat) (cy i : Value) (wr : World) : Prop :=
  ∃ (k c : Nat) (us : List Nat), M + 1 - k = gk ∧ k ≤ M + 1 ∧ cy = .int .u64 (c : Int) ∧ c ≤ 1 ∧ i = .int .i64 (k : Int) ∧ us.length = M + 1 ∧ (∀ d ∈ us, d < 4294967296) ∧
    val B32 (us.take k) + B32 ^ k * c = val B32 (xs.take k) + val B32 (ys.take k) ∧ Blk wr g 193 (u32s us).toArray ∧ Pure w wr

theorem u32s_set (us : List Nat) (i d : Nat) : (u32s us).toArray.setIfInBounds i (.int .u32 (d : Int)) = (u32s (us.set i d)).toArray := by
  simp [u32s, List.map_set]
theorem plus_step {w wr : World} {g : Nat} {xs ys us : List Nat} {M i cy : Nat} {n : Int} (hlt : i < M + 1) (hcy : cy ≤ 1) (hul : us.length = M + 1) (hud : ∀ d ∈ us, d < 4294967296)
    (hval : val B32 (us.take i) + B32 ^ i * cy = val B32 (xs.take i) + val B32 (ys.take i)) (hB : Blk wr g 193 (u32s us).toArray) (hm : Pure w wr) (hg : w.heap.size ≤ g)
    (hx : xs.getD i 0 < 4294967296) (hy : ys.getD i 0 < 4294967296) (hn : n = (cy : Int) + (xs.getD i 0 : Nat) + (ys.getD i 0 : Nat)) :
    PlusRel w g xs ys M (M + 1 - (i + 1)) (.int .u64 (n / 4294967296)) (.int .i64 ((i : Int) + 1)) (wr.setCell ⟨g, i, none⟩ (.int .u32 (n % 4294967296))) := by
  generalize hX : xs.getD i 0 = X at *
  generalize hY : ys.getD i 0 = Y at *
  have e1 : n / 4294967296 = (((cy + X + Y) / 4294967296 : Nat) : Int) := by omega
  have e2 : n % 4294967296 = (((cy + X + Y) % 4294967296 : Nat) : Int) := by omega
  rw [e1, e2]
  refine ⟨i + 1, (cy + X + Y) / 4294967296, us.set i ((cy + X + Y) % 4294967296), by omega, by omega, rfl, by omega, by simp, by simpa using hul, mem_set_lt hud (by omega), ?_, ?_, hm.setCell (.inr hg) _⟩
  · rw [val_take_succ, val_take_succ, val_take_succ, take_set_same, getD_set_same (by omega), hX, hY]
    have := add_step B32 i cy X Y _ _ _ hval
    simp only [B32_eq] at this ⊢
    exact this
  · have := hB.set i (.int .u32 (((cy + X + Y) % 4294967296 : Nat) : Int))
    rwa [u32s_set] at this

end Go.Proofs.YtbdeicbdehgeiaaGreatDoor

/- Package sample's natural numbers: times. -/
namespace Go.Proofs.YtbdeicbdehgeiaaGreatDoor
set_option linter.unusedVariables false
set_option linter.unusedSimpArgs false
open Go.RowKit

def TimesRel (w : World) (g : Nat) (xs ys : List Nat) (gk : Nat) (i : Value) (wr : World) : Prop :=
  ∃ (k : Nat) (us : List Nat), xs.length - k = gk ∧ k ≤ xs.length ∧ i = .int .i64 (k : Int) ∧ us.length = xs.length + ys.length ∧ (∀ d ∈ us, d < 4294967296) ∧
    (∀ j, k + ys.length ≤ j → us.getD j 0 = 0) ∧ val B32 us = val B32 (xs.take k) * val B32 ys ∧ Blk wr g 193 (u32s us).toArray ∧ Pure w wr
def TimesIn (w : World) (g : Nat) (xs ys : List Nat) (i a V0 gk : Nat) (cy kk : Value) (wr : World) : Prop :=
  ∃ (k c : Nat) (us : List Nat), ys.length - k = gk ∧ k ≤ ys.length ∧ cy = .int .u64 (c : Int) ∧ c < 4294967296 ∧ kk = .int .i64 (k : Int) ∧ us.length = xs.length + ys.length ∧ (∀ d ∈ us, d < 4294967296) ∧
    (∀ j, i + ys.length ≤ j → us.getD j 0 = 0) ∧ val B32 us + B32 ^ (i + k) * c = V0 + B32 ^ i * a * val B32 (ys.take k) ∧ Blk wr g 193 (u32s us).toArray ∧ Pure w wr

theorem times_step {w wr : World} {g : Nat} {xs ys us : List Nat} {i a V0 k c : Nat} {n : Int} (hi : i < xs.length) (hk : k < ys.length) (hul : us.length = xs.length + ys.length) (hud : ∀ d ∈ us, d < 4294967296)
    (hz : ∀ j, i + ys.length ≤ j → us.getD j 0 = 0) (hval : val B32 us + B32 ^ (i + k) * c = V0 + B32 ^ i * a * val B32 (ys.take k)) (hB : Blk wr g 193 (u32s us).toArray) (hm : Pure w wr) (hg : w.heap.size ≤ g)
    (ha : a < 4294967296) (hb : ys.getD k 0 < 4294967296) (hc : c < 4294967296) (hn : n = ((a * ys.getD k 0 + us.getD (i + k) 0 + c : Nat) : Int)) :
    TimesIn w g xs ys i a V0 (ys.length - (k + 1)) (.int .u64 (n / 4294967296)) (.int .i64 ((k : Int) + 1)) (wr.setCell ⟨g, i + k, none⟩ (.int .u32 (n % 4294967296))) := by
  have hv := val_set B32 us (i + k) ((a * ys.getD k 0 + us.getD (i + k) 0 + c) % B32) (by omega)
  have hstep := mul_step B32 i k a (ys.getD k 0) c (us.getD (i + k) 0) _ V0 _ _ hval hv
  rw [← val_take_succ] at hstep
  have hp := mul_bound a (ys.getD k 0) ha hb
  have ho := getD_lt (B := 4294967296) (by omega) hud (i + k)
  rw [B32_eq] at hstep
  generalize a * ys.getD k 0 = p at *
  generalize us.getD (i + k) 0 = o at *
  have e1 : n / 4294967296 = (((p + o + c) / 4294967296 : Nat) : Int) := by omega
  have e2 : n % 4294967296 = (((p + o + c) % 4294967296 : Nat) : Int) := by omega
  rw [e1, e2]
  refine ⟨k + 1, (p + o + c) / 4294967296, us.set (i + k) ((p + o + c) % 4294967296), by omega, by omega, rfl, by omega, by simp, by simpa using hul, mem_set_lt hud (by omega), ?_, ?_, ?_, hm.setCell (.inr hg) _⟩
  · intro j hj
    rw [getD_set_ne _ _ _ _ (by omega)]
    exact hz j hj
  · rw [B32_eq]; exact hstep
  · have := hB.set (i + k) (.int .u32 (((p + o + c) % 4294967296 : Nat) : Int))
    rwa [u32s_set] at this

theorem times_round {w wr : World} {g : Nat} {xs ys us : List Nat} {i a V0 c : Nat} (hi : i < xs.length) (hul : us.length = xs.length + ys.length) (hud : ∀ d ∈ us, d < 4294967296)
    (hz : ∀ j, i + ys.length ≤ j → us.getD j 0 = 0) (hval : val B32 us + B32 ^ (i + ys.length) * c = V0 + B32 ^ i * a * val B32 (ys.take ys.length)) (hB : Blk wr g 193 (u32s us).toArray) (hm : Pure w wr) (hg : w.heap.size ≤ g)
    (ha : xs.getD i 0 = a) (hc : c < 4294967296) (hV0 : V0 = val B32 (xs.take i) * val B32 ys) :
    TimesRel w g xs ys (xs.length - (i + 1)) (.int .i64 ((i : Int) + 1)) (wr.setCell ⟨g, i + ys.length, none⟩ (.int .u32 (c : Int))) := by
  have hv := val_set B32 us (i + ys.length) c (by omega)
  rw [hz _ (Nat.le_refl _)] at hv
  rw [List.take_of_length_le (Nat.le_refl _)] at hval
  refine ⟨i + 1, us.set (i + ys.length) c, by omega, by omega, by simp, by simpa using hul, mem_set_lt hud hc, ?_, ?_, ?_, hm.setCell (.inr hg) _⟩
  · intro j hj
    rw [getD_set_ne _ _ _ _ (by omega)]
    exact hz j (by omega)
  · rw [val_take_succ, ha]
    exact mul_round B32 i ys.length c _ _ V0 _ _ a hval hV0 hv
  · have := hB.set (i + ys.length) (.int .u32 (c : Int))
    rwa [u32s_set] at this

end Go.Proofs.YtbdeicbdehgeiaaGreatDoor

/- Package sample's natural numbers: over, compare, newNatural; bits.Div32. -/
namespace Go.Proofs.YtbdeicbdehgeiaaGreatDoor
set_option linter.unusedVariables false
set_option linter.unusedSimpArgs false
open Go.RowKit

theorem nat_or_add (hi lo : Nat) (h : lo < 4294967296) : hi * 4294967296 ||| lo = hi * 4294967296 + lo := by
  have := Nat.shiftLeft_add_eq_or_of_lt (i := 32) (b := lo) (by omega) hi
  rw [Nat.shiftLeft_eq] at this
  exact this.symm

def OverRel (w : World) (g : Nat) (xs : List Nat) (K gk : Nat) (rs i : Value) (wr : World) : Prop :=
  ∃ (m r : Nat) (us : List Nat), m = gk ∧ m ≤ xs.length ∧ rs = .int .u32 (r : Int) ∧ r < K ∧ i = .int .i64 ((m : Int) - 1) ∧ us.length = xs.length ∧ (∀ d ∈ us, d < 4294967296) ∧
    val B32 (xs.drop m) = val B32 (us.drop m) * K + r ∧ Blk wr g 193 (u32s us).toArray ∧ Pure w wr

theorem over_step {w wr : World} {g : Nat} {xs us : List Nat} {K k r d : Nat} (hk : k < xs.length) (hul : us.length = xs.length) (hud : ∀ d ∈ us, d < 4294967296) (hr : r < K) (hd : d < 4294967296)
    (hval : val B32 (xs.drop (k + 1)) = val B32 (us.drop (k + 1)) * K + r) (hB : Blk wr g 193 (u32s us).toArray) (hm : Pure w wr) (hg : w.heap.size ≤ g) (hx : xs.getD k 0 = d) :
    OverRel w g xs K k (.int .u32 (((r * 4294967296 + d) % K : Nat) : Int)) (.int .i64 ((k : Int) - 1)) (wr.setCell ⟨g, k, none⟩ (.int .u32 (((r * 4294967296 + d) / K : Nat) : Int))) := by
  have hq : (r * 4294967296 + d) / K < 4294967296 := by
    rw [Nat.div_lt_iff_lt_mul (by omega)]
    have : (r + 1) * 4294967296 ≤ K * 4294967296 := Nat.mul_le_mul_right _ hr
    rw [Nat.mul_comm]
    omega
  have hs := div_step B32 K r d _ _ hval
  rw [B32_eq] at hs
  refine ⟨k, (r * 4294967296 + d) % K, us.set k ((r * 4294967296 + d) / K), rfl, by omega, rfl, Nat.mod_lt _ (by omega), rfl, by simpa using hul, mem_set_lt hud hq, ?_, ?_, hm.setCell (.inr hg) _⟩
  · rw [val_drop _ xs k hk, val_drop _ (us.set k _) k (by simp; omega), drop_set_same, getD_set_same (by omega), hx, B32_eq]
    exact hs
  · have := hB.set k (.int .u32 (((r * 4294967296 + d) / K : Nat) : Int))
    rwa [u32s_set] at this

end Go.Proofs.YtbdeicbdehgeiaaGreatDoor

/- Package sample's natural numbers: compare, newNatural. -/
namespace Go.Proofs.YtbdeicbdehgeiaaGreatDoor
set_option linter.unusedVariables false
set_option linter.unusedSimpArgs false
open Go.RowKit

def cmpI (x y : Nat) : Int := if x < y then -1 else if x = y then 0 else 1
theorem cmpI_lt {x y : Nat} (h : x < y) : cmpI x y = -1 := by simp [cmpI, h]
theorem cmpI_gt {x y : Nat} (h : y < x) : cmpI x y = 1 := by unfold cmpI; rw [if_neg (by omega), if_neg (by omega)]
theorem cmpI_eq {x y : Nat} (h : x = y) : cmpI x y = 0 := by unfold cmpI; rw [if_neg (by omega), if_pos h]

def IntPost (w : World) (n : Int) (e : Ending) (w' : World) : Prop := e = .returned (.int .i64 n) ∧ Pure w w'
theorem IntPost.of {w w' : World} {n m : Int} (h : n = m) (hm : Pure w w') : IntPost w n (.returned (.int .i64 m)) w' := ⟨by rw [h], hm⟩
def CmpRel (w : World) (xs ys : List Nat) (gk : Nat) (i : Value) (wr : World) : Prop :=
  ∃ m : Nat, m = gk ∧ m ≤ xs.length ∧ i = .int .i64 ((m : Int) - 1) ∧ (∀ j, m ≤ j → xs.getD j 0 = ys.getD j 0) ∧ Pure w wr

end Go.Proofs.YtbdeicbdehgeiaaGreatDoor

/- Package sample: first, for any closure with two captured variables whose answers rise. -/
namespace Go.Proofs.YtbdeicbdehgeiaaGreatDoor
set_option linter.unusedVariables false
set_option linter.unusedSimpArgs false
open Go.RowKit

def BoolPost (w : World) (b : Bool) (e : Ending) (w' : World) : Prop := e = .returned (.bool b) ∧ Pure w w'
theorem BoolPost.of {w w' : World} {n m : Bool} (h : n = m) (hm : Pure w w') : BoolPost w n (.returned (.bool m)) w' := ⟨by rw [h], hm⟩

/-- x is the least number from lo to hi for which P holds (hi, if for none below). -/
def Least (lo hi : Int) (P : Int → Bool) (x : Int) : Prop := lo ≤ x ∧ x ≤ hi ∧ (∀ y, lo ≤ y → y < x → P y = false) ∧ (x < hi → P x = true)
theorem Least.unique {lo hi : Int} {P : Int → Bool} {x y : Int} (hx : Least lo hi P x) (hy : Least lo hi P y) : x = y := by
  obtain ⟨a1, a2, a3, a4⟩ := hx
  obtain ⟨b1, b2, b3, b4⟩ := hy
  rcases Int.lt_trichotomy x y with h | h | h
  · have := b3 x a1 h; rw [a4 (by omega)] at this; cases this
  · exact h
  · have := a3 y b1 h; rw [b4 (by omega)] at this; cases this

def FirstPost (w : World) (lo hi : Int) (P : Int → Bool) (e : Ending) (w' : World) : Prop := ∃ x, Least lo hi P x ∧ e = .returned (.int .i64 x) ∧ Pure w w'
def FirstRel (w : World) (lo hi : Int) (P : Int → Bool) (gk : Nat) (l h : Value) (wr : World) : Prop :=
  ∃ a b : Int, (b - a).toNat = gk ∧ lo ≤ a ∧ a ≤ b ∧ b ≤ hi ∧ l = .int .i64 a ∧ h = .int .i64 b ∧ (∀ y, lo ≤ y → y < a → P y = false) ∧ (b < hi → P b = true) ∧ Pure w wr

end Go.Proofs.YtbdeicbdehgeiaaGreatDoor
