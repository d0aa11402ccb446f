/- Package sample's natural numbers: cut, plus. -/
import Derived.Test.YtbpicgmblpejoaaDoorBase
import Derived.Test.YtbpicgmblpejoaaDoorMath
import Derived.Deep.RegionHeld3
import Derived.Deep.DeepCutAuto
namespace Go.Proofs.YtbpicgmblpejoaaDoor
set_option linter.unusedVariables false
set_option linter.unusedSimpArgs false
open Go.RowKit

def u32s (ds : List Nat) : List Value := ds.map (fun (d : Nat) => Value.int .u32 (d : Int))
theorem u32s_length (ds : List Nat) : (u32s ds).length = ds.length := by simp [u32s]
theorem u32s_get (ds : List Nat) (i : Nat) (h : i < ds.length) : (u32s ds)[i]? = some (.int .u32 ((ds.getD i 0 : Nat) : Int)) := by
  simp [u32s, List.getD, h]
/-- A natural of package sample: its digits, all below 2^32, no zero at the end, at most L of them. -/
def IsNat (w : World) (v : Value) (x L : Nat) : Prop :=
  ∃ ds : List Nat, Sl w 73 1 v (u32s ds) ∧ (∀ d ∈ ds, d < 4294967296) ∧ Norm ds ∧ val B32 ds = x ∧ ds.length ≤ L
theorem IsNat.pure {w w' : World} {v : Value} {x L : Nat} (h : IsNat w v x L) (hm : Pure w w') : IsNat w' v x L := by
  obtain ⟨ds, h1, h2⟩ := h
  exact ⟨ds, h1.pure hm, h2⟩
theorem IsNat.more {w : World} {v : Value} {x L M : Nat} (h : IsNat w v x L) (hL : L ≤ M) : IsNat w v x M := by
  obtain ⟨ds, h1, h2, h3, h4, h5⟩ := h
  exact ⟨ds, h1, h2, h3, h4, by omega⟩

/-- As IsNat, zeros at the end let by. -/
def IsDig (w : World) (v : Value) (x L : Nat) : Prop :=
  ∃ ds : List Nat, Sl w 73 1 v (u32s ds) ∧ (∀ d ∈ ds, d < 4294967296) ∧ val B32 ds = x ∧ ds.length ≤ L
theorem IsNat.dig {w : World} {v : Value} {x L : Nat} (h : IsNat w v x L) : IsDig w v x L := by
  obtain ⟨ds, h1, h2, h3, h4, h5⟩ := h
  exact ⟨ds, h1, h2, h4, h5⟩

def CutPost (w : World) (ds : List Nat) (e : Ending) (w' : World) : Prop :=
  ∃ v, e = .returned v ∧ IsNat w' v (val B32 ds) ds.length ∧ Pure w w'

theorem info_u32 : (Tryd.prog.info? 73).map (fun i => (i.zero, i.size, i.bytes)) = some (some (.int .u32 0), 1, 4) := by kernel_rfl
theorem u32s_zeros (n : Nat) : List.replicate n (Value.int .u32 0) = u32s (List.replicate n 0) := by simp [u32s]

def zero32 (n : Nat) : Array Value := (u32s (List.replicate n 0)).toArray
def NatPost (w : World) (x L : Nat) (e : Ending) (w' : World) : Prop := ∃ v, e = .returned v ∧ IsNat w' v x L ∧ Pure w w'

def PlusRel (w : World) (g : Nat) (xs ys : List Nat) (M gk : Nat) (cy i : Value) (wr : World) : Prop :=
  ∃ (k c : Nat) (us : List Nat), M + 1 - k = gk ∧ k ≤ M + 1 ∧ cy = .int .u64 (c : Int) ∧ c ≤ 1 ∧ i = .int .i64 (k : Int) ∧ us.length = M + 1 ∧ (∀ d ∈ us, d < 4294967296) ∧
    val B32 (us.take k) + B32 ^ k * c = val B32 (xs.take k) + val B32 (ys.take k) ∧ Blk wr g 73 (u32s us).toArray ∧ Pure w wr

theorem u32s_set (us : List Nat) (i d : Nat) : (u32s us).toArray.setIfInBounds i (.int .u32 (d : Int)) = (u32s (us.set i d)).toArray := by
  simp [u32s, List.map_set]
theorem plus_step {w wr : World} {g : Nat} {xs ys us : List Nat} {M i cy : Nat} {n : Int} (hlt : i < M + 1) (hcy : cy ≤ 1) (hul : us.length = M + 1) (hud : ∀ d ∈ us, d < 4294967296)
    (hval : val B32 (us.take i) + B32 ^ i * cy = val B32 (xs.take i) + val B32 (ys.take i)) (hB : Blk wr g 73 (u32s us).toArray) (hm : Pure w wr) (hg : w.heap.size ≤ g)
    (hx : xs.getD i 0 < 4294967296) (hy : ys.getD i 0 < 4294967296) (hn : n = (cy : Int) + (xs.getD i 0 : Nat) + (ys.getD i 0 : Nat)) :
    PlusRel w g xs ys M (M + 1 - (i + 1)) (.int .u64 (n / 4294967296)) (.int .i64 ((i : Int) + 1)) (wr.setCell ⟨g, i, none⟩ (.int .u32 (n % 4294967296))) := by
  generalize hX : xs.getD i 0 = X at *
  generalize hY : ys.getD i 0 = Y at *
  have e1 : n / 4294967296 = (((cy + X + Y) / 4294967296 : Nat) : Int) := by omega
  have e2 : n % 4294967296 = (((cy + X + Y) % 4294967296 : Nat) : Int) := by omega
  rw [e1, e2]
  refine ⟨i + 1, (cy + X + Y) / 4294967296, us.set i ((cy + X + Y) % 4294967296), by omega, by omega, rfl, by omega, by simp, by simpa using hul, mem_set_lt hud (by omega), ?_, ?_, hm.setCell (.inr hg) _⟩
  · rw [val_take_succ, val_take_succ, val_take_succ, take_set_same, getD_set_same (by omega), hX, hY]
    have := add_step B32 i cy X Y _ _ _ hval
    simp only [B32_eq] at this ⊢
    exact this
  · have := hB.set i (.int .u32 (((cy + X + Y) % 4294967296 : Nat) : Int))
    rwa [u32s_set] at this

end Go.Proofs.YtbpicgmblpejoaaDoor
