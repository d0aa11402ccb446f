/- Package sample's natural numbers: cut, plus. -/
import Derived.Test.YtdknpekbonmmhaaGreatDoorBase
import Derived.Test.YtdknpekbonmmhaaGreatDoorMath
import Derived.Deep.RegionHeld3
import Derived.Deep.DeepCutAuto
namespace Go.Proofs.YtdknpekbonmmhaaGreatDoor
set_option linter.unusedVariables false
set_option linter.unusedSimpArgs false
open Go.RowKit

def u32s (ds : List Nat) : List Value := ds.map (fun (d : Nat) => Value.int .u32 (d : Int))
theorem u32s_length (ds : List Nat) : (u32s ds).length = ds.length := by simp [u32s]
theorem u32s_get (ds : List Nat) (i : Nat) (h : i < ds.length) : (u32s ds)[i]? = some (.int .u32 ((ds.getD i 0 : Nat) : Int)) := by
  simp [u32s, List.getD, h]
/-- A natural of package sample: its digits, all below 2^32, no zero at the end, at most L of them. -/
def IsNat (w : World) (v : Value) (x L : Nat) : Prop :=
  ∃ ds : List Nat, Sl w 231 1 v (u32s ds) ∧ (∀ d ∈ ds, d < 4294967296) ∧ Norm ds ∧ val B32 ds = x ∧ ds.length ≤ L
theorem IsNat.pure {w w' : World} {v : Value} {x L : Nat} (h : IsNat w v x L) (hm : Pure w w') : IsNat w' v x L := by
  obtain ⟨ds, h1, h2⟩ := h
  exact ⟨ds, h1.pure hm, h2⟩
theorem IsNat.more {w : World} {v : Value} {x L M : Nat} (h : IsNat w v x L) (hL : L ≤ M) : IsNat w v x M := by
  obtain ⟨ds, h1, h2, h3, h4, h5⟩ := h
  exact ⟨ds, h1, h2, h3, h4, by omega⟩

/-- As IsNat, zeros at the end let by. -/
def IsDig (w : World) (v : Value) (x L : Nat) : Prop :=
  ∃ ds : List Nat, Sl w 231 1 v (u32s ds) ∧ (∀ d ∈ ds, d < 4294967296) ∧ val B32 ds = x ∧ ds.length ≤ L
theorem IsNat.dig {w : World} {v : Value} {x L : Nat} (h : IsNat w v x L) : IsDig w v x L := by
  obtain ⟨ds, h1, h2, h3, h4, h5⟩ := h
  exact ⟨ds, h1, h2, h4, h5⟩

def CutPost (w : World) (ds : List Nat) (e : Ending) (w' : World) : Prop :=
  ∃ v, e = .returned v ∧ IsNat w' v (val B32 ds) ds.length ∧ Pure w w'

set_option maxHeartbeats 400000 in
theorem cut_calls (w : World) (g c : Nat) (ds : List Nat) (hr : RowAt w 231 g 0 (u32s ds)) (hd : ∀ d ∈ ds, d < 4294967296) (hc : ds.length ≤ c) (hc2 : c ≤ 9223372036854775807) :
    Calls Tryz.prog 365 #[.slice (some ⟨g, 0, none⟩) ds.length c] w (CutPost w ds) := by
  go_enter Tryz.func365, Tryz.ntmps365
  go_wp2_with fail
  go_loopg [0] ds.length (fun k x wr => ∃ m : Nat, m = k ∧ m ≤ ds.length ∧ x = .slice (some ⟨g, 0, none⟩) m c ∧ (∀ j, m ≤ j → ds.getD j 0 = 0) ∧ w = wr)
  case atStart => exact ⟨ds.length, rfl, Nat.le_refl _, rfl, fun j hj => by simp [List.getD, hj], rfl⟩
  case round =>
    obtain ⟨m, hgk, hm, rfl, hz, rfl⟩ := hrel
    subst hgk
    have HZ := Lib.hid hz
    clear hz
    by_cases h0 : m = 0
    · subst h0
      go_wp2_with fail
      go_ret
      refine ⟨_, rfl, ⟨[], ⟨_, 0, c, rfl, by omega, hc2, by simp [u32s], fun h => absurd h (by omega)⟩, by simp, fun n hn => by simp at hn, ?_, by simp⟩, Mod.refl _ _⟩
      have := val_take_zeros B32 ds 0 HZ.out
      simpa [val_nil] using this
    · obtain ⟨n, rfl⟩ : ∃ n, m = n + 1 := ⟨m - 1, by omega⟩
      have hcell := hr.cell (i := n) (u32s_get ds n (by omega))
      simp only [Nat.zero_add] at hcell
      obtain ⟨d, hdg⟩ : ∃ d, ds.getD n 0 = d := ⟨_, rfl⟩
      rw [hdg] at hcell
      have HD := Lib.hid hdg
      clear hdg
      by_cases hl : d = 0
      · subst hl
        go_wp2_with fail
        go_roundg n
        case measure => omega
        case rel =>
          refine ⟨n, rfl, by omega, rfl, fun j hj => ?_, rfl⟩
          by_cases e : j = n
          · subst e; exact HD.out
          · exact HZ.out j (by omega)
      · have hb : ((d : Int) == 0) = false := by simp; omega
        go_wp2_with fail
        go_ret
        refine ⟨_, rfl, ⟨ds.take (n + 1), ⟨_, n + 1, c, rfl, by omega, hc2, by simp [u32s]; omega, fun _ => ⟨g, 0, rfl, ?_⟩⟩, take_lt_of_mem hd _, ?_, val_take_zeros _ _ _ HZ.out, by simp; omega⟩, Mod.refl _ _⟩
        · obtain ⟨arr, fr, h1, h2⟩ := hr
          refine ⟨arr, fr, h1, fun i u hu => h2 i u ?_⟩
          rw [u32s, List.map_take, List.getElem?_take] at hu
          split at hu
          · exact hu
          · cases hu
        · intro n' hn'
          have hx : n' = n := by rw [List.length_take] at hn'; omega
          subst hx
          have := HD.out
          rw [List.getD_eq_getElem?_getD, List.getElem?_take, if_pos (by omega), ← List.getD_eq_getElem?_getD, this]
          exact hl

theorem info_u32 : (Tryz.prog.info? 231).map (fun i => (i.zero, i.size, i.bytes)) = some (some (.int .u32 0), 1, 4) := by kernel_rfl
theorem u32s_zeros (n : Nat) : List.replicate n (Value.int .u32 0) = u32s (List.replicate n 0) := by simp [u32s]

def zero32 (n : Nat) : Array Value := (u32s (List.replicate n 0)).toArray
def NatPost (w : World) (x L : Nat) (e : Ending) (w' : World) : Prop := ∃ v, e = .returned v ∧ IsNat w' v x L ∧ Pure w w'

def PlusRel (w : World) (g : Nat) (xs ys : List Nat) (M gk : Nat) (cy i : Value) (wr : World) : Prop :=
  ∃ (k c : Nat) (us : List Nat), M + 1 - k = gk ∧ k ≤ M + 1 ∧ cy = .int .u64 (c : Int) ∧ c ≤ 1 ∧ i = .int .i64 (k : Int) ∧ us.length = M + 1 ∧ (∀ d ∈ us, d < 4294967296) ∧
    val B32 (us.take k) + B32 ^ k * c = val B32 (xs.take k) + val B32 (ys.take k) ∧ Blk wr g 231 (u32s us).toArray ∧ Pure w wr

theorem u32s_set (us : List Nat) (i d : Nat) : (u32s us).toArray.setIfInBounds i (.int .u32 (d : Int)) = (u32s (us.set i d)).toArray := by
  simp [u32s, List.map_set]
theorem plus_step {w wr : World} {g : Nat} {xs ys us : List Nat} {M i cy : Nat} {n : Int} (hlt : i < M + 1) (hcy : cy ≤ 1) (hul : us.length = M + 1) (hud : ∀ d ∈ us, d < 4294967296)
    (hval : val B32 (us.take i) + B32 ^ i * cy = val B32 (xs.take i) + val B32 (ys.take i)) (hB : Blk wr g 231 (u32s us).toArray) (hm : Pure w wr) (hg : w.heap.size ≤ g)
    (hx : xs.getD i 0 < 4294967296) (hy : ys.getD i 0 < 4294967296) (hn : n = (cy : Int) + (xs.getD i 0 : Nat) + (ys.getD i 0 : Nat)) :
    PlusRel w g xs ys M (M + 1 - (i + 1)) (.int .u64 (n / 4294967296)) (.int .i64 ((i : Int) + 1)) (wr.setCell ⟨g, i, none⟩ (.int .u32 (n % 4294967296))) := by
  generalize hX : xs.getD i 0 = X at *
  generalize hY : ys.getD i 0 = Y at *
  have e1 : n / 4294967296 = (((cy + X + Y) / 4294967296 : Nat) : Int) := by omega
  have e2 : n % 4294967296 = (((cy + X + Y) % 4294967296 : Nat) : Int) := by omega
  rw [e1, e2]
  refine ⟨i + 1, (cy + X + Y) / 4294967296, us.set i ((cy + X + Y) % 4294967296), by omega, by omega, rfl, by omega, by simp, by simpa using hul, mem_set_lt hud (by omega), ?_, ?_, hm.setCell (.inr hg) _⟩
  · rw [val_take_succ, val_take_succ, val_take_succ, take_set_same, getD_set_same (by omega), hX, hY]
    have := add_step B32 i cy X Y _ _ _ hval
    simp only [B32_eq] at this ⊢
    exact this
  · have := hB.set i (.int .u32 (((cy + X + Y) % 4294967296 : Nat) : Int))
    rwa [u32s_set] at this

set_option maxRecDepth 100000 in
set_option maxHeartbeats 1000000 in
theorem plus_calls (w : World) (a b : Value) (x y L : Nat) (hx : IsDig w a x L) (hy : IsDig w b y L) (hL : L ≤ 1000000) :
    Calls Tryz.prog 324 #[a, b] w (NatPost w (x + y) (L + 1)) := by
  obtain ⟨xs, ⟨A1, n1, c1, rfl, hc1, hc1', hl1, hr1⟩, hd1, rfl, hxl⟩ := hx
  obtain ⟨ys, ⟨A2, n2, c2, rfl, hc2, hc2', hl2, hr2⟩, hd2, rfl, hyl⟩ := hy
  rw [u32s_length, Nat.mul_one] at hl1 hl2
  subst hl1 hl2
  obtain ⟨M, hM⟩ : ∃ M : Nat, (if xs.length < ys.length then (ys.length : Int) else xs.length) = (M : Int) ∧ xs.length ≤ M ∧ ys.length ≤ M ∧ M ≤ L := by
    by_cases h : xs.length < ys.length
    · exact ⟨ys.length, by simp [h], by omega, by omega, by omega⟩
    · exact ⟨xs.length, by simp [h], by omega, by omega, by omega⟩
  obtain ⟨hM, hM1, hM2, hM3⟩ := hM
  have hmk := run_make_one (P := Tryz.prog) 335 231 (.int .u32 0) 4 Tryz.underlying335 info_u32 rfl .i64 .i64 (M + 1) ((M : Int) + 1) (by omega) (by omega) (by omega) (zero32 (M + 1)) (by simp only [zero32, u32s_zeros])
  have HD1 := Lib.hid hd1
  have HD2 := Lib.hid hd2
  have HR1 := Lib.hid hr1
  have HR2 := Lib.hid hr2
  clear hd1 hd2 hr1 hr2
  go_enter Tryz.func324, Tryz.ntmps324
  go_wp2_with fail
  clear hmk hM
  go_loopg [6, 18] (M + 1) (fun gk cy i wr => PlusRel w w.heap.size xs ys M gk cy i wr)
  case atStart =>
    refine ⟨0, 0, List.replicate (M + 1) 0, rfl, by omega, rfl, by omega, rfl, by simp, ?_, ?_, Blk.new _ _ _, (Mod.refl _ _).alloc _⟩
    · intro d hd
      rw [List.mem_replicate] at hd
      omega
    · simp [val_nil]
  case round =>
    obtain ⟨i, cy, us, rfl, hi, rfl, hcy, rfl, hul, hud, hval, hB, hm⟩ := hrel
    have HUL := Lib.hid hul
    have HUD := Lib.hid hud
    have HV := Lib.hid hval
    clear hul hud hval
    have hd1 : i < xs.length → ∃ (g off d : Nat), A1 = some ⟨g, off, none⟩ ∧ wr.cell? ⟨g, off + i, none⟩ = some (.int .u32 (d : Int)) ∧ d < 4294967296 ∧ xs.getD i 0 = d := by
      intro h
      obtain ⟨g, off, hA, hr⟩ := HR1.out (by omega)
      exact ⟨g, off, _, hA, (hr.mod hm id).cell (u32s_get xs i h), getD_lt (by omega) HD1.out i, rfl⟩
    have hd2 : i < ys.length → ∃ (g off d : Nat), A2 = some ⟨g, off, none⟩ ∧ wr.cell? ⟨g, off + i, none⟩ = some (.int .u32 (d : Int)) ∧ d < 4294967296 ∧ ys.getD i 0 = d := by
      intro h
      obtain ⟨g, off, hA, hr⟩ := HR2.out (by omega)
      exact ⟨g, off, _, hA, (hr.mod hm id).cell (u32s_get ys i h), getD_lt (by omega) HD2.out i, rfl⟩
    by_cases hlt : i < M + 1
    · have hcell := (hB.cell i).trans ((by simp : (u32s us).toArray[i]? = (u32s us)[i]?).trans (u32s_get us i (by rw [HUL.out]; exact hlt)))
      have hfr := hB.frozen i
      by_cases h1 : i < xs.length
      · obtain ⟨g1, o1, d1, rfl, hq1, hb1, he1⟩ := hd1 h1
        have HE1 := Lib.hid he1
        clear he1 hd1
        by_cases h2 : i < ys.length
        · obtain ⟨g2, o2, d2, rfl, hq2, hb2, he2⟩ := hd2 h2
          have HE2 := Lib.hid he2
          clear he2 hd2
          go_wp2_with fail
          go_roundg (M + 1 - (i + 1))
          case measure => omega
          case rel => exact plus_step hlt hcy HUL.out HUD.out HV.out hB hm (Nat.le_refl _) (getD_lt (by omega) HD1.out i) (getD_lt (by omega) HD2.out i) (by rw [HE1.out, HE2.out])
        · have he2 : ys.getD i 0 = 0 := getD_ge (by omega)
          have HE2 := Lib.hid he2
          clear he2 hd2
          go_wp2_with fail
          go_roundg (M + 1 - (i + 1))
          case measure => omega
          case rel => exact plus_step hlt hcy HUL.out HUD.out HV.out hB hm (Nat.le_refl _) (getD_lt (by omega) HD1.out i) (getD_lt (by omega) HD2.out i) (by rw [HE1.out, HE2.out]; omega)
      · have he1 : xs.getD i 0 = 0 := getD_ge (by omega)
        have HE1 := Lib.hid he1
        clear he1 hd1
        by_cases h2 : i < ys.length
        · obtain ⟨g2, o2, d2, rfl, hq2, hb2, he2⟩ := hd2 h2
          have HE2 := Lib.hid he2
          clear he2 hd2
          go_wp2_with fail
          go_roundg (M + 1 - (i + 1))
          case measure => omega
          case rel => exact plus_step hlt hcy HUL.out HUD.out HV.out hB hm (Nat.le_refl _) (getD_lt (by omega) HD1.out i) (getD_lt (by omega) HD2.out i) (by rw [HE1.out, HE2.out]; omega)
        · have he2 : ys.getD i 0 = 0 := getD_ge (by omega)
          have HE2 := Lib.hid he2
          clear he2 hd2
          go_wp2_with fail
          go_roundg (M + 1 - (i + 1))
          case measure => omega
          case rel =>
            have h := plus_step (n := (cy : Int)) hlt hcy HUL.out HUD.out HV.out hB hm (Nat.le_refl _) (getD_lt (by omega) HD1.out i) (getD_lt (by omega) HD2.out i) (by rw [HE1.out, HE2.out]; omega)
            rw [show (cy : Int) % 4294967296 = cy from by omega] at h
            exact h
    · clear hd1 hd2
      have hend := add_end B32 (by rw [B32_eq]; omega) (by omega) HUL.out HD1.out HD2.out hM1 hM2 HV.out
      have HEND := Lib.hid hend
      clear hend
      go_wp2_with fail
      rw [show M + 1 = us.length from HUL.out.symm]
      refine (cut_calls _ w.heap.size _ us hB.row0 HUD.out (Nat.le_refl _) (by rw [HUL.out]; omega)).mono ?_
      rintro e w' ⟨v, rfl, hv, hm'⟩
      go_wp2_with fail
      go_ret
      refine ⟨v, rfl, ?_, hm.trans hm'⟩
      rw [HEND.out] at hv
      exact hv.more (by rw [HUL.out]; omega)

end Go.Proofs.YtdknpekbonmmhaaGreatDoor
