/- Texts of the proof of SampleStrata, put together: NatA, NatB, NatC, NatD, First, Frac, Lowest. -/
import Derived.Test.YtkchninlhemioaaGreatDoorSampleStrataZ1
import Derived.Test.YtkchninlhemioaaGreatDoorSampleStrataZ7
import Derived.Deep.RegionHeld3
import Derived.Deep.DeepCutAuto
/- Package sample's natural numbers: cut, plus. -/
namespace Go.Proofs.YtkchninlhemioaaGreatDoor
set_option linter.unusedVariables false
set_option linter.unusedSimpArgs false
open Go.RowKit

def u32s (ds : List Nat) : List Value := ds.map (fun (d : Nat) => Value.int .u32 (d : Int))
theorem u32s_length (ds : List Nat) : (u32s ds).length = ds.length := by simp [u32s]
theorem u32s_get (ds : List Nat) (i : Nat) (h : i < ds.length) : (u32s ds)[i]? = some (.int .u32 ((ds.getD i 0 : Nat) : Int)) := by
  simp [u32s, List.getD, h]
/-- A natural of package sample: its digits, all below 2^32, no zero at the end, at most L of them. -/
def IsNat (w : World) (v : Value) (x L : Nat) : Prop :=
  ∃ ds : List Nat, Sl w 84 1 v (u32s ds) ∧ (∀ d ∈ ds, d < 4294967296) ∧ Norm ds ∧ val B32 ds = x ∧ ds.length ≤ L
theorem IsNat.pure {w w' : World} {v : Value} {x L : Nat} (h : IsNat w v x L) (hm : Pure w w') : IsNat w' v x L := by
  obtain ⟨ds, h1, h2⟩ := h
  exact ⟨ds, h1.pure hm, h2⟩
theorem IsNat.more {w : World} {v : Value} {x L M : Nat} (h : IsNat w v x L) (hL : L ≤ M) : IsNat w v x M := by
  obtain ⟨ds, h1, h2, h3, h4, h5⟩ := h
  exact ⟨ds, h1, h2, h3, h4, by omega⟩

/-- As IsNat, zeros at the end let by. -/
def IsDig (w : World) (v : Value) (x L : Nat) : Prop :=
  ∃ ds : List Nat, Sl w 84 1 v (u32s ds) ∧ (∀ d ∈ ds, d < 4294967296) ∧ val B32 ds = x ∧ ds.length ≤ L
theorem IsNat.dig {w : World} {v : Value} {x L : Nat} (h : IsNat w v x L) : IsDig w v x L := by
  obtain ⟨ds, h1, h2, h3, h4, h5⟩ := h
  exact ⟨ds, h1, h2, h4, h5⟩

def CutPost (w : World) (ds : List Nat) (e : Ending) (w' : World) : Prop :=
  ∃ v, e = .returned v ∧ IsNat w' v (val B32 ds) ds.length ∧ Pure w w'

set_option maxHeartbeats 400000 in
theorem cut_calls (w : World) (g c : Nat) (ds : List Nat) (hr : RowAt w 84 g 0 (u32s ds)) (hd : ∀ d ∈ ds, d < 4294967296) (hc : ds.length ≤ c) (hc2 : c ≤ 9223372036854775807) :
    Calls Tryz.prog 144 #[.slice (some ⟨g, 0, none⟩) ds.length c] w (CutPost w ds) := by
  go_enter Tryz.func144, Tryz.ntmps144
  go_wp2_with fail
  go_loopg [0] ds.length (fun k x wr => ∃ m : Nat, m = k ∧ m ≤ ds.length ∧ x = .slice (some ⟨g, 0, none⟩) m c ∧ (∀ j, m ≤ j → ds.getD j 0 = 0) ∧ w = wr)
  case atStart => exact ⟨ds.length, rfl, Nat.le_refl _, rfl, fun j hj => by simp [List.getD, hj], rfl⟩
  case round =>
    obtain ⟨m, hgk, hm, rfl, hz, rfl⟩ := hrel
    subst hgk
    have HZ := Lib.hid hz
    clear hz
    by_cases h0 : m = 0
    · subst h0
      go_wp2_with fail
      go_ret
      refine ⟨_, rfl, ⟨[], ⟨_, 0, c, rfl, by omega, hc2, by simp [u32s], fun h => absurd h (by omega)⟩, by simp, fun n hn => by simp at hn, ?_, by simp⟩, Mod.refl _ _⟩
      have := val_take_zeros B32 ds 0 HZ.out
      simpa [val_nil] using this
    · obtain ⟨n, rfl⟩ : ∃ n, m = n + 1 := ⟨m - 1, by omega⟩
      have hcell := hr.cell (i := n) (u32s_get ds n (by omega))
      simp only [Nat.zero_add] at hcell
      obtain ⟨d, hdg⟩ : ∃ d, ds.getD n 0 = d := ⟨_, rfl⟩
      rw [hdg] at hcell
      have HD := Lib.hid hdg
      clear hdg
      by_cases hl : d = 0
      · subst hl
        go_wp2_with fail
        go_roundg n
        case measure => omega
        case rel =>
          refine ⟨n, rfl, by omega, rfl, fun j hj => ?_, rfl⟩
          by_cases e : j = n
          · subst e; exact HD.out
          · exact HZ.out j (by omega)
      · have hb : ((d : Int) == 0) = false := by simp; omega
        go_wp2_with fail
        go_ret
        refine ⟨_, rfl, ⟨ds.take (n + 1), ⟨_, n + 1, c, rfl, by omega, hc2, by simp [u32s]; omega, fun _ => ⟨g, 0, rfl, ?_⟩⟩, take_lt_of_mem hd _, ?_, val_take_zeros _ _ _ HZ.out, by simp; omega⟩, Mod.refl _ _⟩
        · obtain ⟨arr, fr, h1, h2⟩ := hr
          refine ⟨arr, fr, h1, fun i u hu => h2 i u ?_⟩
          rw [u32s, List.map_take, List.getElem?_take] at hu
          split at hu
          · exact hu
          · cases hu
        · intro n' hn'
          have hx : n' = n := by rw [List.length_take] at hn'; omega
          subst hx
          have := HD.out
          rw [List.getD_eq_getElem?_getD, List.getElem?_take, if_pos (by omega), ← List.getD_eq_getElem?_getD, this]
          exact hl

theorem info_u32 : (Tryz.prog.info? 84).map (fun i => (i.zero, i.size, i.bytes)) = some (some (.int .u32 0), 1, 4) := by kernel_rfl
theorem u32s_zeros (n : Nat) : List.replicate n (Value.int .u32 0) = u32s (List.replicate n 0) := by simp [u32s]

def zero32 (n : Nat) : Array Value := (u32s (List.replicate n 0)).toArray
def NatPost (w : World) (x L : Nat) (e : Ending) (w' : World) : Prop := ∃ v, e = .returned v ∧ IsNat w' v x L ∧ Pure w w'

def PlusRel (w : World) (g : Nat) (xs ys : List Nat) (M gk : Nat) (cy i : Value) (wr : World) : Prop :=
  ∃ (k c : Nat) (us : List Nat), M + 1 - k = gk ∧ k ≤ M + 1 ∧ cy = .int .u64 (c : Int) ∧ c ≤ 1 ∧ i = .int .i64 (k : Int) ∧ us.length = M + 1 ∧ (∀ d ∈ us, d < 4294967296) ∧
    val B32 (us.take k) + B32 ^ k * c = val B32 (xs.take k) + val B32 (ys.take k) ∧ Blk wr g 84 (u32s us).toArray ∧ Pure w wr

theorem u32s_set (us : List Nat) (i d : Nat) : (u32s us).toArray.setIfInBounds i (.int .u32 (d : Int)) = (u32s (us.set i d)).toArray := by
  simp [u32s, List.map_set]
theorem plus_step {w wr : World} {g : Nat} {xs ys us : List Nat} {M i cy : Nat} {n : Int} (hlt : i < M + 1) (hcy : cy ≤ 1) (hul : us.length = M + 1) (hud : ∀ d ∈ us, d < 4294967296)
    (hval : val B32 (us.take i) + B32 ^ i * cy = val B32 (xs.take i) + val B32 (ys.take i)) (hB : Blk wr g 84 (u32s us).toArray) (hm : Pure w wr) (hg : w.heap.size ≤ g)
    (hx : xs.getD i 0 < 4294967296) (hy : ys.getD i 0 < 4294967296) (hn : n = (cy : Int) + (xs.getD i 0 : Nat) + (ys.getD i 0 : Nat)) :
    PlusRel w g xs ys M (M + 1 - (i + 1)) (.int .u64 (n / 4294967296)) (.int .i64 ((i : Int) + 1)) (wr.setCell ⟨g, i, none⟩ (.int .u32 (n % 4294967296))) := by
  generalize hX : xs.getD i 0 = X at *
  generalize hY : ys.getD i 0 = Y at *
  have e1 : n / 4294967296 = (((cy + X + Y) / 4294967296 : Nat) : Int) := by omega
  have e2 : n % 4294967296 = (((cy + X + Y) % 4294967296 : Nat) : Int) := by omega
  rw [e1, e2]
  refine ⟨i + 1, (cy + X + Y) / 4294967296, us.set i ((cy + X + Y) % 4294967296), by omega, by omega, rfl, by omega, by simp, by simpa using hul, mem_set_lt hud (by omega), ?_, ?_, hm.setCell (.inr hg) _⟩
  · rw [val_take_succ, val_take_succ, val_take_succ, take_set_same, getD_set_same (by omega), hX, hY]
    have := add_step B32 i cy X Y _ _ _ hval
    simp only [B32_eq] at this ⊢
    exact this
  · have := hB.set i (.int .u32 (((cy + X + Y) % 4294967296 : Nat) : Int))
    rwa [u32s_set] at this

set_option maxRecDepth 100000 in
set_option maxHeartbeats 1000000 in
theorem plus_calls (w : World) (a b : Value) (x y L : Nat) (hx : IsDig w a x L) (hy : IsDig w b y L) (hL : L ≤ 1000000) :
    Calls Tryz.prog 125 #[a, b] w (NatPost w (x + y) (L + 1)) := by
  obtain ⟨xs, ⟨A1, n1, c1, rfl, hc1, hc1', hl1, hr1⟩, hd1, rfl, hxl⟩ := hx
  obtain ⟨ys, ⟨A2, n2, c2, rfl, hc2, hc2', hl2, hr2⟩, hd2, rfl, hyl⟩ := hy
  rw [u32s_length, Nat.mul_one] at hl1 hl2
  subst hl1 hl2
  obtain ⟨M, hM⟩ : ∃ M : Nat, (if xs.length < ys.length then (ys.length : Int) else xs.length) = (M : Int) ∧ xs.length ≤ M ∧ ys.length ≤ M ∧ M ≤ L := by
    by_cases h : xs.length < ys.length
    · exact ⟨ys.length, by simp [h], by omega, by omega, by omega⟩
    · exact ⟨xs.length, by simp [h], by omega, by omega, by omega⟩
  obtain ⟨hM, hM1, hM2, hM3⟩ := hM
  have hmk := run_make_one (P := Tryz.prog) 141 84 (.int .u32 0) 4 Tryz.underlying141 info_u32 rfl .i64 .i64 (M + 1) ((M : Int) + 1) (by omega) (by omega) (by omega) (zero32 (M + 1)) (by simp only [zero32, u32s_zeros])
  have HD1 := Lib.hid hd1
  have HD2 := Lib.hid hd2
  have HR1 := Lib.hid hr1
  have HR2 := Lib.hid hr2
  clear hd1 hd2 hr1 hr2
  go_enter Tryz.func125, Tryz.ntmps125
  go_wp2_with fail
  clear hmk hM
  go_loopg [6, 18] (M + 1) (fun gk cy i wr => PlusRel w w.heap.size xs ys M gk cy i wr)
  case atStart =>
    refine ⟨0, 0, List.replicate (M + 1) 0, rfl, by omega, rfl, by omega, rfl, by simp, ?_, ?_, Blk.new _ _ _, (Mod.refl _ _).alloc _⟩
    · intro d hd
      rw [List.mem_replicate] at hd
      omega
    · simp [val_nil]
  case round =>
    obtain ⟨i, cy, us, rfl, hi, rfl, hcy, rfl, hul, hud, hval, hB, hm⟩ := hrel
    have HUL := Lib.hid hul
    have HUD := Lib.hid hud
    have HV := Lib.hid hval
    clear hul hud hval
    have hd1 : i < xs.length → ∃ (g off d : Nat), A1 = some ⟨g, off, none⟩ ∧ wr.cell? ⟨g, off + i, none⟩ = some (.int .u32 (d : Int)) ∧ d < 4294967296 ∧ xs.getD i 0 = d := by
      intro h
      obtain ⟨g, off, hA, hr⟩ := HR1.out (by omega)
      exact ⟨g, off, _, hA, (hr.mod hm id).cell (u32s_get xs i h), getD_lt (by omega) HD1.out i, rfl⟩
    have hd2 : i < ys.length → ∃ (g off d : Nat), A2 = some ⟨g, off, none⟩ ∧ wr.cell? ⟨g, off + i, none⟩ = some (.int .u32 (d : Int)) ∧ d < 4294967296 ∧ ys.getD i 0 = d := by
      intro h
      obtain ⟨g, off, hA, hr⟩ := HR2.out (by omega)
      exact ⟨g, off, _, hA, (hr.mod hm id).cell (u32s_get ys i h), getD_lt (by omega) HD2.out i, rfl⟩
    by_cases hlt : i < M + 1
    · have hcell := (hB.cell i).trans ((by simp : (u32s us).toArray[i]? = (u32s us)[i]?).trans (u32s_get us i (by rw [HUL.out]; exact hlt)))
      have hfr := hB.frozen i
      by_cases h1 : i < xs.length
      · obtain ⟨g1, o1, d1, rfl, hq1, hb1, he1⟩ := hd1 h1
        have HE1 := Lib.hid he1
        clear he1 hd1
        by_cases h2 : i < ys.length
        · obtain ⟨g2, o2, d2, rfl, hq2, hb2, he2⟩ := hd2 h2
          have HE2 := Lib.hid he2
          clear he2 hd2
          go_wp2_with fail
          go_roundg (M + 1 - (i + 1))
          case measure => omega
          case rel => exact plus_step hlt hcy HUL.out HUD.out HV.out hB hm (Nat.le_refl _) (getD_lt (by omega) HD1.out i) (getD_lt (by omega) HD2.out i) (by rw [HE1.out, HE2.out])
        · have he2 : ys.getD i 0 = 0 := getD_ge (by omega)
          have HE2 := Lib.hid he2
          clear he2 hd2
          go_wp2_with fail
          go_roundg (M + 1 - (i + 1))
          case measure => omega
          case rel => exact plus_step hlt hcy HUL.out HUD.out HV.out hB hm (Nat.le_refl _) (getD_lt (by omega) HD1.out i) (getD_lt (by omega) HD2.out i) (by rw [HE1.out, HE2.out]; omega)
      · have he1 : xs.getD i 0 = 0 := getD_ge (by omega)
        have HE1 := Lib.hid he1
        clear he1 hd1
        by_cases h2 : i < ys.length
        · obtain ⟨g2, o2, d2, rfl, hq2, hb2, he2⟩ := hd2 h2
          have HE2 := Lib.hid he2
          clear he2 hd2
          go_wp2_with fail
          go_roundg (M + 1 - (i + 1))
          case measure => omega
          case rel => exact plus_step hlt hcy HUL.out HUD.out HV.out hB hm (Nat.le_refl _) (getD_lt (by omega) HD1.out i) (getD_lt (by omega) HD2.out i) (by rw [HE1.out, HE2.out]; omega)
        · have he2 : ys.getD i 0 = 0 := getD_ge (by omega)
          have HE2 := Lib.hid he2
          clear he2 hd2
          go_wp2_with fail
          go_roundg (M + 1 - (i + 1))
          case measure => omega
          case rel =>
            have h := plus_step (n := (cy : Int)) hlt hcy HUL.out HUD.out HV.out hB hm (Nat.le_refl _) (getD_lt (by omega) HD1.out i) (getD_lt (by omega) HD2.out i) (by rw [HE1.out, HE2.out]; omega)
            rw [show (cy : Int) % 4294967296 = cy from by omega] at h
            exact h
    · clear hd1 hd2
      have hend := add_end B32 (by rw [B32_eq]; omega) (by omega) HUL.out HD1.out HD2.out hM1 hM2 HV.out
      have HEND := Lib.hid hend
      clear hend
      go_wp2_with fail
      rw [show M + 1 = us.length from HUL.out.symm]
      refine (cut_calls _ w.heap.size _ us hB.row0 HUD.out (Nat.le_refl _) (by rw [HUL.out]; omega)).mono ?_
      rintro e w' ⟨v, rfl, hv, hm'⟩
      go_wp2_with fail
      go_ret
      refine ⟨v, rfl, ?_, hm.trans hm'⟩
      rw [HEND.out] at hv
      exact hv.more (by rw [HUL.out]; omega)

end Go.Proofs.YtkchninlhemioaaGreatDoor

/- Package sample's natural numbers: times. -/
namespace Go.Proofs.YtkchninlhemioaaGreatDoor
set_option linter.unusedVariables false
set_option linter.unusedSimpArgs false
open Go.RowKit

def TimesRel (w : World) (g : Nat) (xs ys : List Nat) (gk : Nat) (i : Value) (wr : World) : Prop :=
  ∃ (k : Nat) (us : List Nat), xs.length - k = gk ∧ k ≤ xs.length ∧ i = .int .i64 (k : Int) ∧ us.length = xs.length + ys.length ∧ (∀ d ∈ us, d < 4294967296) ∧
    (∀ j, k + ys.length ≤ j → us.getD j 0 = 0) ∧ val B32 us = val B32 (xs.take k) * val B32 ys ∧ Blk wr g 84 (u32s us).toArray ∧ Pure w wr
def TimesIn (w : World) (g : Nat) (xs ys : List Nat) (i a V0 gk : Nat) (cy kk : Value) (wr : World) : Prop :=
  ∃ (k c : Nat) (us : List Nat), ys.length - k = gk ∧ k ≤ ys.length ∧ cy = .int .u64 (c : Int) ∧ c < 4294967296 ∧ kk = .int .i64 (k : Int) ∧ us.length = xs.length + ys.length ∧ (∀ d ∈ us, d < 4294967296) ∧
    (∀ j, i + ys.length ≤ j → us.getD j 0 = 0) ∧ val B32 us + B32 ^ (i + k) * c = V0 + B32 ^ i * a * val B32 (ys.take k) ∧ Blk wr g 84 (u32s us).toArray ∧ Pure w wr

theorem times_step {w wr : World} {g : Nat} {xs ys us : List Nat} {i a V0 k c : Nat} {n : Int} (hi : i < xs.length) (hk : k < ys.length) (hul : us.length = xs.length + ys.length) (hud : ∀ d ∈ us, d < 4294967296)
    (hz : ∀ j, i + ys.length ≤ j → us.getD j 0 = 0) (hval : val B32 us + B32 ^ (i + k) * c = V0 + B32 ^ i * a * val B32 (ys.take k)) (hB : Blk wr g 84 (u32s us).toArray) (hm : Pure w wr) (hg : w.heap.size ≤ g)
    (ha : a < 4294967296) (hb : ys.getD k 0 < 4294967296) (hc : c < 4294967296) (hn : n = ((a * ys.getD k 0 + us.getD (i + k) 0 + c : Nat) : Int)) :
    TimesIn w g xs ys i a V0 (ys.length - (k + 1)) (.int .u64 (n / 4294967296)) (.int .i64 ((k : Int) + 1)) (wr.setCell ⟨g, i + k, none⟩ (.int .u32 (n % 4294967296))) := by
  have hv := val_set B32 us (i + k) ((a * ys.getD k 0 + us.getD (i + k) 0 + c) % B32) (by omega)
  have hstep := mul_step B32 i k a (ys.getD k 0) c (us.getD (i + k) 0) _ V0 _ _ hval hv
  rw [← val_take_succ] at hstep
  have hp := mul_bound a (ys.getD k 0) ha hb
  have ho := getD_lt (B := 4294967296) (by omega) hud (i + k)
  rw [B32_eq] at hstep
  generalize a * ys.getD k 0 = p at *
  generalize us.getD (i + k) 0 = o at *
  have e1 : n / 4294967296 = (((p + o + c) / 4294967296 : Nat) : Int) := by omega
  have e2 : n % 4294967296 = (((p + o + c) % 4294967296 : Nat) : Int) := by omega
  rw [e1, e2]
  refine ⟨k + 1, (p + o + c) / 4294967296, us.set (i + k) ((p + o + c) % 4294967296), by omega, by omega, rfl, by omega, by simp, by simpa using hul, mem_set_lt hud (by omega), ?_, ?_, ?_, hm.setCell (.inr hg) _⟩
  · intro j hj
    rw [getD_set_ne _ _ _ _ (by omega)]
    exact hz j hj
  · rw [B32_eq]; exact hstep
  · have := hB.set (i + k) (.int .u32 (((p + o + c) % 4294967296 : Nat) : Int))
    rwa [u32s_set] at this

theorem times_round {w wr : World} {g : Nat} {xs ys us : List Nat} {i a V0 c : Nat} (hi : i < xs.length) (hul : us.length = xs.length + ys.length) (hud : ∀ d ∈ us, d < 4294967296)
    (hz : ∀ j, i + ys.length ≤ j → us.getD j 0 = 0) (hval : val B32 us + B32 ^ (i + ys.length) * c = V0 + B32 ^ i * a * val B32 (ys.take ys.length)) (hB : Blk wr g 84 (u32s us).toArray) (hm : Pure w wr) (hg : w.heap.size ≤ g)
    (ha : xs.getD i 0 = a) (hc : c < 4294967296) (hV0 : V0 = val B32 (xs.take i) * val B32 ys) :
    TimesRel w g xs ys (xs.length - (i + 1)) (.int .i64 ((i : Int) + 1)) (wr.setCell ⟨g, i + ys.length, none⟩ (.int .u32 (c : Int))) := by
  have hv := val_set B32 us (i + ys.length) c (by omega)
  rw [hz _ (Nat.le_refl _)] at hv
  rw [List.take_of_length_le (Nat.le_refl _)] at hval
  refine ⟨i + 1, us.set (i + ys.length) c, by omega, by omega, by simp, by simpa using hul, mem_set_lt hud hc, ?_, ?_, ?_, hm.setCell (.inr hg) _⟩
  · intro j hj
    rw [getD_set_ne _ _ _ _ (by omega)]
    exact hz j (by omega)
  · rw [val_take_succ, ha]
    exact mul_round B32 i ys.length c _ _ V0 _ _ a hval hV0 hv
  · have := hB.set (i + ys.length) (.int .u32 (c : Int))
    rwa [u32s_set] at this

set_option maxRecDepth 100000 in
set_option maxHeartbeats 1000000 in
theorem times_calls (w : World) (a b : Value) (x y L M : Nat) (hx : IsNat w a x L) (hy : IsNat w b y M) (hL : L ≤ 1000000) (hM : M ≤ 1000000) :
    Calls Tryz.prog 126 #[a, b] w (NatPost w (x * y) (L + M)) := by
  obtain ⟨xs, ⟨A1, n1, c1, rfl, hc1, hc1', hl1, hr1⟩, hd1, hN1, rfl, hxl⟩ := hx
  obtain ⟨ys, ⟨A2, n2, c2, rfl, hc2, hc2', hl2, hr2⟩, hd2, hN2, rfl, hyl⟩ := hy
  rw [u32s_length, Nat.mul_one] at hl1 hl2
  subst hl1 hl2
  have hmk := run_make_one (P := Tryz.prog) 141 84 (.int .u32 0) 4 Tryz.underlying141 info_u32 rfl .i64 .i64 (xs.length + ys.length) ((xs.length : Int) + (ys.length : Int)) (by omega) (by omega) (by omega) (zero32 (xs.length + ys.length)) (by simp only [zero32, u32s_zeros])
  have HD1 := Lib.hid hd1
  have HD2 := Lib.hid hd2
  have HR1 := Lib.hid hr1
  have HR2 := Lib.hid hr2
  clear hd1 hd2 hr1 hr2 hN1 hN2
  go_enter Tryz.func126, Tryz.ntmps126
  go_wp2_with fail
  clear hmk
  go_loopg [20] xs.length (fun gk i wr => TimesRel w w.heap.size xs ys gk i wr)
  case atStart =>
    refine ⟨0, List.replicate (xs.length + ys.length) 0, by omega, by omega, rfl, by simp, ?_, ?_, ?_, Blk.new _ _ _, (Mod.refl _ _).alloc _⟩
    · intro d hd
      rw [List.mem_replicate] at hd
      omega
    · intro j _
      simp [List.getD, List.getElem?_replicate]
      split <;> rfl
    · rw [val_zeros]; simp [val_nil]
  case round =>
    obtain ⟨i, us, rfl, hi, rfl, hul, hud, hz, hval, hB, hm⟩ := hrel
    have HUL := Lib.hid hul
    have HUD := Lib.hid hud
    have HV := Lib.hid hval
    have HZ := Lib.hid hz
    clear hul hud hval hz
    by_cases hlt : i < xs.length
    · obtain ⟨g1, o1, rfl, hrr1⟩ := HR1.out (by omega)
      have hq1 := (hrr1.mod hm id).cell (u32s_get xs i hlt)
      have hb1 := getD_lt (B := 4294967296) (by omega) HD1.out i
      obtain ⟨a, ha⟩ : ∃ a, xs.getD i 0 = a := ⟨_, rfl⟩
      rw [ha] at hq1 hb1
      have HA := Lib.hid ha
      clear ha hrr1
      go_wp2_with fail
      obtain ⟨wo, rfl⟩ : ∃ wo : World, wo = wr := ⟨_, rfl⟩
      clear hq1
      go_loopg [8, 27] ys.length (fun gk cy kk wr => TimesIn w w.heap.size xs ys i a (val B32 us) gk cy kk wr)
      case atStart => exact ⟨0, 0, us, by omega, by omega, rfl, by omega, rfl, HUL.out, HUD.out, HZ.out, by simp [val_nil], hB, hm⟩
      case round =>
        clear hB hm
        have HV0 := HV
        clear HV HUL HUD HZ
        obtain ⟨k, c, vs, rfl, hk, rfl, hc, rfl, hul, hud, hz, hval, hB, hm⟩ := hrel
        have HUL := Lib.hid hul
        have HUD := Lib.hid hud
        have HV := Lib.hid hval
        have HZ := Lib.hid hz
        clear hul hud hval hz
        by_cases hkl : k < ys.length
        · obtain ⟨g2, o2, rfl, hrr2⟩ := HR2.out (by omega)
          have hq2 := (hrr2.mod hm id).cell (u32s_get ys k hkl)
          have hb2 := getD_lt (B := 4294967296) (by omega) HD2.out k
          obtain ⟨b, hb⟩ : ∃ b, ys.getD k 0 = b := ⟨_, rfl⟩
          rw [hb] at hq2 hb2
          have HBB := Lib.hid hb
          clear hb hrr2
          have hcell := (hB.cell (i + k)).trans ((by simp : (u32s vs).toArray[i + k]? = (u32s vs)[i + k]?).trans (u32s_get vs (i + k) (by rw [HUL.out]; omega)))
          have hb3 := getD_lt (B := 4294967296) (by omega) HUD.out (i + k)
          obtain ⟨o, ho⟩ : ∃ o, vs.getD (i + k) 0 = o := ⟨_, rfl⟩
          rw [ho] at hcell hb3
          have HO := Lib.hid ho
          clear ho
          have hfr := hB.frozen (i + k)
          obtain ⟨p, hp⟩ : ∃ p : Nat, a * b = p := ⟨_, rfl⟩
          have hpb := mul_bound a b hb1 hb2
          rw [hp] at hpb
          have hpi : (a : Int) * (b : Int) = (p : Int) := by rw [← hp]; simp
          have HP := Lib.hid hp
          clear hp
          go_wp2_with fail
          go_roundg (ys.length - (k + 1))
          case measure => omega
          case rel =>
            exact times_step hlt hkl HUL.out HUD.out HZ.out HV.out hB hm (Nat.le_refl _) hb1 (by rw [HBB.out]; exact hb2) hc (by rw [HBB.out, HP.out, HO.out]; omega)
        · have hke : k = ys.length := by omega
          subst hke
          have hcell := (hB.cell (i + ys.length)).trans ((by simp : (u32s vs).toArray[i + ys.length]? = (u32s vs)[i + ys.length]?).trans (u32s_get vs (i + ys.length) (by rw [HUL.out]; omega)))
          have hfr := hB.frozen (i + ys.length)
          generalize vs.getD (i + ys.length) 0 = o at hcell
          go_wp2_with fail
          go_roundg (xs.length - (i + 1))
          case measure => omega
          case rel => exact times_round hlt HUL.out HUD.out HZ.out HV.out hB hm (Nat.le_refl _) HA.out hc HV0.out
    · have hend : val B32 us = val B32 xs * val B32 ys := by
        have := HV.out
        rwa [List.take_of_length_le (by omega)] at this
      have HEND := Lib.hid hend
      clear hend
      go_wp2_with fail
      rw [show xs.length + ys.length = us.length from HUL.out.symm]
      refine (cut_calls _ w.heap.size _ us hB.row0 HUD.out (Nat.le_refl _) (by rw [HUL.out]; omega)).mono ?_
      rintro e w' ⟨v, rfl, hv, hm'⟩
      go_wp2_with fail
      go_ret
      refine ⟨v, rfl, ?_, hm.trans hm'⟩
      rw [HEND.out] at hv
      exact hv.more (by rw [HUL.out]; omega)

end Go.Proofs.YtkchninlhemioaaGreatDoor

/- Package sample's natural numbers: over, compare, newNatural; bits.Div32. -/
namespace Go.Proofs.YtkchninlhemioaaGreatDoor
set_option linter.unusedVariables false
set_option linter.unusedSimpArgs false
open Go.RowKit

theorem nat_or_add (hi lo : Nat) (h : lo < 4294967296) : hi * 4294967296 ||| lo = hi * 4294967296 + lo := by
  have := Nat.shiftLeft_add_eq_or_of_lt (i := 32) (b := lo) (by omega) hi
  rw [Nat.shiftLeft_eq] at this
  exact this.symm

set_option maxRecDepth 100000 in
set_option maxHeartbeats 1000000 in
theorem div32_calls (w : World) (hi lo y : Nat) (h1 : hi < y) (h2 : lo < 4294967296) (h3 : y < 4294967296) :
    Calls Tryz.prog 152 #[.int .u32 (hi : Int), .int .u32 (lo : Int), .int .u32 (y : Int)] w fun e w' =>
      e = .returned (.tuple #[.int .u32 (((hi * 4294967296 + lo) / y : Nat) : Int), .int .u32 (((hi * 4294967296 + lo) % y : Nat) : Int)]) ∧ Pure w w' := by
  have hy0 : ((y : Int) != 0) = true := by simp; omega
  have hor : bits BinOp.or IntKind.u64 ((hi : Int) * 4294967296) (lo : Int) = ((hi * 4294967296 + lo : Nat) : Int) := by
    have e : ((hi : Int) * 4294967296) = ((hi * 4294967296 : Nat) : Int) := by omega
    rw [e, u64_or_nat _ _ (by omega) (by omega), nat_or_add hi lo h2]
  obtain ⟨z, hz⟩ : ∃ z, hi * 4294967296 + lo = z := ⟨_, rfl⟩
  have hzb : z / y < 4294967296 := by
    rw [Nat.div_lt_iff_lt_mul (by omega)]
    have : (hi + 1) * 4294967296 ≤ y * 4294967296 := Nat.mul_le_mul_right _ h1
    rw [Nat.mul_comm]
    omega
  have hrb : z % y < y := Nat.mod_lt _ (by omega)
  have hz64 : z < 18446744073709551616 := by omega
  rw [hz] at hor ⊢
  have hq : (z : Int) / (y : Int) = ((z / y : Nat) : Int) := by omega
  have hr : (z : Int) % (y : Int) = ((z % y : Nat) : Int) := by omega
  generalize z / y = q at *
  generalize z % y = r at *
  have HZ := Lib.hid hz
  clear hz
  go_enter Tryz.func152, Tryz.ntmps152
  go_wp2_with fail
  go_quiet (fail)
  go_wp2_with fail
  go_ret2
  exact ⟨rfl, (Mod.refl _ _).drewN _⟩

def OverRel (w : World) (g : Nat) (xs : List Nat) (K gk : Nat) (rs i : Value) (wr : World) : Prop :=
  ∃ (m r : Nat) (us : List Nat), m = gk ∧ m ≤ xs.length ∧ rs = .int .u32 (r : Int) ∧ r < K ∧ i = .int .i64 ((m : Int) - 1) ∧ us.length = xs.length ∧ (∀ d ∈ us, d < 4294967296) ∧
    val B32 (xs.drop m) = val B32 (us.drop m) * K + r ∧ Blk wr g 84 (u32s us).toArray ∧ Pure w wr

theorem over_step {w wr : World} {g : Nat} {xs us : List Nat} {K k r d : Nat} (hk : k < xs.length) (hul : us.length = xs.length) (hud : ∀ d ∈ us, d < 4294967296) (hr : r < K) (hd : d < 4294967296)
    (hval : val B32 (xs.drop (k + 1)) = val B32 (us.drop (k + 1)) * K + r) (hB : Blk wr g 84 (u32s us).toArray) (hm : Pure w wr) (hg : w.heap.size ≤ g) (hx : xs.getD k 0 = d) :
    OverRel w g xs K k (.int .u32 (((r * 4294967296 + d) % K : Nat) : Int)) (.int .i64 ((k : Int) - 1)) (wr.setCell ⟨g, k, none⟩ (.int .u32 (((r * 4294967296 + d) / K : Nat) : Int))) := by
  have hq : (r * 4294967296 + d) / K < 4294967296 := by
    rw [Nat.div_lt_iff_lt_mul (by omega)]
    have : (r + 1) * 4294967296 ≤ K * 4294967296 := Nat.mul_le_mul_right _ hr
    rw [Nat.mul_comm]
    omega
  have hs := div_step B32 K r d _ _ hval
  rw [B32_eq] at hs
  refine ⟨k, (r * 4294967296 + d) % K, us.set k ((r * 4294967296 + d) / K), rfl, by omega, rfl, Nat.mod_lt _ (by omega), rfl, by simpa using hul, mem_set_lt hud hq, ?_, ?_, hm.setCell (.inr hg) _⟩
  · rw [val_drop _ xs k hk, val_drop _ (us.set k _) k (by simp; omega), drop_set_same, getD_set_same (by omega), hx, B32_eq]
    exact hs
  · have := hB.set k (.int .u32 (((r * 4294967296 + d) / K : Nat) : Int))
    rwa [u32s_set] at this

set_option maxRecDepth 100000 in
set_option maxHeartbeats 1000000 in
theorem over_calls (w : World) (a : Value) (x L K : Nat) (hx : IsNat w a x L) (hL : L ≤ 1000000) (hK : 0 < K) (hK2 : K < 4294967296) :
    Calls Tryz.prog 143 #[a, .int .u32 (K : Int)] w (NatPost w (x / K) L) := by
  obtain ⟨xs, ⟨A1, n1, c1, rfl, hc1, hc1', hl1, hr1⟩, hd1, hN1, rfl, hxl⟩ := hx
  rw [u32s_length, Nat.mul_one] at hl1
  subst hl1
  have hmk := run_make_one (P := Tryz.prog) 141 84 (.int .u32 0) 4 Tryz.underlying141 info_u32 rfl .i64 .i64 xs.length (xs.length : Int) (by omega) (by omega) (by omega) (zero32 xs.length) (by simp only [zero32, u32s_zeros])
  have HD1 := Lib.hid hd1
  have HR1 := Lib.hid hr1
  clear hd1 hr1 hN1
  go_enter Tryz.func143, Tryz.ntmps143
  go_wp2_with fail
  clear hmk
  go_loopg [6, 7] xs.length (fun gk rs i wr => OverRel w w.heap.size xs K gk rs i wr)
  case atStart =>
    refine ⟨xs.length, 0, List.replicate xs.length 0, rfl, by omega, rfl, by omega, rfl, by simp, ?_, ?_, Blk.new _ _ _, (Mod.refl _ _).alloc _⟩
    · intro d hd
      rw [List.mem_replicate] at hd
      omega
    · simp [val_nil]
  case round =>
    obtain ⟨m, r, us, rfl, hm0, rfl, hr, rfl, hul, hud, hval, hB, hm⟩ := hrel
    have HUL := Lib.hid hul
    have HUD := Lib.hid hud
    have HV := Lib.hid hval
    clear hul hud hval
    rcases m with _ | k
    · have hend : val B32 us = val B32 xs / K := by
        have := HV.out
        simp only [List.drop_zero] at this
        rw [this, Nat.mul_comm, Nat.mul_add_div hK, Nat.div_eq_of_lt hr]
        simp
      have HEND := Lib.hid hend
      clear hend
      go_wp2_with fail
      rw [show xs.length = us.length from HUL.out.symm]
      refine (cut_calls _ w.heap.size _ us hB.row0 HUD.out (Nat.le_refl _) (by rw [HUL.out]; omega)).mono ?_
      rintro e w' ⟨v, rfl, hv, hm'⟩
      go_wp2_with fail
      go_ret
      refine ⟨v, rfl, ?_, hm.trans hm'⟩
      rw [HEND.out] at hv
      exact hv.more (by rw [HUL.out]; omega)
    · obtain ⟨g1, o1, rfl, hrr1⟩ := HR1.out (by omega)
      have hq1 := (hrr1.mod hm id).cell (u32s_get xs k hm0)
      have hb1 := getD_lt (B := 4294967296) (by omega) HD1.out k
      obtain ⟨d, ha⟩ : ∃ a, xs.getD k 0 = a := ⟨_, rfl⟩
      rw [ha] at hq1 hb1
      have HA := Lib.hid ha
      clear ha hrr1
      rw [show (((k + 1 : Nat) : Int) - 1) = (k : Int) from by omega]
      go_wp2_with fail
      refine (div32_calls _ r d K hr hb1 hK2).mono ?_
      rintro e w' ⟨rfl, hm'⟩
      have hB' := hB.mod hm' id
      have hmm := hm.trans hm'
      have hcell := (hB'.cell k).trans ((by simp : (u32s us).toArray[k]? = (u32s us)[k]?).trans (u32s_get us k (by rw [HUL.out]; omega)))
      generalize us.getD k 0 = o at hcell
      have hfr := hB'.frozen k
      have hov := over_step hm0 HUL.out HUD.out hr hb1 HV.out hB' hmm (Nat.le_refl _) HA.out
      have HOV := Lib.hid hov
      clear hov
      generalize (r * 4294967296 + d) / K = q at *
      generalize (r * 4294967296 + d) % K = r' at *
      go_wp2_with fail
      go_roundg k
      case measure => omega
      case rel => exact HOV.out

end Go.Proofs.YtkchninlhemioaaGreatDoor

/- Package sample's natural numbers: compare, newNatural. -/
namespace Go.Proofs.YtkchninlhemioaaGreatDoor
set_option linter.unusedVariables false
set_option linter.unusedSimpArgs false
open Go.RowKit

def cmpI (x y : Nat) : Int := if x < y then -1 else if x = y then 0 else 1
theorem cmpI_lt {x y : Nat} (h : x < y) : cmpI x y = -1 := by simp [cmpI, h]
theorem cmpI_gt {x y : Nat} (h : y < x) : cmpI x y = 1 := by unfold cmpI; rw [if_neg (by omega), if_neg (by omega)]
theorem cmpI_eq {x y : Nat} (h : x = y) : cmpI x y = 0 := by unfold cmpI; rw [if_neg (by omega), if_pos h]

def IntPost (w : World) (n : Int) (e : Ending) (w' : World) : Prop := e = .returned (.int .i64 n) ∧ Pure w w'
theorem IntPost.of {w w' : World} {n m : Int} (h : n = m) (hm : Pure w w') : IntPost w n (.returned (.int .i64 m)) w' := ⟨by rw [h], hm⟩
def CmpRel (w : World) (xs ys : List Nat) (gk : Nat) (i : Value) (wr : World) : Prop :=
  ∃ m : Nat, m = gk ∧ m ≤ xs.length ∧ i = .int .i64 ((m : Int) - 1) ∧ (∀ j, m ≤ j → xs.getD j 0 = ys.getD j 0) ∧ Pure w wr

set_option maxRecDepth 100000 in
set_option maxHeartbeats 1000000 in
theorem compare_calls (w : World) (a b : Value) (x y L M : Nat) (hx : IsNat w a x L) (hy : IsNat w b y M) :
    Calls Tryz.prog 128 #[a, b] w (IntPost w (cmpI x y)) := by
  obtain ⟨xs, ⟨A1, n1, c1, rfl, hc1, hc1', hl1, hr1⟩, hd1, hN1, rfl, hxl⟩ := hx
  obtain ⟨ys, ⟨A2, n2, c2, rfl, hc2, hc2', hl2, hr2⟩, hd2, hN2, rfl, hyl⟩ := hy
  rw [u32s_length, Nat.mul_one] at hl1 hl2
  subst hl1 hl2
  have HD1 := Lib.hid hd1
  have HD2 := Lib.hid hd2
  have HR1 := Lib.hid hr1
  have HR2 := Lib.hid hr2
  have HN1 := Lib.hid hN1
  have HN2 := Lib.hid hN2
  clear hd1 hd2 hr1 hr2 hN1 hN2
  by_cases hl : xs.length = ys.length
  · have hne : ((xs.length : Int) != (ys.length : Int)) = false := by simp; omega
    have HL := Lib.hid hl
    have hl1 : xs.length ≤ ys.length := by omega
    have hl2 : ys.length ≤ xs.length := by omega
    clear hl
    go_enter Tryz.func128, Tryz.ntmps128
    go_wp2_with fail
    go_loopg [5] xs.length (fun gk i wr => CmpRel w xs ys gk i wr)
    case atStart =>
      refine ⟨xs.length, rfl, Nat.le_refl _, rfl, fun j hj => ?_, Mod.refl _ _⟩
      rw [getD_ge hj, getD_ge (by omega)]
    case round =>
      obtain ⟨m, rfl, hm0, rfl, hz, hm⟩ := hrel
      have HZ := Lib.hid hz
      clear hz
      rcases m with _ | k
      · go_wp2_with fail
        go_ret
        exact IntPost.of (cmpI_eq (by rw [eq_of_digits xs ys HL.out (fun j => HZ.out j (by omega))])) hm
      · obtain ⟨g1, o1, rfl, hrr1⟩ := HR1.out (by omega)
        obtain ⟨g2, o2, rfl, hrr2⟩ := HR2.out (by omega)
        have hq1 := (hrr1.mod hm id).cell (u32s_get xs k hm0)
        have hq2 := (hrr2.mod hm id).cell (u32s_get ys k (by omega))
        obtain ⟨d1, h1⟩ : ∃ a, xs.getD k 0 = a := ⟨_, rfl⟩
        obtain ⟨d2, h2⟩ : ∃ a, ys.getD k 0 = a := ⟨_, rfl⟩
        rw [h1] at hq1
        rw [h2] at hq2
        have HA := Lib.hid h1
        have HB := Lib.hid h2
        clear h1 h2 hrr1 hrr2
        have i1 : (0 : Int) ≤ (k : Int) := by omega
        have i2 : (k : Int) < (xs.length : Int) := by omega
        have i3 : (k : Int) < (ys.length : Int) := by omega
        rw [show (((k + 1 : Nat) : Int) - 1) = (k : Int) from by omega]
        by_cases hlt : d1 < d2
        · have t1 : decide ((d1 : Int) < (d2 : Int)) = true := by simp; omega
          have t2 : decide (d1 < d2) = true := by simp; omega
          go_wp2_with fail
          go_quiet (fail)
          go_wp2_with fail
          go_ret
          exact IntPost.of (cmpI_lt (val_lt_of_digit B32 (by rw [B32_eq]; omega) xs ys HL.out HD1.out k HZ.out (by rw [HA.out, HB.out]; exact hlt))) (hm.drewN _)
        · have t2 : decide (d1 < d2) = false := by simp; omega
          by_cases hgt : d2 < d1
          · have t4 : decide (d2 < d1) = true := by simp; omega
            go_wp2_with fail
            go_quiet (fail)
            go_wp2_with fail
            go_quiet (fail)
            go_wp2_with fail
            go_ret
            exact IntPost.of (cmpI_gt (val_lt_of_digit B32 (by rw [B32_eq]; omega) ys xs HL.out.symm HD2.out k (fun j hj => (HZ.out j hj).symm) (by rw [HA.out, HB.out]; exact hgt))) ((hm.drewN _).drewN _)
          · have t4 : decide (d2 < d1) = false := by simp; omega
            go_wp2_with fail
            go_quiet (fail)
            go_wp2_with fail
            go_quiet (fail)
            go_wp2_with fail
            go_roundg k
            case measure => omega
            case rel =>
              refine ⟨k, rfl, by omega, rfl, fun j hj => ?_, hm.drewN _⟩
              by_cases e : j = k
              · subst e
                rw [HA.out, HB.out]
                omega
              · exact HZ.out j (by omega)
  · have hne : ((xs.length : Int) != (ys.length : Int)) = true := by simp; omega
    by_cases hlt : xs.length < ys.length
    · go_enter Tryz.func128, Tryz.ntmps128
      go_wp2_with fail
      go_ret
      exact IntPost.of (cmpI_lt (val_lt_of_length B32 (by rw [B32_eq]; omega) xs ys HD1.out HN2.out hlt)) (Mod.refl _ _)
    · go_enter Tryz.func128, Tryz.ntmps128
      go_wp2_with fail
      go_ret
      exact IntPost.of (cmpI_gt (val_lt_of_length B32 (by rw [B32_eq]; omega) ys xs HD2.out HN1.out (by omega))) (Mod.refl _ _)

set_option maxRecDepth 100000 in
set_option maxHeartbeats 1000000 in
theorem newNatural_calls (w : World) (n : Nat) (hn : n < 4294967296) :
    Calls Tryz.prog 127 #[.int .i64 (n : Int)] w (NatPost w n 3) := by
  go_enter Tryz.func127, Tryz.ntmps127
  go_wp2_with fail
  have hz : (n : Int) / 4294967296 = 0 := by omega
  rw [hz]
  have hb2 : Blk ((w.alloc (.cells #[] 84)).alloc (.cells #[.int .u32 (n : Int), .int .u32 0] 84)) (w.heap.size + 1) 84 (u32s [n, 0]).toArray := by
    have := Blk.new (w.alloc (.cells #[] 84)) 84 (u32s [n, 0]).toArray
    rw [World.size_alloc] at this
    exact this
  refine (plus_calls _ _ _ 0 n 2 ⟨[], ⟨_, 0, 0, rfl, by omega, by omega, by simp [u32s], fun h => absurd h (by omega)⟩, by simp, rfl, by simp⟩ ⟨[n, 0], ⟨_, 2, 2, rfl, by omega, by omega, by simp [u32s], fun _ => ⟨_, 0, rfl, hb2.row0⟩⟩, by simp; omega, by simp [val_cons, val_nil], by simp⟩ (by omega)).mono ?_
  rintro e w' ⟨v, rfl, hv, hm'⟩
  go_wp2_with fail
  go_ret
  refine ⟨v, rfl, ?_, ((((Mod.refl _ w).alloc _).alloc _).trans hm')⟩
  simpa using hv

end Go.Proofs.YtkchninlhemioaaGreatDoor

/- Package sample: first, for any closure with two captured variables whose answers rise. -/
namespace Go.Proofs.YtkchninlhemioaaGreatDoor
set_option linter.unusedVariables false
set_option linter.unusedSimpArgs false
open Go.RowKit

def BoolPost (w : World) (b : Bool) (e : Ending) (w' : World) : Prop := e = .returned (.bool b) ∧ Pure w w'
theorem BoolPost.of {w w' : World} {n m : Bool} (h : n = m) (hm : Pure w w') : BoolPost w n (.returned (.bool m)) w' := ⟨by rw [h], hm⟩

/-- x is the least number from lo to hi for which P holds (hi, if for none below). -/
def Least (lo hi : Int) (P : Int → Bool) (x : Int) : Prop := lo ≤ x ∧ x ≤ hi ∧ (∀ y, lo ≤ y → y < x → P y = false) ∧ (x < hi → P x = true)
theorem Least.unique {lo hi : Int} {P : Int → Bool} {x y : Int} (hx : Least lo hi P x) (hy : Least lo hi P y) : x = y := by
  obtain ⟨a1, a2, a3, a4⟩ := hx
  obtain ⟨b1, b2, b3, b4⟩ := hy
  rcases Int.lt_trichotomy x y with h | h | h
  · have := b3 x a1 h; rw [a4 (by omega)] at this; cases this
  · exact h
  · have := a3 y b1 h; rw [b4 (by omega)] at this; cases this

def FirstPost (w : World) (lo hi : Int) (P : Int → Bool) (e : Ending) (w' : World) : Prop := ∃ x, Least lo hi P x ∧ e = .returned (.int .i64 x) ∧ Pure w w'
def FirstRel (w : World) (lo hi : Int) (P : Int → Bool) (gk : Nat) (l h : Value) (wr : World) : Prop :=
  ∃ a b : Int, (b - a).toNat = gk ∧ lo ≤ a ∧ a ≤ b ∧ b ≤ hi ∧ l = .int .i64 a ∧ h = .int .i64 b ∧ (∀ y, lo ≤ y → y < a → P y = false) ∧ (b < hi → P b = true) ∧ Pure w wr

set_option maxRecDepth 100000 in
set_option maxHeartbeats 1000000 in
theorem first_calls (w : World) (lo hi : Int) (F : Nat) (c1 c2 : Value) (P : Int → Bool) (h1 : lo ≤ hi) (h2 : -4611686018427387904 ≤ lo) (h3 : hi ≤ 4611686018427387903)
    (hcf : ∀ (n : Int) (W : World), Sem.run Tryz.prog (callFunc F #[.int .i64 n, c1, c2]) W = .ok (.enter F #[.int .i64 n, c1, c2]) W)
    (hP : ∀ x y, lo ≤ x → x ≤ y → y < hi → P x = true → P y = true)
    (hF : ∀ (n : Int) (W : World), lo ≤ n → n < hi → Pure w W → Calls Tryz.prog F #[.int .i64 n, c1, c2] W (BoolPost W (P n))) :
    Calls Tryz.prog 96 #[.int .i64 lo, .int .i64 hi, .func (.func F) #[] #[c1, c2]] w (FirstPost w lo hi P) := by
  have HP := Lib.hid hP
  have HF := Lib.hid hF
  clear hP hF
  go_enter Tryz.func96, Tryz.ntmps96
  go_wp2_with fail
  go_loopg [0, 1] (hi - lo).toNat (fun gk l h wr => FirstRel w lo hi P gk l h wr)
  case atStart => exact ⟨lo, hi, rfl, by omega, h1, by omega, rfl, rfl, fun y _ _ => by omega, fun h => by omega, Mod.refl _ _⟩
  case round =>
    obtain ⟨a, b, rfl, ha, hab, hb, rfl, rfl, hlow, hhigh, hm⟩ := hrel
    have HLOW := Lib.hid hlow
    have HHIGH := Lib.hid hhigh
    clear hlow hhigh
    by_cases hlt : a < b
    · go_wp2_with fail
      refine (HF.out _ _ (by omega) (by omega) hm).mono ?_
      rintro e w1 ⟨rfl, hm1⟩
      obtain ⟨c, hc⟩ : ∃ c, a + (b - a) / 2 = c := ⟨_, rfl⟩
      have hcb : a ≤ c ∧ c < b := by omega
      rw [hc]
      cases hpc : P c
      · go_wp2_with fail
        go_roundg (b - (c + 1)).toNat
        case measure => omega
        case rel =>
          refine ⟨c + 1, b, rfl, by omega, by omega, hb, rfl, rfl, fun y hy1 hy2 => ?_, HHIGH.out, hm.trans hm1⟩
          cases hpy : P y with
          | false => rfl
          | true =>
            have := HP.out y c hy1 (by omega) (by omega) hpy
            rw [hpc] at this
            cases this
      · go_wp2_with fail
        go_roundg (c - a).toNat
        case measure => omega
        case rel => exact ⟨a, c, rfl, ha, by omega, by omega, rfl, rfl, HLOW.out, fun _ => hpc, hm.trans hm1⟩
    · have hab2 : a = b := by omega
      subst hab2
      go_wp2_with fail
      go_ret
      exact ⟨a, ⟨ha, hb, HLOW.out, HHIGH.out⟩, rfl, hm⟩

end Go.Proofs.YtkchninlhemioaaGreatDoor

/- Fractions in lowest terms: sample.fraction, the reference's Lowest. -/
namespace Go.Proofs.YtkchninlhemioaaGreatDoor
set_option linter.unusedVariables false
set_option linter.unusedSimpArgs false
open Go.RowKit

/-- The two numbers of a fraction in lowest terms. -/
def fracN (n d : Int) : Int := n.tdiv (Int.gcd n d : Int)
def fracD (n d : Int) : Int := d.tdiv (Int.gcd n d : Int)
theorem tdiv_bound (n g b : Int) (hb : 0 ≤ b) (h : -b ≤ n ∧ n ≤ b) (hg : 1 ≤ g) : -b ≤ n.tdiv g ∧ n.tdiv g ≤ b := by
  have h1 : (n.tdiv g).natAbs ≤ n.natAbs := by
    rw [Int.natAbs_tdiv]
    exact Nat.div_le_self _ _
  omega
theorem frac_bound (n d b : Int) (h : -b ≤ n ∧ n ≤ b) (hd : 1 ≤ d) (hdb : d ≤ b) : (-b ≤ fracN n d ∧ fracN n d ≤ b) ∧ (-b ≤ fracD n d ∧ fracD n d ≤ b) := by
  have hg : 1 ≤ (Int.gcd n d : Int) := by
    have : 0 < Int.gcd n d := Int.gcd_pos_of_ne_zero_right _ (by omega)
    omega
  exact ⟨tdiv_bound _ _ _ (by omega) h hg, tdiv_bound _ _ _ (by omega) (by omega) hg⟩

def FracRes (w : World) (n d : Int) (e : Ending) (w' : World) : Prop := e = .returned (.agg #[.int .i64 n, .int .i64 d]) ∧ Pure w w'

end Go.Proofs.YtkchninlhemioaaGreatDoor

/- The reference's Lowest. -/
namespace Go.Proofs.YtkchninlhemioaaGreatDoor
set_option linter.unusedVariables false
set_option linter.unusedSimpArgs false
open Go.RowKit

theorem gcd_step (a b : Int) : Int.gcd b (a.tmod b) = Int.gcd a b := by
  unfold Int.gcd
  rw [Int.natAbs_tmod, Nat.gcd_comm b.natAbs, ← Nat.gcd_rec, Nat.gcd_comm]

end Go.Proofs.YtkchninlhemioaaGreatDoor
