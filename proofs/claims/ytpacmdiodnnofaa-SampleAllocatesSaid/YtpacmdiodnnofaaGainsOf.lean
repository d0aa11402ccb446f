/- The reference's GainsOf. -/
import Derived.Test.YtpacmdiodnnofaaKnee
namespace Go.Proofs.Ytpacmdiodnnofaa
set_option linter.unusedVariables false
set_option linter.unusedSimpArgs false
open Go.RowKit
attribute [local go_sem ↓] Go.wp_at_zero Go.wp_at_succ

/-- The gains of the first i; then c; then zeros: n numbers in all. -/
def gRow (bs : List Bool) (n i : Nat) (c : Int) : List Int := gainsL bs i ++ c :: List.replicate (n - i - 1) 0
theorem gRow_zero (bs : List Bool) {n : Nat} (h : 0 < n) : List.replicate n (0 : Int) = gRow bs n 0 0 := by
  unfold gRow gainsL
  simp
  rw [← List.replicate_succ, show n - 1 + 1 = n by omega]
theorem gRow_next (bs : List Bool) {n i : Nat} (h : i + 1 < n) : gRow bs n i (cnt (bs.take (i + 1)) : Int) = gRow bs n (i + 1) 0 := by
  unfold gRow
  rw [gainsL_succ, List.append_assoc]
  congr 1
  rw [List.singleton_append, ← List.replicate_succ, show n - (i + 1) - 1 + 1 = n - i - 1 by omega]
theorem gRow_last (bs : List Bool) {n i : Nat} (h : i + 1 = n) : gRow bs n i (cnt (bs.take (i + 1)) : Int) = gainsL bs n := by
  subst h
  unfold gRow
  rw [gainsL_succ]
  simp
theorem gRow_len (bs : List Bool) {n i : Nat} (h : i < n) (c : Int) : (gRow bs n i c).length = n := by
  unfold gRow
  simp [gainsL_len]
  omega
theorem gRow_get (bs : List Bool) (n i : Nat) (c : Int) : (intsV (gRow bs n i c)).toArray[i]? = some (.int .i64 c) := by
  unfold gRow intsV
  simp [gainsL_len, List.getElem?_append]
theorem gRow_set (bs : List Bool) (n i : Nat) (c d : Int) : (intsV (gRow bs n i c)).toArray.setIfInBounds i (.int .i64 d) = (intsV (gRow bs n i d)).toArray := by
  unfold gRow intsV
  simp [List.set_append, gainsL_len]

def GORel (W : World) (bs : List Bool) (g gk : Nat) (i : Value) (wr : World) : Prop :=
  ∃ k : Nat, bs.length - k = gk ∧ k ≤ bs.length ∧ i = .int .i64 (k : Int) ∧ (k < bs.length → Blk wr g 3 (intsV (gRow bs bs.length k 0)).toArray) ∧ (k = bs.length → Blk wr g 3 (intsV (gainsL bs bs.length)).toArray) ∧ Mod (fun j => j = g) W wr
def GOIn (W : World) (bs : List Bool) (g i gk : Nat) (j : Value) (wr : World) : Prop :=
  ∃ k : Nat, i + 1 - k = gk ∧ k ≤ i + 1 ∧ j = .int .i64 (k : Int) ∧ Blk wr g 3 (intsV (gRow bs bs.length i (cnt (bs.take k) : Int))).toArray ∧ Mod (fun j => j = g) W wr
theorem intsV_zeros (n : Nat) : (List.replicate n (Value.int .i64 0)) = intsV (List.replicate n 0) := by simp [intsV]
theorem own_of_blk {w : World} {base g n : Nat} {t : TypeId} {xs : List Value} (h : Blk w g t xs.toArray) (hb : base ≤ g) (hn : xs.length = n) (hl : n ≤ 9223372036854775807) : w.ownsRow base t 1 (.slice (some ⟨g, 0, none⟩) n n) n xs := by
  refine ⟨by omega, .inr ⟨g, n, xs.toArray, rfl, hb, h, Nat.le_refl _, by simpa [maxLen] using hl, by simp; omega, ?_⟩⟩
  simp
  rw [List.take_of_length_le (by omega)]

set_option maxRecDepth 100000 in
set_option maxHeartbeats 2000000 in
theorem GainsOf_calls (w : World) (v : Value) (bs : List Bool) (hv : Sl w 4 1 v (boolsV bs)) (hl : bs.length ≤ 1000000) : Calls Try.prog 56 #[v] w (OwnPost w 3 (intsV (gainsL bs bs.length))) := by
  obtain ⟨A, m, c, rfl⟩ := hv.form
  obtain ⟨hm, hmc, hcc⟩ := hv.len
  rw [boolsV_len] at hm
  subst hm
  have hmk := run_make_one (P := Try.prog) 22 3 (.int .i64 0) 8 Try.underlying22 info_int_ rfl .i64 .i64 bs.length (bs.length : Int) rfl (by omega) (by omega) (intsV (List.replicate bs.length 0)).toArray (by rw [intsV_zeros])
  go_enter Try.func56, Try.ntmps56
  go_wp2_with fail
  clear hmk
  have hB0 := Blk.new w 3 (intsV (List.replicate bs.length 0)).toArray
  have hm0 : Pure w (w.alloc (.cells (intsV (List.replicate bs.length 0)).toArray 3)) := (Mod.refl _ _).alloc _
  have hv0 := hv.pure hm0
  generalize (w.alloc (.cells (intsV (List.replicate bs.length 0)).toArray 3)) = W at *
  generalize hdb : w.heap.size = g at *
  have hle := Nat.le_of_eq hdb
  clear hdb
  go_loopg [12] bs.length (fun gk i wr => GORel W bs g gk i wr)
  case atStart =>
    refine ⟨0, by omega, by omega, rfl, fun h => ?_, fun h => ?_, Mod.refl _ _⟩
    · rw [← gRow_zero bs h]
      exact hB0
    · rw [← h] at hB0 ⊢
      exact hB0
  case round =>
    obtain ⟨i, rfl, hi, rfl, hbi, hbl, hm⟩ := hrel
    have HBI := Lib.hid hbi
    have HBL := Lib.hid hbl
    clear hbi hbl
    by_cases hlt : i < bs.length
    · have i1 : (0 : Int) ≤ (i : Int) + 1 := by omega
      have i2 : (i : Int) + 1 ≤ (c : Int) := by omega
      have i3 : i + 1 ≤ c := by omega
      have hb0 := HBI.out hlt
      go_wp2_with fail
      obtain ⟨wo, rfl⟩ : ∃ wo : World, wo = wr := ⟨_, rfl⟩
      go_loopg [20] (i + 1) (fun gk j wr => GOIn W bs g i gk j wr)
      case atStart => exact ⟨0, by omega, by omega, rfl, hb0, hm⟩
      case round =>
        clear hb0 hm
        obtain ⟨j, rfl, hj, rfl, hb, hm⟩ := hrel
        have hct := cnt_take_le bs j
        by_cases hjt : j < i + 1
        · obtain ⟨g1, o1, rfl, hrow⟩ := hv0.row (by omega)
          have hne : g1 ≠ g := hrow.ne hB0 (by decide)
          have hq := (hrow.mod hm hne).cell (boolsV_get bs j (by omega))
          have hc0 := (hb.cell i).trans (gRow_get bs bs.length i _)
          have hf0 := hb.frozen i
          have HT := Lib.hid (cnt_take bs j (by omega))
          have j1 : (0 : Int) ≤ (j : Int) := by omega
          have j2 : (j : Int) < (i : Int) + 1 := by omega
          have j3 : (0 : Int) ≤ (i : Int) := by omega
          have j4 : (i : Int) < (bs.length : Int) := by omega
          clear hrow
          generalize bs[j] = x at *
          generalize cnt (bs.take j) = t0 at *
          have e1 : IntKind.i64.wrap ((t0 : Int) + 0) = (t0 : Int) := by rw [Int.add_zero]; exact IntWalk.i64_in _ (by omega)
          have e2 : IntKind.i64.wrap ((t0 : Int) + 1) = (t0 : Int) + 1 := IntWalk.i64_in _ (by omega)
          cases x
          · go_wp2_with fail
            go_region_with (go_at_call 94; (refine (flag_calls _ _).mono ?_); rintro e w' ⟨rfl, rfl⟩)
            all_goals
              go_wp2_with fail
              go_roundg (i + 1 - (j + 1))
              case measure => omega
              case rel =>
                refine ⟨j + 1, rfl, by omega, by simp, ?_, (Mod.setCell (S := fun j => j = g) (p := ⟨g, i, none⟩) hm (.inl rfl) _).drew⟩
                have hset := hb.set i (.int .i64 (t0 : Int))
                rw [gRow_set] at hset
                rw [HT.out]
                exact Blk.drew (by simpa using hset)
          · go_wp2_with fail
            go_region_with (go_at_call 94; (refine (flag_calls _ _).mono ?_); rintro e w' ⟨rfl, rfl⟩)
            all_goals
              go_wp2_with fail
              go_roundg (i + 1 - (j + 1))
              case measure => omega
              case rel =>
                refine ⟨j + 1, rfl, by omega, by simp, ?_, (Mod.setCell (S := fun j => j = g) (p := ⟨g, i, none⟩) hm (.inl rfl) _).drew⟩
                have hset := hb.set i (.int .i64 ((t0 : Int) + 1))
                rw [gRow_set] at hset
                rw [HT.out]
                exact Blk.drew (by simpa using hset)
        · have hje : j = i + 1 := by omega
          subst hje
          go_wp2_with fail
          go_roundg (bs.length - (i + 1))
          case measure => omega
          case rel =>
            refine ⟨i + 1, rfl, hlt, by simp, fun h => ?_, fun h => ?_, hm⟩
            · rw [← gRow_next bs h]; exact hb
            · rw [← gRow_last bs h]; exact hb
    · have hie : i = bs.length := by omega
      have hbb := HBL.out hie
      subst hie
      clear HBL HBI
      go_wp2_with fail
      go_ret
      refine ⟨_, _, rfl, own_of_blk hbb hle (by simp [intsV, gainsL_len]) (by omega), hm0.trans' hm (fun i hi hlt => by omega)⟩

end Go.Proofs.Ytpacmdiodnnofaa
