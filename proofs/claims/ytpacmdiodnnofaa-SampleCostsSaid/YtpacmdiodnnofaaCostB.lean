/- Costs: Cost, Afford; the reference's CostsFault, AffordOf. -/
import Derived.Test.YtpacmdiodnnofaaCost
import Derived.Test.YtpacmdiodnnofaaRMost
namespace Go.Proofs.Ytpacmdiodnnofaa
set_option linter.unusedVariables false
set_option linter.unusedSimpArgs false
open Go.RowKit
attribute [local go_sem ↓] Go.wp_at_zero Go.wp_at_succ

theorem mem_take_succ {l : List Int} {k : Nat} (h : k < l.length) {x : Int} (hx : x ∈ l.take (k + 1)) : x ∈ l.take k ∨ x = l[k] := by
  rw [List.take_succ_eq_append_getElem h] at hx
  rcases List.mem_append.1 hx with h1 | h1
  · exact .inl h1
  · exact .inr (by simpa using h1)
theorem costErr_bad {o r s v x : Int} (hx : x ∈ [o, r, s]) (h : ¬ (0 ≤ x ∧ x ≤ 1000000000)) : costErr o r s v = 1 := by
  unfold costErr
  simp at hx
  rw [if_neg]
  rcases hx with rfl | rfl | rfl <;> omega
theorem costErr_last {o r s v : Int} (h : ∀ x ∈ [o, r, s], 0 ≤ x ∧ x ≤ 1000000000) : costErr o r s v = if 0 ≤ v ∧ v ≤ 1000000 then 0 else 1 := by
  have h1 := h o (by simp)
  have h2 := h r (by simp)
  have h3 := h s (by simp)
  unfold costErr
  by_cases hv : 0 ≤ v ∧ v ≤ 1000000
  · rw [if_pos ⟨h1, h2, h3, hv⟩, if_pos hv]
  · rw [if_neg (fun hh => hv hh.2.2.2), if_neg hv]

set_option maxRecDepth 100000 in
set_option maxHeartbeats 1000000 in
theorem costsFault_calls (w : World) (o r s v : Int) :
    Calls Try.prog 34 #[agg4 o r s v] w (IntPost w (costErr o r s v)) := by
  go_enter Try.func34, Try.ntmps34
  go_wp2_with fail
  have hrB := (Blk.new w 51 #[.int .i64 o, .int .i64 r, .int .i64 s, .int .i64 v]).alloc (.cells #[.int .i64 o, .int .i64 r, .int .i64 s] 3)
  have hxB : Blk ((w.alloc (.cells #[.int .i64 o, .int .i64 r, .int .i64 s, .int .i64 v] 51)).alloc (.cells #[.int .i64 o, .int .i64 r, .int .i64 s] 3)) (w.heap.size + 1) 3 (intsV [o, r, s]).toArray := by
    have := Blk.new (w.alloc (.cells #[.int .i64 o, .int .i64 r, .int .i64 s, .int .i64 v] 51)) 3 (intsV [o, r, s]).toArray
    rw [World.size_alloc] at this
    exact this
  have hm0 : Pure w ((w.alloc (.cells #[.int .i64 o, .int .i64 r, .int .i64 s, .int .i64 v] 51)).alloc (.cells #[.int .i64 o, .int .i64 r, .int .i64 s] 3)) := ((Mod.refl _ _).alloc _).alloc _
  generalize ((w.alloc (.cells #[.int .i64 o, .int .i64 r, .int .i64 s, .int .i64 v] 51)).alloc (.cells #[.int .i64 o, .int .i64 r, .int .i64 s] 3)) = X at *
  go_loopg [13] 3 (fun gk i wr => ∃ k : Nat, 3 - k = gk ∧ k ≤ 3 ∧ i = .int .i64 (k : Int) ∧ (∀ x ∈ [o, r, s].take k, 0 ≤ x ∧ x ≤ 1000000000) ∧ X = wr)
  case atStart => exact ⟨0, by omega, by omega, rfl, by simp, rfl⟩
  case round =>
    obtain ⟨k, rfl, hk, rfl, hall, rfl⟩ := hrel
    have HA := Lib.hid hall
    clear hall
    by_cases hlt : k < 3
    · have hlt2 : k < [o, r, s].length := by simp; omega
      have hq := hxB.row0.cell (intsV_get [o, r, s] k hlt2)
      rw [Nat.zero_add] at hq
      have hmem : [o, r, s][k] ∈ [o, r, s] := List.getElem_mem hlt2
      have hstep : ∀ x, x ∈ [o, r, s].take (k + 1) → x ∈ [o, r, s].take k ∨ x = [o, r, s][k] := fun x hx => mem_take_succ hlt2 hx
      have HST := Lib.hid hstep
      have HME := Lib.hid hmem
      clear hstep hmem
      generalize [o, r, s][k] = x at *
      go_wp2_with fail
      refine (rin_calls _ _ _ _).mono ?_
      rintro e w' ⟨rfl, rfl⟩
      cases hin : inB x 0 1000000000
      · go_wp2_with fail
        go_ret
        exact IntPost.of (costErr_bad HME.out (inB_false hin)) hm0
      · go_wp2_with fail
        go_roundg (3 - (k + 1))
        case measure => omega
        case rel =>
          refine ⟨k + 1, rfl, hlt, by simp, fun y hy => ?_, rfl⟩
          rcases HST.out y hy with h1 | h1
          · exact HA.out y h1
          · rw [h1]; exact inB_true hin
    · have hke : k = 3 := by omega
      subst hke
      have q3 := hrB.cell 3
      simp at q3
      have hce := costErr_last (v := v) HA.out
      have HCE := Lib.hid hce
      clear hce
      go_wp2_with fail
      refine (rin_calls _ _ _ _).mono ?_
      rintro e w' ⟨rfl, rfl⟩
      cases hin : inB v 0 1000000
      · go_wp2_with fail
        go_ret
        exact IntPost.of (by rw [HCE.out, if_neg (inB_false hin)]) hm0
      · go_wp2_with fail
        go_ret
        exact IntPost.of (by rw [HCE.out, if_pos (inB_true hin)]) hm0

def itemErr (i : Int) : Int := if 0 ≤ i ∧ i ≤ 1000000 then 0 else 1
theorem countB_one (i : Int) : (!([i].any countB)) = inB i 0 1000000 := by simp [countB]

set_option maxRecDepth 100000 in
set_option maxHeartbeats 1000000 in
theorem Cost_err (w : World) (o r s v i er : Int) (h : firstErr [costErr o r s v, itemErr i] = er) (hne : er ≠ 0) :
    Calls Try.prog 32 #[agg4 o r s v, .int .i64 i] w (ErrPost w (.int .i64 0) er) := by
  have HE := Lib.hid h
  have hb : (er != 0) = true := by simpa using hne
  clear h
  go_enter Try.func32, Try.ntmps32
  go_wp2_with fail
  refine (costError_calls _ _ _ _ _).mono ?_
  rintro e w1 ⟨rfl, hm1⟩
  go_wp2_with fail
  refine (counts_calls _ _ [i] ⟨_, 1, 1, rfl, by omega, by omega, by simp [intsV], fun _ => ⟨_, 0, rfl, (Blk.new w1 3 (intsV [i]).toArray).row0⟩⟩).mono ?_
  rintro e w2 ⟨rfl, hm2⟩
  rw [countB_one]
  have hM2 : Pure w w2 := (((Mod.refl _ _).alloc _).trans hm1).trans (((Mod.refl _ _).alloc _).trans hm2)
  cases hin : inB i 0 1000000
  · have HK : Hid (firstErr [costErr o r s v, 1] = er) := by
      have ee : itemErr i = 1 := by unfold itemErr; rw [if_neg (inB_false hin)]
      have := HE.out
      rwa [ee] at this
    go_wp2_with fail
    refine (when_t _ _).mono ?_
    rintro e w' ⟨rfl, rfl⟩
    go_wp2_with fail
    refine (firstE_calls _ _ _ [costErr o r s v, 1] (Blk.new _ _ _).row0 (by simp)).mono ?_
    rintro e w3 ⟨rfl, hm3⟩
    rw [HK.out]
    go_wp2_with fail
    go_ret2
    exact ⟨rfl, hM2.trans (((Mod.refl _ _).alloc _).trans hm3)⟩
  · have HK : Hid (firstErr [costErr o r s v, 0] = er) := by
      have ee : itemErr i = 0 := by unfold itemErr; rw [if_pos (inB_true hin)]
      have := HE.out
      rwa [ee] at this
    go_wp2_with fail
    refine (when_f _ _).mono ?_
    rintro e w' ⟨rfl, rfl⟩
    go_wp2_with fail
    refine (firstE_calls _ _ _ [costErr o r s v, 0] (Blk.new _ _ _).row0 (by simp)).mono ?_
    rintro e w3 ⟨rfl, hm3⟩
    rw [HK.out]
    go_wp2_with fail
    go_ret2
    exact ⟨rfl, hM2.trans (((Mod.refl _ _).alloc _).trans hm3)⟩

theorem costErr_ok {o r s v : Int} (h : CostOk o r s v) : costErr o r s v = 0 := by
  unfold costErr; unfold CostOk at h; rw [if_pos h]
theorem costErr_inv {o r s v : Int} (h : costErr o r s v = 0) : CostOk o r s v := by
  unfold costErr at h
  split at h
  · assumption
  · cases h

set_option maxRecDepth 100000 in
set_option maxHeartbeats 1000000 in
theorem Cost_ok (w : World) (o r s v i : Int) (h : CostOk o r s v) (hi : 0 ≤ i ∧ i ≤ 1000000) :
    Calls Try.prog 32 #[agg4 o r s v, .int .i64 i] w (ErrPost w (.int .i64 (costV o r s v i)) 0) := by
  have HOK := Lib.hid h
  clear h
  have hin : inB i 0 1000000 = true := by unfold inB; simpa using hi
  go_enter Try.func32, Try.ntmps32
  go_wp2_with fail
  have hrB := Blk.new w 51 #[.int .i64 o, .int .i64 r, .int .i64 s, .int .i64 v]
  refine (costError_calls _ _ _ _ _).mono ?_
  rintro e w1 ⟨rfl, hm1⟩
  rw [costErr_ok HOK.out]
  go_wp2_with fail
  refine (counts_calls _ _ [i] ⟨_, 1, 1, rfl, by omega, by omega, by simp [intsV], fun _ => ⟨_, 0, rfl, (Blk.new w1 3 (intsV [i]).toArray).row0⟩⟩).mono ?_
  rintro e w2 ⟨rfl, hm2⟩
  rw [countB_one, hin]
  have hMM : Pure (w.alloc (.cells #[.int .i64 o, .int .i64 r, .int .i64 s, .int .i64 v] 51)) w2 := hm1.trans (((Mod.refl _ _).alloc _).trans hm2)
  go_wp2_with fail
  refine (when_f _ _).mono ?_
  rintro e w' ⟨rfl, rfl⟩
  go_wp2_with fail
  refine (firstE_calls _ _ _ [0, 0] (Blk.new _ _ _).row0 (by simp)).mono ?_
  rintro e w3 ⟨rfl, hm3⟩
  rw [show firstErr [0, 0] = 0 from rfl]
  have hM3 := hMM.trans (((Mod.refl _ _).alloc _).trans hm3)
  have h1 := hrB.mod hM3 id
  have q0 := h1.cell 0
  have q1 := h1.cell 1
  have q2 := h1.cell 2
  have q3 := h1.cell 3
  simp at q0 q1 q2 q3
  clear hrB h1
  go_wp2_with fail
  refine (cost_calls _ _ _ _ _ _ HOK.out hi).mono ?_
  rintro e w4 ⟨rfl, hm4⟩
  go_wp2_with fail
  go_ret2
  exact ⟨rfl, (((Mod.refl _ _).alloc _).trans hM3).trans hm4⟩

end Go.Proofs.Ytpacmdiodnnofaa
