/- The law SampleHashes. -/
import Derived.Test.YtdknpekbonmmhaaDoorRKey
import Derived.Test.YtdknpekbonmmhaaDoorSeed
import Derived.Test.YtdknpekbonmmhaaDoorDrawn
import Derived.Test.YtdknpekbonmmhaaDoorRCheck
import Derived.Test.YtdknpekbonmmhaaDoorRegG
import Derived.Deep.DeepCutAuto
namespace Go.Proofs.YtdknpekbonmmhaaDoor
set_option linter.unusedVariables false
set_option linter.unusedSimpArgs false
open Go.RowKit

def hashE (id seed : Str) : Int := firstErr [keyErr id, keyErr seed]
def hashV (id seed : Str) : Int := if hashE id seed = 0 then (hashN (seed ++ 32 :: id) : Int) else 0
theorem keyErr_cases (l : Str) : (keyErr l = 5 ∧ keyB l = false) ∨ (keyErr l = 0 ∧ keyB l = true) := by
  cases h : keyB l
  · exact .inl ⟨keyErr_f h, rfl⟩
  · exact .inr ⟨keyErr_t h, rfl⟩
theorem keyE_eq (l : Str) : keyE l = keyErr l := rfl
theorem hashE_cases (id seed : Str) : (hashE id seed = 5) ∨ (hashE id seed = 0 ∧ keyB id = true ∧ keyB seed = true) := by
  unfold hashE
  rcases keyErr_cases id with ⟨h1, h2⟩ | ⟨h1, h2⟩
  · left; rw [h1]; rfl
  · rcases keyErr_cases seed with ⟨h3, h4⟩ | ⟨h3, h4⟩
    · left; rw [h1, h3]; rfl
    · right; rw [h1, h3]; exact ⟨rfl, h2, h4⟩

set_option maxRecDepth 100000 in
set_option maxHeartbeats 1000000 in
theorem Hash_any (w : World) (id seed : Str) (hs1 : id.length ≤ 1000) (hs2 : seed.length ≤ 1000) :
    Calls Tryd.prog 8 #[.string ⟨id.toArray⟩, .string ⟨seed.toArray⟩] w (ErrPost w (.int .i64 (hashV id seed)) (hashE id seed)) := by
  have z1 : (⟨id.toArray⟩ : ByteArray).size ≤ 1000 := by simpa [ByteArray.size] using hs1
  have z2 : (⟨seed.toArray⟩ : ByteArray).size ≤ 1000 := by simpa [ByteArray.size] using hs2
  rcases hashE_cases id seed with h | ⟨h, k1, k2⟩
  · have hv : hashV id seed = 0 := by unfold hashV; rw [if_neg (by rw [h]; decide)]
    rw [hv]
    have HE := Lib.hid h
    rw [h]
    clear h hv
    go_enter Tryd.func8, Tryd.ntmps8
    go_wp2_with fail
    refine (keyError_calls _ _ (by omega)).mono ?_
    rintro e w' ⟨rfl, rfl⟩
    go_wp2_with fail
    refine (keyError_calls _ _ (by omega)).mono ?_
    rintro e w' ⟨rfl, rfl⟩
    go_wp2_with fail
    refine (firstE_calls _ _ _ [keyErr id, keyErr seed] (Blk.new _ _ _).row0 (by simp)).mono ?_
    rintro e w1 ⟨rfl, hm1⟩
    have hf : firstErr [keyErr id, keyErr seed] = 5 := HE.out
    rw [hf]
    clear hf
    go_wp2_with fail
    go_ret2
    exact ⟨rfl, ((Mod.refl _ _).alloc _).trans hm1⟩
  · have hv : hashV id seed = (hashN (seed ++ 32 :: id) : Int) := by unfold hashV; rw [if_pos h]
    rw [h, hv]
    have := Hash_ok w ⟨id.toArray⟩ ⟨seed.toArray⟩ (by simpa using k1) (by simpa using k2) z1 z2
    simpa using this

def hashIds : List Str := [[97], [105, 97], [107, 49, 55], [], [65], [108, 111, 110, 103, 45, 110, 97, 109, 101, 95, 119, 105, 116, 104, 45, 57]]
theorem hashIds_len : ∀ s ∈ hashIds, s.length ≤ 16 := by decide
theorem seeds_len : ∀ s ∈ seeds, s.length ≤ 3 := by decide

set_option maxRecDepth 100000 in
set_option maxHeartbeats 4000000 in
theorem SampleHashes_calls (w : World) (A : Option Addr) (n c : Nat) (hA : ArgInts w A n) :
    Calls Tryd.prog 3 #[.slice A n c] w (BoolPost w true) := by
  have hS0 := strm_new (c := c) hA
  have m0 : Pure w (w.alloc (.cells #[.slice A n c, .int .i64 0] 25)) := (Mod.refl _ _).alloc _
  go_enter Tryd.func3, Tryd.ntmps3
  go_wp2_with fail
  generalize (w.alloc (.cells #[.slice A n c, .int .i64 0] 25)) = W at *
  generalize hb : w.heap.size = b at *
  have hwb := Nat.le_of_eq hb
  clear hb
  have hbW := hS0.lt
  have HGs := Lib.hid (show ∀ (D : Nat → Bool) (i : Nat) (w w' : World), (fun _ w => (fun w => b < w.heap.size) w) D w → Mod (· = b) w w' → (fun _ w => (fun w => b < w.heap.size) w) (upd D i true) w' from by intro D i w w' h hm; (exact Nat.lt_of_lt_of_le h hm.size))
  refine wp_region_inv (by kernel_rfl) (by kernel_rfl) (InvF (R := Mod (· = b)) [⟨fun zv zw => ∃ (g_0 : Nat), zv = .slice (some ⟨g_0, 0, none⟩) 6 6 ∧ W.heap.size ≤ g_0 ∧ Blk zw g_0 9 #[(.string { data := #[97] }), (.string { data := #[105, 97] }), (.string { data := #[107, 49, 55] }), (.string { data := #[] }), (.string { data := #[65] }), (.string { data := #[108, 111, 110, 103, 45, 110, 97, 109, 101, 95, 119, 105, 116, 104, 45, 57] })], (by rintro zv zw zx ⟨g_0, rfl, c0, q0⟩ hm; exact ⟨g_0, rfl, c0, (q0.modb hm (by omega))⟩), none, none⟩,
      .is (.pointer (some ⟨b, 0, none⟩)),
      .val (fun zv => ∃ (j_2 : Nat), zv = .int .i64 (j_2 : Int) ∧ j_2 < 6),
      ⟨fun zv zw => ∃ (g_3 : Nat) (j_3 : Nat), zv = .pointer (some ⟨g_3, j_3, none⟩) ∧ W.heap.size ≤ g_3 ∧ j_3 < 6 ∧ Blk zw g_3 9 (strsV hashIds).toArray, (by rintro zv zw zx ⟨g_3, j_3, rfl, c0, c1, q0⟩ hm; exact ⟨g_3, j_3, rfl, c0, c1, (q0.modb hm (by omega))⟩), none, none⟩,
      .val (fun zv => ∃ (s_4 : Str), zv = .string ⟨s_4.toArray⟩ ∧ s_4 ∈ hashIds),
      .is (.pointer (some ⟨b, 0, none⟩)),
      .val (fun zv => ∃ (t_6 : Str), zv = .string ⟨t_6.toArray⟩ ∧ t_6 ∈ seeds),
      .val (fun zv => ∃ (s_7 : Str), zv = .string ⟨s_7.toArray⟩ ∧ s_7 ∈ hashIds),
      .val (fun zv => ∃ (t_8 : Str), zv = .string ⟨t_8.toArray⟩ ∧ t_8 ∈ seeds)]
      (GB w (fun _ => False) W.heap.size b (0) (fun D => (D 2).toNat + (D 6).toNat) (fun _ w => (fun w => b < w.heap.size) w))) (InvF.start (GB.start hS0 m0 (Nat.le_refl _) (hbW))) ?_ ?_
  · refine .cons ?_ (.cons ?_ (.cons ?_ (.cons ?_ (.cons ?_ (.cons ?_ (.cons ?_ (.cons ?_ (.cons ?_ .nil))))))))
    · intro D V zw1 a hR hI K hK   -- 0: Op.buildSlice 26 6 #[(0, Operand.const (Value.string { data := #[97] }
      obtain ⟨hS1, hM1, hB1, hG1⟩ := hI.1
      rw [if_pos (by rfl)]
      go_simp
      exact hK (_) _ (hI.next hR (by kernel_rfl) ((Mod.refl _ _).alloc _) (GB.quiet hI.1 (pure_alloc _ _) (by have hn := hR.not; simp [upd, hn] <;> omega) (HGs.out D 0 _ _ (hI.1).g ((Mod.refl _ _).alloc _))) (⟨_, upd_same V 0 _, (by omega), (Blk.new _ _ _)⟩))
    · intro D V zw1 a hR hI K hK   -- 1: Op.move (Operand.tmp 3)
      obtain ⟨hS1, hM1, hB1, hG1⟩ := hI.1
      have ze3 := hR.frame.other (t := 3) (by kernel_rfl) rfl
      rw [if_pos (by rfl)]
      go_simp
      exact hK (.pointer (some ⟨b, 0, none⟩)) _ (hI.next hR (by kernel_rfl) (Mod.refl _ _) (GB.quiet hI.1 (Mod.refl _ _) (by have hn := hR.not; simp [upd, hn] <;> omega) (HGs.out D 1 zw1 zw1 (hI.1).g (Mod.refl _ _))) (upd_same V 1 _))
    · intro D V zw1 a hR hI K hK   -- 2: Op.call { callee := Callee.value (Operand.func 6), args := #[Operand.t
      obtain ⟨hS1, hM1, hB1, hG1⟩ := hI.1
      have zd1 := hR.pred 1 (by kernel_rfl)
      have zF1 : V 1 = .pointer (some ⟨b, 0, none⟩) := hI.2 1 zd1 rfl
      have zf1 := zF1; clear zF1
      have ze13 := hR.frame.done (t := 13) (j := 1) (by kernel_rfl) hR.ok zd1
      rw [if_pos (by rfl)]
      have := Bool.toNat_le (D 2)
      have := Bool.toNat_le (D 6)
      have hNB : 0 + ((D 2).toNat + (D 6).toNat) ≤ 1000000000 := by omega
      skip
      go_simp
      refine (next_calls _ _ _ _ hS1 hNB (by omega) (by omega)).mono ?_
      rintro e zw2 ⟨kk, hk1, hk2, rfl, hS2, hm2⟩
      obtain ⟨j_0, rfl⟩ := Int.eq_ofNat_of_zero_le hk1
      have hj : j_0 < 6 := by omega
      exact hK (.int .i64 (j_0 : Int)) _ (hI.next hR (by kernel_rfl) hm2 (GB.asks hI.1 (fun j hj hlt => by omega) hS2 hm2 (by have hn := hR.not; simp [upd, hn] <;> omega) (HGs.out D 2 _ _ (hI.1).g hm2)) (⟨j_0, upd_same V 2 _, hj⟩))
    · intro D V zw1 a hR hI K hK   -- 3: Op.indexAddr 26 (Operand.tmp 12) (Operand.tmp 14)
      obtain ⟨hS1, hM1, hB1, hG1⟩ := hI.1
      have zd0 := hR.pred 0 (by kernel_rfl)
      have zF0 : ∃ (g_0 : Nat), V 0 = .slice (some ⟨g_0, 0, none⟩) 6 6 ∧ W.heap.size ≤ g_0 ∧ Blk zw1 g_0 9 #[(.string { data := #[97] }), (.string { data := #[105, 97] }), (.string { data := #[107, 49, 55] }), (.string { data := #[] }), (.string { data := #[65] }), (.string { data := #[108, 111, 110, 103, 45, 110, 97, 109, 101, 95, 119, 105, 116, 104, 45, 57] })] := hI.2 0 zd0 rfl
      obtain ⟨g_0, zf0, c0_0, b0_0⟩ := zF0
      have zd2 := hR.pred 2 (by kernel_rfl)
      have zF2 : ∃ (j_2 : Nat), V 2 = .int .i64 (j_2 : Int) ∧ j_2 < 6 := hI.2 2 zd2 rfl
      obtain ⟨j_2, zf2, c2_0⟩ := zF2
      have ze12 := hR.frame.done (t := 12) (j := 0) (by kernel_rfl) hR.ok zd0
      have ze14 := hR.frame.done (t := 14) (j := 2) (by kernel_rfl) hR.ok zd2
      have i1 : (0 : Int) ≤ (j_2 : Int) := by omega
      have i2 : (j_2 : Int) < 6 := by omega
      rw [if_pos (by rfl)]
      go_simp
      exact hK (_) _ (hI.next hR (by kernel_rfl) (Mod.refl _ _) (GB.quiet hI.1 (Mod.refl _ _) (by have hn := hR.not; simp [upd, hn] <;> omega) (HGs.out D 3 zw1 zw1 (hI.1).g (Mod.refl _ _))) (⟨g_0, j_2, upd_same V 3 _, (by first | assumption | omega), (by first | assumption | omega), b0_0⟩))
    · intro D V zw1 a hR hI K hK   -- 4: Op.load 9 (Operand.tmp 15)
      obtain ⟨hS1, hM1, hB1, hG1⟩ := hI.1
      have zd3 := hR.pred 3 (by kernel_rfl)
      have zF3 : ∃ (g_3 : Nat) (j_3 : Nat), V 3 = .pointer (some ⟨g_3, j_3, none⟩) ∧ W.heap.size ≤ g_3 ∧ j_3 < 6 ∧ Blk zw1 g_3 9 (strsV hashIds).toArray := hI.2 3 zd3 rfl
      obtain ⟨g_3, j_3, zf3, c3_0, c3_1, b3_0⟩ := zF3
      have ze15 := hR.frame.done (t := 15) (j := 3) (by kernel_rfl) hR.ok zd3
      have hj3 : j_3 < hashIds.length := c3_1
      have hc : zw1.cell? ⟨g_3, j_3, none⟩ = some (.string ⟨hashIds[j_3].toArray⟩) := (b3_0.cell j_3).trans (by simp [strsV, hj3])
      have hmem : hashIds[j_3] ∈ hashIds := List.getElem_mem _
      generalize hashIds[j_3] = s_0 at hc hmem
      rw [if_pos (by rfl)]
      go_simp
      exact hK (_) _ (hI.next hR (by kernel_rfl) (Mod.refl _ _) (GB.quiet hI.1 (Mod.refl _ _) (by have hn := hR.not; simp [upd, hn] <;> omega) (HGs.out D 4 zw1 zw1 (hI.1).g (Mod.refl _ _))) (⟨s_0, upd_same V 4 _, hmem⟩))
    · intro D V zw1 a hR hI K hK   -- 5: Op.move (Operand.tmp 3)
      obtain ⟨hS1, hM1, hB1, hG1⟩ := hI.1
      have ze3 := hR.frame.other (t := 3) (by kernel_rfl) rfl
      rw [if_pos (by rfl)]
      go_simp
      exact hK (.pointer (some ⟨b, 0, none⟩)) _ (hI.next hR (by kernel_rfl) (Mod.refl _ _) (GB.quiet hI.1 (Mod.refl _ _) (by have hn := hR.not; simp [upd, hn] <;> omega) (HGs.out D 5 zw1 zw1 (hI.1).g (Mod.refl _ _))) (upd_same V 5 _))
    · intro D V zw1 a hR hI K hK   -- 6: Op.call { callee := Callee.value (Operand.func 7), args := #[Operand.t
      obtain ⟨hS1, hM1, hB1, hG1⟩ := hI.1
      have zd5 := hR.pred 5 (by kernel_rfl)
      have zF5 : V 5 = .pointer (some ⟨b, 0, none⟩) := hI.2 5 zd5 rfl
      have zf5 := zF5; clear zF5
      have ze17 := hR.frame.done (t := 17) (j := 5) (by kernel_rfl) hR.ok zd5
      rw [if_pos (by rfl)]
      have := Bool.toNat_le (D 2)
      have := Bool.toNat_le (D 6)
      have hNB : 0 + ((D 2).toNat + (D 6).toNat) ≤ 1000000000 := by omega
      skip
      go_simp
      refine (seed_calls _ _ _ hS1 hNB).mono ?_
      rintro e zw2 ⟨t_0, ht, rfl, hS2, hm2⟩
      exact hK (.string ⟨t_0.toArray⟩) _ (hI.next hR (by kernel_rfl) hm2 (GB.asks hI.1 (fun j hj hlt => by omega) hS2 hm2 (by have hn := hR.not; simp [upd, hn] <;> omega) (HGs.out D 6 _ _ (hI.1).g hm2)) (⟨t_0, upd_same V 6 _, ht⟩))
    · intro D V zw1 a hR hI K hK   -- 7: Op.assign (Operand.tmp 16)
      obtain ⟨hS1, hM1, hB1, hG1⟩ := hI.1
      have zd4 := hR.pred 4 (by kernel_rfl)
      have zF4 : ∃ (s_4 : Str), V 4 = .string ⟨s_4.toArray⟩ ∧ s_4 ∈ hashIds := hI.2 4 zd4 rfl
      obtain ⟨s_4, zf4, c4_0⟩ := zF4
      have ze16 := hR.frame.done (t := 16) (j := 4) (by kernel_rfl) hR.ok zd4
      rw [if_pos (by rfl)]
      go_simp
      exact hK (.string ⟨s_4.toArray⟩) _ (hI.next hR (by kernel_rfl) (Mod.refl _ _) (GB.quiet hI.1 (Mod.refl _ _) (by have hn := hR.not; simp [upd, hn] <;> omega) (HGs.out D 7 zw1 zw1 (hI.1).g (Mod.refl _ _))) (⟨s_4, upd_same V 7 _, (by first | assumption | omega)⟩))
    · intro D V zw1 a hR hI K hK   -- 8: Op.assign (Operand.tmp 18)
      obtain ⟨hS1, hM1, hB1, hG1⟩ := hI.1
      have zd6 := hR.pred 6 (by kernel_rfl)
      have zF6 : ∃ (t_6 : Str), V 6 = .string ⟨t_6.toArray⟩ ∧ t_6 ∈ seeds := hI.2 6 zd6 rfl
      obtain ⟨t_6, zf6, c6_0⟩ := zF6
      have ze18 := hR.frame.done (t := 18) (j := 6) (by kernel_rfl) hR.ok zd6
      rw [if_pos (by rfl)]
      go_simp
      exact hK (.string ⟨t_6.toArray⟩) _ (hI.next hR (by kernel_rfl) (Mod.refl _ _) (GB.quiet hI.1 (Mod.refl _ _) (by have hn := hR.not; simp [upd, hn] <;> omega) (HGs.out D 8 zw1 zw1 (hI.1).g (Mod.refl _ _))) (⟨t_6, upd_same V 8 _, (by first | assumption | omega)⟩))
  · intro D V w1 hD hI
    obtain ⟨hS1, hM1, hB1, hG1⟩ := hI.1
    have hSx : Strm w1 b (0 + 2) := hS1.more (by show _ ≤ _; have := Bool.toNat_le (D 2); have := Bool.toNat_le (D 6); omega)
    clear hS1
    have hMx := hM1
    clear hM1
    have hBx := hB1
    clear hB1
    have hGx := hG1
    clear hG1
    have zF0 : ∃ (g_0 : Nat), V 0 = .slice (some ⟨g_0, 0, none⟩) 6 6 ∧ W.heap.size ≤ g_0 ∧ Blk w1 g_0 9 #[(.string { data := #[97] }), (.string { data := #[105, 97] }), (.string { data := #[107, 49, 55] }), (.string { data := #[] }), (.string { data := #[65] }), (.string { data := #[108, 111, 110, 103, 45, 110, 97, 109, 101, 95, 119, 105, 116, 104, 45, 57] })] := hI.2 0 (hD 0 (by decide)) rfl
    obtain ⟨g_0, zf0, c0_0, b0_0⟩ := zF0
    have zF1 : V 1 = .pointer (some ⟨b, 0, none⟩) := hI.2 1 (hD 1 (by decide)) rfl
    have zf1 := zF1; clear zF1
    have zF2 : ∃ (j_2 : Nat), V 2 = .int .i64 (j_2 : Int) ∧ j_2 < 6 := hI.2 2 (hD 2 (by decide)) rfl
    obtain ⟨j_2, zf2, c2_0⟩ := zF2
    have zF3 : ∃ (g_3 : Nat) (j_3 : Nat), V 3 = .pointer (some ⟨g_3, j_3, none⟩) ∧ W.heap.size ≤ g_3 ∧ j_3 < 6 ∧ Blk w1 g_3 9 (strsV hashIds).toArray := hI.2 3 (hD 3 (by decide)) rfl
    obtain ⟨g_3, j_3, zf3, c3_0, c3_1, b3_0⟩ := zF3
    have zF4 : ∃ (s_4 : Str), V 4 = .string ⟨s_4.toArray⟩ ∧ s_4 ∈ hashIds := hI.2 4 (hD 4 (by decide)) rfl
    obtain ⟨s_4, zf4, c4_0⟩ := zF4
    have zF5 : V 5 = .pointer (some ⟨b, 0, none⟩) := hI.2 5 (hD 5 (by decide)) rfl
    have zf5 := zF5; clear zF5
    have zF6 : ∃ (t_6 : Str), V 6 = .string ⟨t_6.toArray⟩ ∧ t_6 ∈ seeds := hI.2 6 (hD 6 (by decide)) rfl
    obtain ⟨t_6, zf6, c6_0⟩ := zF6
    have zF7 : ∃ (s_7 : Str), V 7 = .string ⟨s_7.toArray⟩ ∧ s_7 ∈ hashIds := hI.2 7 (hD 7 (by decide)) rfl
    obtain ⟨s_7, zf7, c7_0⟩ := zF7
    have zF8 : ∃ (t_8 : Str), V 8 = .string ⟨t_8.toArray⟩ ∧ t_8 ∈ seeds := hI.2 8 (hD 8 (by decide)) rfl
    obtain ⟨t_8, zf8, c8_0⟩ := zF8
    clear hI hD HGs
    simp only [frAll, Act.put, List.setIfInBounds_toArray, List.set_cons_zero, List.set_cons_succ, Nat.zero_add, Nat.reduceAdd, zf0, zf1, zf2, zf3, zf4, zf5, zf6, zf7, zf8]
    clear zf0 zf1 zf2 zf3 zf4 zf5 zf6 zf7 zf8
    clear V D
    have z1 := hashIds_len _ c7_0
    have z2 := seeds_len _ c8_0
    generalize s_7 = id at *
    generalize t_8 = seed at *
    have HC := Lib.hid (Hash_any w1 id seed (by omega) (by omega))
    have y1 : (⟨id.toArray⟩ : ByteArray).size ≤ 1000 := by simp [ByteArray.size]; omega
    have y2 : (⟨seed.toArray⟩ : ByteArray).size ≤ 1000 := by simp [ByteArray.size]; omega
    clear c7_0 c8_0
    go_wp2_with fail
    refine HC.out.mono ?_
    rintro e w2 ⟨rfl, hm2⟩
    go_wp2_with fail
    refine (seedFault_calls _ _ (by omega)).mono ?_
    rintro e w3 ⟨rfl, hm3⟩
    go_wp2_with fail
    refine (seedFault_calls _ _ (by omega)).mono ?_
    rintro e w4 ⟨rfl, hm4⟩
    go_wp2_with fail
    refine (wrongOr_calls _ _ _ [keyErr id, keyErr seed] (Blk.new _ _ _).row0 (by simp)).mono ?_
    rintro e w5 ⟨rfl, hm5⟩
    have m5 : Pure w w5 := (((hMx.trans hm2).trans hm3).trans hm4).alloc _ |>.trans hm5
    rw [show firstErr [keyErr id, keyErr seed] = hashE id seed from rfl]
    clear hm2 hm3 hm4 hm5 hMx
    rcases hashE_cases id seed with h | ⟨h, k1, k2⟩
    · have hv : hashV id seed = 0 := by unfold hashV; rw [if_neg (by rw [h]; decide)]
      rw [hv, h]
      clear hv h
      go_wp2_with fail
      refine (drawn_calls _).mono ?_
      rintro e w9 ⟨rfl, hm9⟩
      go_wp2_with fail
      go_ret
      exact BoolPost.of rfl (m5.trans hm9)
    · have hv : hashV id seed = (hashN (seed ++ 32 :: id) : Int) := by unfold hashV; rw [if_pos h]
      rw [hv, h]
      have HH := Lib.hid (HashOf_calls w5 ⟨id.toArray⟩ ⟨seed.toArray⟩ y1 y2)
      rw [show (⟨seed.toArray⟩ : ByteArray).data.toList ++ 32 :: (⟨id.toArray⟩ : ByteArray).data.toList = seed ++ 32 :: id from rfl] at HH
      generalize hashN (seed ++ 32 :: id) = hh at *
      clear hv h k1 k2 HC
      have t1 : ((hh : Int) == (hh : Int)) = true := by simp
      go_wp2_with fail
      refine HH.out.mono ?_
      rintro e w6 ⟨rfl, hm6⟩
      go_wp2_with fail
      refine (drawn_calls _).mono ?_
      rintro e w9 ⟨rfl, hm9⟩
      go_wp2_with fail
      go_ret
      exact BoolPost.of rfl ((m5.trans hm6).trans hm9)

end Go.Proofs.YtdknpekbonmmhaaDoor
