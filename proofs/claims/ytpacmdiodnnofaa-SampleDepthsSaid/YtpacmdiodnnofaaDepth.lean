/- Depth and its reference. -/
import Derived.Test.YtpacmdiodnnofaaBoolG
namespace Go.Proofs.Ytpacmdiodnnofaa
set_option linter.unusedVariables false
set_option linter.unusedSimpArgs false
open Go.RowKit
attribute [local go_sem ↓] Go.wp_at_zero Go.wp_at_succ

/-- The first number from k on, of m, with P; 0 if there is none. -/
def findN (P : Nat → Bool) : Nat → Nat → Int
  | _, 0 => 0
  | k, m + 1 => if P k then (k : Int) else findN P (k + 1) m
theorem findN_idx (P : Nat → Bool) (Q : Int → Bool) (f : Nat → Int) (h : ∀ i, Q (f i) = P (i + 1)) : ∀ (m j : Nat), 1 + idxP Q ((List.range' j m).map f) (j : Int) = findN P (j + 1) m
  | 0, j => by simp [idxP, findN]
  | m + 1, j => by
    rw [List.range'_succ, List.map_cons]
    unfold idxP findN
    rw [h j]
    split
    · omega
    · have := findN_idx P Q f h m (j + 1)
      rwa [show ((j + 1 : Nat) : Int) = (j : Int) + 1 by omega] at this
def depP (bs : List Bool) (n d : Int) (i : Nat) : Bool := decide (n * (cnt bs : Int) ≤ (cnt (bs.take i) : Int) * d)
def depV (bs : List Bool) (n d : Int) : Int := findN (depP bs n d) 0 (bs.length + 1)
theorem depV_zero {bs : List Bool} {n d : Int} (h : n * (cnt bs : Int) = 0) (hd : 0 ≤ d) : depV bs n d = 0 := by
  unfold depV findN depP
  rw [h]
  simp [cnt]
theorem depV_pos {bs : List Bool} {n d : Int} (h : 0 < n * (cnt bs : Int)) : depV bs n d = 1 + idxP (fun g => decide (n * (cnt bs : Int) ≤ g * d)) (gainsL bs bs.length) 0 := by
  have h0 : depP bs n d 0 = false := by
    unfold depP
    simp [cnt]
    unfold cnt at h
    omega
  have e1 : depV bs n d = findN (depP bs n d) 1 bs.length := by
    show (if depP bs n d 0 = true then _ else _) = _
    rw [h0]
    rfl
  rw [e1, gainsL, List.range_eq_range']
  exact (findN_idx (depP bs n d) (fun g => decide (n * (cnt bs : Int) ≤ g * d)) (fun i => (cnt (bs.take (i + 1)) : Int)) (fun i => rfl) bs.length 0).symm

set_option maxRecDepth 100000 in
set_option maxHeartbeats 1000000 in
theorem depth1_calls (W : World) (g d want : Int) (g3 g7 : Nat) (hg : 0 ≤ g ∧ g ≤ 1000000) (hd : 0 ≤ d ∧ d ≤ 1000000) (n : Int) (h3 : Blk W g3 30 #[.int .i64 n, .int .i64 d]) (h7 : W.cell? ⟨g7, 0, none⟩ = some (.int .i64 want)) :
    Calls Try.prog 93 #[.int .i64 g, .pointer (some ⟨g3, 0, none⟩), .pointer (some ⟨g7, 0, none⟩)] W (BoolPost W (decide (want ≤ g * d))) := by
  have e1 : 0 ≤ g * d := Int.mul_nonneg hg.1 hd.1
  have e2 : g * d ≤ 1000000 * 1000000 := Int.mul_le_mul hg.2 hd.2 hd.1 (by omega)
  have q0 := h3.cell 0; have q1 := h3.cell 1; simp at q0 q1
  go_enter Try.func93, Try.ntmps93
  go_wp2_with fail
  go_ret
  exact BoolPost.of rfl (Mod.refl _ _)

def depE (len n d : Int) : Int := firstErr [readErr len, shareErr n d]
def DepSpec (bs : List Bool) (n d x er : Int) : Prop := (depE bs.length n d ≠ 0 ∧ x = 0 ∧ er = depE bs.length n d) ∨ (depE bs.length n d = 0 ∧ x = depV bs n d ∧ er = 0)
def DepPost (w : World) (bs : List Bool) (n d : Int) (e : Ending) (w' : World) : Prop := ∃ x er : Int, DepSpec bs n d x er ∧ e = .returned (.tuple #[.int .i64 x, .int .i64 er]) ∧ Pure w w'
theorem depE_ok {len n d : Int} (h : depE len n d = 0) : len ≤ 2000 ∧ (1 ≤ d ∧ d ≤ 1000000) ∧ 0 ≤ n ∧ n ≤ d := by
  unfold depE at h
  rw [firstErr_two] at h
  by_cases h1 : readErr len = 0
  · rw [if_pos h1] at h
    unfold readErr at h1
    unfold shareErr at h
    split at h1
    · split at h
      · rename_i h2 h3
        exact ⟨h2, h3⟩
      · cases h
    · cases h1
  · rw [if_neg h1] at h
    exact absurd h h1
theorem idxP_lt (P : Int → Bool) : ∀ (xs : List Int) (k : Int), 0 ≤ k → -1 ≤ idxP P xs k ∧ idxP P xs k ≤ k + xs.length
  | [], k, hk => by simp [idxP]; omega
  | x :: xs, k, hk => by
    unfold idxP
    split
    · simp; omega
    · have := idxP_lt P xs (k + 1) (by omega)
      simp at *
      omega

set_option maxRecDepth 100000 in
set_option maxHeartbeats 2000000 in
theorem Depth_calls (w : World) (v : Value) (bs : List Bool) (n d : Int) (hv : Sl w 4 1 v (boolsV bs)) (hl20 : bs.length ≤ 1000000) : Calls Try.prog 49 #[v, .agg #[.int .i64 n, .int .i64 d]] w (DepPost w bs n d) := by
  obtain ⟨A, m, c, rfl⟩ := hv.form
  have hm : m = bs.length := by
    obtain ⟨A', n', c', he, _, _, h3, _⟩ := hv
    injection he with _ h2
    rw [boolsV_len] at h3
    omega
  subst hm
  go_enter Try.func49, Try.ntmps49
  go_wp2_with fail
  have hsB := Blk.new w 30 #[.int .i64 n, .int .i64 d]
  have hm0 : Pure w (w.alloc (.cells #[.int .i64 n, .int .i64 d] 30)) := (Mod.refl _ _).alloc _
  generalize (w.alloc (.cells #[.int .i64 n, .int .i64 d] 30)) = W at *
  generalize hdb : w.heap.size = g3 at *
  have hle := Nat.le_of_eq hdb
  clear hdb
  have HGs := Lib.hid (show ∀ w w' : World, (fun w => Blk w g3 30 #[.int .i64 n, .int .i64 d]) w → Mod (fun _ => False) w w' → (fun w => Blk w g3 30 #[.int .i64 n, .int .i64 d]) w' from by intro w w' h hm; exact h.modp hm)
  refine wp_region_inv (by kernel_rfl) (by kernel_rfl) (InvF (R := Mod (fun _ => False)) [.is (.slice A bs.length c),
      .is (.int .i64 (readErr bs.length)),
      .is (.agg #[.int .i64 n, .int .i64 d]),
      .is (.int .i64 (shareErr n d)),
      ⟨fun zv zw => ∃ (g_4 : Nat), zv = .slice (some ⟨g_4, 0, none⟩) 2 2 ∧ W.heap.size ≤ g_4 ∧ Blk zw g_4 32 #[.int .i64 (readErr bs.length), .int .i64 (shareErr n d)], (by rintro zv zw zx ⟨g_4, rfl, c0, q0⟩ hm; exact ⟨g_4, rfl, c0, (q0.modp hm)⟩), none, some 5⟩,
      .is (.int .i64 (depE bs.length n d)),
      .is (.int .i64 (depE bs.length n d))]
      (PB w (fun _ => False) W.heap.size (fun w => Blk w g3 30 #[.int .i64 n, .int .i64 d]))) (InvF.start (PB.start hm0 (Nat.le_refl _) (hsB))) ?_ ?_
  · refine .cons ?_ (.cons ?_ (.cons ?_ (.cons ?_ (.cons ?_ (.cons ?_ (.cons ?_ .nil))))))
    · intro D V zw1 a hR hI K hK   -- 0: Op.move (Operand.tmp 0)
      obtain ⟨hM1, hB1, hG1⟩ := hI.1
      have ze0 := hR.frame.other (t := 0) (by kernel_rfl) rfl
      rw [if_pos (by rfl)]
      go_simp
      exact hK (.slice A bs.length c) _ (hI.next hR (by kernel_rfl) (Mod.refl _ _) (PB.quiet hI.1 (Mod.refl _ _) (HGs.out _ _ (hI.1).g (Mod.refl _ _))) (upd_same V 0 _))
    · intro D V zw1 a hR hI K hK   -- 1: Op.call { callee := Callee.value (Operand.func 88), args := #[Operand.
      obtain ⟨hM1, hB1, hG1⟩ := hI.1
      have zd0 := hR.pred 0 (by kernel_rfl)
      have zF0 : V 0 = .slice A bs.length c := hI.2 0 zd0 rfl
      have zf0 := zF0; clear zF0
      have ze8 := hR.frame.done (t := 8) (j := 0) (by kernel_rfl) hR.ok zd0
      rw [if_pos (by rfl)]
      go_simp
      refine (readError_calls _ _ _ _ (by omega)).mono ?_
      rintro e zw2 ⟨rfl, hm2⟩
      exact hK (.int .i64 (readErr bs.length)) _ (hI.next hR (by kernel_rfl) hm2 (PB.quiet hI.1 hm2 (HGs.out _ _ (hI.1).g hm2)) (upd_same V 1 _))
    · intro D V zw1 a hR hI K hK   -- 2: Op.load 30 (Operand.tmp 3)
      obtain ⟨hM1, hB1, hG1⟩ := hI.1
      have ze3 := hR.frame.other (t := 3) (by kernel_rfl) rfl
      have zx0 := hG1.cell 0; have zx1 := hG1.cell 1
      simp at zx0 zx1
      rw [if_pos (by rfl)]
      go_simp
      exact hK (.agg #[.int .i64 n, .int .i64 d]) _ (hI.next hR (by kernel_rfl) (Mod.refl _ _) (PB.quiet hI.1 (Mod.refl _ _) (HGs.out _ _ (hI.1).g (Mod.refl _ _))) (upd_same V 2 _))
    · intro D V zw1 a hR hI K hK   -- 3: Op.call { callee := Callee.value (Operand.func 89), args := #[Operand.
      obtain ⟨hM1, hB1, hG1⟩ := hI.1
      have zd2 := hR.pred 2 (by kernel_rfl)
      have zF2 : V 2 = .agg #[.int .i64 n, .int .i64 d] := hI.2 2 zd2 rfl
      have zf2 := zF2; clear zF2
      have ze10 := hR.frame.done (t := 10) (j := 2) (by kernel_rfl) hR.ok zd2
      rw [if_pos (by rfl)]
      go_simp
      refine (shareError_calls _ _ _).mono ?_
      rintro e zw2 ⟨rfl, hm2⟩
      exact hK (.int .i64 (shareErr n d)) _ (hI.next hR (by kernel_rfl) hm2 (PB.quiet hI.1 hm2 (HGs.out _ _ (hI.1).g hm2)) (upd_same V 3 _))
    · intro D V zw1 a hR hI K hK   -- 4: Op.buildSlice 97 2 #[(0, Operand.tmp 9), (1, Operand.tmp 11)]
      obtain ⟨hM1, hB1, hG1⟩ := hI.1
      have zd1 := hR.pred 1 (by kernel_rfl)
      have zF1 : V 1 = .int .i64 (readErr bs.length) := hI.2 1 zd1 rfl
      have zf1 := zF1; clear zF1
      have zd3 := hR.pred 3 (by kernel_rfl)
      have zF3 : V 3 = .int .i64 (shareErr n d) := hI.2 3 zd3 rfl
      have zf3 := zF3; clear zF3
      have ze9 := hR.frame.done (t := 9) (j := 1) (by kernel_rfl) hR.ok zd1
      have ze11 := hR.frame.done (t := 11) (j := 3) (by kernel_rfl) hR.ok zd3
      rw [if_pos (by rfl)]
      go_simp
      exact hK (_) _ (hI.next hR (by kernel_rfl) ((Mod.refl _ _).alloc _) (PB.quiet hI.1 (pure_alloc _ _) (HGs.out _ _ (hI.1).g ((Mod.refl _ _).alloc _))) (⟨_, upd_same V 4 _, (by omega), (Blk.new _ _ _)⟩))
    · intro D V zw1 a hR hI K hK   -- 5: Op.call { callee := Callee.value (Operand.func 79), args := #[Operand.
      obtain ⟨hM1, hB1, hG1⟩ := hI.1
      have zd4 := hR.pred 4 (by kernel_rfl)
      have zF4 : ∃ (g_4 : Nat), V 4 = .slice (some ⟨g_4, 0, none⟩) 2 2 ∧ W.heap.size ≤ g_4 ∧ Blk zw1 g_4 32 #[.int .i64 (readErr bs.length), .int .i64 (shareErr n d)] := hI.2 4 zd4 (by show (!D 5) = true; rw [hR.not]; rfl)
      obtain ⟨g_4, zf4, c4_0, b4_0⟩ := zF4
      have ze12 := hR.frame.done (t := 12) (j := 4) (by kernel_rfl) hR.ok zd4
      rw [if_pos (by rfl)]
      go_simp
      refine (firstE_calls _ _ _ [readErr bs.length, shareErr n d] b4_0.row0 (by simp)).mono ?_
      rintro e zw2 ⟨rfl, hm2⟩
      exact hK (.int .i64 (depE bs.length n d)) _ (hI.next hR (by kernel_rfl) hm2 (PB.quiet hI.1 hm2 (HGs.out _ _ (hI.1).g hm2)) (upd_same V 5 _))
    · intro D V zw1 a hR hI K hK   -- 6: Op.assign (Operand.tmp 13)
      obtain ⟨hM1, hB1, hG1⟩ := hI.1
      have zd5 := hR.pred 5 (by kernel_rfl)
      have zF5 : V 5 = .int .i64 (depE bs.length n d) := hI.2 5 zd5 rfl
      have zf5 := zF5; clear zF5
      have ze13 := hR.frame.done (t := 13) (j := 5) (by kernel_rfl) hR.ok zd5
      rw [if_pos (by rfl)]
      go_simp
      exact hK (.int .i64 (depE bs.length n d)) _ (hI.next hR (by kernel_rfl) (Mod.refl _ _) (PB.quiet hI.1 (Mod.refl _ _) (HGs.out _ _ (hI.1).g (Mod.refl _ _))) (upd_same V 6 _))
  · intro D V w1 hD hI
    obtain ⟨hM1, hB1, hG1⟩ := hI.1
    have hMx := hM1
    clear hM1
    have hBx := hB1
    clear hB1
    have hGx := hG1
    clear hG1
    have zF0 : V 0 = .slice A bs.length c := hI.2 0 (hD 0 (by decide)) rfl
    have zf0 := zF0; clear zF0
    have zF1 : V 1 = .int .i64 (readErr bs.length) := hI.2 1 (hD 1 (by decide)) rfl
    have zf1 := zF1; clear zF1
    have zF2 : V 2 = .agg #[.int .i64 n, .int .i64 d] := hI.2 2 (hD 2 (by decide)) rfl
    have zf2 := zF2; clear zF2
    have zF3 : V 3 = .int .i64 (shareErr n d) := hI.2 3 (hD 3 (by decide)) rfl
    have zf3 := zF3; clear zF3
    have zF5 : V 5 = .int .i64 (depE bs.length n d) := hI.2 5 (hD 5 (by decide)) rfl
    have zf5 := zF5; clear zF5
    have zF6 : V 6 = .int .i64 (depE bs.length n d) := hI.2 6 (hD 6 (by decide)) rfl
    have zf6 := zF6; clear zF6
    clear hI hD HGs
    simp only [frAll, Act.put, List.setIfInBounds_toArray, List.set_cons_zero, List.set_cons_succ, Nat.zero_add, Nat.reduceAdd, zf0, zf1, zf2, zf3, zf5, zf6]
    clear zf0 zf1 zf2 zf3 zf5 zf6
    generalize V 4 = u4
    clear V D
    have s1 := hGx
    have m1 : Pure w w1 := hMx
    clear hGx hMx hsB hm0
    by_cases h0 : depE bs.length n d = 0
    · obtain ⟨k1, ⟨k2, k3⟩, k4, k5⟩ := depE_ok h0
      have HE := Lib.hid h0
      rw [h0]
      clear h0
      have hcl := cnt_le bs
      have p1 : 0 ≤ n * (cnt bs : Int) := Int.mul_nonneg k4 (by omega)
      have p2 : n * (cnt bs : Int) ≤ 1000000 * 2000 := Int.mul_le_mul (by omega) (by omega) (by omega) (by omega)
      have p3 : IntKind.i64.wrap (n * (cnt bs : Int)) = n * (cnt bs : Int) := IntWalk.i64_in _ (by omega)
      have hv1 := hv.pure m1
      have hsz1 := m1.size
      go_wp2_with fail
      have HGs := Lib.hid (show ∀ w w' : World, (fun w => Blk w g3 30 #[.int .i64 n, .int .i64 d] ∧ Sl w 4 1 (.slice A bs.length c) (boolsV bs)) w → Mod (fun _ => False) w w' → (fun w => Blk w g3 30 #[.int .i64 n, .int .i64 d] ∧ Sl w 4 1 (.slice A bs.length c) (boolsV bs)) w' from by intro w w' h hm; exact ⟨h.1.modp hm, h.2.pure hm⟩)
      refine wp_region_inv (by kernel_rfl) (by kernel_rfl) (InvF (R := Mod (fun _ => False)) [.is (.pointer (some ⟨g3, 0, none⟩)),
          .is (.int .i64 n),
          .is (.slice A bs.length c),
          .is (.int .i64 (cnt bs : Int)),
          .is (.int .i64 (n * (cnt bs : Int))),
          ⟨fun zv zw => ∃ (g_5 : Nat), zv = .pointer (some ⟨g_5, 0, none⟩) ∧ w1.heap.size ≤ g_5 ∧ Blk zw g_5 3 #[.int .i64 0], (by rintro zv zw zx ⟨g_5, rfl, c0, q0⟩ hm; exact ⟨g_5, rfl, c0, (q0.modp hm)⟩), none, some 6⟩,
          ⟨fun zv zw => ∃ (g_6 : Nat), zv = .pointer (some ⟨g_6, 0, none⟩) ∧ w1.heap.size ≤ g_6 ∧ Blk zw g_6 3 #[.int .i64 (n * (cnt bs : Int))], (by rintro zv zw zx ⟨g_6, rfl, c0, q0⟩ hm; exact ⟨g_6, rfl, c0, (q0.modp hm)⟩), some 5, none⟩]
          (PB w (fun _ => False) w1.heap.size (fun w => Blk w g3 30 #[.int .i64 n, .int .i64 d] ∧ Sl w 4 1 (.slice A bs.length c) (boolsV bs)))) (InvF.start (PB.start m1 (Nat.le_refl _) (⟨s1, hv1.pure ((Mod.refl _ _).drew)⟩))) ?_ ?_
      · refine .cons ?_ (.cons ?_ (.cons ?_ (.cons ?_ (.cons ?_ (.cons ?_ (.cons ?_ .nil))))))
        · intro D V zw1 a hR hI K hK   -- 0: Op.fieldAddr 30 (Operand.tmp 3) 0
          obtain ⟨hM1, hB1, hG1⟩ := hI.1
          have ze3 := hR.frame.other (t := 3) (by kernel_rfl) rfl
          rw [if_pos (by rfl)]
          go_simp
          exact hK (.pointer (some ⟨g3, 0, none⟩)) _ (hI.next hR (by kernel_rfl) (Mod.refl _ _) (PB.quiet hI.1 (Mod.refl _ _) (HGs.out _ _ (hI.1).g (Mod.refl _ _))) (upd_same V 0 _))
        · intro D V zw1 a hR hI K hK   -- 1: Op.load 3 (Operand.tmp 17)
          obtain ⟨hM1, hB1, hG1⟩ := hI.1
          have zd0 := hR.pred 0 (by kernel_rfl)
          have zF0 : V 0 = .pointer (some ⟨g3, 0, none⟩) := hI.2 0 zd0 rfl
          have zf0 := zF0; clear zF0
          have ze17 := hR.frame.done (t := 17) (j := 0) (by kernel_rfl) hR.ok zd0
          have zx0 := hG1.1.cell 0; have zx1 := hG1.1.cell 1
          simp at zx0 zx1
          rw [if_pos (by rfl)]
          go_simp
          exact hK (.int .i64 n) _ (hI.next hR (by kernel_rfl) (Mod.refl _ _) (PB.quiet hI.1 (Mod.refl _ _) (HGs.out _ _ (hI.1).g (Mod.refl _ _))) (upd_same V 1 _))
        · intro D V zw1 a hR hI K hK   -- 2: Op.move (Operand.tmp 0)
          obtain ⟨hM1, hB1, hG1⟩ := hI.1
          have ze0 := hR.frame.other (t := 0) (by kernel_rfl) rfl
          rw [if_pos (by rfl)]
          go_simp
          exact hK (.slice A bs.length c) _ (hI.next hR (by kernel_rfl) (Mod.refl _ _) (PB.quiet hI.1 (Mod.refl _ _) (HGs.out _ _ (hI.1).g (Mod.refl _ _))) (upd_same V 2 _))
        · intro D V zw1 a hR hI K hK   -- 3: Op.call { callee := Callee.value (Operand.func 90), args := #[Operand.
          obtain ⟨hM1, hB1, hG1⟩ := hI.1
          have zd2 := hR.pred 2 (by kernel_rfl)
          have zF2 : V 2 = .slice A bs.length c := hI.2 2 zd2 rfl
          have zf2 := zF2; clear zF2
          have ze19 := hR.frame.done (t := 19) (j := 2) (by kernel_rfl) hR.ok zd2
          rw [if_pos (by rfl)]
          go_simp
          refine (all_calls _ _ bs hG1.2).mono ?_
          rintro e zw2 ⟨rfl, hm2⟩
          exact hK (.int .i64 (cnt bs : Int)) _ (hI.next hR (by kernel_rfl) hm2 (PB.quiet hI.1 hm2 (HGs.out _ _ (hI.1).g hm2)) (upd_same V 3 _))
        · intro D V zw1 a hR hI K hK   -- 4: Op.binOp BinOp.mul 3 (Operand.tmp 18) (Operand.tmp 20) 3
          obtain ⟨hM1, hB1, hG1⟩ := hI.1
          have zd1 := hR.pred 1 (by kernel_rfl)
          have zF1 : V 1 = .int .i64 n := hI.2 1 zd1 rfl
          have zf1 := zF1; clear zF1
          have zd3 := hR.pred 3 (by kernel_rfl)
          have zF3 : V 3 = .int .i64 (cnt bs : Int) := hI.2 3 zd3 rfl
          have zf3 := zF3; clear zF3
          have ze18 := hR.frame.done (t := 18) (j := 1) (by kernel_rfl) hR.ok zd1
          have ze20 := hR.frame.done (t := 20) (j := 3) (by kernel_rfl) hR.ok zd3
          rw [if_pos (by rfl)]
          go_simp
          exact hK (.int .i64 (n * (cnt bs : Int))) _ (hI.next hR (by kernel_rfl) (Mod.refl _ _) (PB.quiet hI.1 (Mod.refl _ _) (HGs.out _ _ (hI.1).g (Mod.refl _ _))) (upd_same V 4 _))
        · intro D V zw1 a hR hI K hK   -- 5: Op.alloc 3
          obtain ⟨hM1, hB1, hG1⟩ := hI.1
          rw [if_pos (by rfl)]
          go_simp
          exact hK (_) _ (hI.next hR (by kernel_rfl) ((Mod.refl _ _).alloc _) (PB.quiet hI.1 (pure_alloc _ _) (HGs.out _ _ (hI.1).g ((Mod.refl _ _).alloc _))) (⟨_, upd_same V 5 _, (by omega), (Blk.new _ _ _)⟩))
        · intro D V zw1 a hR hI K hK   -- 6: Op.store 3 (Operand.tmp 7) (Operand.tmp 21)
          obtain ⟨hM1, hB1, hG1⟩ := hI.1
          have zd5 := hR.pred 5 (by kernel_rfl)
          have zF5 : ∃ (g_5 : Nat), V 5 = .pointer (some ⟨g_5, 0, none⟩) ∧ w1.heap.size ≤ g_5 ∧ Blk zw1 g_5 3 #[.int .i64 0] := hI.2 5 zd5 (by show (!D 6) = true; rw [hR.not]; rfl)
          obtain ⟨g_5, zf5, c5_0, b5_0⟩ := zF5
          have zd4 := hR.pred 4 (by kernel_rfl)
          have zF4 : V 4 = .int .i64 (n * (cnt bs : Int)) := hI.2 4 zd4 rfl
          have zf4 := zF4; clear zF4
          have ze7 := hR.frame.done (t := 7) (j := 5) (by kernel_rfl) hR.ok zd5
          have ze21 := hR.frame.done (t := 21) (j := 4) (by kernel_rfl) hR.ok zd4
          rw [if_pos (by rfl)]
          have zx0 := b5_0.cell 0; have zy0 := b5_0.frozen 0
          simp at zx0 zy0
          go_simp
          refine hK undef _ (InvF.last ?_ ?_ ?_)
          · exact ⟨(hM1.setCell (.inr (by show _ ≤ g_5; omega)) _), (by simpa using hB1), ⟨(hG1.1.far (p := ⟨g_5, 0, none⟩) (by show _ ≠ g_5; have := s1.lt; omega) _), hG1.2.set_ne b5_0 (by decide) _⟩⟩
          · exact ⟨g_5, (upd_ne V (i := 6) (k := 5) undef (by omega)).trans zf5, (by first | assumption | omega), (by have hset := (b5_0.set 0 (.int .i64 (n * (cnt bs : Int)))); simpa using hset)⟩
          · intro k hk hDk hlv
            have hkl := hR.lt k hDk
            have hv := hI.2 k hDk (liveB_of hlv)
            match k, hk, hDk, hlv, hkl, hv with
            | 0, _, _, _, _, hv => exact hv
            | 1, _, _, _, _, hv => exact hv
            | 2, _, _, _, _, hv => exact hv
            | 3, _, _, _, _, hv => exact hv
            | 4, _, _, _, _, hv => exact hv
            | 5, _, _, hlv, _, _ => exact absurd hlv (by show ¬ (!upd D 6 true 6) = true; rw [upd_same]; decide)
            | 6, hk, _, _, _, _ => exact absurd rfl hk
            | k + 7, _, _, _, hkl, _ => exact absurd hkl (by simp)
      · intro D V w2 hD hI
        obtain ⟨hM1, hB1, hG1⟩ := hI.1
        have hMx := hM1
        clear hM1
        have hBx := hB1
        clear hB1
        have hGx := hG1
        clear hG1
        have zF0 : V 0 = .pointer (some ⟨g3, 0, none⟩) := hI.2 0 (hD 0 (by decide)) rfl
        have zf0 := zF0; clear zF0
        have zF1 : V 1 = .int .i64 n := hI.2 1 (hD 1 (by decide)) rfl
        have zf1 := zF1; clear zF1
        have zF2 : V 2 = .slice A bs.length c := hI.2 2 (hD 2 (by decide)) rfl
        have zf2 := zF2; clear zF2
        have zF3 : V 3 = .int .i64 (cnt bs : Int) := hI.2 3 (hD 3 (by decide)) rfl
        have zf3 := zF3; clear zF3
        have zF4 : V 4 = .int .i64 (n * (cnt bs : Int)) := hI.2 4 (hD 4 (by decide)) rfl
        have zf4 := zF4; clear zF4
        have zF6 : ∃ (g_6 : Nat), V 5 = .pointer (some ⟨g_6, 0, none⟩) ∧ w1.heap.size ≤ g_6 ∧ Blk w2 g_6 3 #[.int .i64 (n * (cnt bs : Int))] := hI.2 6 (hD 6 (by decide)) rfl
        obtain ⟨g_6, zf6, c6_0, b6_0⟩ := zF6
        clear hI hD HGs
        simp only [frAll, Act.put, List.setIfInBounds_toArray, List.set_cons_zero, List.set_cons_succ, Nat.zero_add, Nat.reduceAdd, zf0, zf1, zf2, zf3, zf4, zf6]
        clear zf0 zf1 zf2 zf3 zf4 zf6
        clear V D
        obtain ⟨s2, hv2⟩ := hGx
        have m2 : Pure w w2 := hMx
        clear s1 m1 hv1 hMx p3
        have q0 := b6_0.cell 0
        simp at q0
        by_cases hw0 : n * (cnt bs : Int) = 0
        · have ht : (n * (cnt bs : Int) == 0) = true := by simpa using hw0
          have HW := Lib.hid hw0
          clear hw0
          go_wp2_with fail
          go_ret2
          exact ⟨0, 0, .inr ⟨HE.out, (depV_zero HW.out (by omega)).symm, rfl⟩, rfl, m2⟩
        · have ht : (n * (cnt bs : Int) == 0) = false := by simpa using hw0
          have hpos : 0 < n * (cnt bs : Int) := by omega
          have HP := Lib.hid (depV_pos (d := d) hpos)
          clear hw0
          generalize hwant : n * (cnt bs : Int) = want at *
          clear hwant
          go_wp2_with fail
          refine (gains_calls _ _ bs hv2 hl20).mono ?_
          rintro e w3 ⟨v3, n3, rfl, hown3, hm3⟩
          have sl3 := Sl.of_own hown3
          have s3 := s2.modp hm3
          have b3 := b6_0.modp hm3
          have m3 : Pure w w3 := m2.trans hm3
          clear s2 hv2 b6_0 q0 hm3 m2 hown3
          go_wp2_with fail
          refine (indexFunc2_calls _ _ (gainsL bs bs.length) 93 _ _ (fun g => decide (want ≤ g * d)) sl3 (fun _ _ => rfl) (fun g W hg hW => depth1_calls W g d want _ _ ?_ (by omega) n (s3.modp hW) (by have := (b3.modp hW).cell 0; simpa using this))).mono ?_
          · simp only [gainsL, List.mem_map, List.mem_range] at hg
            obtain ⟨i, hi, rfl⟩ := hg
            have := cnt_take_le bs (i + 1)
            omega
          · rintro e w4 ⟨rfl, hm4⟩
            obtain ⟨ix, hix⟩ : ∃ ix, idxP (fun g => decide (want ≤ g * d)) (gainsL bs bs.length) 0 = ix := ⟨_, rfl⟩
            have hb := idxP_lt (fun g => decide (want ≤ g * d)) (gainsL bs bs.length) 0 (by omega)
            rw [gainsL_len] at hb
            rw [hix] at hb HP ⊢
            clear hix
            go_wp2_with fail
            go_ret2
            exact ⟨_, 0, .inr ⟨HE.out, HP.out.symm, rfl⟩, rfl, m3.trans hm4⟩
    · have hne : (depE bs.length n d != 0) = true := by simpa using h0
      have HE := Lib.hid h0
      clear h0
      generalize hre : depE bs.length n d = er at *
      have HR := Lib.hid hre
      clear hre
      go_wp2_with fail
      go_ret2
      exact ⟨0, er, .inl ⟨by rw [HR.out]; exact HE.out, rfl, HR.out.symm⟩, rfl, m1⟩

set_option maxRecDepth 100000 in
set_option maxHeartbeats 2000000 in
theorem DepthOf2_calls (w : World) (v : Value) (bs : List Bool) (n d : Int) (hv : Sl w 4 1 v (boolsV bs)) (hl : bs.length ≤ 2000) (hn : 0 ≤ n ∧ n ≤ 1000000) (hd : 0 ≤ d ∧ d ≤ 1000000) : Calls Try.prog 51 #[v, .agg #[.int .i64 n, .int .i64 d]] w (IntPost w (depV bs n d)) := by
  obtain ⟨A, m, c, rfl⟩ := hv.form
  have hm : m = bs.length ∧ m ≤ c ∧ c ≤ 9223372036854775807 := by
    obtain ⟨A', n', c', he, h1, h2, h3, _⟩ := hv
    injection he with _ h4 h5
    rw [boolsV_len] at h3
    omega
  obtain ⟨rfl, hmc, hcc⟩ := hm
  have hsB := Blk.new w 30 #[.int .i64 n, .int .i64 d]
  go_enter Try.func51, Try.ntmps51
  go_wp2_with fail
  have hm0 : Pure w (w.alloc (.cells #[.int .i64 n, .int .i64 d] 30)) := (Mod.refl _ _).alloc _
  generalize (w.alloc (.cells #[.int .i64 n, .int .i64 d] 30)) = W at *
  generalize w.heap.size = g3 at *
  go_loopg [9] (bs.length + 1) (fun gk i wr => ∃ k : Nat, bs.length + 1 - k = gk ∧ k ≤ bs.length + 1 ∧ i = .int .i64 (k : Int) ∧ depV bs n d = findN (depP bs n d) k (bs.length + 1 - k) ∧ Pure W wr)
  case atStart => exact ⟨0, by omega, by omega, rfl, rfl, Mod.refl _ _⟩
  case round =>
    obtain ⟨k, rfl, hk, rfl, hix, hm⟩ := hrel
    have HIX := Lib.hid hix
    clear hix
    by_cases hlt : k < bs.length + 1
    · have HF : Hid (findN (depP bs n d) k (bs.length + 1 - k) = if depP bs n d k then (k : Int) else findN (depP bs n d) (k + 1) (bs.length + 1 - (k + 1))) := by
        rw [show bs.length + 1 - k = (bs.length + 1 - (k + 1)) + 1 by omega]
        rfl
      have hv1 := (hv.pure hm0).pure hm
      have s1 := hsB.modp hm
      have mr : Pure w wr := hm0.trans hm
      have h1 := cnt_take_le bs k
      have h2 := cnt_le bs
      have p1 : 0 ≤ (cnt (bs.take k) : Int) * d := Int.mul_nonneg (by omega) hd.1
      have p2 : (cnt (bs.take k) : Int) * d ≤ 2000 * 1000000 := Int.mul_le_mul (by omega) hd.2 hd.1 (by omega)
      have p3 : 0 ≤ n * (cnt bs : Int) := Int.mul_nonneg hn.1 (by omega)
      have p4 : n * (cnt bs : Int) ≤ 1000000 * 2000 := Int.mul_le_mul hn.2 (by omega) (by omega) (by omega)
      have q1 : IntKind.i64.wrap ((cnt (bs.take k) : Int) * d) = (cnt (bs.take k) : Int) * d := IntWalk.i64_in _ (by omega)
      have q2 : IntKind.i64.wrap (n * (cnt bs : Int)) = n * (cnt bs : Int) := IntWalk.i64_in _ (by omega)
      have i1 : (0 : Int) ≤ (k : Int) := by omega
      have i2 : (k : Int) ≤ (c : Int) := by omega
      have i3 : k ≤ c := by omega
      go_wp2_with fail
      have HGs := Lib.hid (show ∀ w w' : World, (fun w => Blk w g3 30 #[.int .i64 n, .int .i64 d] ∧ Sl w 4 1 (.slice A bs.length c) (boolsV bs)) w → Mod (fun _ => False) w w' → (fun w => Blk w g3 30 #[.int .i64 n, .int .i64 d] ∧ Sl w 4 1 (.slice A bs.length c) (boolsV bs)) w' from by intro w w' h hm; exact ⟨h.1.modp hm, h.2.pure hm⟩)
      refine wp_region_inv (by kernel_rfl) (by kernel_rfl) (InvF (R := Mod (fun _ => False)) [.is (.slice A bs.length c),
          .is (.int .i64 (k : Int)),
          .is (.slice A k c),
          .is (.int .i64 (cnt (bs.take k) : Int)),
          .is (.pointer (some ⟨g3, 1, none⟩)),
          .is (.int .i64 d),
          .is (.int .i64 ((cnt (bs.take k) : Int) * d)),
          .is (.pointer (some ⟨g3, 0, none⟩)),
          .is (.int .i64 n),
          .is (.slice A bs.length c),
          .is (.int .i64 (cnt bs : Int)),
          .is (.int .i64 (n * (cnt bs : Int))),
          .is (.bool (depP bs n d k))]
          (PB W (fun _ => False) wr.heap.size (fun w => Blk w g3 30 #[.int .i64 n, .int .i64 d] ∧ Sl w 4 1 (.slice A bs.length c) (boolsV bs)))) (InvF.start (PB.start hm (Nat.le_refl _) (⟨s1, hv1.pure ((Mod.refl _ _).drew)⟩))) ?_ ?_
      · refine .cons ?_ (.cons ?_ (.cons ?_ (.cons ?_ (.cons ?_ (.cons ?_ (.cons ?_ (.cons ?_ (.cons ?_ (.cons ?_ (.cons ?_ (.cons ?_ (.cons ?_ .nil))))))))))))
        · intro D V zw1 a hR hI K hK   -- 0: Op.move (Operand.tmp 0)
          obtain ⟨hM1, hB1, hG1⟩ := hI.1
          have ze0 := hR.frame.other (t := 0) (by kernel_rfl) rfl
          rw [if_pos (by rfl)]
          go_simp
          exact hK (.slice A bs.length c) _ (hI.next hR (by kernel_rfl) (Mod.refl _ _) (PB.quiet hI.1 (Mod.refl _ _) (HGs.out _ _ (hI.1).g (Mod.refl _ _))) (upd_same V 0 _))
        · intro D V zw1 a hR hI K hK   -- 1: Op.move (Operand.tmp 5)
          obtain ⟨hM1, hB1, hG1⟩ := hI.1
          have ze5 := hR.frame.other (t := 5) (by kernel_rfl) rfl
          rw [if_pos (by rfl)]
          go_simp
          exact hK (.int .i64 (k : Int)) _ (hI.next hR (by kernel_rfl) (Mod.refl _ _) (PB.quiet hI.1 (Mod.refl _ _) (HGs.out _ _ (hI.1).g (Mod.refl _ _))) (upd_same V 1 _))
        · intro D V zw1 a hR hI K hK   -- 2: Op.slice 69 (Operand.tmp 12) none (some (Operand.tmp 13)) none
          obtain ⟨hM1, hB1, hG1⟩ := hI.1
          have zd0 := hR.pred 0 (by kernel_rfl)
          have zF0 : V 0 = .slice A bs.length c := hI.2 0 zd0 rfl
          have zf0 := zF0; clear zF0
          have zd1 := hR.pred 1 (by kernel_rfl)
          have zF1 : V 1 = .int .i64 (k : Int) := hI.2 1 zd1 rfl
          have zf1 := zF1; clear zF1
          have ze12 := hR.frame.done (t := 12) (j := 0) (by kernel_rfl) hR.ok zd0
          have ze13 := hR.frame.done (t := 13) (j := 1) (by kernel_rfl) hR.ok zd1
          rw [if_pos (by rfl)]
          go_simp
          exact hK (.slice A k c) _ (hI.next hR (by kernel_rfl) (Mod.refl _ _) (PB.quiet hI.1 (Mod.refl _ _) (HGs.out _ _ (hI.1).g (Mod.refl _ _))) (upd_same V 2 _))
        · intro D V zw1 a hR hI K hK   -- 3: Op.call { callee := Callee.value (Operand.func 58), args := #[Operand.
          obtain ⟨hM1, hB1, hG1⟩ := hI.1
          have zd2 := hR.pred 2 (by kernel_rfl)
          have zF2 : V 2 = .slice A k c := hI.2 2 zd2 rfl
          have zf2 := zF2; clear zF2
          have ze14 := hR.frame.done (t := 14) (j := 2) (by kernel_rfl) hR.ok zd2
          rw [if_pos (by rfl)]
          go_simp
          refine (allOf_calls _ _ (bs.take k) (by rw [← boolsV_take]; exact hG1.2.take (by omega))).mono ?_
          rintro e zw2 ⟨rfl, hm2⟩
          exact hK (.int .i64 (cnt (bs.take k) : Int)) _ (hI.next hR (by kernel_rfl) hm2 (PB.quiet hI.1 hm2 (HGs.out _ _ (hI.1).g hm2)) (upd_same V 3 _))
        · intro D V zw1 a hR hI K hK   -- 4: Op.fieldAddr 30 (Operand.tmp 3) 1
          obtain ⟨hM1, hB1, hG1⟩ := hI.1
          have ze3 := hR.frame.other (t := 3) (by kernel_rfl) rfl
          rw [if_pos (by rfl)]
          go_simp
          exact hK (.pointer (some ⟨g3, 1, none⟩)) _ (hI.next hR (by kernel_rfl) (Mod.refl _ _) (PB.quiet hI.1 (Mod.refl _ _) (HGs.out _ _ (hI.1).g (Mod.refl _ _))) (upd_same V 4 _))
        · intro D V zw1 a hR hI K hK   -- 5: Op.load 3 (Operand.tmp 16)
          obtain ⟨hM1, hB1, hG1⟩ := hI.1
          have zd4 := hR.pred 4 (by kernel_rfl)
          have zF4 : V 4 = .pointer (some ⟨g3, 1, none⟩) := hI.2 4 zd4 rfl
          have zf4 := zF4; clear zF4
          have ze16 := hR.frame.done (t := 16) (j := 4) (by kernel_rfl) hR.ok zd4
          have zx0 := hG1.1.cell 0; have zx1 := hG1.1.cell 1
          simp at zx0 zx1
          rw [if_pos (by rfl)]
          go_simp
          exact hK (.int .i64 d) _ (hI.next hR (by kernel_rfl) (Mod.refl _ _) (PB.quiet hI.1 (Mod.refl _ _) (HGs.out _ _ (hI.1).g (Mod.refl _ _))) (upd_same V 5 _))
        · intro D V zw1 a hR hI K hK   -- 6: Op.binOp BinOp.mul 3 (Operand.tmp 15) (Operand.tmp 17) 3
          obtain ⟨hM1, hB1, hG1⟩ := hI.1
          have zd3 := hR.pred 3 (by kernel_rfl)
          have zF3 : V 3 = .int .i64 (cnt (bs.take k) : Int) := hI.2 3 zd3 rfl
          have zf3 := zF3; clear zF3
          have zd5 := hR.pred 5 (by kernel_rfl)
          have zF5 : V 5 = .int .i64 d := hI.2 5 zd5 rfl
          have zf5 := zF5; clear zF5
          have ze15 := hR.frame.done (t := 15) (j := 3) (by kernel_rfl) hR.ok zd3
          have ze17 := hR.frame.done (t := 17) (j := 5) (by kernel_rfl) hR.ok zd5
          rw [if_pos (by rfl)]
          go_simp
          exact hK (.int .i64 ((cnt (bs.take k) : Int) * d)) _ (hI.next hR (by kernel_rfl) (Mod.refl _ _) (PB.quiet hI.1 (Mod.refl _ _) (HGs.out _ _ (hI.1).g (Mod.refl _ _))) (upd_same V 6 _))
        · intro D V zw1 a hR hI K hK   -- 7: Op.fieldAddr 30 (Operand.tmp 3) 0
          obtain ⟨hM1, hB1, hG1⟩ := hI.1
          have ze3 := hR.frame.other (t := 3) (by kernel_rfl) rfl
          rw [if_pos (by rfl)]
          go_simp
          exact hK (.pointer (some ⟨g3, 0, none⟩)) _ (hI.next hR (by kernel_rfl) (Mod.refl _ _) (PB.quiet hI.1 (Mod.refl _ _) (HGs.out _ _ (hI.1).g (Mod.refl _ _))) (upd_same V 7 _))
        · intro D V zw1 a hR hI K hK   -- 8: Op.load 3 (Operand.tmp 19)
          obtain ⟨hM1, hB1, hG1⟩ := hI.1
          have zd7 := hR.pred 7 (by kernel_rfl)
          have zF7 : V 7 = .pointer (some ⟨g3, 0, none⟩) := hI.2 7 zd7 rfl
          have zf7 := zF7; clear zF7
          have ze19 := hR.frame.done (t := 19) (j := 7) (by kernel_rfl) hR.ok zd7
          have zx0 := hG1.1.cell 0; have zx1 := hG1.1.cell 1
          simp at zx0 zx1
          rw [if_pos (by rfl)]
          go_simp
          exact hK (.int .i64 n) _ (hI.next hR (by kernel_rfl) (Mod.refl _ _) (PB.quiet hI.1 (Mod.refl _ _) (HGs.out _ _ (hI.1).g (Mod.refl _ _))) (upd_same V 8 _))
        · intro D V zw1 a hR hI K hK   -- 9: Op.move (Operand.tmp 0)
          obtain ⟨hM1, hB1, hG1⟩ := hI.1
          have ze0 := hR.frame.other (t := 0) (by kernel_rfl) rfl
          rw [if_pos (by rfl)]
          go_simp
          exact hK (.slice A bs.length c) _ (hI.next hR (by kernel_rfl) (Mod.refl _ _) (PB.quiet hI.1 (Mod.refl _ _) (HGs.out _ _ (hI.1).g (Mod.refl _ _))) (upd_same V 9 _))
        · intro D V zw1 a hR hI K hK   -- 10: Op.call { callee := Callee.value (Operand.func 58), args := #[Operand.
          obtain ⟨hM1, hB1, hG1⟩ := hI.1
          have zd9 := hR.pred 9 (by kernel_rfl)
          have zF9 : V 9 = .slice A bs.length c := hI.2 9 zd9 rfl
          have zf9 := zF9; clear zF9
          have ze21 := hR.frame.done (t := 21) (j := 9) (by kernel_rfl) hR.ok zd9
          rw [if_pos (by rfl)]
          go_simp
          refine (allOf_calls _ _ bs hG1.2).mono ?_
          rintro e zw2 ⟨rfl, hm2⟩
          exact hK (.int .i64 (cnt bs : Int)) _ (hI.next hR (by kernel_rfl) hm2 (PB.quiet hI.1 hm2 (HGs.out _ _ (hI.1).g hm2)) (upd_same V 10 _))
        · intro D V zw1 a hR hI K hK   -- 11: Op.binOp BinOp.mul 3 (Operand.tmp 20) (Operand.tmp 22) 3
          obtain ⟨hM1, hB1, hG1⟩ := hI.1
          have zd8 := hR.pred 8 (by kernel_rfl)
          have zF8 : V 8 = .int .i64 n := hI.2 8 zd8 rfl
          have zf8 := zF8; clear zF8
          have zd10 := hR.pred 10 (by kernel_rfl)
          have zF10 : V 10 = .int .i64 (cnt bs : Int) := hI.2 10 zd10 rfl
          have zf10 := zF10; clear zF10
          have ze20 := hR.frame.done (t := 20) (j := 8) (by kernel_rfl) hR.ok zd8
          have ze22 := hR.frame.done (t := 22) (j := 10) (by kernel_rfl) hR.ok zd10
          rw [if_pos (by rfl)]
          go_simp
          exact hK (.int .i64 (n * (cnt bs : Int))) _ (hI.next hR (by kernel_rfl) (Mod.refl _ _) (PB.quiet hI.1 (Mod.refl _ _) (HGs.out _ _ (hI.1).g (Mod.refl _ _))) (upd_same V 11 _))
        · intro D V zw1 a hR hI K hK   -- 12: Op.binOp BinOp.geq 3 (Operand.tmp 18) (Operand.tmp 23) 3
          obtain ⟨hM1, hB1, hG1⟩ := hI.1
          have zd6 := hR.pred 6 (by kernel_rfl)
          have zF6 : V 6 = .int .i64 ((cnt (bs.take k) : Int) * d) := hI.2 6 zd6 rfl
          have zf6 := zF6; clear zF6
          have zd11 := hR.pred 11 (by kernel_rfl)
          have zF11 : V 11 = .int .i64 (n * (cnt bs : Int)) := hI.2 11 zd11 rfl
          have zf11 := zF11; clear zF11
          have ze18 := hR.frame.done (t := 18) (j := 6) (by kernel_rfl) hR.ok zd6
          have ze23 := hR.frame.done (t := 23) (j := 11) (by kernel_rfl) hR.ok zd11
          rw [if_pos (by rfl)]
          go_simp
          exact hK (.bool (depP bs n d k)) _ (hI.next hR (by kernel_rfl) (Mod.refl _ _) (PB.quiet hI.1 (Mod.refl _ _) (HGs.out _ _ (hI.1).g (Mod.refl _ _))) (upd_same V 12 _))
      · intro D V w2 hD hI
        obtain ⟨hM1, hB1, hG1⟩ := hI.1
        have hMx := hM1
        clear hM1
        have hBx := hB1
        clear hB1
        have hGx := hG1
        clear hG1
        have zF0 : V 0 = .slice A bs.length c := hI.2 0 (hD 0 (by decide)) rfl
        have zf0 := zF0; clear zF0
        have zF1 : V 1 = .int .i64 (k : Int) := hI.2 1 (hD 1 (by decide)) rfl
        have zf1 := zF1; clear zF1
        have zF2 : V 2 = .slice A k c := hI.2 2 (hD 2 (by decide)) rfl
        have zf2 := zF2; clear zF2
        have zF3 : V 3 = .int .i64 (cnt (bs.take k) : Int) := hI.2 3 (hD 3 (by decide)) rfl
        have zf3 := zF3; clear zF3
        have zF4 : V 4 = .pointer (some ⟨g3, 1, none⟩) := hI.2 4 (hD 4 (by decide)) rfl
        have zf4 := zF4; clear zF4
        have zF5 : V 5 = .int .i64 d := hI.2 5 (hD 5 (by decide)) rfl
        have zf5 := zF5; clear zF5
        have zF6 : V 6 = .int .i64 ((cnt (bs.take k) : Int) * d) := hI.2 6 (hD 6 (by decide)) rfl
        have zf6 := zF6; clear zF6
        have zF7 : V 7 = .pointer (some ⟨g3, 0, none⟩) := hI.2 7 (hD 7 (by decide)) rfl
        have zf7 := zF7; clear zF7
        have zF8 : V 8 = .int .i64 n := hI.2 8 (hD 8 (by decide)) rfl
        have zf8 := zF8; clear zF8
        have zF9 : V 9 = .slice A bs.length c := hI.2 9 (hD 9 (by decide)) rfl
        have zf9 := zF9; clear zF9
        have zF10 : V 10 = .int .i64 (cnt bs : Int) := hI.2 10 (hD 10 (by decide)) rfl
        have zf10 := zF10; clear zF10
        have zF11 : V 11 = .int .i64 (n * (cnt bs : Int)) := hI.2 11 (hD 11 (by decide)) rfl
        have zf11 := zF11; clear zF11
        have zF12 : V 12 = .bool (depP bs n d k) := hI.2 12 (hD 12 (by decide)) rfl
        have zf12 := zF12; clear zF12
        clear hI hD HGs
        simp only [frAll, Act.put, List.setIfInBounds_toArray, List.set_cons_zero, List.set_cons_succ, Nat.zero_add, Nat.reduceAdd, zf0, zf1, zf2, zf3, zf4, zf5, zf6, zf7, zf8, zf9, zf10, zf11, zf12]
        clear zf0 zf1 zf2 zf3 zf4 zf5 zf6 zf7 zf8 zf9 zf10 zf11 zf12
        clear V D
        have mw2 : Pure W w2 := hMx
        have m2 : Pure w w2 := hm0.trans mw2
        clear hGx hMx hv1 s1 mr q1 q2 p1 p2 p3 p4
        cases hp : depP bs n d k
        · go_wp2_with fail
          go_roundg (bs.length + 1 - (k + 1))
          case measure => omega
          case rel => exact ⟨k + 1, rfl, by omega, by simp, by rw [HIX.out, HF.out, hp]; rfl, mw2⟩
        · go_wp2_with fail
          go_ret
          exact IntPost.of (by rw [HIX.out, HF.out, hp]; rfl) m2
    · have hke : k = bs.length + 1 := by omega
      subst hke
      go_wp2_with fail
      go_ret
      exact IntPost.of (by rw [HIX.out, Nat.sub_self]; rfl) (hm0.trans hm)

end Go.Proofs.Ytpacmdiodnnofaa
