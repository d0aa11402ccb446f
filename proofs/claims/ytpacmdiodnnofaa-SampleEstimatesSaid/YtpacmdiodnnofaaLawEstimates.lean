/- The law SampleEstimates. -/
import Derived.Test.YtpacmdiodnnofaaEstimate
import Derived.Test.YtpacmdiodnnofaaDrawnM
import Derived.Test.YtpacmdiodnnofaaRCheck
import Derived.Test.YtpacmdiodnnofaaDrawn
namespace Go.Proofs.Ytpacmdiodnnofaa
set_option linter.unusedVariables false
set_option linter.unusedSimpArgs false
open Go.RowKit
attribute [local go_sem ↓] Go.wp_at_zero Go.wp_at_succ

theorem info_drawn : (Try.prog.info? 27).map (fun i => (i.zero, i.size, i.bytes)) = some (some (.agg #[.int .i64 0, .int .i64 0, .int .i64 0]), 3, 24) := by kernel_rfl
theorem own_lt {w : World} {base n size : Nat} {e : TypeId} {v : Value} {xs : List Value} (h : w.ownsRow base e size v n xs) {j : Nat} (hj : v.ownBlock = some j) : j < w.heap.size := by
  rcases h.2 with ⟨rfl, _⟩ | ⟨g, cap, cur, rfl, hg, hh, _⟩
  · simp [Value.ownBlock] at hj
  · simp [Value.ownBlock] at hj
    subst hj
    exact lt_of_heap hh
def EsRel (w : World) (B b n gk : Nat) (x f i : Value) (wr : World) : Prop :=
  ∃ (ds : List Dr) (A : Option Addr) (cap : Nat), n - ds.length = gk ∧ ds.length ≤ n ∧ x = .slice A ds.length cap ∧ f = .int .i64 (dErrs ds) ∧ i = .int .i64 (ds.length : Int) ∧ wr.ownsRow B 27 3 (.slice A ds.length cap) ds.length (drawnsV ds) ∧ Strm wr b (1 + 12 * ds.length) ∧ Pure w wr ∧ B ≤ wr.heap.size

set_option maxRecDepth 100000 in
set_option maxHeartbeats 8000000 in
theorem SampleEstimates_calls (w : World) (A : Option Addr) (n c : Nat) (hA : ArgInts w A n) :
    Calls Try.prog 5 #[.slice A n c] w (BoolPost w true) := by
  obtain ⟨i0, hi0, hz0, hz1, hz2⟩ := info_parts info_drawn
  have hS0 := strm_new (c := c) hA
  go_enter Try.func5, Try.ntmps5
  go_wp2_with fail
  refine (pick_calls _ _ _ _ _ [0, 1, 2, 3, 5, 6] (hS0.alloc _) (by omega) (Blk.snd _ _ _ _) (by simp) (by simp) (by simp)).mono ?_
  rintro e w1 ⟨n', hn, rfl, hS1, hM1⟩
  obtain ⟨m, rfl⟩ := Int.eq_ofNat_of_zero_le (show 0 ≤ n' by simp at hn; omega)
  have hm6 : m ≤ 6 := by simp at hn; omega
  have hb1 : w.heap.size + 1 ≤ w1.heap.size := by have := hM1.size; simp at this; omega
  have m1 : Pure w w1 := (((Mod.refl _ w).alloc _).alloc _).trans' hM1 (fun i hi hlt => by omega)
  clear hn hM1 hS0
  generalize hb : w.heap.size = b at *
  have hwb := Nat.le_of_eq hb
  clear hb
  go_wp2_with fail
  go_loopg [4, 5, 15] m (fun gk x f i wr => EsRel w (b + 1) b m gk x f i wr)
  case atStart => exact ⟨[], none, 0, by simp, by simp, rfl, rfl, rfl, ⟨by simp [drawnsV], .inl ⟨rfl, rfl⟩⟩, hS1.more (by simp), m1, hb1⟩
  case round =>
    clear hS1 m1 hb1
    obtain ⟨ds, A, cap, rfl, hk, rfl, rfl, rfl, hown, hS1, hm, hbig⟩ := hrel
    generalize hkk : ds.length = k at *
    have HKK := Lib.hid hkk
    clear hkk
    by_cases hlt : k < m
    · go_wp2_with fail
      refine (drawnm_calls _ _ _ hS1 (by omega)).mono ?_
      rintro e w2 ⟨p, s, f, hpb, rfl, hS2, hM2⟩
      have hown2 := own_mod hown hM2 (fun g hg => by have := own_block hown g hg; omega)
      have m2 : Pure w w2 := hm.trans' hM2 (fun i hi hlt => by omega)
      have hz2' := hM2.size
      clear hown hS1 hm hM2 hpb
      have hd3 := Blk.new w2 27 #[.int .i64 p, .int .i64 s, .int .i64 f]
      have hown3 := hown2.alloc (.cells #[.int .i64 p, .int .i64 s, .int .i64 f] 27)
      have hS3 := hS2.alloc (.cells #[.int .i64 p, .int .i64 s, .int .i64 f] 27)
      have m3 : Pure w (w2.alloc (.cells #[.int .i64 p, .int .i64 s, .int .i64 f] 27)) := m2.alloc _
      have hz3 : w2.heap.size + 1 = (w2.alloc (.cells #[.int .i64 p, .int .i64 s, .int .i64 f] 27)).heap.size := by simp
      have HLT := Lib.hid (fun j (hj : (Value.slice A k cap).ownBlock = some j) => own_lt hown2 hj)
      clear hown2 hS2 m2
      go_wp2_with fail
      generalize (w2.alloc (.cells #[.int .i64 p, .int .i64 s, .int .i64 f] 27)) = w3 at *
      generalize w2.heap.size = g6 at *
      have hz3a := Nat.le_of_eq hz3
      have hz3b := Nat.le_of_eq hz3.symm
      clear hz3
      have HGs := Lib.hid (show ∀ (D : Nat → Bool) (i : Nat) (w w' : World), i ≠ 3 → (fun D w => (D 3 = false → (fun w => w.ownsRow (b + 1) 27 3 (.slice A k cap) k (drawnsV ds)) w) ∧ (fun w => Blk w g6 27 #[.int .i64 p, .int .i64 s, .int .i64 f]) w) D w → Mod (· = b) w w' → (fun D w => (D 3 = false → (fun w => w.ownsRow (b + 1) 27 3 (.slice A k cap) k (drawnsV ds)) w) ∧ (fun w => Blk w g6 27 #[.int .i64 p, .int .i64 s, .int .i64 f]) w) (upd D i true) w' from by intro D i w w' hi hh hm; refine ⟨fun hs => ?_, ?_⟩; (rw [upd_ne _ _ (Ne.symm hi)] at hs; have h := hh.1 hs; (exact own_mod h hm (fun g hg => by have := own_block h g hg; omega))); (have h := hh.2; (exact h.modb hm (by omega))))
      refine wp_region_inv (by kernel_rfl) (by kernel_rfl) (InvF (R := Mod (· = b)) [.is (.slice A k cap),
          .is (.agg #[.int .i64 p, .int .i64 s, .int .i64 f]),
          ⟨fun zv zw => ∃ (g_2 : Nat), zv = .slice (some ⟨g_2, 0, none⟩) 1 1 ∧ w3.heap.size ≤ g_2 ∧ Blk zw g_2 27 #[.int .i64 p, .int .i64 s, .int .i64 f], (by rintro zv zw zx ⟨g_2, rfl, c0, q0⟩ hm; exact ⟨g_2, rfl, c0, (q0.modb hm (by omega))⟩), none, some 3⟩,
          ⟨fun zv zw => ∃ (A_3 : Option Addr) (cap_3 : Nat), zv = .slice A_3 (k + 1) cap_3 ∧ zw.ownsRow (b + 1) 27 3 (.slice A_3 (k + 1) cap_3) (k + 1) (drawnsV (ds ++ [(p, s, f)])), (by rintro zv zw zx ⟨A_3, cap_3, rfl, q0⟩ hm; exact ⟨A_3, cap_3, rfl, (own_mod q0 hm (fun g hg => by have := own_block q0 g hg; omega))⟩), none, none⟩,
          .is (.int .i64 (dErrs ds)),
          .is (.agg #[.int .i64 p, .int .i64 s, .int .i64 f]),
          .is (.int .i64 (dErr (p, s, f))),
          ⟨fun zv zw => ∃ (g_7 : Nat), zv = .slice (some ⟨g_7, 0, none⟩) 2 2 ∧ w3.heap.size ≤ g_7 ∧ Blk zw g_7 32 #[.int .i64 (dErrs ds), .int .i64 (dErr (p, s, f))], (by rintro zv zw zx ⟨g_7, rfl, c0, q0⟩ hm; exact ⟨g_7, rfl, c0, (q0.modb hm (by omega))⟩), none, some 8⟩,
          .is (.int .i64 (dErrs (ds ++ [(p, s, f)]))),
          ⟨fun zv zw => ∃ (A_9 : Option Addr) (cap_9 : Nat), zv = .slice A_9 (k + 1) cap_9 ∧ zw.ownsRow (b + 1) 27 3 (.slice A_9 (k + 1) cap_9) (k + 1) (drawnsV (ds ++ [(p, s, f)])), (by rintro zv zw zx ⟨A_9, cap_9, rfl, q0⟩ hm; exact ⟨A_9, cap_9, rfl, (own_mod q0 hm (fun g hg => by have := own_block q0 g hg; omega))⟩), none, none⟩,
          .is (.int .i64 (dErrs (ds ++ [(p, s, f)])))]
          (GB w (fun _ => False) w3.heap.size b (1 + 12 * k + 12) (fun D => 0) (fun D w => (D 3 = false → (fun w => w.ownsRow (b + 1) 27 3 (.slice A k cap) k (drawnsV ds)) w) ∧ (fun w => Blk w g6 27 #[.int .i64 p, .int .i64 s, .int .i64 f]) w))) (InvF.start (GB.start hS3 m3 (Nat.le_refl _) (⟨fun _ => hown3.drew, hd3⟩))) ?_ ?_
      · refine .cons ?_ (.cons ?_ (.cons ?_ (.cons ?_ (.cons ?_ (.cons ?_ (.cons ?_ (.cons ?_ (.cons ?_ (.cons ?_ (.cons ?_ .nil))))))))))
        · intro D V zw1 a hR hI K hK   -- 0: Op.move (Operand.tmp 4)
          obtain ⟨hS1, hM1, hB1, hG1⟩ := hI.1
          obtain ⟨hGK, hG1⟩ := hG1
          have ze4 := hR.frame.undone (t := 4) (j := 9) (by kernel_rfl) (hR.later 9 rfl (by kernel_rfl)) rfl
          rw [if_pos (by rfl)]
          go_simp
          exact hK (.slice A k cap) _ (hI.next hR (by kernel_rfl) (Mod.refl _ _) (GB.quiet hI.1 (Mod.refl _ _) (by have hn := hR.not; simp [upd, hn] <;> omega) (HGs.out D 0 _ _ (by omega) (hI.1).g (Mod.refl _ _))) (upd_same V 0 _))
        · intro D V zw1 a hR hI K hK   -- 1: Op.load 27 (Operand.tmp 6)
          obtain ⟨hS1, hM1, hB1, hG1⟩ := hI.1
          obtain ⟨hGK, hG1⟩ := hG1
          have ze6 := hR.frame.other (t := 6) (by kernel_rfl) rfl
          have zx0 := hG1.cell 0; have zx1 := hG1.cell 1; have zx2 := hG1.cell 2
          simp at zx0 zx1 zx2
          rw [if_pos (by rfl)]
          go_simp
          exact hK (.agg #[.int .i64 p, .int .i64 s, .int .i64 f]) _ (hI.next hR (by kernel_rfl) (Mod.refl _ _) (GB.quiet hI.1 (Mod.refl _ _) (by have hn := hR.not; simp [upd, hn] <;> omega) (HGs.out D 1 _ _ (by omega) (hI.1).g (Mod.refl _ _))) (upd_same V 1 _))
        · intro D V zw1 a hR hI K hK   -- 2: Op.buildSlice 45 1 #[(0, Operand.tmp 20)]
          obtain ⟨hS1, hM1, hB1, hG1⟩ := hI.1
          obtain ⟨hGK, hG1⟩ := hG1
          have zd1 := hR.pred 1 (by kernel_rfl)
          have zF1 : V 1 = .agg #[.int .i64 p, .int .i64 s, .int .i64 f] := hI.2 1 zd1 rfl
          have zf1 := zF1; clear zF1
          have ze20 := hR.frame.done (t := 20) (j := 1) (by kernel_rfl) hR.ok zd1
          rw [if_pos (by rfl)]
          go_simp
          exact hK (_) _ (hI.next hR (by kernel_rfl) ((Mod.refl _ _).alloc _) (GB.quiet hI.1 (pure_alloc _ _) (by have hn := hR.not; simp [upd, hn] <;> omega) (HGs.out D 2 _ _ (by omega) (hI.1).g ((Mod.refl _ _).alloc _))) (⟨_, upd_same V 2 _, (by omega), (Blk.new _ _ _)⟩))
        · intro D V zw1 a hR hI K hK   -- 3: Op.call { callee := Callee.builtin Builtin.append, args := #[Operand.t
          obtain ⟨hS1, hM1, hB1, hG1⟩ := hI.1
          obtain ⟨hGK, hG1⟩ := hG1
          have zd0 := hR.pred 0 (by kernel_rfl)
          have zF0 : V 0 = .slice A k cap := hI.2 0 zd0 rfl
          have zf0 := zF0; clear zF0
          have zd2 := hR.pred 2 (by kernel_rfl)
          have zF2 : ∃ (g_2 : Nat), V 2 = .slice (some ⟨g_2, 0, none⟩) 1 1 ∧ w3.heap.size ≤ g_2 ∧ Blk zw1 g_2 27 #[.int .i64 p, .int .i64 s, .int .i64 f] := hI.2 2 zd2 (by show (!D 3) = true; rw [hR.not]; rfl)
          obtain ⟨g_2, zf2, c2_0, b2_0⟩ := zF2
          have ze19 := hR.frame.done (t := 19) (j := 0) (by kernel_rfl) hR.ok zd0
          have ze21 := hR.frame.done (t := 21) (j := 2) (by kernel_rfl) hR.ok zd2
          rw [if_pos (by rfl)]
          have hown := hGK hR.not
          refine wp_append_lies _ (.tmp 19) (.tmp 21) 45 (by rfl) (b + 1) 27 i0 _ 3 24 Try.underlying45 hi0 hz0 hz1 hz2 (by rfl) (by omega) (.slice A k cap) (k) (drawnsV ds) ?_ hown ⟨g_2, 0, none⟩ 1 1 [.int .i64 p, .int .i64 s, .int .i64 f] ?_ (by rfl) (World.news_of_block (cs := #[.int .i64 p, .int .i64 s, .int .i64 f]) (t := 27) (fr := (0, 0)) b2_0) (by simp [Value.oneCell']) (by omega) (by simp [maxLen]; omega) (by omega) (by omega) zw1.heap.size rfl ?_
          · show a.tmps.getD 19 undef = _; simp [ze19, zf0]
          · show a.tmps.getD 21 undef = _; simp [ze21, zf2]
          intro g5 cap5 zw2 hown5 hgrow hat hlt5
          have hT := mod_grown hgrow
          have hTb : ∀ j, (.slice A k cap : Value).ownBlock = some j → (b + 1) ≤ j := own_block hown
          have hTl : ∀ j, (.slice A k cap : Value).ownBlock = some j → j < w3.heap.size := fun j hj => by have := HLT.out j hj; omega
          refine hK _ _ (InvF.last (GB.writes hI.1 (fun j hj => by have := hTb j hj; omega) (fun j hj hl => by have := hTb j hj; omega) hT (by have hn := hR.not; simp [upd, hn] <;> omega) ⟨fun hs => absurd hs (by rw [upd_same]; decide), hG1.mod hT (fun hj => by have := HLT.out _ hj; omega)⟩) ⟨_, _, upd_same V 3 _, by rw [drawnsV_snoc]; exact hown5⟩ ?_)
          intro k hk hDk hlv
          have hkl := hR.lt k hDk
          have hv := hI.2 k hDk (liveB_of hlv)
          match k, hk, hDk, hlv, hkl, hv with
          | 0, _, _, _, _, hv => exact hv
          | 1, _, _, _, _, hv => exact hv
          | 2, _, _, hlv, _, _ => exact absurd hlv (by show ¬ (!upd D 3 true 3) = true; rw [upd_same]; decide)
          | 3, hk, _, _, _, _ => exact absurd rfl hk
          | 4, _, _, _, _, hv => exact hv
          | 5, _, _, _, _, hv => exact hv
          | 6, _, _, _, _, hv => exact hv
          | 7, _, _, _, _, hv =>
            have hv2 : ∃ (g_7 : Nat), V 7 = .slice (some ⟨g_7, 0, none⟩) 2 2 ∧ w3.heap.size ≤ g_7 ∧ Blk zw1 g_7 32 #[.int .i64 (dErrs ds), .int .i64 (dErr (p, s, f))] := hv
            obtain ⟨g_7, zff, zcc0, zbb0⟩ := hv2
            exact ⟨g_7, zff, zcc0, zbb0.mod hT (fun hj => by have := hTl _ hj; omega)⟩
          | 8, _, _, _, _, hv => exact hv
          | 9, _, hDk, _, _, _ => exact absurd hDk (by rw [hR.later 9 rfl (by kernel_rfl)]; decide)
          | 10, _, _, _, _, hv => exact hv
          | k + 11, _, _, _, hkl, _ => exact absurd hkl (by simp)
        · intro D V zw1 a hR hI K hK   -- 4: Op.move (Operand.tmp 5)
          obtain ⟨hS1, hM1, hB1, hG1⟩ := hI.1
          obtain ⟨hGK, hG1⟩ := hG1
          have ze5 := hR.frame.undone (t := 5) (j := 10) (by kernel_rfl) (hR.later 10 rfl (by kernel_rfl)) rfl
          rw [if_pos (by rfl)]
          go_simp
          exact hK (.int .i64 (dErrs ds)) _ (hI.next hR (by kernel_rfl) (Mod.refl _ _) (GB.quiet hI.1 (Mod.refl _ _) (by have hn := hR.not; simp [upd, hn] <;> omega) (HGs.out D 4 _ _ (by omega) (hI.1).g (Mod.refl _ _))) (upd_same V 4 _))
        · intro D V zw1 a hR hI K hK   -- 5: Op.load 27 (Operand.tmp 6)
          obtain ⟨hS1, hM1, hB1, hG1⟩ := hI.1
          obtain ⟨hGK, hG1⟩ := hG1
          have ze6 := hR.frame.other (t := 6) (by kernel_rfl) rfl
          have zx0 := hG1.cell 0; have zx1 := hG1.cell 1; have zx2 := hG1.cell 2
          simp at zx0 zx1 zx2
          rw [if_pos (by rfl)]
          go_simp
          exact hK (.agg #[.int .i64 p, .int .i64 s, .int .i64 f]) _ (hI.next hR (by kernel_rfl) (Mod.refl _ _) (GB.quiet hI.1 (Mod.refl _ _) (by have hn := hR.not; simp [upd, hn] <;> omega) (HGs.out D 5 _ _ (by omega) (hI.1).g (Mod.refl _ _))) (upd_same V 5 _))
        · intro D V zw1 a hR hI K hK   -- 6: Op.call { callee := Callee.value (Operand.func 20), args := #[Operand.
          obtain ⟨hS1, hM1, hB1, hG1⟩ := hI.1
          obtain ⟨hGK, hG1⟩ := hG1
          have zd5 := hR.pred 5 (by kernel_rfl)
          have zF5 : V 5 = .agg #[.int .i64 p, .int .i64 s, .int .i64 f] := hI.2 5 zd5 rfl
          have zf5 := zF5; clear zF5
          have ze24 := hR.frame.done (t := 24) (j := 5) (by kernel_rfl) hR.ok zd5
          rw [if_pos (by rfl)]
          have hNB : 1 + 12 * k + 12 + (0) ≤ 1000000000 := by omega
          skip
          go_simp
          refine (drawnFault_calls _ p s f).mono ?_
          rintro e zw2 ⟨rfl, hm2⟩
          exact hK (.int .i64 (dErr (p, s, f))) _ (hI.next hR (by kernel_rfl) (Mod.of_pure hm2) (GB.quiet hI.1 hm2 (by have hn := hR.not; simp [upd, hn] <;> omega) (HGs.out D 6 _ _ (by omega) (hI.1).g (Mod.of_pure hm2))) (upd_same V 6 _))
        · intro D V zw1 a hR hI K hK   -- 7: Op.buildSlice 97 2 #[(0, Operand.tmp 23), (1, Operand.tmp 25)]
          obtain ⟨hS1, hM1, hB1, hG1⟩ := hI.1
          obtain ⟨hGK, hG1⟩ := hG1
          have zd4 := hR.pred 4 (by kernel_rfl)
          have zF4 : V 4 = .int .i64 (dErrs ds) := hI.2 4 zd4 rfl
          have zf4 := zF4; clear zF4
          have zd6 := hR.pred 6 (by kernel_rfl)
          have zF6 : V 6 = .int .i64 (dErr (p, s, f)) := hI.2 6 zd6 rfl
          have zf6 := zF6; clear zF6
          have ze23 := hR.frame.done (t := 23) (j := 4) (by kernel_rfl) hR.ok zd4
          have ze25 := hR.frame.done (t := 25) (j := 6) (by kernel_rfl) hR.ok zd6
          rw [if_pos (by rfl)]
          go_simp
          exact hK (_) _ (hI.next hR (by kernel_rfl) ((Mod.refl _ _).alloc _) (GB.quiet hI.1 (pure_alloc _ _) (by have hn := hR.not; simp [upd, hn] <;> omega) (HGs.out D 7 _ _ (by omega) (hI.1).g ((Mod.refl _ _).alloc _))) (⟨_, upd_same V 7 _, (by omega), (Blk.new _ _ _)⟩))
        · intro D V zw1 a hR hI K hK   -- 8: Op.call { callee := Callee.value (Operand.func 21), args := #[Operand.
          obtain ⟨hS1, hM1, hB1, hG1⟩ := hI.1
          obtain ⟨hGK, hG1⟩ := hG1
          have zd7 := hR.pred 7 (by kernel_rfl)
          have zF7 : ∃ (g_7 : Nat), V 7 = .slice (some ⟨g_7, 0, none⟩) 2 2 ∧ w3.heap.size ≤ g_7 ∧ Blk zw1 g_7 32 #[.int .i64 (dErrs ds), .int .i64 (dErr (p, s, f))] := hI.2 7 zd7 (by show (!D 8) = true; rw [hR.not]; rfl)
          obtain ⟨g_7, zf7, c7_0, b7_0⟩ := zF7
          have ze26 := hR.frame.done (t := 26) (j := 7) (by kernel_rfl) hR.ok zd7
          rw [if_pos (by rfl)]
          have hNB : 1 + 12 * k + 12 + (0) ≤ 1000000000 := by omega
          skip
          go_simp
          refine (wrongOr_calls _ _ _ [dErrs ds, dErr (p, s, f)] b7_0.row0 (by simp)).mono ?_
          rintro e zw2 ⟨he, hm2⟩
          rw [← dErrs_snoc] at he
          subst he
          exact hK (.int .i64 (dErrs (ds ++ [(p, s, f)]))) _ (hI.next hR (by kernel_rfl) (Mod.of_pure hm2) (GB.quiet hI.1 hm2 (by have hn := hR.not; simp [upd, hn] <;> omega) (HGs.out D 8 _ _ (by omega) (hI.1).g (Mod.of_pure hm2))) (upd_same V 8 _))
        · intro D V zw1 a hR hI K hK   -- 9: Op.assign (Operand.tmp 22)
          obtain ⟨hS1, hM1, hB1, hG1⟩ := hI.1
          obtain ⟨hGK, hG1⟩ := hG1
          have zd3 := hR.pred 3 (by kernel_rfl)
          have zF3 : ∃ (A_3 : Option Addr) (cap_3 : Nat), V 3 = .slice A_3 (k + 1) cap_3 ∧ zw1.ownsRow (b + 1) 27 3 (.slice A_3 (k + 1) cap_3) (k + 1) (drawnsV (ds ++ [(p, s, f)])) := hI.2 3 zd3 rfl
          obtain ⟨A_3, cap_3, zf3, b3_0⟩ := zF3
          have ze22 := hR.frame.done (t := 22) (j := 3) (by kernel_rfl) hR.ok zd3
          rw [if_pos (by rfl)]
          go_simp
          exact hK (.slice A_3 (k + 1) cap_3) _ (hI.next hR (by kernel_rfl) (Mod.refl _ _) (GB.quiet hI.1 (Mod.refl _ _) (by have hn := hR.not; simp [upd, hn] <;> omega) (HGs.out D 9 _ _ (by omega) (hI.1).g (Mod.refl _ _))) (⟨A_3, cap_3, upd_same V 9 _, b3_0⟩))
        · intro D V zw1 a hR hI K hK   -- 10: Op.assign (Operand.tmp 27)
          obtain ⟨hS1, hM1, hB1, hG1⟩ := hI.1
          obtain ⟨hGK, hG1⟩ := hG1
          have zd8 := hR.pred 8 (by kernel_rfl)
          have zF8 : V 8 = .int .i64 (dErrs (ds ++ [(p, s, f)])) := hI.2 8 zd8 rfl
          have zf8 := zF8; clear zF8
          have ze27 := hR.frame.done (t := 27) (j := 8) (by kernel_rfl) hR.ok zd8
          rw [if_pos (by rfl)]
          go_simp
          exact hK (.int .i64 (dErrs (ds ++ [(p, s, f)]))) _ (hI.next hR (by kernel_rfl) (Mod.refl _ _) (GB.quiet hI.1 (Mod.refl _ _) (by have hn := hR.not; simp [upd, hn] <;> omega) (HGs.out D 10 _ _ (by omega) (hI.1).g (Mod.refl _ _))) (upd_same V 10 _))
      · intro D V w4 hD hI
        obtain ⟨hS1, hM1, hB1, hG1⟩ := hI.1
        have hSx : Strm w4 b (1 + 12 * k + 12 + 0) := hS1.more (by show _ ≤ _; skip; omega)
        clear hS1
        have hMx := hM1
        clear hM1
        have hBx := hB1
        clear hB1
        have hGx := hG1.2
        clear hG1
        have zF0 : V 0 = .slice A k cap := hI.2 0 (hD 0 (by decide)) rfl
        have zf0 := zF0; clear zF0
        have zF1 : V 1 = .agg #[.int .i64 p, .int .i64 s, .int .i64 f] := hI.2 1 (hD 1 (by decide)) rfl
        have zf1 := zF1; clear zF1
        have zF3 : ∃ (A_3 : Option Addr) (cap_3 : Nat), V 3 = .slice A_3 (k + 1) cap_3 ∧ w4.ownsRow (b + 1) 27 3 (.slice A_3 (k + 1) cap_3) (k + 1) (drawnsV (ds ++ [(p, s, f)])) := hI.2 3 (hD 3 (by decide)) rfl
        obtain ⟨A_3, cap_3, zf3, b3_0⟩ := zF3
        have zF4 : V 4 = .int .i64 (dErrs ds) := hI.2 4 (hD 4 (by decide)) rfl
        have zf4 := zF4; clear zF4
        have zF5 : V 5 = .agg #[.int .i64 p, .int .i64 s, .int .i64 f] := hI.2 5 (hD 5 (by decide)) rfl
        have zf5 := zF5; clear zF5
        have zF6 : V 6 = .int .i64 (dErr (p, s, f)) := hI.2 6 (hD 6 (by decide)) rfl
        have zf6 := zF6; clear zF6
        have zF8 : V 8 = .int .i64 (dErrs (ds ++ [(p, s, f)])) := hI.2 8 (hD 8 (by decide)) rfl
        have zf8 := zF8; clear zF8
        have zF9 : ∃ (A_9 : Option Addr) (cap_9 : Nat), V 9 = .slice A_9 (k + 1) cap_9 ∧ w4.ownsRow (b + 1) 27 3 (.slice A_9 (k + 1) cap_9) (k + 1) (drawnsV (ds ++ [(p, s, f)])) := hI.2 9 (hD 9 (by decide)) rfl
        obtain ⟨A_9, cap_9, zf9, b9_0⟩ := zF9
        have zF10 : V 10 = .int .i64 (dErrs (ds ++ [(p, s, f)])) := hI.2 10 (hD 10 (by decide)) rfl
        have zf10 := zF10; clear zF10
        clear hI hD HGs
        simp only [frAll, Act.put, List.setIfInBounds_toArray, List.set_cons_zero, List.set_cons_succ, Nat.zero_add, Nat.reduceAdd, zf0, zf1, zf3, zf4, zf5, zf6, zf8, zf9, zf10]
        clear zf0 zf1 zf3 zf4 zf5 zf6 zf8 zf9 zf10
        generalize V 2 = u2
        generalize V 7 = u7
        clear V D
        go_wp2_with fail
        go_roundg (m - (k + 1))
        case measure => omega
        case rel =>
          refine ⟨ds ++ [(p, s, f)], A_9, cap_9, by simp [HKK.out], by simp [HKK.out]; omega, by simp [HKK.out], rfl, by simp [HKK.out], by simpa [HKK.out] using b9_0, hSx.more (by simp [HKK.out]; omega), hMx, by omega⟩
    · obtain rfl : m = k := by omega
      have H0 := Lib.hid (Sl.of_own hown)
      clear hS1 hbig hown hlt hk
      obtain ⟨fe, hfe⟩ : ∃ fe, dErrs ds = fe := ⟨_, rfl⟩
      rw [hfe]
      have HFE := Lib.hid hfe
      clear hfe
      go_upto_if 31 with (fail)
      go_cut [5] (fun q wx => q = .int .i64 (estE ds) ∧ wr = wx)
      case first =>
        by_cases h5 : 5 < m
        · go_wp2_with fail
          go_meet
          exact ⟨by rw [show estE ds = 2 from if_pos (by rw [HKK.out]; exact h5)], rfl⟩
        · go_wp2_with fail
          go_meet
          exact ⟨by rw [show estE ds = dErrs ds from if_neg (by rw [HKK.out]; exact h5), HFE.out], rfl⟩
      case rest =>
        obtain ⟨rfl, rfl⟩ := hcut
        go_wp2_with fail
        refine (Estimate_calls _ _ ds H0.out).mono ?_
        rintro e w2 ⟨x, y, er, hes, rfl, hm2⟩
        have HES := Lib.hid hes
        have hv3 := (H0.out.pure hm2).pure (pure_alloc w2 (.cells #[.int .i64 x, .int .i64 y] 30))
        have f3 := Blk.new w2 30 #[.int .i64 x, .int .i64 y]
        have m3 : Pure w (w2.alloc (.cells #[.int .i64 x, .int .i64 y] 30)) := (hm.trans hm2).alloc _
        clear hes hm hm2
        obtain ⟨ee, hee⟩ : ∃ ee, estE ds = ee := ⟨_, rfl⟩
        rw [hee]
        have HEE := Lib.hid hee
        clear hee
        by_cases h0 : ee = 0
        · subst h0
          rcases HES.out with ⟨h1, _⟩ | ⟨h1, hx, hy, rfl⟩
          · exact absurd HEE.out h1
          · have HX := Lib.hid hx
            have HY := Lib.hid hy
            have u1 : (x == x) = true := by simp
            have u2 : (y == y) = true := by simp
            have hl5 : ds.length ≤ 5 ∧ dErrs ds = 0 := by
              have h2 := h1
              unfold estE at h2
              split at h2
              · cases h2
              · exact ⟨by omega, h2⟩
            have HL := Lib.hid hl5
            clear h1 hx hy hl5
            go_wp2_with fail
            generalize (w2.alloc (.cells #[.int .i64 x, .int .i64 y] 30)) = w3 at *
            generalize w2.heap.size = g7 at *
            have HGs := Lib.hid (show ∀ (D : Nat → Bool) (i : Nat) (w w' : World), (fun _ w => (fun w => Blk w g7 30 #[.int .i64 x, .int .i64 y] ∧ Sl w 27 3 (.slice A m cap) (drawnsV ds)) w) D w → Mod (fun _ => False) w w' → (fun _ w => (fun w => Blk w g7 30 #[.int .i64 x, .int .i64 y] ∧ Sl w 27 3 (.slice A m cap) (drawnsV ds)) w) (upd D i true) w' from by intro D i w w' h hm; (exact ⟨h.1.modp hm, h.2.pure hm⟩))
            refine wp_region_inv (by kernel_rfl) (by kernel_rfl) (InvF (R := Mod (fun _ => False)) [.is (.int .i64 0),
                .is (.bool true),
                .is (.bool true),
                .is (.agg #[.int .i64 x, .int .i64 y]),
                .is (.slice A m cap),
                .is (.agg #[.int .i64 x, .int .i64 y]),
                .is (.bool true),
                .is (.bool true),
                .is (.bool true),
                .is (.bool true),
                .is (.bool true),
                .is (.bool true)]
                (PB w (fun _ => False) w3.heap.size (fun _ w => (fun w => Blk w g7 30 #[.int .i64 x, .int .i64 y] ∧ Sl w 27 3 (.slice A m cap) (drawnsV ds)) w))) (InvF.start (PB.start m3 (Nat.le_refl _) (⟨f3, hv3.pure ((Mod.refl _ _).drew)⟩))) ?_ ?_
            · refine .cons ?_ (.cons ?_ (.cons ?_ (.cons ?_ (.cons ?_ (.cons ?_ (.cons ?_ (.cons ?_ (.cons ?_ (.cons ?_ (.cons ?_ (.cons ?_ .nil)))))))))))
              · intro D V zw1 a hR hI K hK   -- 0: Op.move (Operand.tmp 8)
                obtain ⟨hM1, hB1, hG1⟩ := hI.1
                have ze8 := hR.frame.other (t := 8) (by kernel_rfl) rfl
                rw [if_pos (by rfl)]
                go_simp
                exact hK (.int .i64 0) _ (hI.next hR (by kernel_rfl) (Mod.refl _ _) (PB.quiet hI.1 (Mod.refl _ _) (HGs.out D 0 _ _ (hI.1).g (Mod.refl _ _))) (upd_same V 0 _))
              · intro D V zw1 a hR hI K hK   -- 1: Op.binOp BinOp.eql 32 (Operand.tmp 50) (Operand.const (Value.int IntKi
                obtain ⟨hM1, hB1, hG1⟩ := hI.1
                have zd0 := hR.pred 0 (by kernel_rfl)
                have zF0 : V 0 = .int .i64 0 := hI.2 0 zd0 rfl
                have zf0 := zF0; clear zF0
                have ze50 := hR.frame.done (t := 50) (j := 0) (by kernel_rfl) hR.ok zd0
                rw [if_pos (by rfl)]
                go_simp
                exact hK (.bool true) _ (hI.next hR (by kernel_rfl) (Mod.refl _ _) (PB.quiet hI.1 (Mod.refl _ _) (HGs.out D 1 _ _ (hI.1).g (Mod.refl _ _))) (upd_same V 1 _))
              · intro D V zw1 a hR hI K hK   -- 2: Op.move (Operand.tmp 51)
                obtain ⟨hM1, hB1, hG1⟩ := hI.1
                have zd1 := hR.pred 1 (by kernel_rfl)
                have zF1 : V 1 = .bool true := hI.2 1 zd1 rfl
                have zf1 := zF1; clear zF1
                have ze51 := hR.frame.done (t := 51) (j := 1) (by kernel_rfl) hR.ok zd1
                rw [if_pos (by rfl)]
                go_simp
                exact hK (.bool true) _ (hI.next hR (by kernel_rfl) (Mod.refl _ _) (PB.quiet hI.1 (Mod.refl _ _) (HGs.out D 2 _ _ (hI.1).g (Mod.refl _ _))) (upd_same V 2 _))
              · intro D V zw1 a hR hI K hK   -- 3: Op.load 30 (Operand.tmp 7)
                obtain ⟨hM1, hB1, hG1⟩ := hI.1
                have zd2 := hR.pred 2 (by kernel_rfl)
                have zF2 : V 2 = .bool true := hI.2 2 zd2 rfl
                have zf2 := zF2; clear zF2
                have ze7 := hR.frame.other (t := 7) (by kernel_rfl) rfl
                have zx0 := hG1.1.cell 0; have zx1 := hG1.1.cell 1
                simp at zx0 zx1
                have ze52 := hR.frame.done (t := 52) (j := 2) (by kernel_rfl) hR.ok zd2
                rw [if_pos (by simp [Region.wanted, yielded, ze52, zf2])]
                go_simp
                exact hK (.agg #[.int .i64 x, .int .i64 y]) _ (hI.next hR (by kernel_rfl) (Mod.refl _ _) (PB.quiet hI.1 (Mod.refl _ _) (HGs.out D 3 _ _ (hI.1).g (Mod.refl _ _))) (upd_same V 3 _))
              · intro D V zw1 a hR hI K hK   -- 4: Op.move (Operand.tmp 4)
                obtain ⟨hM1, hB1, hG1⟩ := hI.1
                have zd2 := hR.pred 2 (by kernel_rfl)
                have zF2 : V 2 = .bool true := hI.2 2 zd2 rfl
                have zf2 := zF2; clear zF2
                have ze4 := hR.frame.other (t := 4) (by kernel_rfl) rfl
                have ze52 := hR.frame.done (t := 52) (j := 2) (by kernel_rfl) hR.ok zd2
                rw [if_pos (by simp [Region.wanted, yielded, ze52, zf2])]
                go_simp
                exact hK (.slice A m cap) _ (hI.next hR (by kernel_rfl) (Mod.refl _ _) (PB.quiet hI.1 (Mod.refl _ _) (HGs.out D 4 _ _ (hI.1).g (Mod.refl _ _))) (upd_same V 4 _))
              · intro D V zw1 a hR hI K hK   -- 5: Op.call { callee := Callee.value (Operand.func 29), args := #[Operand.
                obtain ⟨hM1, hB1, hG1⟩ := hI.1
                have zd4 := hR.pred 4 (by kernel_rfl)
                have zF4 : V 4 = .slice A m cap := hI.2 4 zd4 rfl
                have zf4 := zF4; clear zF4
                have zd2 := hR.pred 2 (by kernel_rfl)
                have zF2 : V 2 = .bool true := hI.2 2 zd2 rfl
                have zf2 := zF2; clear zF2
                have ze54 := hR.frame.done (t := 54) (j := 4) (by kernel_rfl) hR.ok zd4
                have ze52 := hR.frame.done (t := 52) (j := 2) (by kernel_rfl) hR.ok zd2
                rw [if_pos (by simp [Region.wanted, yielded, ze52, zf2])]
                go_simp
                refine (EstimateOf_calls _ _ ds hG1.2 HL.out.1 (fun j h => firstErr_zero HL.out.2 _ (List.mem_map.2 ⟨_, List.getElem_mem h, rfl⟩))).mono ?_
                rintro e zw2 ⟨he, hm2⟩
                rw [← HX.out, ← HY.out] at he
                subst he
                exact hK (.agg #[.int .i64 x, .int .i64 y]) _ (hI.next hR (by kernel_rfl) hm2 (PB.quiet hI.1 hm2 (HGs.out D 5 _ _ (hI.1).g hm2)) (upd_same V 5 _))
              · intro D V zw1 a hR hI K hK   -- 6: Op.binOp BinOp.eql 30 (Operand.tmp 53) (Operand.tmp 55) 30
                obtain ⟨hM1, hB1, hG1⟩ := hI.1
                have zd3 := hR.pred 3 (by kernel_rfl)
                have zF3 : V 3 = .agg #[.int .i64 x, .int .i64 y] := hI.2 3 zd3 rfl
                have zf3 := zF3; clear zF3
                have zd5 := hR.pred 5 (by kernel_rfl)
                have zF5 : V 5 = .agg #[.int .i64 x, .int .i64 y] := hI.2 5 zd5 rfl
                have zf5 := zF5; clear zF5
                have zd2 := hR.pred 2 (by kernel_rfl)
                have zF2 : V 2 = .bool true := hI.2 2 zd2 rfl
                have zf2 := zF2; clear zF2
                have ze53 := hR.frame.done (t := 53) (j := 3) (by kernel_rfl) hR.ok zd3
                have ze55 := hR.frame.done (t := 55) (j := 5) (by kernel_rfl) hR.ok zd5
                have ze52 := hR.frame.done (t := 52) (j := 2) (by kernel_rfl) hR.ok zd2
                rw [if_pos (by simp [Region.wanted, yielded, ze52, zf2])]
                go_simp
                exact hK (.bool true) _ (hI.next hR (by kernel_rfl) (Mod.refl _ _) (PB.quiet hI.1 (Mod.refl _ _) (HGs.out D 6 _ _ (hI.1).g (Mod.refl _ _))) (upd_same V 6 _))
              · intro D V zw1 a hR hI K hK   -- 7: Op.pick (Operand.tmp 52) (Operand.tmp 56) (Operand.const (Value.bool f
                obtain ⟨hM1, hB1, hG1⟩ := hI.1
                have zd2 := hR.pred 2 (by kernel_rfl)
                have zF2 : V 2 = .bool true := hI.2 2 zd2 rfl
                have zf2 := zF2; clear zF2
                have zd6 := hR.pred 6 (by kernel_rfl)
                have zF6 : V 6 = .bool true := hI.2 6 zd6 rfl
                have zf6 := zF6; clear zF6
                have ze52 := hR.frame.done (t := 52) (j := 2) (by kernel_rfl) hR.ok zd2
                have ze56 := hR.frame.done (t := 56) (j := 6) (by kernel_rfl) hR.ok zd6
                rw [if_pos (by rfl)]
                go_simp
                exact hK (.bool true) _ (hI.next hR (by kernel_rfl) (Mod.refl _ _) (PB.quiet hI.1 (Mod.refl _ _) (HGs.out D 7 _ _ (hI.1).g (Mod.refl _ _))) (upd_same V 7 _))
              · intro D V zw1 a hR hI K hK   -- 8: Op.move (Operand.tmp 57)
                obtain ⟨hM1, hB1, hG1⟩ := hI.1
                have zd7 := hR.pred 7 (by kernel_rfl)
                have zF7 : V 7 = .bool true := hI.2 7 zd7 rfl
                have zf7 := zF7; clear zF7
                have ze57 := hR.frame.done (t := 57) (j := 7) (by kernel_rfl) hR.ok zd7
                rw [if_pos (by rfl)]
                go_simp
                exact hK (.bool true) _ (hI.next hR (by kernel_rfl) (Mod.refl _ _) (PB.quiet hI.1 (Mod.refl _ _) (HGs.out D 8 _ _ (hI.1).g (Mod.refl _ _))) (upd_same V 8 _))
              · intro D V zw1 a hR hI K hK   -- 9: Op.call { callee := Callee.value (Operand.func 22), args := #[], argTy
                obtain ⟨hM1, hB1, hG1⟩ := hI.1
                have zd8 := hR.pred 8 (by kernel_rfl)
                have zF8 : V 8 = .bool true := hI.2 8 zd8 rfl
                have zf8 := zF8; clear zF8
                have ze58 := hR.frame.done (t := 58) (j := 8) (by kernel_rfl) hR.ok zd8
                rw [if_pos (by simp [Region.wanted, yielded, ze58, zf8])]
                go_simp
                refine (drawn_calls _).mono ?_
                rintro e zw2 ⟨rfl, hm2⟩
                exact hK (.bool true) _ (hI.next hR (by kernel_rfl) hm2 (PB.quiet hI.1 hm2 (HGs.out D 9 _ _ (hI.1).g hm2)) (upd_same V 9 _))
              · intro D V zw1 a hR hI K hK   -- 10: Op.pick (Operand.tmp 58) (Operand.tmp 59) (Operand.const (Value.bool f
                obtain ⟨hM1, hB1, hG1⟩ := hI.1
                have zd8 := hR.pred 8 (by kernel_rfl)
                have zF8 : V 8 = .bool true := hI.2 8 zd8 rfl
                have zf8 := zF8; clear zF8
                have zd9 := hR.pred 9 (by kernel_rfl)
                have zF9 : V 9 = .bool true := hI.2 9 zd9 rfl
                have zf9 := zF9; clear zF9
                have ze58 := hR.frame.done (t := 58) (j := 8) (by kernel_rfl) hR.ok zd8
                have ze59 := hR.frame.done (t := 59) (j := 9) (by kernel_rfl) hR.ok zd9
                rw [if_pos (by rfl)]
                go_simp
                exact hK (.bool true) _ (hI.next hR (by kernel_rfl) (Mod.refl _ _) (PB.quiet hI.1 (Mod.refl _ _) (HGs.out D 10 _ _ (hI.1).g (Mod.refl _ _))) (upd_same V 10 _))
              · intro D V zw1 a hR hI K hK   -- 11: Op.assign (Operand.tmp 60)
                obtain ⟨hM1, hB1, hG1⟩ := hI.1
                have zd10 := hR.pred 10 (by kernel_rfl)
                have zF10 : V 10 = .bool true := hI.2 10 zd10 rfl
                have zf10 := zF10; clear zF10
                have ze60 := hR.frame.done (t := 60) (j := 10) (by kernel_rfl) hR.ok zd10
                rw [if_pos (by rfl)]
                go_simp
                exact hK (.bool true) _ (hI.next hR (by kernel_rfl) (Mod.refl _ _) (PB.quiet hI.1 (Mod.refl _ _) (HGs.out D 11 _ _ (hI.1).g (Mod.refl _ _))) (upd_same V 11 _))
            · intro D V w4 hD hI
              obtain ⟨hM1, hB1, hG1⟩ := hI.1
              have hMx := hM1
              clear hM1
              have hBx := hB1
              clear hB1
              have hGx := hG1
              clear hG1
              have zF0 : V 0 = .int .i64 0 := hI.2 0 (hD 0 (by decide)) rfl
              have zf0 := zF0; clear zF0
              have zF1 : V 1 = .bool true := hI.2 1 (hD 1 (by decide)) rfl
              have zf1 := zF1; clear zF1
              have zF2 : V 2 = .bool true := hI.2 2 (hD 2 (by decide)) rfl
              have zf2 := zF2; clear zF2
              have zF3 : V 3 = .agg #[.int .i64 x, .int .i64 y] := hI.2 3 (hD 3 (by decide)) rfl
              have zf3 := zF3; clear zF3
              have zF4 : V 4 = .slice A m cap := hI.2 4 (hD 4 (by decide)) rfl
              have zf4 := zF4; clear zF4
              have zF5 : V 5 = .agg #[.int .i64 x, .int .i64 y] := hI.2 5 (hD 5 (by decide)) rfl
              have zf5 := zF5; clear zF5
              have zF6 : V 6 = .bool true := hI.2 6 (hD 6 (by decide)) rfl
              have zf6 := zF6; clear zF6
              have zF7 : V 7 = .bool true := hI.2 7 (hD 7 (by decide)) rfl
              have zf7 := zF7; clear zF7
              have zF8 : V 8 = .bool true := hI.2 8 (hD 8 (by decide)) rfl
              have zf8 := zF8; clear zF8
              have zF9 : V 9 = .bool true := hI.2 9 (hD 9 (by decide)) rfl
              have zf9 := zF9; clear zF9
              have zF10 : V 10 = .bool true := hI.2 10 (hD 10 (by decide)) rfl
              have zf10 := zF10; clear zF10
              have zF11 : V 11 = .bool true := hI.2 11 (hD 11 (by decide)) rfl
              have zf11 := zF11; clear zF11
              clear hI hD HGs
              simp only [frAll, Act.put, List.setIfInBounds_toArray, List.set_cons_zero, List.set_cons_succ, Nat.zero_add, Nat.reduceAdd, zf0, zf1, zf2, zf3, zf4, zf5, zf6, zf7, zf8, zf9, zf10, zf11]
              clear zf0 zf1 zf2 zf3 zf4 zf5 zf6 zf7 zf8 zf9 zf10 zf11
              clear V D
              go_wp2_with fail
              go_ret
              exact BoolPost.of rfl hMx
        · rcases HES.out with ⟨_, rfl, rfl, h4⟩ | ⟨h1, _⟩
          · obtain rfl : er = ee := h4.trans HEE.out
            have hne : (er != 0) = true := by simpa using h0
            have u1 : (er == er) = true := by simp
            clear h0 h4
            have q0 := f3.cell 0; have q1 := f3.cell 1; simp at q0 q1
            go_wp2_with fail
            refine (drawn_calls _).mono ?_
            rintro e w12 ⟨rfl, hm12⟩
            go_wp2_with fail
            go_ret
            exact BoolPost.of rfl (m3.trans hm12)
          · exact absurd (HEE.out.symm.trans h1) h0

end Go.Proofs.Ytpacmdiodnnofaa
