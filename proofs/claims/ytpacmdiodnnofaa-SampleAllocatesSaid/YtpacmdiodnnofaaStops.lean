/- Stops and its reference. -/
import Derived.Test.YtpacmdiodnnofaaConcat
import Derived.Test.YtpacmdiodnnofaaRCheck
namespace Go.Proofs.Ytpacmdiodnnofaa
set_option linter.unusedVariables false
set_option linter.unusedSimpArgs false
open Go.RowKit
attribute [local go_sem ↓] Go.wp_at_zero Go.wp_at_succ

/-- The first number from k on, of m, with P. -/
def findO (P : Nat → Bool) : Nat → Nat → Option Nat
  | _, 0 => none
  | k, m + 1 => if P k then some k else findO P (k + 1) m
theorem findO_skip (P : Nat → Bool) : ∀ (d k m : Nat), (∀ j, k ≤ j → j < k + d → P j = false) → d ≤ m → findO P k m = findO P (k + d) (m - d)
  | 0, k, m, _, _ => rfl
  | d + 1, k, 0, _, hm => absurd hm (by omega)
  | d + 1, k, m + 1, h, hm => by
    show (if P k then some k else findO P (k + 1) m) = _
    rw [h k (Nat.le_refl _) (by omega)]
    have := findO_skip P d (k + 1) m (fun j h1 h2 => h j (by omega) (by omega)) (by omega)
    rw [show k + 1 + d = k + (d + 1) by omega] at this
    rw [show m + 1 - (d + 1) = m - d by omega]
    exact this
def cY (bss : List (List Bool)) (k : Nat) : Nat := cnt (bss.take k).flatten
def cI (bss : List (List Bool)) (k : Nat) : Nat := lens (bss.take k)
theorem cnt_append (a b : List Bool) : cnt (a ++ b) = cnt a + cnt b := List.count_append
theorem cY_succ (bss : List (List Bool)) (k : Nat) (h : k < bss.length) : cY bss (k + 1) = cY bss k + cnt bss[k] := by
  unfold cY
  rw [flat_take bss k h, cnt_append]
theorem cI_succ (bss : List (List Bool)) (k : Nat) (h : k < bss.length) : cI bss (k + 1) = cI bss k + bss[k].length := lens_take bss k h
theorem cY_le_cI (bss : List (List Bool)) (k : Nat) : cY bss k ≤ cI bss k := cnt_le _
theorem win_flat (bss : List (List Bool)) {lo hi : Nat} (h : lo ≤ hi) : (bss.take hi).flatten = (bss.take lo).flatten ++ ((bss.take hi).drop lo).flatten := by
  rw [← List.flatten_append]
  congr 1
  conv => lhs; rw [← List.take_append_drop lo (bss.take hi)]
  rw [List.take_take, Nat.min_eq_left h]
theorem win_cnt (bss : List (List Bool)) {lo hi : Nat} (h : lo ≤ hi) : cnt ((bss.take hi).drop lo).flatten + cY bss lo = cY bss hi := by
  unfold cY
  rw [win_flat bss h, cnt_append]
  omega
theorem win_len (bss : List (List Bool)) {lo hi : Nat} (h : lo ≤ hi) : ((bss.take hi).drop lo).flatten.length + cI bss lo = cI bss hi := by
  unfold cI lens
  rw [win_flat bss h, List.length_append]
  omega
/-- The rule holds of the r batches up to k. -/
def stP (bss : List (List Bool)) (r : Nat) (n d : Int) (k : Nat) : Bool := decide (((cY bss k : Int) - (cY bss (k - r) : Int)) * d ≤ n * ((cI bss k : Int) - (cI bss (k - r) : Int)))
def stQ (bss : List (List Bool)) (r : Nat) (n d : Int) (k : Nat) : Bool := decide (r ≤ k) && stP bss r n d k
def stV (bss : List (List Bool)) (r : Nat) (n d : Int) : Option Nat := findO (stQ bss r n d) 1 bss.length
theorem stV_from (bss : List (List Bool)) {r : Nat} (n d : Int) (hr : 1 ≤ r) (hl : r ≤ bss.length + 1) : stV bss r n d = findO (stQ bss r n d) r (bss.length + 1 - r) := by
  have := findO_skip (stQ bss r n d) (r - 1) 1 bss.length (fun j h1 h2 => by unfold stQ; rw [decide_eq_false (by omega)]; rfl) (by omega)
  rw [show 1 + (r - 1) = r by omega, show bss.length - (r - 1) = bss.length + 1 - r by omega] at this
  exact this
theorem stV_none (bss : List (List Bool)) {r : Nat} (n d : Int) (hl : bss.length < r) : stV bss r n d = none := by
  have := findO_skip (stQ bss r n d) bss.length 1 bss.length (fun j h1 h2 => by unfold stQ; rw [decide_eq_false (by omega)]; rfl) (Nat.le_refl _)
  rw [Nat.sub_self] at this
  exact this
theorem cI_mono (bss : List (List Bool)) {a b : Nat} (h : a ≤ b) : cI bss a ≤ cI bss b := by
  have := win_len bss h
  omega
theorem cY_mono (bss : List (List Bool)) {a b : Nat} (h : a ≤ b) : cY bss a ≤ cY bss b := by
  have := win_cnt bss h
  omega
theorem cI_le (bss : List (List Bool)) (k : Nat) : cI bss k ≤ lens bss := lens_le bss k
theorem st_bounds (bss : List (List Bool)) (r k : Nat) {n d : Int} (hl : lens bss ≤ 10000000) (hn : 0 ≤ n ∧ n ≤ 1000000) (hd : 0 ≤ d ∧ d ≤ 1000000) :
    (0 ≤ (cY bss k : Int) - (cY bss (k - r) : Int) ∧ (cY bss k : Int) - (cY bss (k - r) : Int) ≤ 10000000) ∧ (0 ≤ (cI bss k : Int) - (cI bss (k - r) : Int) ∧ (cI bss k : Int) - (cI bss (k - r) : Int) ≤ 10000000) ∧
      (0 ≤ ((cY bss k : Int) - (cY bss (k - r) : Int)) * d ∧ ((cY bss k : Int) - (cY bss (k - r) : Int)) * d ≤ 10000000000000) ∧ (0 ≤ n * ((cI bss k : Int) - (cI bss (k - r) : Int)) ∧ n * ((cI bss k : Int) - (cI bss (k - r) : Int)) ≤ 10000000000000) := by
  have h1 := cY_mono bss (Nat.sub_le k r)
  have h2 := cI_mono bss (Nat.sub_le k r)
  have h3 := cI_le bss k
  have h4 := cY_le_cI bss k
  have a1 : 0 ≤ (cY bss k : Int) - (cY bss (k - r) : Int) := by omega
  have a2 : (cY bss k : Int) - (cY bss (k - r) : Int) ≤ 10000000 := by omega
  have b1 : 0 ≤ (cI bss k : Int) - (cI bss (k - r) : Int) := by omega
  have b2 : (cI bss k : Int) - (cI bss (k - r) : Int) ≤ 10000000 := by omega
  have c1 := Int.mul_nonneg a1 hd.1
  have c2 : ((cY bss k : Int) - (cY bss (k - r) : Int)) * d ≤ 10000000 * 1000000 := Int.mul_le_mul a2 hd.2 hd.1 (by omega)
  have d1 := Int.mul_nonneg hn.1 b1
  have d2 : n * ((cI bss k : Int) - (cI bss (k - r) : Int)) ≤ 1000000 * 10000000 := Int.mul_le_mul hn.2 b2 b1 (by omega)
  omega

theorem SlS.sub {w : World} {g off n c lo hi : Nat} {bss : List (List Bool)} (h : SlS w (.slice (some ⟨g, off, none⟩) n c) bss) (h1 : lo ≤ hi) (h2 : hi ≤ n) : SlS w (.slice (some ⟨g, off + lo, none⟩) (hi - lo) (c - lo)) ((bss.take hi).drop lo) := by
  obtain ⟨us, hs, hl, hu⟩ := h
  have hn := hs.len
  have hbl : n = bss.length := by omega
  refine ⟨(us.take hi).drop lo, ⟨_, _, _, rfl, by omega, by omega, by simp; omega, fun h0 => ?_⟩, by simp; omega, fun i hi2 => ?_⟩
  · obtain ⟨g', off', he, arr, fr, ha, hb⟩ := hs.row (by omega)
    injection he with he
    injection he with e1 e2 _
    subst e1 e2
    refine ⟨g, off + lo, rfl, arr, fr, ha, fun i u hu => ?_⟩
    rw [List.getElem?_drop, List.getElem?_take] at hu
    split at hu
    · have := hb _ _ hu
      rwa [← Nat.add_assoc] at this
    · cases hu
  · have hlen : i < hi - lo := by simp at hi2; omega
    obtain ⟨u, h3, h4, h5⟩ := hu (lo + i) (by omega)
    refine ⟨u, ?_, ?_, h5⟩
    · rw [List.getElem?_drop, List.getElem?_take, if_pos (by omega)]
      exact h3
    · rw [List.getElem_drop, List.getElem_take]
      exact h4

abbrev rule3 (r n d : Int) : Value := .agg #[.int .i64 r, .int .i64 n, .int .i64 d]
def StOfPost (w : World) (o : Option Nat) (e : Ending) (w' : World) : Prop := e = .returned (.tuple #[.int .i64 ((o.getD 0 : Nat) : Int), .bool o.isSome]) ∧ Pure w w'

set_option maxRecDepth 100000 in
set_option maxHeartbeats 2000000 in
theorem StopsOf_calls (w : World) (v : Value) (bss : List (List Bool)) (r : Nat) (n d : Int) (hv : SlS w v bss) (hbl : bss.length ≤ 2000) (hl : lens bss ≤ 10000000) (hr : 1 ≤ r ∧ r ≤ 2000) (hn : 0 ≤ n ∧ n ≤ 1000000) (hd : 0 ≤ d ∧ d ≤ 1000000) : Calls Try.prog 63 #[v, rule3 r n d] w (StOfPost w (stV bss r n d)) := by
  obtain ⟨A, c, rfl, hc1, hc2⟩ := hv.form
  have hsB := Blk.new w 83 #[.int .i64 (r : Int), .int .i64 n, .int .i64 d]
  go_enter Try.func63, Try.ntmps63
  go_wp2_with fail
  have hm0 : Pure w (w.alloc (.cells #[.int .i64 (r : Int), .int .i64 n, .int .i64 d] 83)) := (Mod.refl _ _).alloc _
  have hv0 := hv.pure hm0
  generalize (w.alloc (.cells #[.int .i64 (r : Int), .int .i64 n, .int .i64 d] 83)) = W at *
  generalize w.heap.size = g3 at *
  have HV := Lib.hid hv0
  clear hv hv0
  go_loopg [6] (bss.length + 1 - r) (fun gk i wr => ∃ k : Nat, bss.length + 1 - k = gk ∧ r ≤ k ∧ (k ≤ bss.length + 1 ∨ k = r) ∧ i = .int .i64 (k : Int) ∧ (k ≤ bss.length + 1 → stV bss r n d = findO (stQ bss r n d) k (bss.length + 1 - k)) ∧ Pure W wr)
  case atStart => exact ⟨r, by omega, by omega, .inr rfl, rfl, fun h => stV_from bss n d (by omega) h, Mod.refl _ _⟩
  case round =>
    obtain ⟨k, rfl, hk, hk2, rfl, hix, hm⟩ := hrel
    have HIX := Lib.hid hix
    clear hix
    have s1 := hsB.modp hm
    have q0 := s1.cell 0; have q1 := s1.cell 1; have q2 := s1.cell 2; simp at q0 q1 q2
    by_cases hlt : k ≤ bss.length
    · obtain ⟨g, off, A2, c2, rfl, _, _, _⟩ := (HV.out.pure hm).at (i := 0) (by omega)
      obtain ⟨lo, hlo⟩ : ∃ lo, k - r = lo := ⟨_, rfl⟩
      have hlo1 : (k : Int) - (r : Int) = (lo : Int) := by omega
      have hv1 := (HV.out.pure hm).sub (lo := lo) (hi := k) (by omega) hlt
      have HLO := Lib.hid hlo
      have i0 : lo < k := by omega
      have i1 : (lo : Int) ≤ (k : Int) := by omega
      have i2 : (k : Int) ≤ (c : Int) := by omega
      have i3 : ¬ c = lo := by omega
      clear hlo
      go_wp2_with fail
      have hwl : lens ((bss.take k).drop lo) ≤ 10000000 := by
        have h1 := win_len bss (lo := lo) (hi := k) (by omega)
        have h2 := cI_le bss k
        unfold lens at *
        omega
      refine (concat_calls _ _ _ hv1 hwl).mono ?_
      rintro e w1 ⟨v7, n7, rfl, hown7, hm1⟩
      have sl7 := Sl.of_own hown7
      obtain ⟨A7, n7, c7, rfl⟩ := sl7.form
      obtain ⟨hn7, hc7, hcc7⟩ := sl7.len
      rw [boolsV_len] at hn7
      have hwc := win_cnt bss (lo := lo) (hi := k) (by omega)
      have hwi := win_len bss (lo := lo) (hi := k) (by omega)
      have hcl := cnt_le ((bss.take k).drop lo).flatten
      rw [← HLO.out] at hwc hwi
      obtain ⟨⟨b1, b2⟩, ⟨b3, b4⟩, ⟨b5, b6⟩, b7, b8⟩ := st_bounds bss r k hl hn hd
      have HP : Hid (stP bss r n d k = decide ((cnt ((bss.take k).drop (k - r)).flatten : Int) * d ≤ n * (((bss.take k).drop (k - r)).flatten.length : Int))) := by
        show stP bss r n d k = _
        unfold stP
        rw [← hwc, ← hwi]
        simp only [Int.natCast_add, Int.add_sub_cancel]
      have b5' : 0 ≤ (cnt ((bss.take k).drop (k - r)).flatten : Int) * d ∧ (cnt ((bss.take k).drop (k - r)).flatten : Int) * d ≤ 10000000000000 := by
        rw [← hwc] at b5 b6
        simp only [Int.natCast_add, Int.add_sub_cancel] at b5 b6
        exact ⟨b5, b6⟩
      have b7' : 0 ≤ n * (((bss.take k).drop (k - r)).flatten.length : Int) ∧ n * (((bss.take k).drop (k - r)).flatten.length : Int) ≤ 10000000000000 := by
        rw [← hwi] at b7 b8
        simp only [Int.natCast_add, Int.add_sub_cancel] at b7 b8
        exact ⟨b7, b8⟩
      rw [← HLO.out] at sl7 hn7
      clear b1 b2 b3 b4 b5 b6 b7 b8 hwc hwi hcl hwl hown7 hv1
      generalize ((bss.take k).drop (k - r)).flatten = win at *
      subst hn7
      obtain ⟨b5, b6⟩ := b5'
      obtain ⟨b7, b8⟩ := b7'
      have e1 : IntKind.i64.wrap ((cnt win : Int) * d) = (cnt win : Int) * d := IntWalk.i64_in _ (by omega)
      have e2 : IntKind.i64.wrap (n * (win.length : Int)) = n * (win.length : Int) := IntWalk.i64_in _ (by omega)
      have s2 := s1.modp hm1
      have mW1 : Pure W w1 := hm.trans hm1
      have HQ : Hid (stQ bss r n d k = decide ((cnt win : Int) * d ≤ n * (win.length : Int))) := by
        show stQ bss r n d k = _
        unfold stQ
        rw [decide_eq_true hk, Bool.true_and]
        exact HP.out
      clear q0 q1 q2 s1 hm hm1 HP
      go_wp2_with fail
      have HGs := Lib.hid (show ∀ (D : Nat → Bool) (i : Nat) (w w' : World), (fun _ w => (fun w => Blk w g3 83 #[.int .i64 (r : Int), .int .i64 n, .int .i64 d] ∧ Sl w 4 1 (.slice A7 win.length c7) (boolsV win)) w) D w → Mod (fun _ => False) w w' → (fun _ w => (fun w => Blk w g3 83 #[.int .i64 (r : Int), .int .i64 n, .int .i64 d] ∧ Sl w 4 1 (.slice A7 win.length c7) (boolsV win)) w) (upd D i true) w' from by intro D i w w' h hm; (exact ⟨h.1.modp hm, h.2.pure hm⟩))
      refine wp_region_inv (by kernel_rfl) (by kernel_rfl) (InvF (R := Mod (fun _ => False)) [.is (.slice A7 win.length c7),
          .is (.int .i64 (cnt win : Int)),
          .is (.pointer (some ⟨g3, 1, none⟩)),
          .is (.pointer (some ⟨g3, 2, none⟩)),
          .is (.int .i64 d),
          .is (.int .i64 ((cnt win : Int) * d)),
          .is (.pointer (some ⟨g3, 1, none⟩)),
          .is (.pointer (some ⟨g3, 1, none⟩)),
          .is (.int .i64 n),
          .is (.slice A7 win.length c7),
          .is (.int .i64 (win.length : Int)),
          .is (.int .i64 (n * (win.length : Int))),
          .is (.bool (decide ((cnt win : Int) * d ≤ n * (win.length : Int))))]
          (PB W (fun _ => False) w1.heap.size (fun _ w => (fun w => Blk w g3 83 #[.int .i64 (r : Int), .int .i64 n, .int .i64 d] ∧ Sl w 4 1 (.slice A7 win.length c7) (boolsV win)) w))) (InvF.start (PB.start mW1 (Nat.le_refl _) (⟨s2, sl7.pure ((Mod.refl _ _).drew)⟩))) ?_ ?_
      · refine .cons ?_ (.cons ?_ (.cons ?_ (.cons ?_ (.cons ?_ (.cons ?_ (.cons ?_ (.cons ?_ (.cons ?_ (.cons ?_ (.cons ?_ (.cons ?_ (.cons ?_ .nil))))))))))))
        · intro D V zw1 a hR hI K hK   -- 0: Op.move (Operand.tmp 7)
          obtain ⟨hM1, hB1, hG1⟩ := hI.1
          have ze7 := hR.frame.other (t := 7) (by kernel_rfl) rfl
          rw [if_pos (by rfl)]
          go_simp
          exact hK (.slice A7 win.length c7) _ (hI.next hR (by kernel_rfl) (Mod.refl _ _) (PB.quiet hI.1 (Mod.refl _ _) (HGs.out D 0 zw1 zw1 (hI.1).g (Mod.refl _ _))) (upd_same V 0 _))
        · intro D V zw1 a hR hI K hK   -- 1: Op.call { callee := Callee.value (Operand.func 58), args := #[Operand.
          obtain ⟨hM1, hB1, hG1⟩ := hI.1
          have zd0 := hR.pred 0 (by kernel_rfl)
          have zF0 : V 0 = .slice A7 win.length c7 := hI.2 0 zd0 rfl
          have zf0 := zF0; clear zF0
          have ze24 := hR.frame.done (t := 24) (j := 0) (by kernel_rfl) hR.ok zd0
          rw [if_pos (by rfl)]
          go_simp
          refine (allOf_calls _ _ win hG1.2).mono ?_
          rintro e zw2 ⟨rfl, hm2⟩
          exact hK (.int .i64 (cnt win : Int)) _ (hI.next hR (by kernel_rfl) hm2 (PB.quiet hI.1 hm2 (HGs.out D 1 _ _ (hI.1).g hm2)) (upd_same V 1 _))
        · intro D V zw1 a hR hI K hK   -- 2: Op.fieldAddr 83 (Operand.tmp 3) 1
          obtain ⟨hM1, hB1, hG1⟩ := hI.1
          have ze3 := hR.frame.other (t := 3) (by kernel_rfl) rfl
          rw [if_pos (by rfl)]
          go_simp
          exact hK (.pointer (some ⟨g3, 1, none⟩)) _ (hI.next hR (by kernel_rfl) (Mod.refl _ _) (PB.quiet hI.1 (Mod.refl _ _) (HGs.out D 2 zw1 zw1 (hI.1).g (Mod.refl _ _))) (upd_same V 2 _))
        · intro D V zw1 a hR hI K hK   -- 3: Op.fieldAddr 30 (Operand.tmp 26) 1
          obtain ⟨hM1, hB1, hG1⟩ := hI.1
          have zd2 := hR.pred 2 (by kernel_rfl)
          have zF2 : V 2 = .pointer (some ⟨g3, 1, none⟩) := hI.2 2 zd2 rfl
          have zf2 := zF2; clear zF2
          have ze26 := hR.frame.done (t := 26) (j := 2) (by kernel_rfl) hR.ok zd2
          rw [if_pos (by rfl)]
          go_simp
          exact hK (.pointer (some ⟨g3, 2, none⟩)) _ (hI.next hR (by kernel_rfl) (Mod.refl _ _) (PB.quiet hI.1 (Mod.refl _ _) (HGs.out D 3 zw1 zw1 (hI.1).g (Mod.refl _ _))) (upd_same V 3 _))
        · intro D V zw1 a hR hI K hK   -- 4: Op.load 3 (Operand.tmp 27)
          obtain ⟨hM1, hB1, hG1⟩ := hI.1
          have zd3 := hR.pred 3 (by kernel_rfl)
          have zF3 : V 3 = .pointer (some ⟨g3, 2, none⟩) := hI.2 3 zd3 rfl
          have zf3 := zF3; clear zF3
          have ze27 := hR.frame.done (t := 27) (j := 3) (by kernel_rfl) hR.ok zd3
          have zx0 := hG1.1.cell 0; have zx1 := hG1.1.cell 1; have zx2 := hG1.1.cell 2
          simp at zx0 zx1 zx2
          rw [if_pos (by rfl)]
          go_simp
          exact hK (.int .i64 d) _ (hI.next hR (by kernel_rfl) (Mod.refl _ _) (PB.quiet hI.1 (Mod.refl _ _) (HGs.out D 4 zw1 zw1 (hI.1).g (Mod.refl _ _))) (upd_same V 4 _))
        · intro D V zw1 a hR hI K hK   -- 5: Op.binOp BinOp.mul 3 (Operand.tmp 25) (Operand.tmp 28) 3
          obtain ⟨hM1, hB1, hG1⟩ := hI.1
          have zd1 := hR.pred 1 (by kernel_rfl)
          have zF1 : V 1 = .int .i64 (cnt win : Int) := hI.2 1 zd1 rfl
          have zf1 := zF1; clear zF1
          have zd4 := hR.pred 4 (by kernel_rfl)
          have zF4 : V 4 = .int .i64 d := hI.2 4 zd4 rfl
          have zf4 := zF4; clear zF4
          have ze25 := hR.frame.done (t := 25) (j := 1) (by kernel_rfl) hR.ok zd1
          have ze28 := hR.frame.done (t := 28) (j := 4) (by kernel_rfl) hR.ok zd4
          rw [if_pos (by rfl)]
          go_simp
          exact hK (.int .i64 ((cnt win : Int) * d)) _ (hI.next hR (by kernel_rfl) (Mod.refl _ _) (PB.quiet hI.1 (Mod.refl _ _) (HGs.out D 5 zw1 zw1 (hI.1).g (Mod.refl _ _))) (upd_same V 5 _))
        · intro D V zw1 a hR hI K hK   -- 6: Op.fieldAddr 83 (Operand.tmp 3) 1
          obtain ⟨hM1, hB1, hG1⟩ := hI.1
          have ze3 := hR.frame.other (t := 3) (by kernel_rfl) rfl
          rw [if_pos (by rfl)]
          go_simp
          exact hK (.pointer (some ⟨g3, 1, none⟩)) _ (hI.next hR (by kernel_rfl) (Mod.refl _ _) (PB.quiet hI.1 (Mod.refl _ _) (HGs.out D 6 zw1 zw1 (hI.1).g (Mod.refl _ _))) (upd_same V 6 _))
        · intro D V zw1 a hR hI K hK   -- 7: Op.fieldAddr 30 (Operand.tmp 30) 0
          obtain ⟨hM1, hB1, hG1⟩ := hI.1
          have zd6 := hR.pred 6 (by kernel_rfl)
          have zF6 : V 6 = .pointer (some ⟨g3, 1, none⟩) := hI.2 6 zd6 rfl
          have zf6 := zF6; clear zF6
          have ze30 := hR.frame.done (t := 30) (j := 6) (by kernel_rfl) hR.ok zd6
          rw [if_pos (by rfl)]
          go_simp
          exact hK (.pointer (some ⟨g3, 1, none⟩)) _ (hI.next hR (by kernel_rfl) (Mod.refl _ _) (PB.quiet hI.1 (Mod.refl _ _) (HGs.out D 7 zw1 zw1 (hI.1).g (Mod.refl _ _))) (upd_same V 7 _))
        · intro D V zw1 a hR hI K hK   -- 8: Op.load 3 (Operand.tmp 31)
          obtain ⟨hM1, hB1, hG1⟩ := hI.1
          have zd7 := hR.pred 7 (by kernel_rfl)
          have zF7 : V 7 = .pointer (some ⟨g3, 1, none⟩) := hI.2 7 zd7 rfl
          have zf7 := zF7; clear zF7
          have ze31 := hR.frame.done (t := 31) (j := 7) (by kernel_rfl) hR.ok zd7
          have zx0 := hG1.1.cell 0; have zx1 := hG1.1.cell 1; have zx2 := hG1.1.cell 2
          simp at zx0 zx1 zx2
          rw [if_pos (by rfl)]
          go_simp
          exact hK (.int .i64 n) _ (hI.next hR (by kernel_rfl) (Mod.refl _ _) (PB.quiet hI.1 (Mod.refl _ _) (HGs.out D 8 zw1 zw1 (hI.1).g (Mod.refl _ _))) (upd_same V 8 _))
        · intro D V zw1 a hR hI K hK   -- 9: Op.move (Operand.tmp 7)
          obtain ⟨hM1, hB1, hG1⟩ := hI.1
          have ze7 := hR.frame.other (t := 7) (by kernel_rfl) rfl
          rw [if_pos (by rfl)]
          go_simp
          exact hK (.slice A7 win.length c7) _ (hI.next hR (by kernel_rfl) (Mod.refl _ _) (PB.quiet hI.1 (Mod.refl _ _) (HGs.out D 9 zw1 zw1 (hI.1).g (Mod.refl _ _))) (upd_same V 9 _))
        · intro D V zw1 a hR hI K hK   -- 10: Op.call { callee := Callee.builtin Builtin.len, args := #[Operand.tmp 
          obtain ⟨hM1, hB1, hG1⟩ := hI.1
          have zd9 := hR.pred 9 (by kernel_rfl)
          have zF9 : V 9 = .slice A7 win.length c7 := hI.2 9 zd9 rfl
          have zf9 := zF9; clear zF9
          have ze33 := hR.frame.done (t := 33) (j := 9) (by kernel_rfl) hR.ok zd9
          rw [if_pos (by rfl)]
          go_simp
          exact hK (.int .i64 (win.length : Int)) _ (hI.next hR (by kernel_rfl) (Mod.refl _ _) (PB.quiet hI.1 (Mod.refl _ _) (HGs.out D 10 zw1 zw1 (hI.1).g (Mod.refl _ _))) (upd_same V 10 _))
        · intro D V zw1 a hR hI K hK   -- 11: Op.binOp BinOp.mul 3 (Operand.tmp 32) (Operand.tmp 34) 3
          obtain ⟨hM1, hB1, hG1⟩ := hI.1
          have zd8 := hR.pred 8 (by kernel_rfl)
          have zF8 : V 8 = .int .i64 n := hI.2 8 zd8 rfl
          have zf8 := zF8; clear zF8
          have zd10 := hR.pred 10 (by kernel_rfl)
          have zF10 : V 10 = .int .i64 (win.length : Int) := hI.2 10 zd10 rfl
          have zf10 := zF10; clear zF10
          have ze32 := hR.frame.done (t := 32) (j := 8) (by kernel_rfl) hR.ok zd8
          have ze34 := hR.frame.done (t := 34) (j := 10) (by kernel_rfl) hR.ok zd10
          rw [if_pos (by rfl)]
          go_simp
          exact hK (.int .i64 (n * (win.length : Int))) _ (hI.next hR (by kernel_rfl) (Mod.refl _ _) (PB.quiet hI.1 (Mod.refl _ _) (HGs.out D 11 zw1 zw1 (hI.1).g (Mod.refl _ _))) (upd_same V 11 _))
        · intro D V zw1 a hR hI K hK   -- 12: Op.binOp BinOp.leq 3 (Operand.tmp 29) (Operand.tmp 35) 3
          obtain ⟨hM1, hB1, hG1⟩ := hI.1
          have zd5 := hR.pred 5 (by kernel_rfl)
          have zF5 : V 5 = .int .i64 ((cnt win : Int) * d) := hI.2 5 zd5 rfl
          have zf5 := zF5; clear zF5
          have zd11 := hR.pred 11 (by kernel_rfl)
          have zF11 : V 11 = .int .i64 (n * (win.length : Int)) := hI.2 11 zd11 rfl
          have zf11 := zF11; clear zF11
          have ze29 := hR.frame.done (t := 29) (j := 5) (by kernel_rfl) hR.ok zd5
          have ze35 := hR.frame.done (t := 35) (j := 11) (by kernel_rfl) hR.ok zd11
          rw [if_pos (by rfl)]
          go_simp
          exact hK (.bool (decide ((cnt win : Int) * d ≤ n * (win.length : Int)))) _ (hI.next hR (by kernel_rfl) (Mod.refl _ _) (PB.quiet hI.1 (Mod.refl _ _) (HGs.out D 12 zw1 zw1 (hI.1).g (Mod.refl _ _))) (upd_same V 12 _))
      · intro D V w2 hD hI
        obtain ⟨hM1, hB1, hG1⟩ := hI.1
        have hMx := hM1
        clear hM1
        have hBx := hB1
        clear hB1
        have hGx := hG1
        clear hG1
        have zF0 : V 0 = .slice A7 win.length c7 := hI.2 0 (hD 0 (by decide)) rfl
        have zf0 := zF0; clear zF0
        have zF1 : V 1 = .int .i64 (cnt win : Int) := hI.2 1 (hD 1 (by decide)) rfl
        have zf1 := zF1; clear zF1
        have zF2 : V 2 = .pointer (some ⟨g3, 1, none⟩) := hI.2 2 (hD 2 (by decide)) rfl
        have zf2 := zF2; clear zF2
        have zF3 : V 3 = .pointer (some ⟨g3, 2, none⟩) := hI.2 3 (hD 3 (by decide)) rfl
        have zf3 := zF3; clear zF3
        have zF4 : V 4 = .int .i64 d := hI.2 4 (hD 4 (by decide)) rfl
        have zf4 := zF4; clear zF4
        have zF5 : V 5 = .int .i64 ((cnt win : Int) * d) := hI.2 5 (hD 5 (by decide)) rfl
        have zf5 := zF5; clear zF5
        have zF6 : V 6 = .pointer (some ⟨g3, 1, none⟩) := hI.2 6 (hD 6 (by decide)) rfl
        have zf6 := zF6; clear zF6
        have zF7 : V 7 = .pointer (some ⟨g3, 1, none⟩) := hI.2 7 (hD 7 (by decide)) rfl
        have zf7 := zF7; clear zF7
        have zF8 : V 8 = .int .i64 n := hI.2 8 (hD 8 (by decide)) rfl
        have zf8 := zF8; clear zF8
        have zF9 : V 9 = .slice A7 win.length c7 := hI.2 9 (hD 9 (by decide)) rfl
        have zf9 := zF9; clear zF9
        have zF10 : V 10 = .int .i64 (win.length : Int) := hI.2 10 (hD 10 (by decide)) rfl
        have zf10 := zF10; clear zF10
        have zF11 : V 11 = .int .i64 (n * (win.length : Int)) := hI.2 11 (hD 11 (by decide)) rfl
        have zf11 := zF11; clear zF11
        have zF12 : V 12 = .bool (decide ((cnt win : Int) * d ≤ n * (win.length : Int))) := hI.2 12 (hD 12 (by decide)) rfl
        have zf12 := zF12; clear zF12
        clear hI hD HGs
        simp only [frAll, Act.put, List.setIfInBounds_toArray, List.set_cons_zero, List.set_cons_succ, Nat.zero_add, Nat.reduceAdd, zf0, zf1, zf2, zf3, zf4, zf5, zf6, zf7, zf8, zf9, zf10, zf11, zf12]
        clear zf0 zf1 zf2 zf3 zf4 zf5 zf6 zf7 zf8 zf9 zf10 zf11 zf12
        clear V D
        have mW2 : Pure W w2 := hMx
        have HF : Hid (findO (stQ bss r n d) k (bss.length + 1 - k) = if stQ bss r n d k then some k else findO (stQ bss r n d) (k + 1) (bss.length + 1 - (k + 1))) := by
          show findO (stQ bss r n d) k (bss.length + 1 - k) = _
          rw [show bss.length + 1 - k = (bss.length + 1 - (k + 1)) + 1 by omega]
          rfl
        clear hGx hMx s2 sl7 mW1 e1 e2
        rw [← HQ.out]
        cases hp : stQ bss r n d k
        · go_wp2_with fail
          go_roundg (bss.length + 1 - (k + 1))
          case measure => omega
          case rel => exact ⟨k + 1, rfl, by omega, .inl (by omega), by simp, fun _ => by rw [HIX.out (by omega), HF.out, hp]; rfl, mW2⟩
        · have HS : Hid (stV bss r n d = some k) := by
            show stV bss r n d = some k
            rw [HIX.out (by omega), HF.out, hp]
            rfl
          go_wp2_with fail
          go_ret2
          exact ⟨by rw [HS.out]; rfl, hm0.trans mW2⟩
    · have HS : Hid (stV bss r n d = none) := by
        show stV bss r n d = none
        rcases hk2 with h | h
        · have hke : k = bss.length + 1 := by omega
          have := HIX.out (by omega)
          rw [hke, Nat.sub_self] at this
          exact this
        · exact stV_none bss n d (by omega)
      go_wp2_with fail
      go_ret2
      exact ⟨by rw [HS.out]; rfl, hm0.trans hm⟩

end Go.Proofs.Ytpacmdiodnnofaa
