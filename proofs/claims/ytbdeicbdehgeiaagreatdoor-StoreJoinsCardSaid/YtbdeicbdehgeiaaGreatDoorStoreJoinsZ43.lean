/- Texts of the proof of StoreJoins, put together: StoK. -/
import Derived.Test.YtbdeicbdehgeiaaGreatDoorStoreJoinsZ42
/- Stores: Join of the reference. -/
namespace Go.Proofs.YtbdeicbdehgeiaaGreatDoor
set_option linter.unusedVariables false
set_option linter.unusedSimpArgs false
open Go.RowKit Go.Sort

def RJoinPost (w : World) (gx : Nat) (l m : List Itm) (e : Ending) (w' : World) : Prop :=
  e = .returned (.tuple #[.int .i64 (joinK l m), .int .i64 (joinE l m)]) ∧ (∃ v, RSto w' gx v (joinN l m)) ∧ Mod (· = gx) w w'
def RjRel (w : World) (base : Nat) (l m : List Itm) (gk : Nat) (x i : Value) (wr : World) : Prop :=
  ∃ (j : Nat) (A : Option Addr) (cap : Nat), m.length - j = gk ∧ j ≤ m.length ∧ x = .slice A (l ++ newsI l (m.take j)).length cap ∧ i = .int .i64 (j : Int) ∧ (∀ z ∈ m.take j, clash l z = false) ∧
    wr.ownsRow base 59 7 (.slice A (l ++ newsI l (m.take j)).length cap) (l ++ newsI l (m.take j)).length (itV (l ++ newsI l (m.take j))) ∧ Pure w wr ∧ base ≤ wr.heap.size

set_option maxRecDepth 100000 in
set_option maxHeartbeats 8000000 in
theorem rjoin_calls (w : World) (gx gy : Nat) (vx vy : Value) (l m : List Itm) (hS : RSto w gx vx l) (hT : RSto w gy vy m) (hk : StOk l) (hm : StOk m) (hl : l.length + m.length ≤ 2000) : Calls Tryz.prog 34 #[.pointer (some ⟨gx, 0, none⟩), .pointer (some ⟨gy, 0, none⟩)] w (RJoinPost w gx l m) := by
  obtain ⟨i0, hi0, hz0, hz1, hz2⟩ := info_parts info_item7
  have hd := hm.rise.dst
  have HCL : Hid (Calls Tryz.prog 24 #[vx] w (ClnPost w l)) := Lib.hid (cloneI_calls w vx l hS.2.1 hS.2.2 (by omega))
  have HPL : Hid (∀ W, Pure w W → ∀ s, Calls Tryz.prog 49 #[vx, .string ⟨s.toArray⟩] W (IntPost W (plcZ l s))) := Lib.hid (fun W h s => place_calls W vx l s (hS.pure h).2.1)
  have HSRT : Hid (∀ W u, Its W u (l ++ newsI l m) → Own0 u → Calls Tryz.prog 88 #[u] W (RsoPost W (l ++ newsI l m))) := Lib.hid (fun W u h h0 => rsorted_calls W u _ h h0 (by rw [List.length_append]; have := newsI_len l m; omega) (dst_news hk.rise.dst hd))
  have HUQ := Lib.hid (fun ys h1 h2 => joinL_unique hk.rise.dst hd (ys := ys) h1 h2)
  have HSF : Hid (∀ W u, Its W u (joinL l m) → Calls Tryz.prog 89 #[u] W (IntPost W (storeE (joinL l m)))) := Lib.hid (fun W u h => storeFault_calls W u _ h (by have h1 := (joinL_perm l m).length_eq; have := newsI_len l m; rw [List.length_append] at h1; omega))
  have HS0 : Hid (∀ W, Pure w W → RSto W gx vx l) := Lib.hid (fun W h => hS.pure h)
  have HJE : Hid (joinE l m = if m.any (clash l) = true then 13 else storeE (joinL l m)) := Lib.hid rfl
  have HJK : Hid (joinK l m = if joinE l m = 0 then ((newsI l m).length : Int) else 0) := Lib.hid rfl
  have HJN : Hid (joinN l m = if joinE l m = 0 then joinL l m else l) := Lib.hid rfl
  have HTK := Lib.hid (fun k (h : k < m.length) => newsI_take (l := l) h)
  have hnl := newsI_len l m
  have hgx := hS.1.lt
  have hB := hS.1
  have hBY := hT.1
  obtain ⟨A, n, c, rfl⟩ := hS.2.1.form
  have hln : l.length = n := by
    obtain ⟨_, _, _, hf, _, _, hl2, _⟩ := hS.2.1
    cases hf
    rw [itV_len] at hl2
    omega
  subst hln
  have HCELL : Hid (∀ k (hk : k < l.length), ∃ g off, A = some ⟨g, off, none⟩ ∧ ∀ W, Pure w W → RowAt W 59 g off (itV l)) := Lib.hid (fun k hk => by
    obtain ⟨_, _, _, hf, _, _, _, hr⟩ := hS.2.1
    cases hf
    obtain ⟨g, off, h1, h2⟩ := hr (by omega)
    exact ⟨g, off, h1, fun W h => h2.mod h id⟩)
  obtain ⟨Ay, ny, cy, rfl, hcy1, hcy2, hly, hry⟩ := hT.2.1
  have hny : m.length = ny := by rw [itV_len] at hly; omega
  subst hny
  have HRY : Hid (0 < m.length → ∃ g off, Ay = some ⟨g, off, none⟩ ∧ RowAt w 59 g off (itV m)) := Lib.hid hry
  have HBX : Hid (∀ W, Pure w W → Blk W gx 75 #[.slice A l.length c]) := Lib.hid (fun W h => hB.modp h)
  have HBYY : Hid (∀ W, Pure w W → Blk W gy 75 #[.slice Ay m.length cy]) := Lib.hid (fun W h => hBY.modp h)
  unfold RJoinPost
  have z0 := hB.cell 0; simp at z0
  clear hS hT hk hm hd hB hBY hly hry
  go_enter Tryz.func34, Tryz.ntmps34
  go_wp2_with fail
  refine HCL.out.mono ?_
  rintro e w1 ⟨v1, rfl, hown1, m1⟩
  have hf1 : ∃ A1 cap1, v1 = .slice A1 l.length cap1 := by
    rcases hown1.2 with ⟨h, h0⟩ | ⟨g, cap, _, h, _⟩
    · exact ⟨none, 0, by rw [h, h0]⟩
    · exact ⟨_, cap, h⟩
  obtain ⟨A1, cap1, rfl⟩ := hf1
  have hB1 := HBYY.out _ m1
  have y0 := hB1.cell 0; simp at y0
  have HO1 := Lib.hid hown1
  have HM1 := Lib.hid m1
  have hw1 := m1.size
  clear HCL hown1 m1 hB1 z0 HBYY
  obtain ⟨base, hbase⟩ : ∃ base, base = w.heap.size := ⟨_, rfl⟩
  have hb1 := Nat.le_of_eq hbase
  have hb2 := Nat.le_of_eq hbase.symm
  rw [← hbase] at HO1
  clear hbase
  go_wp2_with fail
  go_loopg [6, 22] m.length (fun gk x i wr => RjRel w base l m gk x i wr)
  case atStart => exact ⟨0, A1, cap1, by omega, by omega, by simp [newsI], rfl, by simp, by simpa [newsI] using HO1.out, HM1.out, by omega⟩
  case round =>
    clear HO1 HM1 hw1 y0 w1
    obtain ⟨j, Ao, cap, rfl, hj, rfl, rfl, hcl, hown, hmm, hbs⟩ := hrel
    by_cases hlt : j < m.length
    · obtain ⟨gr, off, rfl, hrow⟩ := HRY.out (by omega)
      obtain ⟨q0, q1, q2, q3, q4, q5, q6⟩ := item_cells (hrow.mod hmm id) hlt
      have HTJ : Hid (l ++ newsI l (m.take (j + 1)) = if isNew l m[j] = true then (l ++ newsI l (m.take j)) ++ [m[j]] else l ++ newsI l (m.take j)) := Lib.hid (by
        rw [HTK.out j hlt]
        split <;> simp)
      have HCL2 := Lib.hid hcl
      have HCT : Hid (clash l m[j] = false → ∀ z ∈ m.take (j + 1), clash l z = false) := Lib.hid (fun h z hz => by
        rw [List.take_succ_eq_append_getElem hlt] at hz
        rcases List.mem_append.1 hz with hz | hz
        · exact HCL2.out z hz
        · rw [List.mem_singleton.1 hz]; exact h)
      have HCY : Hid (clash l m[j] = true → m.any (clash l) = true) := Lib.hid (fun h => List.any_eq_true.2 ⟨_, List.getElem_mem hlt, h⟩)
      have HCO := Lib.hid (fun p (h : fnd l m[j].id = some p) => clash_old h)
      have HCN := Lib.hid (fun (h : fnd l m[j].id = none) => clash_new h)
      have hnj : (l ++ newsI l (m.take j)).length ≤ 2000 := by
        rw [List.length_append]
        have := newsI_len l (m.take j)
        simp at this
        omega
      have HIV := Lib.hid (itV_snoc (l ++ newsI l (m.take j)) m[j])
      have i1 : (0 : Int) ≤ (j : Int) := by omega
      have i2 : (j : Int) < (m.length : Int) := by omega
      clear hrow hcl HCL2
      generalize l ++ newsI l (m.take j) = cur at *
      generalize m[j] = x at *
      have HM4 := Lib.hid (hmm.alloc (.cells (itQ x) 59))
      have HOW4 := Lib.hid (own_pure hown (pure_alloc _ (.cells (itQ x) 59)))
      have HB4 := Lib.hid (Blk.new wr 59 (itQ x))
      have hbs4 : base ≤ (wr.alloc (.cells (itQ x) 59)).heap.size := by rw [World.size_alloc]; omega
      unfold itQ at HM4 HOW4 HB4 hbs4
      unfold itC at HIV
      clear hown hmm
      go_upto_region 5 with (fail)
      generalize (wr.alloc (.cells #[.string ⟨x.id.toArray⟩, .string ⟨x.cust.toArray⟩, .int .i64 x.kind, .string ⟨x.name.toArray⟩, .int .i64 x.tm, .string ⟨x.par.toArray⟩, .string ⟨x.text.toArray⟩] 59)) = w4 at *
      generalize wr.heap.size = gi at *
      have hgi : gi < w4.heap.size := HB4.out.lt
      have HPW : Hid (∀ W, Pure w4 W → Pure w W) := Lib.hid (fun W h => HM4.out.trans h)
      have HBG : Hid (∀ W, Pure w4 W → Blk W gx 75 #[.slice A l.length c]) := Lib.hid (fun W h => HBX.out W (HM4.out.trans h))
      have HBI : Hid (∀ W, Pure w4 W → Blk W gi 59 #[.string ⟨x.id.toArray⟩, .string ⟨x.cust.toArray⟩, .int .i64 x.kind, .string ⟨x.name.toArray⟩, .int .i64 x.tm, .string ⟨x.par.toArray⟩, .string ⟨x.text.toArray⟩]) := Lib.hid (fun W h => HB4.out.modp h)
      have HPX := Lib.hid (fun W (h : Pure w W) => HPL.out W h x.id)
      obtain ⟨z, hzz⟩ : ∃ z, plcZ l x.id = z := ⟨_, rfl⟩
      have HZZ := Lib.hid hzz
      rw [hzz] at HPX
      clear hzz q0 q1 q2 q3 q4 q5 q6
      have HGs := Lib.hid (show ∀ (D : Nat → Bool) (zzi : Nat) (zq zq' : World), (fun _ zq => (fun Z => gi < Z.heap.size) zq) D zq → Mod (fun _ => False) zq zq' → (fun _ zq => (fun Z => gi < Z.heap.size) zq) (upd D zzi true) zq' from by intro D zzi zq zq' h hm; (exact Nat.lt_of_lt_of_le h hm.size))
      refine wp_region_inv (by kernel_rfl) (by kernel_rfl) (InvF (R := Mod (fun _ => False)) [.is (.pointer (some ⟨gx, 0, none⟩)),
          .is (.pointer (some ⟨gx, 0, none⟩)),
          .is (.pointer (some ⟨gx, 0, none⟩)),
          .is (.slice A l.length c),
          .is (.pointer (some ⟨gi, 0, none⟩)),
          .is (.string ⟨x.id.toArray⟩),
          .is (.int .i64 z),
          .is (.int .i64 z)]
          (PB w4 (fun _ => False) w4.heap.size (fun _ zq => (fun Z => gi < Z.heap.size) zq))) (InvF.start (PB.start (Mod.refl _ _) (Nat.le_refl _) (hgi))) ?_ ?_
      · refine .cons ?_ (.cons ?_ (.cons ?_ (.cons ?_ (.cons ?_ (.cons ?_ (.cons ?_ (.cons ?_ .nil)))))))
        · intro D V zw1 a hR hI K hK   -- 0: Op.move (Operand.tmp 0)
          obtain ⟨hM1, hB1, hG1⟩ := hI.1
          have ze0 := hR.frame.other (t := 0) (by kernel_rfl) rfl
          rw [if_pos (by rfl)]
          go_simp
          exact hK (.pointer (some ⟨gx, 0, none⟩)) _ (hI.next hR (by kernel_rfl) (Mod.refl _ _) (PB.quiet hI.1 (Mod.refl _ _) (HGs.out D 0 zw1 zw1 (hI.1).g (Mod.refl _ _))) (upd_same V 0 _))
        · intro D V zw1 a hR hI K hK   -- 1: Op.nilCheck (Operand.tmp 26)
          obtain ⟨hM1, hB1, hG1⟩ := hI.1
          have zd0 := hR.pred 0 (by kernel_rfl)
          have zF0 : V 0 = .pointer (some ⟨gx, 0, none⟩) := hI.2 0 zd0 rfl
          have zf0 := zF0; clear zF0
          have ze26 := hR.frame.done (t := 26) (j := 0) (by kernel_rfl) hR.ok zd0
          rw [if_pos (by rfl)]
          go_simp
          exact hK (.pointer (some ⟨gx, 0, none⟩)) _ (hI.next hR (by kernel_rfl) (Mod.refl _ _) (PB.quiet hI.1 (Mod.refl _ _) (HGs.out D 1 zw1 zw1 (hI.1).g (Mod.refl _ _))) (upd_same V 1 _))
        · intro D V zw1 a hR hI K hK   -- 2: Op.fieldAddr 75 (Operand.tmp 27) 0
          obtain ⟨hM1, hB1, hG1⟩ := hI.1
          have zd1 := hR.pred 1 (by kernel_rfl)
          have zF1 : V 1 = .pointer (some ⟨gx, 0, none⟩) := hI.2 1 zd1 rfl
          have zf1 := zF1; clear zF1
          have ze27 := hR.frame.done (t := 27) (j := 1) (by kernel_rfl) hR.ok zd1
          rw [if_pos (by rfl)]
          go_simp
          exact hK (.pointer (some ⟨gx, 0, none⟩)) _ (hI.next hR (by kernel_rfl) (Mod.refl _ _) (PB.quiet hI.1 (Mod.refl _ _) (HGs.out D 2 zw1 zw1 (hI.1).g (Mod.refl _ _))) (upd_same V 2 _))
        · intro D V zw1 a hR hI K hK   -- 3: Op.load 26 (Operand.tmp 28)
          obtain ⟨hM1, hB1, hG1⟩ := hI.1
          have zd2 := hR.pred 2 (by kernel_rfl)
          have zF2 : V 2 = .pointer (some ⟨gx, 0, none⟩) := hI.2 2 zd2 rfl
          have zf2 := zF2; clear zF2
          have ze28 := hR.frame.done (t := 28) (j := 2) (by kernel_rfl) hR.ok zd2
          have zx0 := (HBG.out zw1 hM1).cell 0; have zy0 := (HBG.out zw1 hM1).frozen 0; simp at zx0
          rw [if_pos (by rfl)]
          go_simp
          exact hK (.slice A l.length c) _ (hI.next hR (by kernel_rfl) (Mod.refl _ _) (PB.quiet hI.1 (Mod.refl _ _) (HGs.out D 3 zw1 zw1 (hI.1).g (Mod.refl _ _))) (upd_same V 3 _))
        · intro D V zw1 a hR hI K hK   -- 4: Op.fieldAddr 59 (Operand.tmp 8) 0
          obtain ⟨hM1, hB1, hG1⟩ := hI.1
          have ze8 := hR.frame.other (t := 8) (by kernel_rfl) rfl
          rw [if_pos (by rfl)]
          go_simp
          exact hK (.pointer (some ⟨gi, 0, none⟩)) _ (hI.next hR (by kernel_rfl) (Mod.refl _ _) (PB.quiet hI.1 (Mod.refl _ _) (HGs.out D 4 zw1 zw1 (hI.1).g (Mod.refl _ _))) (upd_same V 4 _))
        · intro D V zw1 a hR hI K hK   -- 5: Op.load 9 (Operand.tmp 30)
          obtain ⟨hM1, hB1, hG1⟩ := hI.1
          have zd4 := hR.pred 4 (by kernel_rfl)
          have zF4 : V 4 = .pointer (some ⟨gi, 0, none⟩) := hI.2 4 zd4 rfl
          have zf4 := zF4; clear zF4
          have ze30 := hR.frame.done (t := 30) (j := 4) (by kernel_rfl) hR.ok zd4
          have zx0 := (HBI.out zw1 hM1).cell 0; have zy0 := (HBI.out zw1 hM1).frozen 0; simp at zx0
          rw [if_pos (by rfl)]
          go_simp
          exact hK (.string ⟨x.id.toArray⟩) _ (hI.next hR (by kernel_rfl) (Mod.refl _ _) (PB.quiet hI.1 (Mod.refl _ _) (HGs.out D 5 zw1 zw1 (hI.1).g (Mod.refl _ _))) (upd_same V 5 _))
        · intro D V zw1 a hR hI K hK   -- 6: Op.call { callee := Callee.value (Operand.func 49), args := #[Operand.
          obtain ⟨hM1, hB1, hG1⟩ := hI.1
          have zd3 := hR.pred 3 (by kernel_rfl)
          have zF3 : V 3 = .slice A l.length c := hI.2 3 zd3 rfl
          have zf3 := zF3; clear zF3
          have zd5 := hR.pred 5 (by kernel_rfl)
          have zF5 : V 5 = .string ⟨x.id.toArray⟩ := hI.2 5 zd5 rfl
          have zf5 := zF5; clear zF5
          have ze29 := hR.frame.done (t := 29) (j := 3) (by kernel_rfl) hR.ok zd3
          have ze31 := hR.frame.done (t := 31) (j := 5) (by kernel_rfl) hR.ok zd5
          rw [if_pos (by rfl)]
          go_simp
          refine (HPX.out zw1 (HPW.out zw1 hM1)).mono ?_
          rintro e zw2 ⟨rfl, hm2⟩
          exact hK (.int .i64 z) _ (hI.next hR (by kernel_rfl) hm2 (PB.quiet hI.1 hm2 (HGs.out D 6 _ _ (hI.1).g hm2)) (upd_same V 6 _))
        · intro D V zw1 a hR hI K hK   -- 7: Op.assign (Operand.tmp 32)
          obtain ⟨hM1, hB1, hG1⟩ := hI.1
          have zd6 := hR.pred 6 (by kernel_rfl)
          have zF6 : V 6 = .int .i64 z := hI.2 6 zd6 rfl
          have zf6 := zF6; clear zF6
          have ze32 := hR.frame.done (t := 32) (j := 6) (by kernel_rfl) hR.ok zd6
          rw [if_pos (by rfl)]
          go_simp
          exact hK (.int .i64 z) _ (hI.next hR (by kernel_rfl) (Mod.refl _ _) (PB.quiet hI.1 (Mod.refl _ _) (HGs.out D 7 zw1 zw1 (hI.1).g (Mod.refl _ _))) (upd_same V 7 _))
      · intro D V w5 hD hI
        obtain ⟨hM1, hB1, hG1⟩ := hI.1
        have hMx := hM1
        clear hM1
        have hBx := hB1
        clear hB1
        have hGx := hG1
        clear hG1
        have zF0 : V 0 = .pointer (some ⟨gx, 0, none⟩) := hI.2 0 (hD 0 (by decide)) rfl
        have zf0 := zF0; clear zF0
        have zF1 : V 1 = .pointer (some ⟨gx, 0, none⟩) := hI.2 1 (hD 1 (by decide)) rfl
        have zf1 := zF1; clear zF1
        have zF2 : V 2 = .pointer (some ⟨gx, 0, none⟩) := hI.2 2 (hD 2 (by decide)) rfl
        have zf2 := zF2; clear zF2
        have zF3 : V 3 = .slice A l.length c := hI.2 3 (hD 3 (by decide)) rfl
        have zf3 := zF3; clear zF3
        have zF4 : V 4 = .pointer (some ⟨gi, 0, none⟩) := hI.2 4 (hD 4 (by decide)) rfl
        have zf4 := zF4; clear zF4
        have zF5 : V 5 = .string ⟨x.id.toArray⟩ := hI.2 5 (hD 5 (by decide)) rfl
        have zf5 := zF5; clear zF5
        have zF6 : V 6 = .int .i64 z := hI.2 6 (hD 6 (by decide)) rfl
        have zf6 := zF6; clear zF6
        have zF7 : V 7 = .int .i64 z := hI.2 7 (hD 7 (by decide)) rfl
        have zf7 := zF7; clear zF7
        clear hI hD HGs
        simp only [frAll, Act.put, List.setIfInBounds_toArray, List.set_cons_zero, List.set_cons_succ, Nat.zero_add, Nat.reduceAdd, zf0, zf1, zf2, zf3, zf4, zf5, zf6, zf7]
        clear zf0 zf1 zf2 zf3 zf4 zf5 zf6 zf7
        clear V D
        have HM5 := Lib.hid hMx
        have HOW5 := Lib.hid (own_pure HOW4.out hMx)
        have hbs5 : base ≤ w5.heap.size := by have := hMx.size; omega
        clear HPX HOW4 HB4 hGx
        cases hpl : plc l x.id with
        | some k =>
          obtain ⟨hk, hfk⟩ := fnd_at hpl
          obtain ⟨hc0, hn0⟩ := HCO.out _ hfk
          rw [hn0, if_neg (by simp)] at HTJ
          have hz : z = (k : Int) := by rw [← HZZ.out]; unfold plcZ; rw [hpl]
          subst hz
          have hk0 : (0 : Int) ≤ (k : Int) := by omega
          have hk1 : (k : Int) < (l.length : Int) := by omega
          obtain ⟨g2, o2, rfl, hrow⟩ := HCELL.out k hk
          have HCK : Hid (∀ W, Pure w5 W → _) := Lib.hid (fun W (h : Pure w5 W) => item_cells (hrow W (HPW.out W (HM5.out.trans h))) hk)
          have HBI2 : Hid (∀ W, Pure w5 W → _) := Lib.hid (fun W (h : Pure w5 W) => HBI.out W (HM5.out.trans h))
          have HBG2 : Hid (∀ W, Pure w5 W → _) := Lib.hid (fun W (h : Pure w5 W) => HBG.out W (HM5.out.trans h))
          have hneq := neqItm l[k] x
          have hgrd : ∀ (op : BinOp) (a b : Operand) (w : World), Sem.run Tryz.prog (eqGuard op 59 a b (itA l[k]) (itA x)) w = .ok () w := fun op a b w => guardItm op a b l[k] x w
          obtain ⟨qe, hqe⟩ : ∃ qe, itEq l[k] x = qe := ⟨_, rfl⟩
          rw [hqe] at hc0 hneq
          have hgi5 : gi < w5.heap.size := by have := hMx.size; omega
          have HS5 := Lib.hid (HS0.out w5 (HPW.out _ hMx))
          have HP5 := Lib.hid (HPW.out w5 hMx)
          have HCC := Lib.hid hc0
          clear hpl hfk hc0 hn0 hrow hqe hMx HCO HCN HZZ HBI HBG
          generalize l[k] = y at *
          unfold itA at hneq hgrd
          go_wp2_with fail
          have HGs := Lib.hid (show ∀ (D : Nat → Bool) (zzi : Nat) (zq zq' : World), (fun _ zq => (fun Z => gi < Z.heap.size) zq) D zq → Mod (fun _ => False) zq zq' → (fun _ zq => (fun Z => gi < Z.heap.size) zq) (upd D zzi true) zq' from by intro D zzi zq zq' h hm; (exact Nat.lt_of_lt_of_le h hm.size))
          refine wp_region_inv (by kernel_rfl) (by kernel_rfl) (InvF (R := Mod (fun _ => False)) [.is (.int .i64 (k : Int)),
              .is (.bool true),
              .is (.bool true),
              .is (.pointer (some ⟨gx, 0, none⟩)),
              .is (.pointer (some ⟨gx, 0, none⟩)),
              .is (.pointer (some ⟨gx, 0, none⟩)),
              .is (.slice (some ⟨g2, o2, none⟩) l.length c),
              .is (.int .i64 (k : Int)),
              .is (.pointer (some ⟨g2, o2 + k * 7, none⟩)),
              .is (.agg #[.string ⟨y.id.toArray⟩, .string ⟨y.cust.toArray⟩, .int .i64 y.kind, .string ⟨y.name.toArray⟩, .int .i64 y.tm, .string ⟨y.par.toArray⟩, .string ⟨y.text.toArray⟩]),
              .is (.agg #[.string ⟨x.id.toArray⟩, .string ⟨x.cust.toArray⟩, .int .i64 x.kind, .string ⟨x.name.toArray⟩, .int .i64 x.tm, .string ⟨x.par.toArray⟩, .string ⟨x.text.toArray⟩]),
              .is (.bool (!qe)),
              .is (.bool (!qe))]
              (PB w5 (fun _ => False) w5.heap.size (fun _ zq => (fun Z => gi < Z.heap.size) zq))) (InvF.start (PB.start (Mod.refl _ _) (Nat.le_refl _) (hgi5))) ?_ ?_
          · refine .cons ?_ (.cons ?_ (.cons ?_ (.cons ?_ (.cons ?_ (.cons ?_ (.cons ?_ (.cons ?_ (.cons ?_ (.cons ?_ (.cons ?_ (.cons ?_ (.cons ?_ .nil))))))))))))
            · intro D V zw1 a hR hI K hK   -- 0: Op.move (Operand.tmp 9)
              obtain ⟨hM1, hB1, hG1⟩ := hI.1
              have ze9 := hR.frame.other (t := 9) (by kernel_rfl) rfl
              rw [if_pos (by rfl)]
              go_simp
              exact hK (.int .i64 (k : Int)) _ (hI.next hR (by kernel_rfl) (Mod.refl _ _) (PB.quiet hI.1 (Mod.refl _ _) (HGs.out D 0 zw1 zw1 (hI.1).g (Mod.refl _ _))) (upd_same V 0 _))
            · intro D V zw1 a hR hI K hK   -- 1: Op.binOp BinOp.geq 3 (Operand.tmp 33) (Operand.const (Value.int IntKin
              obtain ⟨hM1, hB1, hG1⟩ := hI.1
              have zd0 := hR.pred 0 (by kernel_rfl)
              have zF0 : V 0 = .int .i64 (k : Int) := hI.2 0 zd0 rfl
              have zf0 := zF0; clear zF0
              have ze33 := hR.frame.done (t := 33) (j := 0) (by kernel_rfl) hR.ok zd0
              rw [if_pos (by rfl)]
              go_simp
              exact hK (.bool true) _ (hI.next hR (by kernel_rfl) (Mod.refl _ _) (PB.quiet hI.1 (Mod.refl _ _) (HGs.out D 1 zw1 zw1 (hI.1).g (Mod.refl _ _))) (upd_same V 1 _))
            · intro D V zw1 a hR hI K hK   -- 2: Op.move (Operand.tmp 34)
              obtain ⟨hM1, hB1, hG1⟩ := hI.1
              have zd1 := hR.pred 1 (by kernel_rfl)
              have zF1 : V 1 = .bool true := hI.2 1 zd1 rfl
              have zf1 := zF1; clear zF1
              have ze34 := hR.frame.done (t := 34) (j := 1) (by kernel_rfl) hR.ok zd1
              rw [if_pos (by rfl)]
              go_simp
              exact hK (.bool true) _ (hI.next hR (by kernel_rfl) (Mod.refl _ _) (PB.quiet hI.1 (Mod.refl _ _) (HGs.out D 2 zw1 zw1 (hI.1).g (Mod.refl _ _))) (upd_same V 2 _))
            · intro D V zw1 a hR hI K hK   -- 3: Op.move (Operand.tmp 0)
              obtain ⟨hM1, hB1, hG1⟩ := hI.1
              have zd2 := hR.pred 2 (by kernel_rfl)
              have zF2 : V 2 = .bool true := hI.2 2 zd2 rfl
              have zf2 := zF2; clear zF2
              have ze0 := hR.frame.other (t := 0) (by kernel_rfl) rfl
              have ze35 := hR.frame.done (t := 35) (j := 2) (by kernel_rfl) hR.ok zd2
              rw [if_pos (by simp [Region.wanted, yielded, ze35, zf2])]
              go_simp
              exact hK (.pointer (some ⟨gx, 0, none⟩)) _ (hI.next hR (by kernel_rfl) (Mod.refl _ _) (PB.quiet hI.1 (Mod.refl _ _) (HGs.out D 3 zw1 zw1 (hI.1).g (Mod.refl _ _))) (upd_same V 3 _))
            · intro D V zw1 a hR hI K hK   -- 4: Op.nilCheck (Operand.tmp 36)
              obtain ⟨hM1, hB1, hG1⟩ := hI.1
              have zd3 := hR.pred 3 (by kernel_rfl)
              have zF3 : V 3 = .pointer (some ⟨gx, 0, none⟩) := hI.2 3 zd3 rfl
              have zf3 := zF3; clear zF3
              have zd2 := hR.pred 2 (by kernel_rfl)
              have zF2 : V 2 = .bool true := hI.2 2 zd2 rfl
              have zf2 := zF2; clear zF2
              have ze36 := hR.frame.done (t := 36) (j := 3) (by kernel_rfl) hR.ok zd3
              have ze35 := hR.frame.done (t := 35) (j := 2) (by kernel_rfl) hR.ok zd2
              rw [if_pos (by simp [Region.wanted, yielded, ze35, zf2])]
              go_simp
              exact hK (.pointer (some ⟨gx, 0, none⟩)) _ (hI.next hR (by kernel_rfl) (Mod.refl _ _) (PB.quiet hI.1 (Mod.refl _ _) (HGs.out D 4 zw1 zw1 (hI.1).g (Mod.refl _ _))) (upd_same V 4 _))
            · intro D V zw1 a hR hI K hK   -- 5: Op.fieldAddr 75 (Operand.tmp 37) 0
              obtain ⟨hM1, hB1, hG1⟩ := hI.1
              have zd4 := hR.pred 4 (by kernel_rfl)
              have zF4 : V 4 = .pointer (some ⟨gx, 0, none⟩) := hI.2 4 zd4 rfl
              have zf4 := zF4; clear zF4
              have zd2 := hR.pred 2 (by kernel_rfl)
              have zF2 : V 2 = .bool true := hI.2 2 zd2 rfl
              have zf2 := zF2; clear zF2
              have ze37 := hR.frame.done (t := 37) (j := 4) (by kernel_rfl) hR.ok zd4
              have ze35 := hR.frame.done (t := 35) (j := 2) (by kernel_rfl) hR.ok zd2
              rw [if_pos (by simp [Region.wanted, yielded, ze35, zf2])]
              go_simp
              exact hK (.pointer (some ⟨gx, 0, none⟩)) _ (hI.next hR (by kernel_rfl) (Mod.refl _ _) (PB.quiet hI.1 (Mod.refl _ _) (HGs.out D 5 zw1 zw1 (hI.1).g (Mod.refl _ _))) (upd_same V 5 _))
            · intro D V zw1 a hR hI K hK   -- 6: Op.load 26 (Operand.tmp 38)
              obtain ⟨hM1, hB1, hG1⟩ := hI.1
              have zd5 := hR.pred 5 (by kernel_rfl)
              have zF5 : V 5 = .pointer (some ⟨gx, 0, none⟩) := hI.2 5 zd5 rfl
              have zf5 := zF5; clear zF5
              have zd2 := hR.pred 2 (by kernel_rfl)
              have zF2 : V 2 = .bool true := hI.2 2 zd2 rfl
              have zf2 := zF2; clear zF2
              have ze38 := hR.frame.done (t := 38) (j := 5) (by kernel_rfl) hR.ok zd5
              have zx0 := (HBG2.out zw1 hM1).cell 0; have zy0 := (HBG2.out zw1 hM1).frozen 0; simp at zx0
              have ze35 := hR.frame.done (t := 35) (j := 2) (by kernel_rfl) hR.ok zd2
              rw [if_pos (by simp [Region.wanted, yielded, ze35, zf2])]
              go_simp
              exact hK (.slice (some ⟨g2, o2, none⟩) l.length c) _ (hI.next hR (by kernel_rfl) (Mod.refl _ _) (PB.quiet hI.1 (Mod.refl _ _) (HGs.out D 6 zw1 zw1 (hI.1).g (Mod.refl _ _))) (upd_same V 6 _))
            · intro D V zw1 a hR hI K hK   -- 7: Op.move (Operand.tmp 9)
              obtain ⟨hM1, hB1, hG1⟩ := hI.1
              have zd2 := hR.pred 2 (by kernel_rfl)
              have zF2 : V 2 = .bool true := hI.2 2 zd2 rfl
              have zf2 := zF2; clear zF2
              have ze9 := hR.frame.other (t := 9) (by kernel_rfl) rfl
              have ze35 := hR.frame.done (t := 35) (j := 2) (by kernel_rfl) hR.ok zd2
              rw [if_pos (by simp [Region.wanted, yielded, ze35, zf2])]
              go_simp
              exact hK (.int .i64 (k : Int)) _ (hI.next hR (by kernel_rfl) (Mod.refl _ _) (PB.quiet hI.1 (Mod.refl _ _) (HGs.out D 7 zw1 zw1 (hI.1).g (Mod.refl _ _))) (upd_same V 7 _))
            · intro D V zw1 a hR hI K hK   -- 8: Op.indexAddr 26 (Operand.tmp 39) (Operand.tmp 40)
              obtain ⟨hM1, hB1, hG1⟩ := hI.1
              have zd6 := hR.pred 6 (by kernel_rfl)
              have zF6 : V 6 = .slice (some ⟨g2, o2, none⟩) l.length c := hI.2 6 zd6 rfl
              have zf6 := zF6; clear zF6
              have zd7 := hR.pred 7 (by kernel_rfl)
              have zF7 : V 7 = .int .i64 (k : Int) := hI.2 7 zd7 rfl
              have zf7 := zF7; clear zF7
              have zd2 := hR.pred 2 (by kernel_rfl)
              have zF2 : V 2 = .bool true := hI.2 2 zd2 rfl
              have zf2 := zF2; clear zF2
              have ze39 := hR.frame.done (t := 39) (j := 6) (by kernel_rfl) hR.ok zd6
              have ze40 := hR.frame.done (t := 40) (j := 7) (by kernel_rfl) hR.ok zd7
              have ze35 := hR.frame.done (t := 35) (j := 2) (by kernel_rfl) hR.ok zd2
              rw [if_pos (by simp [Region.wanted, yielded, ze35, zf2])]
              go_simp
              exact hK (.pointer (some ⟨g2, o2 + k * 7, none⟩)) _ (hI.next hR (by kernel_rfl) (Mod.refl _ _) (PB.quiet hI.1 (Mod.refl _ _) (HGs.out D 8 zw1 zw1 (hI.1).g (Mod.refl _ _))) (upd_same V 8 _))
            · intro D V zw1 a hR hI K hK   -- 9: Op.load 59 (Operand.tmp 41)
              obtain ⟨hM1, hB1, hG1⟩ := hI.1
              have zd8 := hR.pred 8 (by kernel_rfl)
              have zF8 : V 8 = .pointer (some ⟨g2, o2 + k * 7, none⟩) := hI.2 8 zd8 rfl
              have zf8 := zF8; clear zF8
              have zd2 := hR.pred 2 (by kernel_rfl)
              have zF2 : V 2 = .bool true := hI.2 2 zd2 rfl
              have zf2 := zF2; clear zF2
              have ze41 := hR.frame.done (t := 41) (j := 8) (by kernel_rfl) hR.ok zd8
              obtain ⟨zx0, zx1, zx2, zx3, zx4, zx5, zx6⟩ := HCK.out zw1 hM1
              have ze35 := hR.frame.done (t := 35) (j := 2) (by kernel_rfl) hR.ok zd2
              rw [if_pos (by simp [Region.wanted, yielded, ze35, zf2])]
              go_simp
              exact hK (.agg #[.string ⟨y.id.toArray⟩, .string ⟨y.cust.toArray⟩, .int .i64 y.kind, .string ⟨y.name.toArray⟩, .int .i64 y.tm, .string ⟨y.par.toArray⟩, .string ⟨y.text.toArray⟩]) _ (hI.next hR (by kernel_rfl) (Mod.refl _ _) (PB.quiet hI.1 (Mod.refl _ _) (HGs.out D 9 zw1 zw1 (hI.1).g (Mod.refl _ _))) (upd_same V 9 _))
            · intro D V zw1 a hR hI K hK   -- 10: Op.load 59 (Operand.tmp 8)
              obtain ⟨hM1, hB1, hG1⟩ := hI.1
              have zd2 := hR.pred 2 (by kernel_rfl)
              have zF2 : V 2 = .bool true := hI.2 2 zd2 rfl
              have zf2 := zF2; clear zF2
              have ze8 := hR.frame.other (t := 8) (by kernel_rfl) rfl
              have zx0 := (HBI2.out zw1 hM1).cell 0; have zy0 := (HBI2.out zw1 hM1).frozen 0; simp at zx0
              have zx1 := (HBI2.out zw1 hM1).cell 1; have zy1 := (HBI2.out zw1 hM1).frozen 1; simp at zx1
              have zx2 := (HBI2.out zw1 hM1).cell 2; have zy2 := (HBI2.out zw1 hM1).frozen 2; simp at zx2
              have zx3 := (HBI2.out zw1 hM1).cell 3; have zy3 := (HBI2.out zw1 hM1).frozen 3; simp at zx3
              have zx4 := (HBI2.out zw1 hM1).cell 4; have zy4 := (HBI2.out zw1 hM1).frozen 4; simp at zx4
              have zx5 := (HBI2.out zw1 hM1).cell 5; have zy5 := (HBI2.out zw1 hM1).frozen 5; simp at zx5
              have zx6 := (HBI2.out zw1 hM1).cell 6; have zy6 := (HBI2.out zw1 hM1).frozen 6; simp at zx6
              have ze35 := hR.frame.done (t := 35) (j := 2) (by kernel_rfl) hR.ok zd2
              rw [if_pos (by simp [Region.wanted, yielded, ze35, zf2])]
              go_simp
              exact hK (.agg #[.string ⟨x.id.toArray⟩, .string ⟨x.cust.toArray⟩, .int .i64 x.kind, .string ⟨x.name.toArray⟩, .int .i64 x.tm, .string ⟨x.par.toArray⟩, .string ⟨x.text.toArray⟩]) _ (hI.next hR (by kernel_rfl) (Mod.refl _ _) (PB.quiet hI.1 (Mod.refl _ _) (HGs.out D 10 zw1 zw1 (hI.1).g (Mod.refl _ _))) (upd_same V 10 _))
            · intro D V zw1 a hR hI K hK   -- 11: Op.binOp BinOp.neq 59 (Operand.tmp 42) (Operand.tmp 43) 59
              obtain ⟨hM1, hB1, hG1⟩ := hI.1
              have zd9 := hR.pred 9 (by kernel_rfl)
              have zF9 : V 9 = .agg #[.string ⟨y.id.toArray⟩, .string ⟨y.cust.toArray⟩, .int .i64 y.kind, .string ⟨y.name.toArray⟩, .int .i64 y.tm, .string ⟨y.par.toArray⟩, .string ⟨y.text.toArray⟩] := hI.2 9 zd9 rfl
              have zf9 := zF9; clear zF9
              have zd10 := hR.pred 10 (by kernel_rfl)
              have zF10 : V 10 = .agg #[.string ⟨x.id.toArray⟩, .string ⟨x.cust.toArray⟩, .int .i64 x.kind, .string ⟨x.name.toArray⟩, .int .i64 x.tm, .string ⟨x.par.toArray⟩, .string ⟨x.text.toArray⟩] := hI.2 10 zd10 rfl
              have zf10 := zF10; clear zF10
              have zd2 := hR.pred 2 (by kernel_rfl)
              have zF2 : V 2 = .bool true := hI.2 2 zd2 rfl
              have zf2 := zF2; clear zF2
              have ze42 := hR.frame.done (t := 42) (j := 9) (by kernel_rfl) hR.ok zd9
              have ze43 := hR.frame.done (t := 43) (j := 10) (by kernel_rfl) hR.ok zd10
              have ze35 := hR.frame.done (t := 35) (j := 2) (by kernel_rfl) hR.ok zd2
              rw [if_pos (by simp [Region.wanted, yielded, ze35, zf2])]
              go_simp
              exact hK (.bool (!qe)) _ (hI.next hR (by kernel_rfl) (Mod.refl _ _) (PB.quiet hI.1 (Mod.refl _ _) (HGs.out D 11 zw1 zw1 (hI.1).g (Mod.refl _ _))) (upd_same V 11 _))
            · intro D V zw1 a hR hI K hK   -- 12: Op.pick (Operand.tmp 35) (Operand.tmp 44) (Operand.const (Value.bool f
              obtain ⟨hM1, hB1, hG1⟩ := hI.1
              have zd2 := hR.pred 2 (by kernel_rfl)
              have zF2 : V 2 = .bool true := hI.2 2 zd2 rfl
              have zf2 := zF2; clear zF2
              have zd11 := hR.pred 11 (by kernel_rfl)
              have zF11 : V 11 = .bool (!qe) := hI.2 11 zd11 rfl
              have zf11 := zF11; clear zF11
              have ze35 := hR.frame.done (t := 35) (j := 2) (by kernel_rfl) hR.ok zd2
              have ze44 := hR.frame.done (t := 44) (j := 11) (by kernel_rfl) hR.ok zd11
              rw [if_pos (by rfl)]
              go_simp
              exact hK (.bool (!qe)) _ (hI.next hR (by kernel_rfl) (Mod.refl _ _) (PB.quiet hI.1 (Mod.refl _ _) (HGs.out D 12 zw1 zw1 (hI.1).g (Mod.refl _ _))) (upd_same V 12 _))
          · intro D V w6 hD hI
            obtain ⟨hM1, hB1, hG1⟩ := hI.1
            have hMx := hM1
            clear hM1
            have hBx := hB1
            clear hB1
            have hGx := hG1
            clear hG1
            have zF0 : V 0 = .int .i64 (k : Int) := hI.2 0 (hD 0 (by decide)) rfl
            have zf0 := zF0; clear zF0
            have zF1 : V 1 = .bool true := hI.2 1 (hD 1 (by decide)) rfl
            have zf1 := zF1; clear zF1
            have zF2 : V 2 = .bool true := hI.2 2 (hD 2 (by decide)) rfl
            have zf2 := zF2; clear zF2
            have zF3 : V 3 = .pointer (some ⟨gx, 0, none⟩) := hI.2 3 (hD 3 (by decide)) rfl
            have zf3 := zF3; clear zF3
            have zF4 : V 4 = .pointer (some ⟨gx, 0, none⟩) := hI.2 4 (hD 4 (by decide)) rfl
            have zf4 := zF4; clear zF4
            have zF5 : V 5 = .pointer (some ⟨gx, 0, none⟩) := hI.2 5 (hD 5 (by decide)) rfl
            have zf5 := zF5; clear zF5
            have zF6 : V 6 = .slice (some ⟨g2, o2, none⟩) l.length c := hI.2 6 (hD 6 (by decide)) rfl
            have zf6 := zF6; clear zF6
            have zF7 : V 7 = .int .i64 (k : Int) := hI.2 7 (hD 7 (by decide)) rfl
            have zf7 := zF7; clear zF7
            have zF8 : V 8 = .pointer (some ⟨g2, o2 + k * 7, none⟩) := hI.2 8 (hD 8 (by decide)) rfl
            have zf8 := zF8; clear zF8
            have zF9 : V 9 = .agg #[.string ⟨y.id.toArray⟩, .string ⟨y.cust.toArray⟩, .int .i64 y.kind, .string ⟨y.name.toArray⟩, .int .i64 y.tm, .string ⟨y.par.toArray⟩, .string ⟨y.text.toArray⟩] := hI.2 9 (hD 9 (by decide)) rfl
            have zf9 := zF9; clear zF9
            have zF10 : V 10 = .agg #[.string ⟨x.id.toArray⟩, .string ⟨x.cust.toArray⟩, .int .i64 x.kind, .string ⟨x.name.toArray⟩, .int .i64 x.tm, .string ⟨x.par.toArray⟩, .string ⟨x.text.toArray⟩] := hI.2 10 (hD 10 (by decide)) rfl
            have zf10 := zF10; clear zF10
            have zF11 : V 11 = .bool (!qe) := hI.2 11 (hD 11 (by decide)) rfl
            have zf11 := zF11; clear zF11
            have zF12 : V 12 = .bool (!qe) := hI.2 12 (hD 12 (by decide)) rfl
            have zf12 := zF12; clear zF12
            clear hI hD HGs
            simp only [frAll, Act.put, List.setIfInBounds_toArray, List.set_cons_zero, List.set_cons_succ, Nat.zero_add, Nat.reduceAdd, zf0, zf1, zf2, zf3, zf4, zf5, zf6, zf7, zf8, zf9, zf10, zf11, zf12]
            clear zf0 zf1 zf2 zf3 zf4 zf5 zf6 zf7 zf8 zf9 zf10 zf11 zf12
            clear V D
            have HM6 := Lib.hid (HP5.out.trans hMx)
            have HOW6 := Lib.hid (own_pure HOW5.out hMx)
            have HS6 := Lib.hid (HS5.out.pure hMx)
            have hbs6 : base ≤ w6.heap.size := by have := hMx.size; omega
            clear hneq hgrd HCK HBI2 HBG2 HOW5 HS5 HP5 hMx
            cases qe
            · have HCQ := Lib.hid (HCY.out HCC.out)
              have HA1 : Hid (joinE l m = 13) := Lib.hid (by rw [HJE.out, if_pos HCQ.out])
              have HA2 : Hid (joinK l m = 0) := Lib.hid (by rw [HJK.out, HA1.out]; rfl)
              have HA3 : Hid (joinN l m = l) := Lib.hid (by rw [HJN.out, HA1.out]; rfl)
              clear HCT HCY HCC
              go_wp2_with fail
              refine bodyPost_ret (v := .tuple #[.int .i64 0, .int .i64 13]) (by simp [results, Tryz.results34, go_sem]) rfl ?_
              refine ⟨by rw [HA1.out, HA2.out], ⟨.slice (some ⟨g2, o2, none⟩) l.length c, ?_⟩, Mod.of_pure HM6.out⟩
              rw [HA3.out]
              exact HS6.out
            · have HCQ := Lib.hid (HCT.out HCC.out)
              clear HCT HCY HCC
              go_wp2_with fail
              go_roundg (m.length - (j + 1))
              case measure => omega
              case rel => exact ⟨j + 1, Ao, cap, rfl, by omega, by rw [HTJ.out], by simp, HCQ.out, by rw [HTJ.out]; exact HOW6.out, HM6.out, hbs6⟩
        | none =>
          have hz : z = -1 := by rw [← HZZ.out]; unfold plcZ; rw [hpl]
          subst hz
          have hfk := fnd_none hpl
          obtain ⟨hc0, hn0⟩ := HCN.out hfk
          rw [hn0, if_pos rfl] at HTJ
          have HCQ := Lib.hid (HCT.out hc0)
          have HBI2 := Lib.hid (HBI.out _ hMx)
          have hgi5 : gi < w5.heap.size := by have := hMx.size; omega
          have HP5 := Lib.hid (HPW.out w5 hMx)
          clear hpl hfk hc0 hn0 hMx HCO HCN HZZ HBI HBG HCT HCY
          go_wp2_with fail
          have HGs := Lib.hid (show ∀ (D : Nat → Bool) (zzi : Nat) (zq zq' : World), (fun _ zq => (fun Z => gi < Z.heap.size) zq) D zq → Mod (fun _ => False) zq zq' → (fun _ zq => (fun Z => gi < Z.heap.size) zq) (upd D zzi true) zq' from by intro D zzi zq zq' h hm; (exact Nat.lt_of_lt_of_le h hm.size))
          refine wp_region_inv (by kernel_rfl) (by kernel_rfl) (InvF (R := Mod (fun _ => False)) [.is (.int .i64 (-1)),
              .is (.bool false),
              .is (.bool false),
              .is (undef),
              .is (undef),
              .is (undef),
              .is (undef),
              .is (undef),
              .is (undef),
              .is (undef),
              .is (undef),
              .is (undef),
              .is (.bool false)]
              (PB w5 (fun _ => False) w5.heap.size (fun _ zq => (fun Z => gi < Z.heap.size) zq))) (InvF.start (PB.start (Mod.refl _ _) (Nat.le_refl _) (hgi5))) ?_ ?_
          · refine .cons ?_ (.cons ?_ (.cons ?_ (.cons ?_ (.cons ?_ (.cons ?_ (.cons ?_ (.cons ?_ (.cons ?_ (.cons ?_ (.cons ?_ (.cons ?_ (.cons ?_ .nil))))))))))))
            · intro D V zw1 a hR hI K hK   -- 0: Op.move (Operand.tmp 9)
              obtain ⟨hM1, hB1, hG1⟩ := hI.1
              have ze9 := hR.frame.other (t := 9) (by kernel_rfl) rfl
              rw [if_pos (by rfl)]
              go_simp
              exact hK (.int .i64 (-1)) _ (hI.next hR (by kernel_rfl) (Mod.refl _ _) (PB.quiet hI.1 (Mod.refl _ _) (HGs.out D 0 zw1 zw1 (hI.1).g (Mod.refl _ _))) (upd_same V 0 _))
            · intro D V zw1 a hR hI K hK   -- 1: Op.binOp BinOp.geq 3 (Operand.tmp 33) (Operand.const (Value.int IntKin
              obtain ⟨hM1, hB1, hG1⟩ := hI.1
              have zd0 := hR.pred 0 (by kernel_rfl)
              have zF0 : V 0 = .int .i64 (-1) := hI.2 0 zd0 rfl
              have zf0 := zF0; clear zF0
              have ze33 := hR.frame.done (t := 33) (j := 0) (by kernel_rfl) hR.ok zd0
              rw [if_pos (by rfl)]
              go_simp
              exact hK (.bool false) _ (hI.next hR (by kernel_rfl) (Mod.refl _ _) (PB.quiet hI.1 (Mod.refl _ _) (HGs.out D 1 zw1 zw1 (hI.1).g (Mod.refl _ _))) (upd_same V 1 _))
            · intro D V zw1 a hR hI K hK   -- 2: Op.move (Operand.tmp 34)
              obtain ⟨hM1, hB1, hG1⟩ := hI.1
              have zd1 := hR.pred 1 (by kernel_rfl)
              have zF1 : V 1 = .bool false := hI.2 1 zd1 rfl
              have zf1 := zF1; clear zF1
              have ze34 := hR.frame.done (t := 34) (j := 1) (by kernel_rfl) hR.ok zd1
              rw [if_pos (by rfl)]
              go_simp
              exact hK (.bool false) _ (hI.next hR (by kernel_rfl) (Mod.refl _ _) (PB.quiet hI.1 (Mod.refl _ _) (HGs.out D 2 zw1 zw1 (hI.1).g (Mod.refl _ _))) (upd_same V 2 _))
            · intro D V zw1 a hR hI K hK   -- 3: Op.move (Operand.tmp 0)
              obtain ⟨hM1, hB1, hG1⟩ := hI.1
              have zd2 := hR.pred 2 (by kernel_rfl)
              have zF2 : V 2 = .bool false := hI.2 2 zd2 rfl
              have zf2 := zF2; clear zF2
              have ze35 := hR.frame.done (t := 35) (j := 2) (by kernel_rfl) hR.ok zd2
              rw [if_neg (by simp [Region.wanted, yielded, ze35, zf2])]
              exact hK undef _ (hI.next hR (by kernel_rfl) (Mod.refl _ _) (PB.quiet hI.1 (Mod.refl _ _) (HGs.out D 3 zw1 zw1 (hI.1).g (Mod.refl _ _))) (upd_same V 3 _))
            · intro D V zw1 a hR hI K hK   -- 4: Op.nilCheck (Operand.tmp 36)
              obtain ⟨hM1, hB1, hG1⟩ := hI.1
              have zd2 := hR.pred 2 (by kernel_rfl)
              have zF2 : V 2 = .bool false := hI.2 2 zd2 rfl
              have zf2 := zF2; clear zF2
              have ze35 := hR.frame.done (t := 35) (j := 2) (by kernel_rfl) hR.ok zd2
              rw [if_neg (by simp [Region.wanted, yielded, ze35, zf2])]
              exact hK undef _ (hI.next hR (by kernel_rfl) (Mod.refl _ _) (PB.quiet hI.1 (Mod.refl _ _) (HGs.out D 4 zw1 zw1 (hI.1).g (Mod.refl _ _))) (upd_same V 4 _))
            · intro D V zw1 a hR hI K hK   -- 5: Op.fieldAddr 75 (Operand.tmp 37) 0
              obtain ⟨hM1, hB1, hG1⟩ := hI.1
              have zd2 := hR.pred 2 (by kernel_rfl)
              have zF2 : V 2 = .bool false := hI.2 2 zd2 rfl
              have zf2 := zF2; clear zF2
              have ze35 := hR.frame.done (t := 35) (j := 2) (by kernel_rfl) hR.ok zd2
              rw [if_neg (by simp [Region.wanted, yielded, ze35, zf2])]
              exact hK undef _ (hI.next hR (by kernel_rfl) (Mod.refl _ _) (PB.quiet hI.1 (Mod.refl _ _) (HGs.out D 5 zw1 zw1 (hI.1).g (Mod.refl _ _))) (upd_same V 5 _))
            · intro D V zw1 a hR hI K hK   -- 6: Op.load 26 (Operand.tmp 38)
              obtain ⟨hM1, hB1, hG1⟩ := hI.1
              have zd2 := hR.pred 2 (by kernel_rfl)
              have zF2 : V 2 = .bool false := hI.2 2 zd2 rfl
              have zf2 := zF2; clear zF2
              have ze35 := hR.frame.done (t := 35) (j := 2) (by kernel_rfl) hR.ok zd2
              rw [if_neg (by simp [Region.wanted, yielded, ze35, zf2])]
              exact hK undef _ (hI.next hR (by kernel_rfl) (Mod.refl _ _) (PB.quiet hI.1 (Mod.refl _ _) (HGs.out D 6 zw1 zw1 (hI.1).g (Mod.refl _ _))) (upd_same V 6 _))
            · intro D V zw1 a hR hI K hK   -- 7: Op.move (Operand.tmp 9)
              obtain ⟨hM1, hB1, hG1⟩ := hI.1
              have zd2 := hR.pred 2 (by kernel_rfl)
              have zF2 : V 2 = .bool false := hI.2 2 zd2 rfl
              have zf2 := zF2; clear zF2
              have ze35 := hR.frame.done (t := 35) (j := 2) (by kernel_rfl) hR.ok zd2
              rw [if_neg (by simp [Region.wanted, yielded, ze35, zf2])]
              exact hK undef _ (hI.next hR (by kernel_rfl) (Mod.refl _ _) (PB.quiet hI.1 (Mod.refl _ _) (HGs.out D 7 zw1 zw1 (hI.1).g (Mod.refl _ _))) (upd_same V 7 _))
            · intro D V zw1 a hR hI K hK   -- 8: Op.indexAddr 26 (Operand.tmp 39) (Operand.tmp 40)
              obtain ⟨hM1, hB1, hG1⟩ := hI.1
              have zd2 := hR.pred 2 (by kernel_rfl)
              have zF2 : V 2 = .bool false := hI.2 2 zd2 rfl
              have zf2 := zF2; clear zF2
              have ze35 := hR.frame.done (t := 35) (j := 2) (by kernel_rfl) hR.ok zd2
              rw [if_neg (by simp [Region.wanted, yielded, ze35, zf2])]
              exact hK undef _ (hI.next hR (by kernel_rfl) (Mod.refl _ _) (PB.quiet hI.1 (Mod.refl _ _) (HGs.out D 8 zw1 zw1 (hI.1).g (Mod.refl _ _))) (upd_same V 8 _))
            · intro D V zw1 a hR hI K hK   -- 9: Op.load 59 (Operand.tmp 41)
              obtain ⟨hM1, hB1, hG1⟩ := hI.1
              have zd2 := hR.pred 2 (by kernel_rfl)
              have zF2 : V 2 = .bool false := hI.2 2 zd2 rfl
              have zf2 := zF2; clear zF2
              have ze35 := hR.frame.done (t := 35) (j := 2) (by kernel_rfl) hR.ok zd2
              rw [if_neg (by simp [Region.wanted, yielded, ze35, zf2])]
              exact hK undef _ (hI.next hR (by kernel_rfl) (Mod.refl _ _) (PB.quiet hI.1 (Mod.refl _ _) (HGs.out D 9 zw1 zw1 (hI.1).g (Mod.refl _ _))) (upd_same V 9 _))
            · intro D V zw1 a hR hI K hK   -- 10: Op.load 59 (Operand.tmp 8)
              obtain ⟨hM1, hB1, hG1⟩ := hI.1
              have zd2 := hR.pred 2 (by kernel_rfl)
              have zF2 : V 2 = .bool false := hI.2 2 zd2 rfl
              have zf2 := zF2; clear zF2
              have ze35 := hR.frame.done (t := 35) (j := 2) (by kernel_rfl) hR.ok zd2
              rw [if_neg (by simp [Region.wanted, yielded, ze35, zf2])]
              exact hK undef _ (hI.next hR (by kernel_rfl) (Mod.refl _ _) (PB.quiet hI.1 (Mod.refl _ _) (HGs.out D 10 zw1 zw1 (hI.1).g (Mod.refl _ _))) (upd_same V 10 _))
            · intro D V zw1 a hR hI K hK   -- 11: Op.binOp BinOp.neq 59 (Operand.tmp 42) (Operand.tmp 43) 59
              obtain ⟨hM1, hB1, hG1⟩ := hI.1
              have zd2 := hR.pred 2 (by kernel_rfl)
              have zF2 : V 2 = .bool false := hI.2 2 zd2 rfl
              have zf2 := zF2; clear zF2
              have ze35 := hR.frame.done (t := 35) (j := 2) (by kernel_rfl) hR.ok zd2
              rw [if_neg (by simp [Region.wanted, yielded, ze35, zf2])]
              exact hK undef _ (hI.next hR (by kernel_rfl) (Mod.refl _ _) (PB.quiet hI.1 (Mod.refl _ _) (HGs.out D 11 zw1 zw1 (hI.1).g (Mod.refl _ _))) (upd_same V 11 _))
            · intro D V zw1 a hR hI K hK   -- 12: Op.pick (Operand.tmp 35) (Operand.tmp 44) (Operand.const (Value.bool f
              obtain ⟨hM1, hB1, hG1⟩ := hI.1
              have zd2 := hR.pred 2 (by kernel_rfl)
              have zF2 : V 2 = .bool false := hI.2 2 zd2 rfl
              have zf2 := zF2; clear zF2
              have zd11 := hR.pred 11 (by kernel_rfl)
              have zF11 : V 11 = undef := hI.2 11 zd11 rfl
              have zf11 := zF11; clear zF11
              have ze35 := hR.frame.done (t := 35) (j := 2) (by kernel_rfl) hR.ok zd2
              have ze44 := hR.frame.done (t := 44) (j := 11) (by kernel_rfl) hR.ok zd11
              rw [if_pos (by rfl)]
              go_simp
              exact hK (.bool false) _ (hI.next hR (by kernel_rfl) (Mod.refl _ _) (PB.quiet hI.1 (Mod.refl _ _) (HGs.out D 12 zw1 zw1 (hI.1).g (Mod.refl _ _))) (upd_same V 12 _))
          · intro D V w6 hD hI
            obtain ⟨hM1, hB1, hG1⟩ := hI.1
            have hMx := hM1
            clear hM1
            have hBx := hB1
            clear hB1
            have hGx := hG1
            clear hG1
            have zF0 : V 0 = .int .i64 (-1) := hI.2 0 (hD 0 (by decide)) rfl
            have zf0 := zF0; clear zF0
            have zF1 : V 1 = .bool false := hI.2 1 (hD 1 (by decide)) rfl
            have zf1 := zF1; clear zF1
            have zF2 : V 2 = .bool false := hI.2 2 (hD 2 (by decide)) rfl
            have zf2 := zF2; clear zF2
            have zF3 : V 3 = undef := hI.2 3 (hD 3 (by decide)) rfl
            have zf3 := zF3; clear zF3
            have zF4 : V 4 = undef := hI.2 4 (hD 4 (by decide)) rfl
            have zf4 := zF4; clear zF4
            have zF5 : V 5 = undef := hI.2 5 (hD 5 (by decide)) rfl
            have zf5 := zF5; clear zF5
            have zF6 : V 6 = undef := hI.2 6 (hD 6 (by decide)) rfl
            have zf6 := zF6; clear zF6
            have zF7 : V 7 = undef := hI.2 7 (hD 7 (by decide)) rfl
            have zf7 := zF7; clear zF7
            have zF8 : V 8 = undef := hI.2 8 (hD 8 (by decide)) rfl
            have zf8 := zF8; clear zF8
            have zF9 : V 9 = undef := hI.2 9 (hD 9 (by decide)) rfl
            have zf9 := zF9; clear zF9
            have zF10 : V 10 = undef := hI.2 10 (hD 10 (by decide)) rfl
            have zf10 := zF10; clear zF10
            have zF11 : V 11 = undef := hI.2 11 (hD 11 (by decide)) rfl
            have zf11 := zF11; clear zF11
            have zF12 : V 12 = .bool false := hI.2 12 (hD 12 (by decide)) rfl
            have zf12 := zF12; clear zF12
            clear hI hD HGs
            simp only [frAll, Act.put, List.setIfInBounds_toArray, List.set_cons_zero, List.set_cons_succ, Nat.zero_add, Nat.reduceAdd, zf0, zf1, zf2, zf3, zf4, zf5, zf6, zf7, zf8, zf9, zf10, zf11, zf12]
            clear zf0 zf1 zf2 zf3 zf4 zf5 zf6 zf7 zf8 zf9 zf10 zf11 zf12
            clear V D
            have hm6 := HP5.out.trans hMx
            have own6 := own_pure HOW5.out hMx
            have hB6 := HBI2.out.modp hMx
            have hbs6 : base ≤ w6.heap.size := by have := hMx.size; omega
            clear HOW5 HP5 HBI2 hMx
            have d0 := hB6.cell 0; have d1 := hB6.cell 1; have d2 := hB6.cell 2; have d3 := hB6.cell 3; have d4 := hB6.cell 4; have d5 := hB6.cell 5; have d6 := hB6.cell 6; simp at d0 d1 d2 d3 d4 d5 d6
            clear hB6
            have hcl2 : cur.length ≤ 2000 := hnj
            go_wp2_with (at_builtin; refine wpList_append_lies _ rfl _ _ _ rfl base 59 i0 _ 7 96 Tryz.underlying26 hi0 hz0 hz1 hz2 rfl (by omega) (.slice Ao cur.length cap) cur.length (itV cur) rfl (own6.alloc _) ⟨w6.heap.size, 0, none⟩ 1 1 [.string ⟨x.id.toArray⟩, .string ⟨x.cust.toArray⟩, .int .i64 x.kind, .string ⟨x.name.toArray⟩, .int .i64 x.tm, .string ⟨x.par.toArray⟩, .string ⟨x.text.toArray⟩] rfl rfl (World.news_of_block (cs := #[.string ⟨x.id.toArray⟩, .string ⟨x.cust.toArray⟩, .int .i64 x.kind, .string ⟨x.name.toArray⟩, .int .i64 x.tm, .string ⟨x.par.toArray⟩, .string ⟨x.text.toArray⟩]) (t := 59) (fr := (0, 0)) (heap_alloc_new w6 _)) (by simp [Value.oneCell']) (by omega) (by simp [maxLen]; omega) (by omega) (by have := hm6.size; simp; omega) (w6.heap.size + 1) (by simp) ?_; intro g5 cap5 w5 hown5 hgrow hat hlt5)
            go_roundg (m.length - (j + 1))
            case measure => omega
            case rel =>
              refine ⟨j + 1, some ⟨g5, 0, none⟩, cap5, rfl, by omega, by rw [HTJ.out]; simp, by simp, HCQ.out, ?_, (hm6.alloc _).grown hgrow (fun k hk => .inr (by have := own_block own6 k hk; omega)), by have := hgrow.size; simp at this; omega⟩
              rw [HTJ.out, HIV.out]
              simpa using hown5
    · obtain rfl : j = m.length := by omega
      rw [List.take_length] at hcl hown ⊢
      have HCF : Hid (m.any (clash l) = false) := Lib.hid (any_false_iff.2 hcl)
      have HSW := Lib.hid (HSRT.out _ _ (Sl.of_own hown) (own_own0 hown))
      have HM := Lib.hid hmm
      have hB := HBX.out _ hmm
      have hll : (l ++ newsI l m).length = l.length + (newsI l m).length := List.length_append
      have HBX2 := Lib.hid (HBX.out _ hmm)
      have hwx := hmm.size
      unfold RsoPost at HSW
      clear hcl hown hmm HCELL HPL HTK HRY HSRT
      generalize l ++ newsI l m = al at *
      rw [hll]
      rw [hll] at HSW
      have e1 : IntKind.i64.wrap ((l.length : Int) + ((newsI l m).length : Int) - (l.length : Int)) = ((newsI l m).length : Int) := by
        rw [show (l.length : Int) + ((newsI l m).length : Int) - (l.length : Int) = ((newsI l m).length : Int) from by omega]
        exact IntWalk.i64_in _ (by omega)
      have hcast : ((l.length + (newsI l m).length : Nat) : Int) = (l.length : Int) + ((newsI l m).length : Int) := by omega
      have hle : ¬ ((2000 : Int) < (l.length : Int) + ((newsI l m).length : Int)) := by omega
      have HJE2 : Hid (joinE l m = storeE (joinL l m)) := Lib.hid (by rw [HJE.out, HCF.out]; rfl)
      have y0 := hB.cell 0; simp at y0
      clear hB HJE HCF
      generalize (newsI l m).length = nn at *
      go_wp2_with fail
      refine HSW.out.mono ?_
      rintro e w2 ⟨v2, ys, rfl, hp, hr, hown2, m2⟩
      have HE : Hid (ys = joinL l m) := Lib.hid (HUQ.out ys hp hr)
      rw [HE.out] at hown2
      have HSF2 := Lib.hid (HSF.out w2 v2 (Sl.of_own hown2))
      have HOW2 := Lib.hid hown2
      have HM2 := Lib.hid (HM.out.trans m2)
      have HB2 := Lib.hid (HBX2.out.modp m2)
      clear HSW HM HBX2 hp hr hown2 m2 HUQ HSF e1 y0
      generalize storeE (joinL l m) = se at *
      go_wp2_with fail
      refine HSF2.out.mono ?_
      rintro e w3 ⟨rfl, m3⟩
      have HOW3 := Lib.hid (own_pure HOW2.out m3)
      have HM3 := Lib.hid (HM2.out.trans m3)
      have HB3 := Lib.hid (HB2.out.modp m3)
      clear HSF2 HOW2 HM2 HB2 m3
      by_cases h0 : se = 0
      · subst h0
        have HA2 : Hid (joinK l m = (nn : Int)) := Lib.hid (by rw [HJK.out, if_pos HJE2.out])
        have HA3 : Hid (joinN l m = joinL l m) := Lib.hid (by rw [HJN.out, if_pos HJE2.out])
        have hne : ∀ k, v2.ownBlock = some k → k ≠ gx := fun k hk => by have := own_block HOW3.out k hk; omega
        have hms : Mod (· = gx) w3 (w3.setCell ⟨gx, 0, none⟩ v2) := Mod.setCell (S := fun j => j = gx) (p := ⟨gx, 0, none⟩) (Mod.refl _ _) (.inl rfl) _
        have HS5 : Hid (RSto (w3.setCell ⟨gx, 0, none⟩ v2) gx v2 (joinL l m)) := Lib.hid ⟨HB3.out.set 0 _, Sl.of_own (own_mod HOW3.out hms (fun g hg hk => hne g hg hk)), own_own0 HOW3.out⟩
        have HM5 : Hid (Mod (· = gx) w (w3.setCell ⟨gx, 0, none⟩ v2)) := Lib.hid (Mod.setCell (S := fun j => j = gx) (p := ⟨gx, 0, none⟩) (Mod.of_pure HM3.out) (.inl rfl) _)
        have hone : ∃ A n c, v2 = .slice A n c := (Sl.of_own HOW3.out).form
        obtain ⟨A9, n9, c9, rfl⟩ := hone
        have hB3 := HB3.out
        have y0 := hB3.cell 0; have yf0 := hB3.frozen 0; simp at y0
        clear hne hms HOW3 HM3 HB3 hB3
        go_wp2_with fail
        refine bodyPost_ret (v := .tuple #[.int .i64 (nn : Int), .int .i64 0]) (by simp [results, Tryz.results34, go_sem]) rfl ?_
        refine ⟨by rw [HJE2.out, HA2.out], ⟨.slice A9 n9 c9, ?_⟩, HM5.out⟩
        rw [HA3.out]
        exact HS5.out
      · have h0' : (se != 0) = true := by simpa using h0
        have HA2 : Hid (joinK l m = 0) := Lib.hid (by rw [HJK.out, if_neg (by rw [HJE2.out]; exact h0)])
        have HA3 : Hid (joinN l m = l) := Lib.hid (by rw [HJN.out, if_neg (by rw [HJE2.out]; exact h0)])
        have HS3 := Lib.hid (HS0.out _ HM3.out)
        clear h0 HOW3 HB3
        go_wp2_with fail
        refine bodyPost_ret (v := .tuple #[.int .i64 0, .int .i64 se]) (by simp [results, Tryz.results34, go_sem]) rfl ?_
        refine ⟨by rw [HJE2.out, HA2.out], ⟨.slice A l.length c, ?_⟩, Mod.of_pure HM3.out⟩
        rw [HA3.out]
        exact HS3.out

end Go.Proofs.YtbdeicbdehgeiaaGreatDoor
