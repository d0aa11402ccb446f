/- Texts of the proof of DecisionChecks, put together: LawDecisionChecks. -/
import Derived.Test.YtkkndblcejmmjaaGreatDoorDecisionChecksZ22
import Derived.Test.YtkkndblcejmmjaaGreatDoorDecisionChecksZ28
import Derived.Test.YtkkndblcejmmjaaGreatDoorDecisionChecksZ30
/- The law DecisionChecks. -/
namespace Go.Proofs.YtkkndblcejmmjaaGreatDoor
set_option linter.unusedVariables false
set_option linter.unusedSimpArgs false
open Go.RowKit

theorem decEq_key (x y : DecR) : decEq x y = true ↔ x.key = y.key := by
  rw [decEq_iff]
  unfold DecR.like DecR.key likes
  simp
theorem likesD_iff {xs ys : List DecR} : eqL decEq xs ys = true ↔ likesD xs ys := eqL_map decEq_key
/-- A string out of a row of some. -/
theorem strs_cell {W : World} {g q M : Nat} (ss : List Str) (h : Blk W g 9 (strsV ss).toArray) (hq : q < ss.length) (hM : ∀ s ∈ ss, s.length ≤ M) : ∃ s : Str, s.length ≤ M ∧ W.cell? ⟨g, q, none⟩ = some (.string ⟨s.toArray⟩) :=
  ⟨ss[q], hM _ (List.getElem_mem hq), by rw [h.cell q]; simpa using strsV_get ss q hq⟩
/-- Decisions that do not lie in block b, and are in a row of one's own. -/
def DcB (W : World) (b base : Nat) (A : Option Addr) (c : Nat) (ds : List DecR) : Prop := b < base ∧ W.ownsRow base 40 6 (.slice A ds.length c) ds.length (decV ds) ∧ ∀ x ∈ ds, VlsB W b (.slice x.A x.vals.length x.c) x.vals
section
variable {w w' : World} {b base c N : Nat} {A : Option Addr} {ds : List DecR}
theorem DcB.of (h : DcG w base A c ds) (hb : b < base) (hS : Strm w b N) : DcB w b base A c ds := ⟨hb, h.1, fun x hx => VlsB.of (h.2 x hx) hS⟩
theorem DcB.ask (h : DcB w b base A c ds) (hm : Mod (· = b) w w') : DcB w' b base A c ds := ⟨h.1, own_mod h.2.1 hm (fun i hi => by have := own_block h.2.1 i hi; have := h.1; omega), fun x hx => (h.2.2 x hx).ask hm⟩
theorem DcB.pure (h : DcB w b base A c ds) (hm : Pure w w') : DcB w' b base A c ds := ⟨h.1, own_pure h.2.1 hm, fun x hx => (h.2.2 x hx).pure hm⟩
theorem DcB.decs (h : DcB w b base A c ds) : Decs w (.slice A ds.length c) ds := ⟨Sl.of_own h.2.1, fun x hx => (h.2.2 x hx).1⟩
end

set_option maxRecDepth 100000 in
set_option maxHeartbeats 16000000 in
theorem DecisionChecks_calls (w : World) (A : Option Addr) (n c : Nat) (hA : ArgInts w A n) (hM : MlnS w) (hT : Asc w) : Calls Tryz.prog 3 #[.slice A n c] w (BoolPost w true) := by
  have hS0 := strm_new (c := c) hA
  have HMT : Hid (∀ w1, Pure w w1 → MlnS w1 ∧ Asc w1) := Lib.hid (fun _ h => ⟨hM.pure h, hT.pure h⟩)
  obtain ⟨b, hb⟩ : ∃ b, b = w.heap.size := ⟨_, rfl⟩
  have P0 := pure_alloc w (.cells #[.slice A n c, .int .i64 0] 25)
  have HPS : Hid (∀ {w1 w' : World}, Pure w w1 → Mod (· = b) w1 w' → Pure w w') := Lib.hid (fun k h => k.trans' h (fun i hi hlt => by omega))
  rw [← hb] at hS0
  clear hM hT hA
  go_enter Tryz.func3, Tryz.ntmps3
  go_wp2_with fail
  rw [← hb]
  generalize (w.alloc (.cells #[.slice A n c, .int .i64 0] 25)) = w0 at *
  clear hb
  refine (layout_calls w0 b _ hS0 (by omega)).mono ?_
  rintro e w1 ⟨Aa, Ar, na, ca, nr, cr, L, rfl, hL, hla, hlr, hab, hrb, hS1, hM1⟩
  have P1 := HPS.out P0 hM1
  have hLB : LayB L := ⟨by omega, by omega, hab, hrb⟩
  have HLB := Lib.hid hLB
  have hpl := pure_alloc w1 (.cells #[.slice Aa na ca, .slice Ar nr cr] 29)
  have HG := Lib.hid (Blk.new w1 29 #[.slice Aa na ca, .slice Ar nr cr])
  have HP2 := Lib.hid (P1.trans hpl)
  have hS2 := hS1.alloc (.cells #[.slice Aa na ca, .slice Ar nr cr] 29)
  have HLV : Hid (∀ W, Mod (· = b) (w1.alloc (.cells #[.slice Aa na ca, .slice Ar nr cr] 29)) W → LayV W L (.agg #[.slice Aa na ca, .slice Ar nr cr])) := Lib.hid (fun W h => (hL.pure hpl).strm hS2 h)
  have hb1 := hS1.lt
  clear hS0 P0 hM1 hL hab hrb hLB P1 hpl hS1
  go_upto_region 3 with (fail)
  generalize (w1.alloc (.cells #[.slice Aa na ca, .slice Ar nr cr] 29)) = w2 at *
  generalize w1.heap.size = gl at *
  clear w0 w1
  have HGs := Lib.hid (show ∀ (D : Nat → Bool) (zzi : Nat) (zq zq' : World), (fun _ zq => (fun Z => Blk Z gl 29 #[.slice Aa na ca, .slice Ar nr cr]) zq) D zq → Mod (· = b) zq zq' → (fun _ zq => (fun Z => Blk Z gl 29 #[.slice Aa na ca, .slice Ar nr cr]) zq) (upd D zzi true) zq' from by intro D zzi zq zq' h hm; (exact h.modb hm (by omega)))
  refine wp_region_inv (by kernel_rfl) (by kernel_rfl) (InvF (R := Mod (· = b)) [.is (.pointer (some ⟨b, 0, none⟩)),
      .is (.agg #[.slice Aa na ca, .slice Ar nr cr]),
      .is (.pointer (some ⟨b, 0, none⟩)),
      .val (fun zv => ∃ (q_3 : Nat), zv = .int .i64 (q_3 : Int) ∧ q_3 ≤ 6),
      ⟨fun zv zw => ∃ (base_4 : Nat) (c_4 : Nat) (A_4 : Option Addr) (ds_4 : List DecR), zv = .slice A_4 ds_4.length c_4 ∧ w2.heap.size ≤ base_4 ∧ ds_4.length ≤ 6 ∧ (∀ x ∈ ds_4, DecB x) ∧ DcB zw b base_4 A_4 c_4 ds_4, (by rintro zv zw zx ⟨base_4, c_4, A_4, ds_4, rfl, c0, c1, c2, q0⟩ hm; exact ⟨base_4, c_4, A_4, ds_4, rfl, c0, c1, c2, (q0.ask hm)⟩), none, none⟩,
      ⟨fun zv zw => ∃ (base_5 : Nat) (c_5 : Nat) (A_5 : Option Addr) (ds_5 : List DecR), zv = .slice A_5 ds_5.length c_5 ∧ w2.heap.size ≤ base_5 ∧ ds_5.length ≤ 6 ∧ (∀ x ∈ ds_5, DecB x) ∧ DcB zw b base_5 A_5 c_5 ds_5, (by rintro zv zw zx ⟨base_5, c_5, A_5, ds_5, rfl, c0, c1, c2, q0⟩ hm; exact ⟨base_5, c_5, A_5, ds_5, rfl, c0, c1, c2, (q0.ask hm)⟩), none, none⟩]
      (GB w2 (· = b) w2.heap.size b ((0 + 100)) (fun D => (D 3).toNat + 3000 * (D 4).toNat) (fun _ zq => (fun Z => Blk Z gl 29 #[.slice Aa na ca, .slice Ar nr cr]) zq))) (InvF.start (GB.start (hS2.more (by omega)) (Mod.refl _ _) (Nat.le_refl _) (HG.out.drew))) ?_ ?_
  · refine .cons ?_ (.cons ?_ (.cons ?_ (.cons ?_ (.cons ?_ (.cons ?_ .nil)))))
    · intro D V zw1 a hR hI K hK
      obtain ⟨hS1, hM1, hB1, hG1⟩ := hI.1
      have ze3 := hR.frame.other (t := 3) (by kernel_rfl) rfl
      rw [if_pos (by rfl)]
      go_simp
      exact hK (.pointer (some ⟨b, 0, none⟩)) _ (hI.next hR (by kernel_rfl) (Mod.refl _ _) (GB.quiet hI.1 (Mod.refl _ _) (by have hn := hR.not; simp [upd, hn] <;> omega) (HGs.out D 0 zw1 zw1 (hI.1).g (Mod.refl _ _))) (upd_same V 0 _))
    · intro D V zw1 a hR hI K hK
      obtain ⟨hS1, hM1, hB1, hG1⟩ := hI.1
      have ze4 := hR.frame.other (t := 4) (by kernel_rfl) rfl
      have zx0 := hG1.cell 0; have zx1 := hG1.cell 1
      simp at zx0 zx1
      rw [if_pos (by rfl)]
      go_simp
      exact hK (.agg #[.slice Aa na ca, .slice Ar nr cr]) _ (hI.next hR (by kernel_rfl) (Mod.refl _ _) (GB.quiet hI.1 (Mod.refl _ _) (by have hn := hR.not; simp [upd, hn] <;> omega) (HGs.out D 1 zw1 zw1 (hI.1).g (Mod.refl _ _))) (upd_same V 1 _))
    · intro D V zw1 a hR hI K hK
      obtain ⟨hS1, hM1, hB1, hG1⟩ := hI.1
      have ze3 := hR.frame.other (t := 3) (by kernel_rfl) rfl
      rw [if_pos (by rfl)]
      go_simp
      exact hK (.pointer (some ⟨b, 0, none⟩)) _ (hI.next hR (by kernel_rfl) (Mod.refl _ _) (GB.quiet hI.1 (Mod.refl _ _) (by have hn := hR.not; simp [upd, hn] <;> omega) (HGs.out D 2 zw1 zw1 (hI.1).g (Mod.refl _ _))) (upd_same V 2 _))
    · intro D V zw1 a hR hI K hK
      obtain ⟨hS1, hM1, hB1, hG1⟩ := hI.1
      have zd2 := hR.pred 2 (by kernel_rfl)
      have zF2 : V 2 = .pointer (some ⟨b, 0, none⟩) := hI.2 2 zd2 rfl
      have zf2 := zF2; clear zF2
      have ze19 := hR.frame.done (t := 19) (j := 2) (by kernel_rfl) hR.ok zd2
      rw [if_pos (by rfl)]
      have := Bool.toNat_le (D 3)
      have := Bool.toNat_le (D 4)
      have hNB : (0 + 100) + ((D 3).toNat + 3000 * (D 4).toNat) ≤ 1000000000 := by omega
      skip
      go_simp
      refine (range_calls _ _ _ _ _ hS1 hNB (by omega) (by omega) (by omega)).mono ?_
      rintro e zw2 ⟨k_0, hk1, hk2, rfl, hS2, hm2⟩
      obtain ⟨q_0, rfl⟩ := Int.eq_ofNat_of_zero_le hk1
      exact hK (.int .i64 (q_0 : Int)) _ (hI.next hR (by kernel_rfl) hm2 (GB.asks hI.1 (fun _ h _ => h) hS2 hm2 (by have hn := hR.not; simp [upd, hn] <;> omega) (HGs.out D 3 _ _ (hI.1).g hm2)) (⟨q_0, upd_same V 3 _, (by first | assumption | omega)⟩))
    · intro D V zw1 a hR hI K hK
      obtain ⟨hS1, hM1, hB1, hG1⟩ := hI.1
      have zd0 := hR.pred 0 (by kernel_rfl)
      have zF0 : V 0 = .pointer (some ⟨b, 0, none⟩) := hI.2 0 zd0 rfl
      have zf0 := zF0; clear zF0
      have zd1 := hR.pred 1 (by kernel_rfl)
      have zF1 : V 1 = .agg #[.slice Aa na ca, .slice Ar nr cr] := hI.2 1 zd1 rfl
      have zf1 := zF1; clear zF1
      have zd3 := hR.pred 3 (by kernel_rfl)
      have zF3 : ∃ (q_3 : Nat), V 3 = .int .i64 (q_3 : Int) ∧ q_3 ≤ 6 := hI.2 3 zd3 rfl
      obtain ⟨q_3, zf3, c3_0⟩ := zF3
      have ze17 := hR.frame.done (t := 17) (j := 0) (by kernel_rfl) hR.ok zd0
      have ze18 := hR.frame.done (t := 18) (j := 1) (by kernel_rfl) hR.ok zd1
      have ze20 := hR.frame.done (t := 20) (j := 3) (by kernel_rfl) hR.ok zd3
      rw [if_pos (by rfl)]
      have := Bool.toNat_le (D 3)
      have := Bool.toNat_le (D 4)
      have hNB : (0 + 100) + ((D 3).toNat + 3000 * (D 4).toNat) ≤ 1000000000 := by omega
      skip
      go_simp
      refine (decisions_calls _ b _ _ L q_3 hS1 (by omega) (by omega) (HLV.out _ hM1) hla HLB.out).mono ?_
      rintro e zw2 ⟨base_0, c_0, A_0, ds_0, rfl, hbb, hwb, hdg, hdl, hdz, hS2, hm2⟩
      exact hK (.slice A_0 ds_0.length c_0) _ (hI.next hR (by kernel_rfl) hm2 (GB.asks hI.1 (fun _ h _ => h) hS2 hm2 (by have hn := hR.not; simp [upd, hn] <;> omega) (HGs.out D 4 _ _ (hI.1).g hm2)) (⟨base_0, c_0, A_0, ds_0, upd_same V 4 _, (by omega), (by omega), hdz, (DcB.of hdg hbb hS2)⟩))
    · intro D V zw1 a hR hI K hK
      obtain ⟨hS1, hM1, hB1, hG1⟩ := hI.1
      have zd4 := hR.pred 4 (by kernel_rfl)
      have zF4 : ∃ (base_4 : Nat) (c_4 : Nat) (A_4 : Option Addr) (ds_4 : List DecR), V 4 = .slice A_4 ds_4.length c_4 ∧ w2.heap.size ≤ base_4 ∧ ds_4.length ≤ 6 ∧ (∀ x ∈ ds_4, DecB x) ∧ DcB zw1 b base_4 A_4 c_4 ds_4 := hI.2 4 zd4 rfl
      obtain ⟨base_4, c_4, A_4, ds_4, zf4, c4_0, c4_1, c4_2, b4_0⟩ := zF4
      have ze21 := hR.frame.done (t := 21) (j := 4) (by kernel_rfl) hR.ok zd4
      rw [if_pos (by rfl)]
      go_simp
      exact hK (.slice A_4 ds_4.length c_4) _ (hI.next hR (by kernel_rfl) (Mod.refl _ _) (GB.quiet hI.1 (Mod.refl _ _) (by have hn := hR.not; simp [upd, hn] <;> omega) (HGs.out D 5 zw1 zw1 (hI.1).g (Mod.refl _ _))) (⟨base_4, c_4, A_4, ds_4, upd_same V 5 _, (by first | assumption | omega), (by first | assumption | omega), (by first | assumption | omega), b4_0⟩))
  · intro D V w3 hD hI
    obtain ⟨hS1, hM1, hB1, hG1⟩ := hI.1
    have hSx : Strm w3 b ((0 + 100) + 3001) := hS1.more (by show _ ≤ _; have := Bool.toNat_le (D 3); have := Bool.toNat_le (D 4); omega)
    clear hS1
    have hMx := hM1
    clear hM1
    have hBx := hB1
    clear hB1
    have hGx := hG1
    clear hG1
    have zF0 : V 0 = .pointer (some ⟨b, 0, none⟩) := hI.2 0 (hD 0 (by decide)) rfl
    have zf0 := zF0; clear zF0
    have zF1 : V 1 = .agg #[.slice Aa na ca, .slice Ar nr cr] := hI.2 1 (hD 1 (by decide)) rfl
    have zf1 := zF1; clear zF1
    have zF2 : V 2 = .pointer (some ⟨b, 0, none⟩) := hI.2 2 (hD 2 (by decide)) rfl
    have zf2 := zF2; clear zF2
    have zF3 : ∃ (q_3 : Nat), V 3 = .int .i64 (q_3 : Int) ∧ q_3 ≤ 6 := hI.2 3 (hD 3 (by decide)) rfl
    obtain ⟨q_3, zf3, c3_0⟩ := zF3
    have zF4 : ∃ (base_4 : Nat) (c_4 : Nat) (A_4 : Option Addr) (ds_4 : List DecR), V 4 = .slice A_4 ds_4.length c_4 ∧ w2.heap.size ≤ base_4 ∧ ds_4.length ≤ 6 ∧ (∀ x ∈ ds_4, DecB x) ∧ DcB w3 b base_4 A_4 c_4 ds_4 := hI.2 4 (hD 4 (by decide)) rfl
    obtain ⟨base_4, c_4, A_4, ds_4, zf4, c4_0, c4_1, c4_2, b4_0⟩ := zF4
    have zF5 : ∃ (base_5 : Nat) (c_5 : Nat) (A_5 : Option Addr) (ds_5 : List DecR), V 5 = .slice A_5 ds_5.length c_5 ∧ w2.heap.size ≤ base_5 ∧ ds_5.length ≤ 6 ∧ (∀ x ∈ ds_5, DecB x) ∧ DcB w3 b base_5 A_5 c_5 ds_5 := hI.2 5 (hD 5 (by decide)) rfl
    obtain ⟨base_5, c_5, A_5, ds_5, zf5, c5_0, c5_1, c5_2, b5_0⟩ := zF5
    clear hI hD HGs
    simp only [frAll, Act.put, List.setIfInBounds_toArray, List.set_cons_zero, List.set_cons_succ, Nat.zero_add, Nat.reduceAdd, zf0, zf1, zf2, zf3, zf4, zf5]
    clear zf0 zf1 zf2 zf3 zf4 zf5
    clear V D
    have HDB := Lib.hid b5_0
    have HDZ := Lib.hid c5_2
    have HP3 := Lib.hid (HPS.out HP2.out hMx)
    have HM3 := Lib.hid hMx
    have HG3 := Lib.hid hGx
    have hdl : ds_5.length ≤ 6 := c5_1
    have hbg : gl < w3.heap.size := hGx.lt
    have hbw3 := hSx.lt
    clear b4_0 b5_0 c4_0 c4_1 c4_2 c5_0 c5_1 c5_2 c3_0 hMx hGx hBx HP2 HG hS2
    generalize ds_5 = ds at *
    generalize A_5 = A5 at *
    generalize c_5 = c5 at *
    generalize base_5 = base at *
    generalize hNx : 0 + 100 + 3001 = Nx at *
    have hNx2 : Nx ≤ 4000 := by omega
    clear hNx
    go_upto_region 4 with (fail)
    have HGs := Lib.hid (show ∀ (D : Nat → Bool) (zzi : Nat) (zq zq' : World), (fun _ zq => (fun Z => Blk Z gl 29 #[.slice Aa na ca, .slice Ar nr cr]) zq) D zq → Mod (· = b) zq zq' → (fun _ zq => (fun Z => Blk Z gl 29 #[.slice Aa na ca, .slice Ar nr cr]) zq) (upd D zzi true) zq' from by intro D zzi zq zq' h hm; (exact h.modb hm (by omega)))
    refine wp_region_inv (by kernel_rfl) (by kernel_rfl) (InvF (R := Mod (· = b)) [.is (.pointer (some ⟨b, 0, none⟩)),
        .val (fun zv => ∃ (k_1 : Int), zv = .int .i64 k_1 ∧ 0 ≤ k_1 ∧ k_1 ≤ 9),
        .is (.pointer (some ⟨b, 0, none⟩)),
        ⟨fun zv zw => ∃ (g_3 : Nat), zv = .slice (some ⟨g_3, 0, none⟩) 5 5 ∧ w3.heap.size ≤ g_3 ∧ Blk zw g_3 3 #[(.int .i64 5), (.int .i64 30), (.int .i64 0), (.int .i64 (-1)), (.int .i64 5761440)], (by rintro zv zw zx ⟨g_3, rfl, c0, q0⟩ hm; exact ⟨g_3, rfl, c0, (q0.modb hm (by omega))⟩), none, some 4⟩,
        .val (fun zv => ∃ (k_4 : Int), zv = .int .i64 k_4 ∧ -1 ≤ k_4 ∧ k_4 ≤ 5761440),
        ⟨fun zv zw => ∃ (g_5 : Nat), zv = .slice (some ⟨g_5, 0, none⟩) 4 4 ∧ w3.heap.size ≤ g_5 ∧ Blk zw g_5 9 #[(.string { data := #[97, 110, 110] }), (.string { data := #[98, 111, 98] }), (.string { data := #[] }), (.string { data := #[65] })], (by rintro zv zw zx ⟨g_5, rfl, c0, q0⟩ hm; exact ⟨g_5, rfl, c0, (q0.modb hm (by omega))⟩), none, some 9⟩,
        .is (.pointer (some ⟨b, 0, none⟩)),
        ⟨fun zv zw => ∃ (g_7 : Nat), zv = .slice (some ⟨g_7, 0, none⟩) 6 6 ∧ w3.heap.size ≤ g_7 ∧ Blk zw g_7 3 #[(.int .i64 0), (.int .i64 0), (.int .i64 1), (.int .i64 1), (.int .i64 2), (.int .i64 3)], (by rintro zv zw zx ⟨g_7, rfl, c0, q0⟩ hm; exact ⟨g_7, rfl, c0, (q0.modb hm (by omega))⟩), none, some 8⟩,
        .val (fun zv => ∃ (k_8 : Int), zv = .int .i64 k_8 ∧ 0 ≤ k_8 ∧ k_8 ≤ 3),
        ⟨fun zv zw => ∃ (g_9 : Nat) (q_9 : Nat), zv = .pointer (some ⟨g_9, q_9, none⟩) ∧ q_9 < 4 ∧ w3.heap.size ≤ g_9 ∧ Blk zw g_9 9 #[.string ⟨#[97, 110, 110]⟩, .string ⟨#[98, 111, 98]⟩, .string ⟨#[]⟩, .string ⟨#[65]⟩], (by rintro zv zw zx ⟨g_9, q_9, rfl, c0, c1, q0⟩ hm; exact ⟨g_9, q_9, rfl, c0, c1, (q0.modb hm (by omega))⟩), none, some 10⟩,
        .val (fun zv => ∃ (s_10 : Str), zv = .string ⟨s_10.toArray⟩ ∧ s_10.length ≤ 100),
        ⟨fun zv zw => ∃ (g_11 : Nat), zv = .slice (some ⟨g_11, 0, none⟩) 3 3 ∧ w3.heap.size ≤ g_11 ∧ Blk zw g_11 9 #[(.string { data := #[105, 97] }), (.string { data := #[105, 98] }), (.string { data := #[] })], (by rintro zv zw zx ⟨g_11, rfl, c0, q0⟩ hm; exact ⟨g_11, rfl, c0, (q0.modb hm (by omega))⟩), none, some 15⟩,
        .is (.pointer (some ⟨b, 0, none⟩)),
        ⟨fun zv zw => ∃ (g_13 : Nat), zv = .slice (some ⟨g_13, 0, none⟩) 4 4 ∧ w3.heap.size ≤ g_13 ∧ Blk zw g_13 3 #[(.int .i64 0), (.int .i64 0), (.int .i64 1), (.int .i64 2)], (by rintro zv zw zx ⟨g_13, rfl, c0, q0⟩ hm; exact ⟨g_13, rfl, c0, (q0.modb hm (by omega))⟩), none, some 14⟩,
        .val (fun zv => ∃ (k_14 : Int), zv = .int .i64 k_14 ∧ 0 ≤ k_14 ∧ k_14 ≤ 2),
        ⟨fun zv zw => ∃ (g_15 : Nat) (q_15 : Nat), zv = .pointer (some ⟨g_15, q_15, none⟩) ∧ q_15 < 3 ∧ w3.heap.size ≤ g_15 ∧ Blk zw g_15 9 #[.string ⟨#[105, 97]⟩, .string ⟨#[105, 98]⟩, .string ⟨#[]⟩], (by rintro zv zw zx ⟨g_15, q_15, rfl, c0, c1, q0⟩ hm; exact ⟨g_15, q_15, rfl, c0, c1, (q0.modb hm (by omega))⟩), none, some 16⟩,
        .val (fun zv => ∃ (s_16 : Str), zv = .string ⟨s_16.toArray⟩ ∧ s_16.length ≤ 100),
        .is (.pointer (some ⟨b, 0, none⟩)),
        .val (fun zv => ∃ (k_18 : Bool), zv = .bool k_18),
        .is (.pointer (some ⟨b, 0, none⟩)),
        .is (.agg #[.slice Aa na ca, .slice Ar nr cr]),
        ⟨fun zv zw => ∃ (A_21 : Option Addr) (c_21 : Nat) (cs_21 : List ChoR), zv = .slice A_21 cs_21.length c_21 ∧ cs_21.length ≤ 10 ∧ (∀ x ∈ cs_21, ChoB x) ∧ VlsB zw b (.slice A_21 cs_21.length c_21) cs_21, (by rintro zv zw zx ⟨A_21, c_21, cs_21, rfl, c0, c1, q0⟩ hm; exact ⟨A_21, c_21, cs_21, rfl, c0, c1, (q0.ask hm)⟩), none, some 22⟩,
        ⟨fun zv zw => ∃ (k_22 : Int) (ka_22 : Int) (s_22 : Str) (sa_22 : Str) (kb_22 : Bool) (A_22 : Option Addr) (c_22 : Nat) (cs_22 : List ChoR), zv = .agg #[.int .i64 k_22, .int .i64 ka_22, .string ⟨s_22.toArray⟩, .string ⟨sa_22.toArray⟩, .bool kb_22, .slice A_22 cs_22.length c_22] ∧ 0 ≤ k_22 ∧ k_22 ≤ 9 ∧ -1 ≤ ka_22 ∧ ka_22 ≤ 5761440 ∧ s_22.length ≤ 100 ∧ sa_22.length ≤ 100 ∧ cs_22.length ≤ 10 ∧ (∀ x ∈ cs_22, ChoB x) ∧ VlsB zw b (.slice A_22 cs_22.length c_22) cs_22, (by rintro zv zw zx ⟨k_22, ka_22, s_22, sa_22, kb_22, A_22, c_22, cs_22, rfl, c0, c1, c2, c3, c4, c5, c6, c7, q0⟩ hm; exact ⟨k_22, ka_22, s_22, sa_22, kb_22, A_22, c_22, cs_22, rfl, c0, c1, c2, c3, c4, c5, c6, c7, (q0.ask hm)⟩), none, some 24⟩,
        ⟨fun zv zw => ∃ (g_23 : Nat), zv = .pointer (some ⟨g_23, 0, none⟩) ∧ w3.heap.size ≤ g_23 ∧ Blk zw g_23 40 #[.int .i64 0, .int .i64 0, .string ⟨#[]⟩, .string ⟨#[]⟩, .bool false, .slice none 0 0], (by rintro zv zw zx ⟨g_23, rfl, c0, q0⟩ hm; exact ⟨g_23, rfl, c0, (q0.modb hm (by omega))⟩), none, some 24⟩,
        ⟨fun zv zw => ∃ (g_24 : Nat) (k_24 : Int) (ka_24 : Int) (s_24 : Str) (sa_24 : Str) (kb_24 : Bool) (A_24 : Option Addr) (c_24 : Nat) (cs_24 : List ChoR), zv = .pointer (some ⟨g_24, 0, none⟩) ∧ w3.heap.size ≤ g_24 ∧ 0 ≤ k_24 ∧ k_24 ≤ 9 ∧ -1 ≤ ka_24 ∧ ka_24 ≤ 5761440 ∧ s_24.length ≤ 100 ∧ sa_24.length ≤ 100 ∧ cs_24.length ≤ 10 ∧ (∀ x ∈ cs_24, ChoB x) ∧ Blk zw g_24 40 #[.int .i64 k_24, .int .i64 ka_24, .string ⟨s_24.toArray⟩, .string ⟨sa_24.toArray⟩, .bool kb_24, .slice A_24 cs_24.length c_24] ∧ VlsB zw b (.slice A_24 cs_24.length c_24) cs_24, (by rintro zv zw zx ⟨g_24, k_24, ka_24, s_24, sa_24, kb_24, A_24, c_24, cs_24, rfl, c0, c1, c2, c3, c4, c5, c6, c7, c8, q0, q1⟩ hm; exact ⟨g_24, k_24, ka_24, s_24, sa_24, kb_24, A_24, c_24, cs_24, rfl, c0, c1, c2, c3, c4, c5, c6, c7, c8, (q0.modb hm (by omega)), (q1.ask hm)⟩), some 23, none⟩]
        (GB w3 (· = b) w3.heap.size b (Nx) (fun D => (D 1).toNat + (D 4).toNat + (D 8).toNat + (D 14).toNat + (D 18).toNat + 400 * (D 21).toNat) (fun _ zq => (fun Z => Blk Z gl 29 #[.slice Aa na ca, .slice Ar nr cr]) zq))) (InvF.start (GB.start hSx (Mod.refl _ _) (Nat.le_refl _) (HG3.out.drew))) ?_ ?_
    · refine .cons ?_ (.cons ?_ (.cons ?_ (.cons ?_ (.cons ?_ (.cons ?_ (.cons ?_ (.cons ?_ (.cons ?_ (.cons ?_ (.cons ?_ (.cons ?_ (.cons ?_ (.cons ?_ (.cons ?_ (.cons ?_ (.cons ?_ (.cons ?_ (.cons ?_ (.cons ?_ (.cons ?_ (.cons ?_ (.cons ?_ (.cons ?_ (.cons ?_ .nil))))))))))))))))))))))))
      · intro D V zw1 a hR hI K hK
        obtain ⟨hS1, hM1, hB1, hG1⟩ := hI.1
        have ze3 := hR.frame.other (t := 3) (by kernel_rfl) rfl
        rw [if_pos (by rfl)]
        go_simp
        exact hK (.pointer (some ⟨b, 0, none⟩)) _ (hI.next hR (by kernel_rfl) (Mod.refl _ _) (GB.quiet hI.1 (Mod.refl _ _) (by have hn := hR.not; simp [upd, hn] <;> omega) (HGs.out D 0 zw1 zw1 (hI.1).g (Mod.refl _ _))) (upd_same V 0 _))
      · intro D V zw1 a hR hI K hK
        obtain ⟨hS1, hM1, hB1, hG1⟩ := hI.1
        have zd0 := hR.pred 0 (by kernel_rfl)
        have zF0 : V 0 = .pointer (some ⟨b, 0, none⟩) := hI.2 0 zd0 rfl
        have zf0 := zF0; clear zF0
        have ze22 := hR.frame.done (t := 22) (j := 0) (by kernel_rfl) hR.ok zd0
        rw [if_pos (by rfl)]
        have := Bool.toNat_le (D 1)
        have := Bool.toNat_le (D 4)
        have := Bool.toNat_le (D 8)
        have := Bool.toNat_le (D 14)
        have := Bool.toNat_le (D 18)
        have := Bool.toNat_le (D 21)
        have hNB : Nx + ((D 1).toNat + (D 4).toNat + (D 8).toNat + (D 14).toNat + (D 18).toNat + 400 * (D 21).toNat) ≤ 1000000000 := by omega
        skip
        go_simp
        refine (range_calls _ _ _ _ _ hS1 hNB (by omega) (by omega) (by omega)).mono ?_
        rintro e zw2 ⟨k_0, hk1, hk2, rfl, hS2, hm2⟩
        exact hK (.int .i64 k_0) _ (hI.next hR (by kernel_rfl) hm2 (GB.asks hI.1 (fun _ h _ => h) hS2 hm2 (by have hn := hR.not; simp [upd, hn] <;> omega) (HGs.out D 1 _ _ (hI.1).g hm2)) (⟨k_0, upd_same V 1 _, hk1, hk2⟩))
      · intro D V zw1 a hR hI K hK
        obtain ⟨hS1, hM1, hB1, hG1⟩ := hI.1
        have ze3 := hR.frame.other (t := 3) (by kernel_rfl) rfl
        rw [if_pos (by rfl)]
        go_simp
        exact hK (.pointer (some ⟨b, 0, none⟩)) _ (hI.next hR (by kernel_rfl) (Mod.refl _ _) (GB.quiet hI.1 (Mod.refl _ _) (by have hn := hR.not; simp [upd, hn] <;> omega) (HGs.out D 2 zw1 zw1 (hI.1).g (Mod.refl _ _))) (upd_same V 2 _))
      · intro D V zw1 a hR hI K hK
        obtain ⟨hS1, hM1, hB1, hG1⟩ := hI.1
        rw [if_pos (by rfl)]
        go_simp
        exact hK (_) _ (hI.next hR (by kernel_rfl) ((Mod.refl _ _).alloc _) (GB.quiet hI.1 (pure_alloc _ _) (by have hn := hR.not; simp [upd, hn] <;> omega) (HGs.out D 3 _ _ (hI.1).g ((Mod.refl _ _).alloc _))) (⟨_, upd_same V 3 _, (by omega), (Blk.new _ _ _)⟩))
      · intro D V zw1 a hR hI K hK
        obtain ⟨hS1, hM1, hB1, hG1⟩ := hI.1
        have zd2 := hR.pred 2 (by kernel_rfl)
        have zF2 : V 2 = .pointer (some ⟨b, 0, none⟩) := hI.2 2 zd2 rfl
        have zf2 := zF2; clear zF2
        have zd3 := hR.pred 3 (by kernel_rfl)
        have zF3 : ∃ (g_3 : Nat), V 3 = .slice (some ⟨g_3, 0, none⟩) 5 5 ∧ w3.heap.size ≤ g_3 ∧ Blk zw1 g_3 3 #[(.int .i64 5), (.int .i64 30), (.int .i64 0), (.int .i64 (-1)), (.int .i64 5761440)] := hI.2 3 zd3 (by show (!D 4) = true; rw [hR.not]; rfl)
        obtain ⟨g_3, zf3, c3_0, b3_0⟩ := zF3
        have ze24 := hR.frame.done (t := 24) (j := 2) (by kernel_rfl) hR.ok zd2
        have ze25 := hR.frame.done (t := 25) (j := 3) (by kernel_rfl) hR.ok zd3
        rw [if_pos (by rfl)]
        have := Bool.toNat_le (D 1)
        have := Bool.toNat_le (D 4)
        have := Bool.toNat_le (D 8)
        have := Bool.toNat_le (D 14)
        have := Bool.toNat_le (D 18)
        have := Bool.toNat_le (D 21)
        have hNB : Nx + ((D 1).toNat + (D 4).toNat + (D 8).toNat + (D 14).toNat + (D 18).toNat + 400 * (D 21).toNat) ≤ 1000000000 := by omega
        skip
        go_simp
        refine (pickv_calls _ _ _ _ 5 5 #[(.int .i64 5), (.int .i64 30), (.int .i64 0), (.int .i64 (-1)), (.int .i64 5761440)] hS1 b3_0 hNB (by omega) rfl (by omega) (by omega) rfl).mono ?_
        rintro e zw2 ⟨k_0, hk, rfl, hS2, hm2⟩
        have hk2 : -1 ≤ k_0 ∧ k_0 ≤ 5761440 := by simp [intsOf, Go.RowKit.intOf] at hk; omega
        exact hK (.int .i64 k_0) _ (hI.next hR (by kernel_rfl) hm2 (GB.asks hI.1 (fun _ h _ => h) hS2 hm2 (by have hn := hR.not; simp [upd, hn] <;> omega) (HGs.out D 4 _ _ (hI.1).g hm2)) (⟨k_0, upd_same V 4 _, hk2.1, hk2.2⟩))
      · intro D V zw1 a hR hI K hK
        obtain ⟨hS1, hM1, hB1, hG1⟩ := hI.1
        rw [if_pos (by rfl)]
        go_simp
        exact hK (_) _ (hI.next hR (by kernel_rfl) ((Mod.refl _ _).alloc _) (GB.quiet hI.1 (pure_alloc _ _) (by have hn := hR.not; simp [upd, hn] <;> omega) (HGs.out D 5 _ _ (hI.1).g ((Mod.refl _ _).alloc _))) (⟨_, upd_same V 5 _, (by omega), (Blk.new _ _ _)⟩))
      · intro D V zw1 a hR hI K hK
        obtain ⟨hS1, hM1, hB1, hG1⟩ := hI.1
        have ze3 := hR.frame.other (t := 3) (by kernel_rfl) rfl
        rw [if_pos (by rfl)]
        go_simp
        exact hK (.pointer (some ⟨b, 0, none⟩)) _ (hI.next hR (by kernel_rfl) (Mod.refl _ _) (GB.quiet hI.1 (Mod.refl _ _) (by have hn := hR.not; simp [upd, hn] <;> omega) (HGs.out D 6 zw1 zw1 (hI.1).g (Mod.refl _ _))) (upd_same V 6 _))
      · intro D V zw1 a hR hI K hK
        obtain ⟨hS1, hM1, hB1, hG1⟩ := hI.1
        rw [if_pos (by rfl)]
        go_simp
        exact hK (_) _ (hI.next hR (by kernel_rfl) ((Mod.refl _ _).alloc _) (GB.quiet hI.1 (pure_alloc _ _) (by have hn := hR.not; simp [upd, hn] <;> omega) (HGs.out D 7 _ _ (hI.1).g ((Mod.refl _ _).alloc _))) (⟨_, upd_same V 7 _, (by omega), (Blk.new _ _ _)⟩))
      · intro D V zw1 a hR hI K hK
        obtain ⟨hS1, hM1, hB1, hG1⟩ := hI.1
        have zd6 := hR.pred 6 (by kernel_rfl)
        have zF6 : V 6 = .pointer (some ⟨b, 0, none⟩) := hI.2 6 zd6 rfl
        have zf6 := zF6; clear zF6
        have zd7 := hR.pred 7 (by kernel_rfl)
        have zF7 : ∃ (g_7 : Nat), V 7 = .slice (some ⟨g_7, 0, none⟩) 6 6 ∧ w3.heap.size ≤ g_7 ∧ Blk zw1 g_7 3 #[(.int .i64 0), (.int .i64 0), (.int .i64 1), (.int .i64 1), (.int .i64 2), (.int .i64 3)] := hI.2 7 zd7 (by show (!D 8) = true; rw [hR.not]; rfl)
        obtain ⟨g_7, zf7, c7_0, b7_0⟩ := zF7
        have ze28 := hR.frame.done (t := 28) (j := 6) (by kernel_rfl) hR.ok zd6
        have ze29 := hR.frame.done (t := 29) (j := 7) (by kernel_rfl) hR.ok zd7
        rw [if_pos (by rfl)]
        have := Bool.toNat_le (D 1)
        have := Bool.toNat_le (D 4)
        have := Bool.toNat_le (D 8)
        have := Bool.toNat_le (D 14)
        have := Bool.toNat_le (D 18)
        have := Bool.toNat_le (D 21)
        have hNB : Nx + ((D 1).toNat + (D 4).toNat + (D 8).toNat + (D 14).toNat + (D 18).toNat + 400 * (D 21).toNat) ≤ 1000000000 := by omega
        skip
        go_simp
        refine (pickv_calls _ _ _ _ 6 6 #[(.int .i64 0), (.int .i64 0), (.int .i64 1), (.int .i64 1), (.int .i64 2), (.int .i64 3)] hS1 b7_0 hNB (by omega) rfl (by omega) (by omega) rfl).mono ?_
        rintro e zw2 ⟨k_0, hk, rfl, hS2, hm2⟩
        have hk2 : 0 ≤ k_0 ∧ k_0 ≤ 3 := by simp [intsOf, Go.RowKit.intOf] at hk; omega
        exact hK (.int .i64 k_0) _ (hI.next hR (by kernel_rfl) hm2 (GB.asks hI.1 (fun _ h _ => h) hS2 hm2 (by have hn := hR.not; simp [upd, hn] <;> omega) (HGs.out D 8 _ _ (hI.1).g hm2)) (⟨k_0, upd_same V 8 _, hk2.1, hk2.2⟩))
      · intro D V zw1 a hR hI K hK
        obtain ⟨hS1, hM1, hB1, hG1⟩ := hI.1
        have zd5 := hR.pred 5 (by kernel_rfl)
        have zF5 : ∃ (g_5 : Nat), V 5 = .slice (some ⟨g_5, 0, none⟩) 4 4 ∧ w3.heap.size ≤ g_5 ∧ Blk zw1 g_5 9 #[(.string { data := #[97, 110, 110] }), (.string { data := #[98, 111, 98] }), (.string { data := #[] }), (.string { data := #[65] })] := hI.2 5 zd5 (by show (!D 9) = true; rw [hR.not]; rfl)
        obtain ⟨g_5, zf5, c5_0, b5_0⟩ := zF5
        have zd8 := hR.pred 8 (by kernel_rfl)
        have zF8 : ∃ (k_8 : Int), V 8 = .int .i64 k_8 ∧ 0 ≤ k_8 ∧ k_8 ≤ 3 := hI.2 8 zd8 rfl
        obtain ⟨k_8, zf8, c8_0, c8_1⟩ := zF8
        have ze27 := hR.frame.done (t := 27) (j := 5) (by kernel_rfl) hR.ok zd5
        have ze30 := hR.frame.done (t := 30) (j := 8) (by kernel_rfl) hR.ok zd8
        obtain ⟨zq, rfl⟩ := Int.eq_ofNat_of_zero_le c8_0
        have zb : zq < 4 := by omega
        have zb2 : (zq : Int) < 4 := by omega
        rw [if_pos (by rfl)]
        go_simp
        exact hK (_) _ (hI.next hR (by kernel_rfl) (Mod.refl _ _) (GB.quiet hI.1 (Mod.refl _ _) (by have hn := hR.not; simp [upd, hn] <;> omega) (HGs.out D 9 zw1 zw1 (hI.1).g (Mod.refl _ _))) (⟨g_5, zq, upd_same V 9 _, zb, (by omega), b5_0⟩))
      · intro D V zw1 a hR hI K hK
        obtain ⟨hS1, hM1, hB1, hG1⟩ := hI.1
        have zd9 := hR.pred 9 (by kernel_rfl)
        have zF9 : ∃ (g_9 : Nat) (q_9 : Nat), V 9 = .pointer (some ⟨g_9, q_9, none⟩) ∧ q_9 < 4 ∧ w3.heap.size ≤ g_9 ∧ Blk zw1 g_9 9 #[.string ⟨#[97, 110, 110]⟩, .string ⟨#[98, 111, 98]⟩, .string ⟨#[]⟩, .string ⟨#[65]⟩] := hI.2 9 zd9 (by show (!D 10) = true; rw [hR.not]; rfl)
        obtain ⟨g_9, q_9, zf9, c9_0, c9_1, b9_0⟩ := zF9
        have ze31 := hR.frame.done (t := 31) (j := 9) (by kernel_rfl) hR.ok zd9
        obtain ⟨zs, hsl, hcell⟩ := strs_cell (M := 100) [[97, 110, 110], [98, 111, 98], [], [65]] b9_0 c9_0 (by decide)
        rw [if_pos (by rfl)]
        go_simp
        exact hK (_) _ (hI.next hR (by kernel_rfl) (Mod.refl _ _) (GB.quiet hI.1 (Mod.refl _ _) (by have hn := hR.not; simp [upd, hn] <;> omega) (HGs.out D 10 zw1 zw1 (hI.1).g (Mod.refl _ _))) (⟨zs, upd_same V 10 _, hsl⟩))
      · intro D V zw1 a hR hI K hK
        obtain ⟨hS1, hM1, hB1, hG1⟩ := hI.1
        rw [if_pos (by rfl)]
        go_simp
        exact hK (_) _ (hI.next hR (by kernel_rfl) ((Mod.refl _ _).alloc _) (GB.quiet hI.1 (pure_alloc _ _) (by have hn := hR.not; simp [upd, hn] <;> omega) (HGs.out D 11 _ _ (hI.1).g ((Mod.refl _ _).alloc _))) (⟨_, upd_same V 11 _, (by omega), (Blk.new _ _ _)⟩))
      · intro D V zw1 a hR hI K hK
        obtain ⟨hS1, hM1, hB1, hG1⟩ := hI.1
        have ze3 := hR.frame.other (t := 3) (by kernel_rfl) rfl
        rw [if_pos (by rfl)]
        go_simp
        exact hK (.pointer (some ⟨b, 0, none⟩)) _ (hI.next hR (by kernel_rfl) (Mod.refl _ _) (GB.quiet hI.1 (Mod.refl _ _) (by have hn := hR.not; simp [upd, hn] <;> omega) (HGs.out D 12 zw1 zw1 (hI.1).g (Mod.refl _ _))) (upd_same V 12 _))
      · intro D V zw1 a hR hI K hK
        obtain ⟨hS1, hM1, hB1, hG1⟩ := hI.1
        rw [if_pos (by rfl)]
        go_simp
        exact hK (_) _ (hI.next hR (by kernel_rfl) ((Mod.refl _ _).alloc _) (GB.quiet hI.1 (pure_alloc _ _) (by have hn := hR.not; simp [upd, hn] <;> omega) (HGs.out D 13 _ _ (hI.1).g ((Mod.refl _ _).alloc _))) (⟨_, upd_same V 13 _, (by omega), (Blk.new _ _ _)⟩))
      · intro D V zw1 a hR hI K hK
        obtain ⟨hS1, hM1, hB1, hG1⟩ := hI.1
        have zd12 := hR.pred 12 (by kernel_rfl)
        have zF12 : V 12 = .pointer (some ⟨b, 0, none⟩) := hI.2 12 zd12 rfl
        have zf12 := zF12; clear zF12
        have zd13 := hR.pred 13 (by kernel_rfl)
        have zF13 : ∃ (g_13 : Nat), V 13 = .slice (some ⟨g_13, 0, none⟩) 4 4 ∧ w3.heap.size ≤ g_13 ∧ Blk zw1 g_13 3 #[(.int .i64 0), (.int .i64 0), (.int .i64 1), (.int .i64 2)] := hI.2 13 zd13 (by show (!D 14) = true; rw [hR.not]; rfl)
        obtain ⟨g_13, zf13, c13_0, b13_0⟩ := zF13
        have ze34 := hR.frame.done (t := 34) (j := 12) (by kernel_rfl) hR.ok zd12
        have ze35 := hR.frame.done (t := 35) (j := 13) (by kernel_rfl) hR.ok zd13
        rw [if_pos (by rfl)]
        have := Bool.toNat_le (D 1)
        have := Bool.toNat_le (D 4)
        have := Bool.toNat_le (D 8)
        have := Bool.toNat_le (D 14)
        have := Bool.toNat_le (D 18)
        have := Bool.toNat_le (D 21)
        have hNB : Nx + ((D 1).toNat + (D 4).toNat + (D 8).toNat + (D 14).toNat + (D 18).toNat + 400 * (D 21).toNat) ≤ 1000000000 := by omega
        skip
        go_simp
        refine (pickv_calls _ _ _ _ 4 4 #[(.int .i64 0), (.int .i64 0), (.int .i64 1), (.int .i64 2)] hS1 b13_0 hNB (by omega) rfl (by omega) (by omega) rfl).mono ?_
        rintro e zw2 ⟨k_0, hk, rfl, hS2, hm2⟩
        have hk2 : 0 ≤ k_0 ∧ k_0 ≤ 2 := by simp [intsOf, Go.RowKit.intOf] at hk; omega
        exact hK (.int .i64 k_0) _ (hI.next hR (by kernel_rfl) hm2 (GB.asks hI.1 (fun _ h _ => h) hS2 hm2 (by have hn := hR.not; simp [upd, hn] <;> omega) (HGs.out D 14 _ _ (hI.1).g hm2)) (⟨k_0, upd_same V 14 _, hk2.1, hk2.2⟩))
      · intro D V zw1 a hR hI K hK
        obtain ⟨hS1, hM1, hB1, hG1⟩ := hI.1
        have zd11 := hR.pred 11 (by kernel_rfl)
        have zF11 : ∃ (g_11 : Nat), V 11 = .slice (some ⟨g_11, 0, none⟩) 3 3 ∧ w3.heap.size ≤ g_11 ∧ Blk zw1 g_11 9 #[(.string { data := #[105, 97] }), (.string { data := #[105, 98] }), (.string { data := #[] })] := hI.2 11 zd11 (by show (!D 15) = true; rw [hR.not]; rfl)
        obtain ⟨g_11, zf11, c11_0, b11_0⟩ := zF11
        have zd14 := hR.pred 14 (by kernel_rfl)
        have zF14 : ∃ (k_14 : Int), V 14 = .int .i64 k_14 ∧ 0 ≤ k_14 ∧ k_14 ≤ 2 := hI.2 14 zd14 rfl
        obtain ⟨k_14, zf14, c14_0, c14_1⟩ := zF14
        have ze33 := hR.frame.done (t := 33) (j := 11) (by kernel_rfl) hR.ok zd11
        have ze36 := hR.frame.done (t := 36) (j := 14) (by kernel_rfl) hR.ok zd14
        obtain ⟨zq, rfl⟩ := Int.eq_ofNat_of_zero_le c14_0
        have zb : zq < 3 := by omega
        have zb2 : (zq : Int) < 3 := by omega
        rw [if_pos (by rfl)]
        go_simp
        exact hK (_) _ (hI.next hR (by kernel_rfl) (Mod.refl _ _) (GB.quiet hI.1 (Mod.refl _ _) (by have hn := hR.not; simp [upd, hn] <;> omega) (HGs.out D 15 zw1 zw1 (hI.1).g (Mod.refl _ _))) (⟨g_11, zq, upd_same V 15 _, zb, (by omega), b11_0⟩))
      · intro D V zw1 a hR hI K hK
        obtain ⟨hS1, hM1, hB1, hG1⟩ := hI.1
        have zd15 := hR.pred 15 (by kernel_rfl)
        have zF15 : ∃ (g_15 : Nat) (q_15 : Nat), V 15 = .pointer (some ⟨g_15, q_15, none⟩) ∧ q_15 < 3 ∧ w3.heap.size ≤ g_15 ∧ Blk zw1 g_15 9 #[.string ⟨#[105, 97]⟩, .string ⟨#[105, 98]⟩, .string ⟨#[]⟩] := hI.2 15 zd15 (by show (!D 16) = true; rw [hR.not]; rfl)
        obtain ⟨g_15, q_15, zf15, c15_0, c15_1, b15_0⟩ := zF15
        have ze37 := hR.frame.done (t := 37) (j := 15) (by kernel_rfl) hR.ok zd15
        obtain ⟨zs, hsl, hcell⟩ := strs_cell (M := 100) [[105, 97], [105, 98], []] b15_0 c15_0 (by decide)
        rw [if_pos (by rfl)]
        go_simp
        exact hK (_) _ (hI.next hR (by kernel_rfl) (Mod.refl _ _) (GB.quiet hI.1 (Mod.refl _ _) (by have hn := hR.not; simp [upd, hn] <;> omega) (HGs.out D 16 zw1 zw1 (hI.1).g (Mod.refl _ _))) (⟨zs, upd_same V 16 _, hsl⟩))
      · intro D V zw1 a hR hI K hK
        obtain ⟨hS1, hM1, hB1, hG1⟩ := hI.1
        have ze3 := hR.frame.other (t := 3) (by kernel_rfl) rfl
        rw [if_pos (by rfl)]
        go_simp
        exact hK (.pointer (some ⟨b, 0, none⟩)) _ (hI.next hR (by kernel_rfl) (Mod.refl _ _) (GB.quiet hI.1 (Mod.refl _ _) (by have hn := hR.not; simp [upd, hn] <;> omega) (HGs.out D 17 zw1 zw1 (hI.1).g (Mod.refl _ _))) (upd_same V 17 _))
      · intro D V zw1 a hR hI K hK
        obtain ⟨hS1, hM1, hB1, hG1⟩ := hI.1
        have zd17 := hR.pred 17 (by kernel_rfl)
        have zF17 : V 17 = .pointer (some ⟨b, 0, none⟩) := hI.2 17 zd17 rfl
        have zf17 := zF17; clear zF17
        have ze39 := hR.frame.done (t := 39) (j := 17) (by kernel_rfl) hR.ok zd17
        rw [if_pos (by rfl)]
        have := Bool.toNat_le (D 1)
        have := Bool.toNat_le (D 4)
        have := Bool.toNat_le (D 8)
        have := Bool.toNat_le (D 14)
        have := Bool.toNat_le (D 18)
        have := Bool.toNat_le (D 21)
        have hNB : Nx + ((D 1).toNat + (D 4).toNat + (D 8).toNat + (D 14).toNat + (D 18).toNat + 400 * (D 21).toNat) ≤ 1000000000 := by omega
        skip
        go_simp
        refine (flip_calls _ _ _ _ hS1 hNB (by omega) (by omega)).mono ?_
        rintro e zw2 ⟨k_0, rfl, hS2, hm2⟩
        exact hK (.bool k_0) _ (hI.next hR (by kernel_rfl) hm2 (GB.asks hI.1 (fun _ h _ => h) hS2 hm2 (by have hn := hR.not; simp [upd, hn] <;> omega) (HGs.out D 18 _ _ (hI.1).g hm2)) (⟨k_0, upd_same V 18 _⟩))
      · intro D V zw1 a hR hI K hK
        obtain ⟨hS1, hM1, hB1, hG1⟩ := hI.1
        have ze3 := hR.frame.other (t := 3) (by kernel_rfl) rfl
        rw [if_pos (by rfl)]
        go_simp
        exact hK (.pointer (some ⟨b, 0, none⟩)) _ (hI.next hR (by kernel_rfl) (Mod.refl _ _) (GB.quiet hI.1 (Mod.refl _ _) (by have hn := hR.not; simp [upd, hn] <;> omega) (HGs.out D 19 zw1 zw1 (hI.1).g (Mod.refl _ _))) (upd_same V 19 _))
      · intro D V zw1 a hR hI K hK
        obtain ⟨hS1, hM1, hB1, hG1⟩ := hI.1
        have ze4 := hR.frame.other (t := 4) (by kernel_rfl) rfl
        have zx0 := hG1.cell 0; have zx1 := hG1.cell 1
        simp at zx0 zx1
        rw [if_pos (by rfl)]
        go_simp
        exact hK (.agg #[.slice Aa na ca, .slice Ar nr cr]) _ (hI.next hR (by kernel_rfl) (Mod.refl _ _) (GB.quiet hI.1 (Mod.refl _ _) (by have hn := hR.not; simp [upd, hn] <;> omega) (HGs.out D 20 zw1 zw1 (hI.1).g (Mod.refl _ _))) (upd_same V 20 _))
      · intro D V zw1 a hR hI K hK
        obtain ⟨hS1, hM1, hB1, hG1⟩ := hI.1
        have zd19 := hR.pred 19 (by kernel_rfl)
        have zF19 : V 19 = .pointer (some ⟨b, 0, none⟩) := hI.2 19 zd19 rfl
        have zf19 := zF19; clear zF19
        have zd20 := hR.pred 20 (by kernel_rfl)
        have zF20 : V 20 = .agg #[.slice Aa na ca, .slice Ar nr cr] := hI.2 20 zd20 rfl
        have zf20 := zF20; clear zF20
        have ze41 := hR.frame.done (t := 41) (j := 19) (by kernel_rfl) hR.ok zd19
        have ze42 := hR.frame.done (t := 42) (j := 20) (by kernel_rfl) hR.ok zd20
        rw [if_pos (by rfl)]
        have := Bool.toNat_le (D 1)
        have := Bool.toNat_le (D 4)
        have := Bool.toNat_le (D 8)
        have := Bool.toNat_le (D 14)
        have := Bool.toNat_le (D 18)
        have := Bool.toNat_le (D 21)
        have hNB : Nx + ((D 1).toNat + (D 4).toNat + (D 8).toNat + (D 14).toNat + (D 18).toNat + 400 * (D 21).toNat) ≤ 1000000000 := by omega
        skip
        go_simp
        refine (values_calls _ b _ _ L hS1 (by omega) (HLV.out _ (HM3.out.trans hM1)) hla HLB.out.2.2.1).mono ?_
        rintro e zw2 ⟨A_0, n2, c_0, cs_0, rfl, hV, hcl, hcz, hS2, hm2⟩
        have hvn := hV.len
        subst hvn
        exact hK (.slice A_0 cs_0.length c_0) _ (hI.next hR (by kernel_rfl) hm2 (GB.asks hI.1 (fun _ h _ => h) hS2 hm2 (by have hn := hR.not; simp [upd, hn] <;> omega) (HGs.out D 21 _ _ (hI.1).g hm2)) (⟨A_0, c_0, cs_0, upd_same V 21 _, hcl, hcz, (VlsB.of hV hS2)⟩))
      · intro D V zw1 a hR hI K hK
        obtain ⟨hS1, hM1, hB1, hG1⟩ := hI.1
        have zd1 := hR.pred 1 (by kernel_rfl)
        have zF1 : ∃ (k_1 : Int), V 1 = .int .i64 k_1 ∧ 0 ≤ k_1 ∧ k_1 ≤ 9 := hI.2 1 zd1 rfl
        obtain ⟨k_1, zf1, c1_0, c1_1⟩ := zF1
        have zd4 := hR.pred 4 (by kernel_rfl)
        have zF4 : ∃ (k_4 : Int), V 4 = .int .i64 k_4 ∧ -1 ≤ k_4 ∧ k_4 ≤ 5761440 := hI.2 4 zd4 rfl
        obtain ⟨k_4, zf4, c4_0, c4_1⟩ := zF4
        have zd10 := hR.pred 10 (by kernel_rfl)
        have zF10 : ∃ (s_10 : Str), V 10 = .string ⟨s_10.toArray⟩ ∧ s_10.length ≤ 100 := hI.2 10 zd10 rfl
        obtain ⟨s_10, zf10, c10_0⟩ := zF10
        have zd16 := hR.pred 16 (by kernel_rfl)
        have zF16 : ∃ (s_16 : Str), V 16 = .string ⟨s_16.toArray⟩ ∧ s_16.length ≤ 100 := hI.2 16 zd16 rfl
        obtain ⟨s_16, zf16, c16_0⟩ := zF16
        have zd18 := hR.pred 18 (by kernel_rfl)
        have zF18 : ∃ (k_18 : Bool), V 18 = .bool k_18 := hI.2 18 zd18 rfl
        obtain ⟨k_18, zf18⟩ := zF18
        have zd21 := hR.pred 21 (by kernel_rfl)
        have zF21 : ∃ (A_21 : Option Addr) (c_21 : Nat) (cs_21 : List ChoR), V 21 = .slice A_21 cs_21.length c_21 ∧ cs_21.length ≤ 10 ∧ (∀ x ∈ cs_21, ChoB x) ∧ VlsB zw1 b (.slice A_21 cs_21.length c_21) cs_21 := hI.2 21 zd21 (by show (!D 22) = true; rw [hR.not]; rfl)
        obtain ⟨A_21, c_21, cs_21, zf21, c21_0, c21_1, b21_0⟩ := zF21
        have ze23 := hR.frame.done (t := 23) (j := 1) (by kernel_rfl) hR.ok zd1
        have ze26 := hR.frame.done (t := 26) (j := 4) (by kernel_rfl) hR.ok zd4
        have ze32 := hR.frame.done (t := 32) (j := 10) (by kernel_rfl) hR.ok zd10
        have ze38 := hR.frame.done (t := 38) (j := 16) (by kernel_rfl) hR.ok zd16
        have ze40 := hR.frame.done (t := 40) (j := 18) (by kernel_rfl) hR.ok zd18
        have ze43 := hR.frame.done (t := 43) (j := 21) (by kernel_rfl) hR.ok zd21
        rw [if_pos (by rfl)]
        go_simp
        exact hK (_) _ (hI.next hR (by kernel_rfl) (Mod.refl _ _) (GB.quiet hI.1 (Mod.refl _ _) (by have hn := hR.not; simp [upd, hn] <;> omega) (HGs.out D 22 zw1 zw1 (hI.1).g (Mod.refl _ _))) (⟨k_1, k_4, s_10, s_16, k_18, A_21, c_21, cs_21, upd_same V 22 _, (by first | assumption | omega), (by first | assumption | omega), (by first | assumption | omega), (by first | assumption | omega), (by first | assumption | omega), (by first | assumption | omega), (by first | assumption | omega), (by first | assumption | omega), b21_0⟩))
      · intro D V zw1 a hR hI K hK
        obtain ⟨hS1, hM1, hB1, hG1⟩ := hI.1
        rw [if_pos (by rfl)]
        go_simp
        exact hK (_) _ (hI.next hR (by kernel_rfl) ((Mod.refl _ _).alloc _) (GB.quiet hI.1 (pure_alloc _ _) (by have hn := hR.not; simp [upd, hn] <;> omega) (HGs.out D 23 _ _ (hI.1).g ((Mod.refl _ _).alloc _))) (⟨_, upd_same V 23 _, (by omega), (Blk.new _ _ _)⟩))
      · intro D V zw1 a hR hI K hK
        obtain ⟨hS1, hM1, hB1, hG1⟩ := hI.1
        have zd23 := hR.pred 23 (by kernel_rfl)
        have zF23 : ∃ (g_23 : Nat), V 23 = .pointer (some ⟨g_23, 0, none⟩) ∧ w3.heap.size ≤ g_23 ∧ Blk zw1 g_23 40 #[.int .i64 0, .int .i64 0, .string ⟨#[]⟩, .string ⟨#[]⟩, .bool false, .slice none 0 0] := hI.2 23 zd23 (by show (!D 24) = true; rw [hR.not]; rfl)
        obtain ⟨g_23, zf23, c23_0, b23_0⟩ := zF23
        have zd22 := hR.pred 22 (by kernel_rfl)
        have zF22 : ∃ (k_22 : Int) (ka_22 : Int) (s_22 : Str) (sa_22 : Str) (kb_22 : Bool) (A_22 : Option Addr) (c_22 : Nat) (cs_22 : List ChoR), V 22 = .agg #[.int .i64 k_22, .int .i64 ka_22, .string ⟨s_22.toArray⟩, .string ⟨sa_22.toArray⟩, .bool kb_22, .slice A_22 cs_22.length c_22] ∧ 0 ≤ k_22 ∧ k_22 ≤ 9 ∧ -1 ≤ ka_22 ∧ ka_22 ≤ 5761440 ∧ s_22.length ≤ 100 ∧ sa_22.length ≤ 100 ∧ cs_22.length ≤ 10 ∧ (∀ x ∈ cs_22, ChoB x) ∧ VlsB zw1 b (.slice A_22 cs_22.length c_22) cs_22 := hI.2 22 zd22 (by show (!D 24) = true; rw [hR.not]; rfl)
        obtain ⟨k_22, ka_22, s_22, sa_22, kb_22, A_22, c_22, cs_22, zf22, c22_0, c22_1, c22_2, c22_3, c22_4, c22_5, c22_6, c22_7, b22_0⟩ := zF22
        have ze6 := hR.frame.done (t := 6) (j := 23) (by kernel_rfl) hR.ok zd23
        have ze44 := hR.frame.done (t := 44) (j := 22) (by kernel_rfl) hR.ok zd22
        rw [if_pos (by rfl)]
        have zx0 := b23_0.cell 0; have zy0 := b23_0.frozen 0
        have zx1 := b23_0.cell 1; have zy1 := b23_0.frozen 1
        have zx2 := b23_0.cell 2; have zy2 := b23_0.frozen 2
        have zx3 := b23_0.cell 3; have zy3 := b23_0.frozen 3
        have zx4 := b23_0.cell 4; have zy4 := b23_0.frozen 4
        have zx5 := b23_0.cell 5; have zy5 := b23_0.frozen 5
        simp at zx0 zy0 zx1 zy1 zx2 zy2 zx3 zy3 zx4 zy4 zx5 zy5
        go_simp
        refine hK undef _ (InvF.last ?_ ?_ ?_)
        · exact ⟨((((((hS1.setCell (by show _ < g_23; omega) _).setCell (by show _ < g_23; omega) _).setCell (by show _ < g_23; omega) _).setCell (by show _ < g_23; omega) _).setCell (by show _ < g_23; omega) _).setCell (by show _ < g_23; omega) _).more (by have hn := hR.not; simp [upd, hn] <;> omega), ((((((hM1.setCell (.inr (by show _ ≤ g_23; omega)) _).setCell (.inr (by show _ ≤ g_23; omega)) _).setCell (.inr (by show _ ≤ g_23; omega)) _).setCell (.inr (by show _ ≤ g_23; omega)) _).setCell (.inr (by show _ ≤ g_23; omega)) _).setCell (.inr (by show _ ≤ g_23; omega)) _), (by simpa using hB1), ((((((hG1.far (by show gl ≠ g_23; omega) _).far (by show gl ≠ g_23; omega) _).far (by show gl ≠ g_23; omega) _).far (by show gl ≠ g_23; omega) _).far (by show gl ≠ g_23; omega) _).far (by show gl ≠ g_23; omega) _)⟩
        · exact ⟨g_23, k_22, ka_22, s_22, sa_22, kb_22, A_22, c_22, cs_22, (upd_ne V (i := 24) (k := 23) undef (by omega)).trans zf23, (by first | assumption | omega), (by first | assumption | omega), (by first | assumption | omega), (by first | assumption | omega), (by first | assumption | omega), (by first | assumption | omega), (by first | assumption | omega), (by first | assumption | omega), (by first | assumption | omega), (by have hset := ((((((b23_0.set 0 (.int .i64 k_22)).set 1 (.int .i64 ka_22)).set 2 (.string ⟨s_22.toArray⟩)).set 3 (.string ⟨sa_22.toArray⟩)).set 4 (.bool kb_22)).set 5 (.slice A_22 cs_22.length c_22)); simpa using hset), (VlsB.set (VlsB.set (VlsB.set (VlsB.set (VlsB.set (VlsB.set b22_0 b23_0 0 (.int .i64 k_22)) (b23_0.set 0 (.int .i64 k_22)) 1 (.int .i64 ka_22)) ((b23_0.set 0 (.int .i64 k_22)).set 1 (.int .i64 ka_22)) 2 (.string ⟨s_22.toArray⟩)) (((b23_0.set 0 (.int .i64 k_22)).set 1 (.int .i64 ka_22)).set 2 (.string ⟨s_22.toArray⟩)) 3 (.string ⟨sa_22.toArray⟩)) ((((b23_0.set 0 (.int .i64 k_22)).set 1 (.int .i64 ka_22)).set 2 (.string ⟨s_22.toArray⟩)).set 3 (.string ⟨sa_22.toArray⟩)) 4 (.bool kb_22)) (((((b23_0.set 0 (.int .i64 k_22)).set 1 (.int .i64 ka_22)).set 2 (.string ⟨s_22.toArray⟩)).set 3 (.string ⟨sa_22.toArray⟩)).set 4 (.bool kb_22)) 5 (.slice A_22 cs_22.length c_22))⟩
        · intro k hk hDk hlv
          have hkl := hR.lt k hDk
          have hv := hI.2 k hDk (liveB_of hlv)
          match k, hk, hDk, hlv, hkl, hv with
          | 0, _, _, _, _, hv => exact hv
          | 1, _, _, _, _, hv => exact hv
          | 2, _, _, _, _, hv => exact hv
          | 3, _, _, hlv, _, _ => exact absurd hlv (by show ¬ (!upd D 24 true 4) = true; rw [upd_ne _ _ (by omega), hR.pred 4 (by kernel_rfl)]; decide)
          | 4, _, _, _, _, hv => exact hv
          | 5, _, _, hlv, _, _ => exact absurd hlv (by show ¬ (!upd D 24 true 9) = true; rw [upd_ne _ _ (by omega), hR.pred 9 (by kernel_rfl)]; decide)
          | 6, _, _, _, _, hv => exact hv
          | 7, _, _, hlv, _, _ => exact absurd hlv (by show ¬ (!upd D 24 true 8) = true; rw [upd_ne _ _ (by omega), hR.pred 8 (by kernel_rfl)]; decide)
          | 8, _, _, _, _, hv => exact hv
          | 9, _, _, hlv, _, _ => exact absurd hlv (by show ¬ (!upd D 24 true 10) = true; rw [upd_ne _ _ (by omega), hR.pred 10 (by kernel_rfl)]; decide)
          | 10, _, _, _, _, hv => exact hv
          | 11, _, _, hlv, _, _ => exact absurd hlv (by show ¬ (!upd D 24 true 15) = true; rw [upd_ne _ _ (by omega), hR.pred 15 (by kernel_rfl)]; decide)
          | 12, _, _, _, _, hv => exact hv
          | 13, _, _, hlv, _, _ => exact absurd hlv (by show ¬ (!upd D 24 true 14) = true; rw [upd_ne _ _ (by omega), hR.pred 14 (by kernel_rfl)]; decide)
          | 14, _, _, _, _, hv => exact hv
          | 15, _, _, hlv, _, _ => exact absurd hlv (by show ¬ (!upd D 24 true 16) = true; rw [upd_ne _ _ (by omega), hR.pred 16 (by kernel_rfl)]; decide)
          | 16, _, _, _, _, hv => exact hv
          | 17, _, _, _, _, hv => exact hv
          | 18, _, _, _, _, hv => exact hv
          | 19, _, _, _, _, hv => exact hv
          | 20, _, _, _, _, hv => exact hv
          | 21, _, _, hlv, _, _ => exact absurd hlv (by show ¬ (!upd D 24 true 22) = true; rw [upd_ne _ _ (by omega), hR.pred 22 (by kernel_rfl)]; decide)
          | 22, _, _, hlv, _, _ => exact absurd hlv (by show ¬ (!upd D 24 true 24) = true; rw [upd_same]; decide)
          | 23, _, _, hlv, _, _ => exact absurd hlv (by show ¬ (!upd D 24 true 24) = true; rw [upd_same]; decide)
          | 24, hk, _, _, _, _ => exact absurd rfl hk
          | k + 25, _, _, _, hkl, _ => exact absurd hkl (by simp)
    · intro D V w4 hD hI
      obtain ⟨hS1, hM1, hB1, hG1⟩ := hI.1
      have hSy : Strm w4 b (Nx + 405) := hS1.more (by show _ ≤ _; have := Bool.toNat_le (D 1); have := Bool.toNat_le (D 4); have := Bool.toNat_le (D 8); have := Bool.toNat_le (D 14); have := Bool.toNat_le (D 18); have := Bool.toNat_le (D 21); omega)
      clear hS1
      have hMy := hM1
      clear hM1
      have hBy := hB1
      clear hB1
      have hGy := hG1
      clear hG1
      have zF0 : V 0 = .pointer (some ⟨b, 0, none⟩) := hI.2 0 (hD 0 (by decide)) rfl
      have zf0 := zF0; clear zF0
      have zF1 : ∃ (k_1 : Int), V 1 = .int .i64 k_1 ∧ 0 ≤ k_1 ∧ k_1 ≤ 9 := hI.2 1 (hD 1 (by decide)) rfl
      obtain ⟨k_1, zf1, c1_0, c1_1⟩ := zF1
      have zF2 : V 2 = .pointer (some ⟨b, 0, none⟩) := hI.2 2 (hD 2 (by decide)) rfl
      have zf2 := zF2; clear zF2
      have zF4 : ∃ (k_4 : Int), V 4 = .int .i64 k_4 ∧ -1 ≤ k_4 ∧ k_4 ≤ 5761440 := hI.2 4 (hD 4 (by decide)) rfl
      obtain ⟨k_4, zf4, c4_0, c4_1⟩ := zF4
      have zF6 : V 6 = .pointer (some ⟨b, 0, none⟩) := hI.2 6 (hD 6 (by decide)) rfl
      have zf6 := zF6; clear zF6
      have zF8 : ∃ (k_8 : Int), V 8 = .int .i64 k_8 ∧ 0 ≤ k_8 ∧ k_8 ≤ 3 := hI.2 8 (hD 8 (by decide)) rfl
      obtain ⟨k_8, zf8, c8_0, c8_1⟩ := zF8
      have zF10 : ∃ (s_10 : Str), V 10 = .string ⟨s_10.toArray⟩ ∧ s_10.length ≤ 100 := hI.2 10 (hD 10 (by decide)) rfl
      obtain ⟨s_10, zf10, c10_0⟩ := zF10
      have zF12 : V 12 = .pointer (some ⟨b, 0, none⟩) := hI.2 12 (hD 12 (by decide)) rfl
      have zf12 := zF12; clear zF12
      have zF14 : ∃ (k_14 : Int), V 14 = .int .i64 k_14 ∧ 0 ≤ k_14 ∧ k_14 ≤ 2 := hI.2 14 (hD 14 (by decide)) rfl
      obtain ⟨k_14, zf14, c14_0, c14_1⟩ := zF14
      have zF16 : ∃ (s_16 : Str), V 16 = .string ⟨s_16.toArray⟩ ∧ s_16.length ≤ 100 := hI.2 16 (hD 16 (by decide)) rfl
      obtain ⟨s_16, zf16, c16_0⟩ := zF16
      have zF17 : V 17 = .pointer (some ⟨b, 0, none⟩) := hI.2 17 (hD 17 (by decide)) rfl
      have zf17 := zF17; clear zF17
      have zF18 : ∃ (k_18 : Bool), V 18 = .bool k_18 := hI.2 18 (hD 18 (by decide)) rfl
      obtain ⟨k_18, zf18⟩ := zF18
      have zF19 : V 19 = .pointer (some ⟨b, 0, none⟩) := hI.2 19 (hD 19 (by decide)) rfl
      have zf19 := zF19; clear zF19
      have zF20 : V 20 = .agg #[.slice Aa na ca, .slice Ar nr cr] := hI.2 20 (hD 20 (by decide)) rfl
      have zf20 := zF20; clear zF20
      have zF24 : ∃ (g_24 : Nat) (k_24 : Int) (ka_24 : Int) (s_24 : Str) (sa_24 : Str) (kb_24 : Bool) (A_24 : Option Addr) (c_24 : Nat) (cs_24 : List ChoR), V 23 = .pointer (some ⟨g_24, 0, none⟩) ∧ w3.heap.size ≤ g_24 ∧ 0 ≤ k_24 ∧ k_24 ≤ 9 ∧ -1 ≤ ka_24 ∧ ka_24 ≤ 5761440 ∧ s_24.length ≤ 100 ∧ sa_24.length ≤ 100 ∧ cs_24.length ≤ 10 ∧ (∀ x ∈ cs_24, ChoB x) ∧ Blk w4 g_24 40 #[.int .i64 k_24, .int .i64 ka_24, .string ⟨s_24.toArray⟩, .string ⟨sa_24.toArray⟩, .bool kb_24, .slice A_24 cs_24.length c_24] ∧ VlsB w4 b (.slice A_24 cs_24.length c_24) cs_24 := hI.2 24 (hD 24 (by decide)) rfl
      obtain ⟨g_24, k_24, ka_24, s_24, sa_24, kb_24, A_24, c_24, cs_24, zf24, c24_0, c24_1, c24_2, c24_3, c24_4, c24_5, c24_6, c24_7, c24_8, b24_0, b24_1⟩ := zF24
      clear hI hD HGs
      simp only [frAll, Act.put, List.setIfInBounds_toArray, List.set_cons_zero, List.set_cons_succ, Nat.zero_add, Nat.reduceAdd, zf0, zf1, zf2, zf4, zf6, zf8, zf10, zf12, zf14, zf16, zf17, zf18, zf19, zf20, zf24]
      clear zf0 zf1 zf2 zf4 zf6 zf8 zf10 zf12 zf14 zf16 zf17 zf18 zf19 zf20 zf24
      generalize V 3 = u3
      generalize V 5 = u5
      generalize V 7 = u7
      generalize V 9 = u9
      generalize V 11 = u11
      generalize V 13 = u13
      generalize V 15 = u15
      generalize V 21 = u21
      generalize V 22 = u22
      clear V D
      have hd4 := b24_1.1
      have HDB4 := Lib.hid (HDB.out.ask hMy)
      have HP4 := Lib.hid (HPS.out HP3.out hMy)
      have HNZ : Hid (DecB ⟨k_24, ka_24, s_24, sa_24, kb_24, A_24, c_24, cs_24⟩) := Lib.hid ⟨by simp only; omega, by simp only; omega, by simp only; omega, by simp only; omega, by simp only [StB]; omega, by simp only [StB]; omega, by simp only; omega, c24_8⟩
      have hLW := HLV.out _ (HM3.out.trans hMy)
      have HDD := Lib.hid (decide_calls w4 _ L A5 ds.length c5 ds ⟨k_24, ka_24, s_24, sa_24, kb_24, A_24, c_24, cs_24⟩ hLW HLB.out HDB4.out.decs HDZ.out (by omega) hd4 HNZ.out)
      have HDF := Lib.hid (fun W (h : Pure w4 W) => dsfault_calls W _ L A5 ds.length c5 ds (hLW.pure h) HLB.out (HDB4.out.decs.pure h) HDZ.out (by omega))
      have HDK := Lib.hid (fun W (h : Pure w4 W) => dcheck_calls W _ L A5 ds.length c5 ds (hLW.pure h) HLB.out (HDB4.out.decs.pure h) HDZ.out (by omega))
      have HDO := Lib.hid (fun W (h : Pure w4 W) => decideOf_calls W _ L A5 c5 base ds ⟨k_24, ka_24, s_24, sa_24, kb_24, A_24, c_24, cs_24⟩ (hLW.pure h) HLB.out (HDB4.out.decs.pure h) (own_pure HDB4.out.2.1 h) (by omega) (hd4.pure h) HNZ.out)
      have HQ : Hid (didE L ds ⟨k_24, ka_24, s_24, sa_24, kb_24, A_24, c_24, cs_24⟩ = if decsE L ds ≠ 0 then decsE L ds else decE L ((ds.length : Int) + 1) ((⟨k_24, ka_24, s_24, sa_24, kb_24, A_24, c_24, cs_24⟩ : DecR).numb ((ds.length : Int) + 1))) := Lib.hid rfl
      have HG4 := Lib.hid hGy
      have HX4 := Lib.hid b24_0
      have HDC := Lib.hid (fun W (h : Pure w4 W) => decides_calls W (HMT.out _ (HP4.out.trans h)).1 (HMT.out _ (HP4.out.trans h)).2)
      simp only [DecVal.eq] at HDD HDO
      generalize (⟨k_24, ka_24, s_24, sa_24, kb_24, A_24, c_24, cs_24⟩ : DecR).numb ((ds.length : Int) + 1) = nn at *
      generalize didE L ds ⟨k_24, ka_24, s_24, sa_24, kb_24, A_24, c_24, cs_24⟩ = q at *
      generalize decE L ((ds.length : Int) + 1) nn = qe at *
      generalize decsE L ds = qs at *
      generalize ds ++ [nn] = DD at *
      have hX := HG4.out
      have hY := HX4.out
      have x0 := hX.cell 0; have x1 := hX.cell 1; simp at x0 x1
      have y0 := hY.cell 0; have y1 := hY.cell 1; have y2 := hY.cell 2; have y3 := hY.cell 3; have y4 := hY.cell 4; have y5 := hY.cell 5; simp at y0 y1 y2 y3 y4 y5
      clear hX hY hd4 hLW b24_0 b24_1 hSy hMy hBy hGy hSx HDB HDB4 HDZ HP3 HM3 HG3 HLV HMT HNZ c24_0 c24_1 c24_2 c24_3 c24_4 c24_5 c24_6 c24_7 c24_8
      generalize g_24 = g6 at *
      go_wp2_with fail
      refine HDD.out.mono ?_
      rintro e w5 ⟨A8, m8, k8, ds8, rfl, hk8, hs8, hl8, hm5⟩
      have HK8 := Lib.hid hk8
      have HS8 := Lib.hid hs8
      have HL8 := Lib.hid hl8
      have HM5 := Lib.hid hm5
      have hX := HG4.out.modp hm5
      have x0 := hX.cell 0; have x1 := hX.cell 1; simp at x0 x1
      clear hX hk8 hs8 hl8 hm5 HDD y0 y1 y2 y3 y4 y5
      go_wp2_with fail
      refine (HDF.out _ HM5.out).mono ?_
      rintro e w6 ⟨rfl, hm⟩
      have HM6 := Lib.hid (HM5.out.trans hm)
      have HS6 := Lib.hid (HS8.out.pure hm)
      have hX := HG4.out.modp HM6.out
      have x0 := hX.cell 0; have x1 := hX.cell 1; simp at x0 x1
      clear hX hm HM5 HS8 HDF
      go_wp2_with fail
      refine (HDK.out _ HM6.out).mono ?_
      rintro e w7 ⟨rfl, hm⟩
      have HM7 := Lib.hid (HM6.out.trans hm)
      have HS7 := Lib.hid (HS6.out.pure hm)
      have hX := HG4.out.modp HM7.out
      have hY := HX4.out.modp HM7.out
      have x0 := hX.cell 0; have x1 := hX.cell 1; simp at x0 x1
      have y0 := hY.cell 0; have y1 := hY.cell 1; have y2 := hY.cell 2; have y3 := hY.cell 3; have y4 := hY.cell 4; have y5 := hY.cell 5; simp at y0 y1 y2 y3 y4 y5
      clear hX hY hm HM6 HS6 HDK
      by_cases h0 : qs = 0
      · subst h0
        have HE : Hid (q = qe) := Lib.hid (by rw [HQ.out, if_neg (by simp)])
        clear HQ
        obtain rfl := HE.out
        go_wp2_with fail
        refine (HDO.out _ HM7.out).mono ?_
        rintro e w8 ⟨A9, m9, k9, ds9, rfl, hk9, hs9, hl9, hm8⟩
        have hle : eqL decEq ds8 ds9 = true := likesD_iff.2 (HL8.out.trans hl9.symm)
        have HEF := Lib.hid (equalDec_calls w8 _ _ ds8 ds9 (HS7.out.pure hm8) hs9)
        rw [hle] at HEF
        have HM8 := Lib.hid (HM7.out.trans hm8)
        clear hle hk9 hs9 hl9 hm8 HM7 HS7 HDO x0 x1 y0 y1 y2 y3 y4 y5
        go_wp2_with fail
        refine HEF.out.mono ?_
        rintro e w9 ⟨rfl, hm⟩
        have HM9 := Lib.hid (HM8.out.trans hm)
        clear hm HM8
        go_wp2_with fail
        refine (HDC.out _ HM9.out).mono ?_
        rintro e w10 ⟨rfl, hm⟩
        have HPF := Lib.hid ((HP4.out.trans HM9.out).trans hm)
        clear hm HDC
        go_wp2_with fail
        go_ret
        exact BoolPost.of rfl HPF.out
      · have h0' : (qs != 0) = true := by simpa using h0
        have HE : Hid (q = qs) := Lib.hid (by rw [HQ.out, if_pos h0])
        clear HQ
        obtain rfl := HE.out
        obtain rfl := HK8.out h0
        clear h0 HDO x0 x1 y0 y1 y2 y3 y4 y5
        go_wp2_with fail
        refine (HDC.out _ HM7.out).mono ?_
        rintro e w10 ⟨rfl, hm⟩
        have HPF := Lib.hid ((HP4.out.trans HM7.out).trans hm)
        clear hm HDC
        go_wp2_with fail
        go_ret
        exact BoolPost.of rfl HPF.out

end Go.Proofs.YtkkndblcejmmjaaGreatDoor
