/- Texts of the proof of CodingLatest, put together: LawCodingLatest. -/
import Derived.Test.YtkkndblcejmmjaaGreatDoorCodingLatestZ15
import Derived.Test.YtkkndblcejmmjaaGreatDoorCodingLatestZ37
import Derived.Test.YtkkndblcejmmjaaGreatDoorCodingLatestZ39
import Derived.Test.YtkkndblcejmmjaaGreatDoorCodingLatestZ43
/- The law CodingLatest. -/
namespace Go.Proofs.YtkkndblcejmmjaaGreatDoor
set_option linter.unusedVariables false
set_option linter.unusedSimpArgs false
open Go.RowKit

theorem right_k {L : LayR} {ds : List DecR} (h : decsE L ds = 0) : (∀ d ∈ ds, ∀ z ∈ d.vals, 0 ≤ kIx L.asks z.field) ∧ ∀ d ∈ ds, d.vals.length ≠ 0 := by
  obtain ⟨_, h2⟩ := decsE_0 h
  constructor
  · intro d hd z hz
    obtain ⟨k, hk, rfl⟩ := List.getElem_of_mem hd
    exact (valsE_ge (decE_0 (h2 k hk)).2.2.2.1 z hz).1
  · intro d hd
    obtain ⟨k, hk, rfl⟩ := List.getElem_of_mem hd
    exact (decE_0 (h2 k hk)).2.2.2.2
theorem momentF_calls (w : World) (a : Int) : Calls Tryz.prog 38 #[.int .i64 a] w (IntPost w (moE a)) := by
  by_cases h1 : a < 0
  · have HQ : Hid (moE a = 1) := Lib.hid (by unfold moE inB; rw [if_neg (by simp; omega)])
    generalize moE a = q at *
    go_enter Tryz.func38, Tryz.ntmps38
    go_wp2_with fail
    go_ret
    exact IntPost.of HQ.out (Mod.refl _ _)
  · by_cases h2 : 5761440 ≤ a
    · have HQ : Hid (moE a = 1) := Lib.hid (by unfold moE inB; rw [if_neg (by simp; omega)])
      generalize moE a = q at *
      go_enter Tryz.func38, Tryz.ntmps38
      go_wp2_with fail
      go_ret
      exact IntPost.of HQ.out (Mod.refl _ _)
    · have HQ : Hid (moE a = 0) := Lib.hid (by unfold moE inB; rw [if_pos (by simp; omega)])
      generalize moE a = q at *
      go_enter Tryz.func38, Tryz.ntmps38
      go_wp2_with fail
      go_ret
      exact IntPost.of HQ.out (Mod.refl _ _)
theorem fe1 (a : Int) : firstErr [a] = a := by simp [firstErr]; intro h; exact h.symm

set_option maxRecDepth 100000 in
set_option maxHeartbeats 16000000 in
theorem CodingLatest_calls (w : World) (A : Option Addr) (n c : Nat) (hA : ArgInts w A n) (hM : MlnS w) (hT : Asc w) : Calls Tryz.prog 6 #[.slice A n c] w (BoolPost w true) := by
  have hS0 := strm_new (c := c) hA
  have HMT : Hid (∀ w1, Pure w w1 → MlnS w1 ∧ Asc w1) := Lib.hid (fun _ h => ⟨hM.pure h, hT.pure h⟩)
  obtain ⟨b, hb⟩ : ∃ b, b = w.heap.size := ⟨_, rfl⟩
  have P0 := pure_alloc w (.cells #[.slice A n c, .int .i64 0] 25)
  have HPS : Hid (∀ {w1 w' : World}, Pure w w1 → Mod (· = b) w1 w' → Pure w w') := Lib.hid (fun k h => k.trans' h (fun i hi hlt => by omega))
  rw [← hb] at hS0
  clear hM hT hA
  go_enter Tryz.func6, Tryz.ntmps6
  go_wp2_with fail
  rw [← hb]
  generalize (w.alloc (.cells #[.slice A n c, .int .i64 0] 25)) = w0 at *
  clear hb
  refine (layout_calls w0 b _ hS0 (by omega)).mono ?_
  rintro e w1 ⟨Aa, Ar, na, ca, nr, cr, L, rfl, hL, hla, hlr, hab, hrb, hS1, hM1⟩
  have P1 := HPS.out P0 hM1
  have hLB : LayB L := ⟨by omega, by omega, hab, hrb⟩
  have HLB := Lib.hid hLB
  have hpl := pure_alloc w1 (.cells #[.slice Aa na ca, .slice Ar nr cr] 29)
  have HG := Lib.hid (Blk.new w1 29 #[.slice Aa na ca, .slice Ar nr cr])
  have HP2 := Lib.hid (P1.trans hpl)
  have hS2 := hS1.alloc (.cells #[.slice Aa na ca, .slice Ar nr cr] 29)
  have HLV : Hid (∀ W, Mod (· = b) (w1.alloc (.cells #[.slice Aa na ca, .slice Ar nr cr] 29)) W → LayV W L (.agg #[.slice Aa na ca, .slice Ar nr cr])) := Lib.hid (fun W h => (hL.pure hpl).strm hS2 h)
  have hb1 := hS1.lt
  clear hS0 P0 hM1 hL hab hrb hLB P1 hpl hS1
  go_upto_region 3 with (fail)
  generalize (w1.alloc (.cells #[.slice Aa na ca, .slice Ar nr cr] 29)) = w2 at *
  generalize w1.heap.size = gl at *
  clear w0 w1
  have HGs := Lib.hid (show ∀ (D : Nat → Bool) (zzi : Nat) (zq zq' : World), (fun _ zq => (fun Z => Blk Z gl 29 #[.slice Aa na ca, .slice Ar nr cr]) zq) D zq → Mod (· = b) zq zq' → (fun _ zq => (fun Z => Blk Z gl 29 #[.slice Aa na ca, .slice Ar nr cr]) zq) (upd D zzi true) zq' from by intro D zzi zq zq' h hm; (exact h.modb hm (by omega)))
  refine wp_region_inv (by kernel_rfl) (by kernel_rfl) (InvF (R := Mod (· = b)) [.is (.pointer (some ⟨b, 0, none⟩)),
      .is (.agg #[.slice Aa na ca, .slice Ar nr cr]),
      .is (.pointer (some ⟨b, 0, none⟩)),
      .val (fun zv => ∃ (q_3 : Nat), zv = .int .i64 (q_3 : Int) ∧ q_3 ≤ 8),
      ⟨fun zv zw => ∃ (base_4 : Nat) (c_4 : Nat) (A_4 : Option Addr) (ds_4 : List DecR), zv = .slice A_4 ds_4.length c_4 ∧ w2.heap.size ≤ base_4 ∧ ds_4.length ≤ 8 ∧ (∀ x ∈ ds_4, DecB x) ∧ DcB zw b base_4 A_4 c_4 ds_4, (by rintro zv zw zx ⟨base_4, c_4, A_4, ds_4, rfl, c0, c1, c2, q0⟩ hm; exact ⟨base_4, c_4, A_4, ds_4, rfl, c0, c1, c2, (q0.ask hm)⟩), none, none⟩,
      ⟨fun zv zw => ∃ (base_5 : Nat) (c_5 : Nat) (A_5 : Option Addr) (ds_5 : List DecR), zv = .slice A_5 ds_5.length c_5 ∧ w2.heap.size ≤ base_5 ∧ ds_5.length ≤ 8 ∧ (∀ x ∈ ds_5, DecB x) ∧ DcB zw b base_5 A_5 c_5 ds_5, (by rintro zv zw zx ⟨base_5, c_5, A_5, ds_5, rfl, c0, c1, c2, q0⟩ hm; exact ⟨base_5, c_5, A_5, ds_5, rfl, c0, c1, c2, (q0.ask hm)⟩), none, none⟩]
      (GB w2 (· = b) w2.heap.size b ((0 + 100)) (fun D => (D 3).toNat + 4000 * (D 4).toNat) (fun _ zq => (fun Z => Blk Z gl 29 #[.slice Aa na ca, .slice Ar nr cr]) zq))) (InvF.start (GB.start (hS2.more (by omega)) (Mod.refl _ _) (Nat.le_refl _) (HG.out.drew))) ?_ ?_
  · refine .cons ?_ (.cons ?_ (.cons ?_ (.cons ?_ (.cons ?_ (.cons ?_ .nil)))))
    · intro D V zw1 a hR hI K hK
      obtain ⟨hS1, hM1, hB1, hG1⟩ := hI.1
      have ze3 := hR.frame.other (t := 3) (by kernel_rfl) rfl
      rw [if_pos (by rfl)]
      go_simp
      exact hK (.pointer (some ⟨b, 0, none⟩)) _ (hI.next hR (by kernel_rfl) (Mod.refl _ _) (GB.quiet hI.1 (Mod.refl _ _) (by have hn := hR.not; simp [upd, hn] <;> omega) (HGs.out D 0 zw1 zw1 (hI.1).g (Mod.refl _ _))) (upd_same V 0 _))
    · intro D V zw1 a hR hI K hK
      obtain ⟨hS1, hM1, hB1, hG1⟩ := hI.1
      have ze4 := hR.frame.other (t := 4) (by kernel_rfl) rfl
      have zx0 := hG1.cell 0; have zx1 := hG1.cell 1
      simp at zx0 zx1
      rw [if_pos (by rfl)]
      go_simp
      exact hK (.agg #[.slice Aa na ca, .slice Ar nr cr]) _ (hI.next hR (by kernel_rfl) (Mod.refl _ _) (GB.quiet hI.1 (Mod.refl _ _) (by have hn := hR.not; simp [upd, hn] <;> omega) (HGs.out D 1 zw1 zw1 (hI.1).g (Mod.refl _ _))) (upd_same V 1 _))
    · intro D V zw1 a hR hI K hK
      obtain ⟨hS1, hM1, hB1, hG1⟩ := hI.1
      have ze3 := hR.frame.other (t := 3) (by kernel_rfl) rfl
      rw [if_pos (by rfl)]
      go_simp
      exact hK (.pointer (some ⟨b, 0, none⟩)) _ (hI.next hR (by kernel_rfl) (Mod.refl _ _) (GB.quiet hI.1 (Mod.refl _ _) (by have hn := hR.not; simp [upd, hn] <;> omega) (HGs.out D 2 zw1 zw1 (hI.1).g (Mod.refl _ _))) (upd_same V 2 _))
    · intro D V zw1 a hR hI K hK
      obtain ⟨hS1, hM1, hB1, hG1⟩ := hI.1
      have zd2 := hR.pred 2 (by kernel_rfl)
      have zF2 : V 2 = .pointer (some ⟨b, 0, none⟩) := hI.2 2 zd2 rfl
      have zf2 := zF2; clear zF2
      have ze21 := hR.frame.done (t := 21) (j := 2) (by kernel_rfl) hR.ok zd2
      rw [if_pos (by rfl)]
      have := Bool.toNat_le (D 3)
      have := Bool.toNat_le (D 4)
      have hNB : (0 + 100) + ((D 3).toNat + 4000 * (D 4).toNat) ≤ 1000000000 := by omega
      skip
      go_simp
      refine (range_calls _ _ _ _ _ hS1 hNB (by omega) (by omega) (by omega)).mono ?_
      rintro e zw2 ⟨k_0, hk1, hk2, rfl, hS2, hm2⟩
      obtain ⟨q_0, rfl⟩ := Int.eq_ofNat_of_zero_le hk1
      exact hK (.int .i64 (q_0 : Int)) _ (hI.next hR (by kernel_rfl) hm2 (GB.asks hI.1 (fun _ h _ => h) hS2 hm2 (by have hn := hR.not; simp [upd, hn] <;> omega) (HGs.out D 3 _ _ (hI.1).g hm2)) (⟨q_0, upd_same V 3 _, (by first | assumption | omega)⟩))
    · intro D V zw1 a hR hI K hK
      obtain ⟨hS1, hM1, hB1, hG1⟩ := hI.1
      have zd0 := hR.pred 0 (by kernel_rfl)
      have zF0 : V 0 = .pointer (some ⟨b, 0, none⟩) := hI.2 0 zd0 rfl
      have zf0 := zF0; clear zF0
      have zd1 := hR.pred 1 (by kernel_rfl)
      have zF1 : V 1 = .agg #[.slice Aa na ca, .slice Ar nr cr] := hI.2 1 zd1 rfl
      have zf1 := zF1; clear zF1
      have zd3 := hR.pred 3 (by kernel_rfl)
      have zF3 : ∃ (q_3 : Nat), V 3 = .int .i64 (q_3 : Int) ∧ q_3 ≤ 8 := hI.2 3 zd3 rfl
      obtain ⟨q_3, zf3, c3_0⟩ := zF3
      have ze19 := hR.frame.done (t := 19) (j := 0) (by kernel_rfl) hR.ok zd0
      have ze20 := hR.frame.done (t := 20) (j := 1) (by kernel_rfl) hR.ok zd1
      have ze22 := hR.frame.done (t := 22) (j := 3) (by kernel_rfl) hR.ok zd3
      rw [if_pos (by rfl)]
      have := Bool.toNat_le (D 3)
      have := Bool.toNat_le (D 4)
      have hNB : (0 + 100) + ((D 3).toNat + 4000 * (D 4).toNat) ≤ 1000000000 := by omega
      skip
      go_simp
      refine (decisions_calls _ b _ _ L q_3 hS1 (by omega) (by omega) (HLV.out _ hM1) hla HLB.out).mono ?_
      rintro e zw2 ⟨base_0, c_0, A_0, ds_0, rfl, hbb, hwb, hdg, hdl, hdz, hS2, hm2⟩
      exact hK (.slice A_0 ds_0.length c_0) _ (hI.next hR (by kernel_rfl) hm2 (GB.asks hI.1 (fun _ h _ => h) hS2 hm2 (by have hn := hR.not; simp [upd, hn] <;> omega) (HGs.out D 4 _ _ (hI.1).g hm2)) (⟨base_0, c_0, A_0, ds_0, upd_same V 4 _, (by omega), (by omega), hdz, (DcB.of hdg hbb hS2)⟩))
    · intro D V zw1 a hR hI K hK
      obtain ⟨hS1, hM1, hB1, hG1⟩ := hI.1
      have zd4 := hR.pred 4 (by kernel_rfl)
      have zF4 : ∃ (base_4 : Nat) (c_4 : Nat) (A_4 : Option Addr) (ds_4 : List DecR), V 4 = .slice A_4 ds_4.length c_4 ∧ w2.heap.size ≤ base_4 ∧ ds_4.length ≤ 8 ∧ (∀ x ∈ ds_4, DecB x) ∧ DcB zw1 b base_4 A_4 c_4 ds_4 := hI.2 4 zd4 rfl
      obtain ⟨base_4, c_4, A_4, ds_4, zf4, c4_0, c4_1, c4_2, b4_0⟩ := zF4
      have ze23 := hR.frame.done (t := 23) (j := 4) (by kernel_rfl) hR.ok zd4
      rw [if_pos (by rfl)]
      go_simp
      exact hK (.slice A_4 ds_4.length c_4) _ (hI.next hR (by kernel_rfl) (Mod.refl _ _) (GB.quiet hI.1 (Mod.refl _ _) (by have hn := hR.not; simp [upd, hn] <;> omega) (HGs.out D 5 zw1 zw1 (hI.1).g (Mod.refl _ _))) (⟨base_4, c_4, A_4, ds_4, upd_same V 5 _, (by first | assumption | omega), (by first | assumption | omega), (by first | assumption | omega), b4_0⟩))
  · intro D V w3 hD hI
    obtain ⟨hS1, hM1, hB1, hG1⟩ := hI.1
    have hSx : Strm w3 b ((0 + 100) + 4001) := hS1.more (by show _ ≤ _; have := Bool.toNat_le (D 3); have := Bool.toNat_le (D 4); omega)
    clear hS1
    have hMx := hM1
    clear hM1
    have hBx := hB1
    clear hB1
    have hGx := hG1
    clear hG1
    have zF0 : V 0 = .pointer (some ⟨b, 0, none⟩) := hI.2 0 (hD 0 (by decide)) rfl
    have zf0 := zF0; clear zF0
    have zF1 : V 1 = .agg #[.slice Aa na ca, .slice Ar nr cr] := hI.2 1 (hD 1 (by decide)) rfl
    have zf1 := zF1; clear zF1
    have zF2 : V 2 = .pointer (some ⟨b, 0, none⟩) := hI.2 2 (hD 2 (by decide)) rfl
    have zf2 := zF2; clear zF2
    have zF3 : ∃ (q_3 : Nat), V 3 = .int .i64 (q_3 : Int) ∧ q_3 ≤ 8 := hI.2 3 (hD 3 (by decide)) rfl
    obtain ⟨q_3, zf3, c3_0⟩ := zF3
    have zF4 : ∃ (base_4 : Nat) (c_4 : Nat) (A_4 : Option Addr) (ds_4 : List DecR), V 4 = .slice A_4 ds_4.length c_4 ∧ w2.heap.size ≤ base_4 ∧ ds_4.length ≤ 8 ∧ (∀ x ∈ ds_4, DecB x) ∧ DcB w3 b base_4 A_4 c_4 ds_4 := hI.2 4 (hD 4 (by decide)) rfl
    obtain ⟨base_4, c_4, A_4, ds_4, zf4, c4_0, c4_1, c4_2, b4_0⟩ := zF4
    have zF5 : ∃ (base_5 : Nat) (c_5 : Nat) (A_5 : Option Addr) (ds_5 : List DecR), V 5 = .slice A_5 ds_5.length c_5 ∧ w2.heap.size ≤ base_5 ∧ ds_5.length ≤ 8 ∧ (∀ x ∈ ds_5, DecB x) ∧ DcB w3 b base_5 A_5 c_5 ds_5 := hI.2 5 (hD 5 (by decide)) rfl
    obtain ⟨base_5, c_5, A_5, ds_5, zf5, c5_0, c5_1, c5_2, b5_0⟩ := zF5
    clear hI hD HGs
    simp only [frAll, Act.put, List.setIfInBounds_toArray, List.set_cons_zero, List.set_cons_succ, Nat.zero_add, Nat.reduceAdd, zf0, zf1, zf2, zf3, zf4, zf5]
    clear zf0 zf1 zf2 zf3 zf4 zf5
    clear V D
    have HDB := Lib.hid b5_0
    have HDZ := Lib.hid c5_2
    have HP3 := Lib.hid (HPS.out HP2.out hMx)
    have HM3 := Lib.hid hMx
    have HG3 := Lib.hid hGx
    have hdl : ds_5.length ≤ 8 := c5_1
    have hbg : gl < w3.heap.size := hGx.lt
    have hbw3 := hSx.lt
    clear b4_0 b5_0 c4_0 c4_1 c4_2 c5_0 c5_1 c5_2 c3_0 hMx hGx hBx HP2 HG hS2
    generalize ds_5 = ds at *
    generalize A_5 = A5 at *
    generalize c_5 = c5 at *
    generalize base_5 = base at *
    generalize hNx : 0 + 100 + 4001 = Nx at *
    have hNx2 : Nx ≤ 5000 := by omega
    clear hNx
    go_upto_region 4 with (fail)
    have HGs := Lib.hid (show ∀ (D : Nat → Bool) (zzi : Nat) (zq zq' : World), (fun _ zq => (fun Z => Blk Z gl 29 #[.slice Aa na ca, .slice Ar nr cr]) zq) D zq → Mod (· = b) zq zq' → (fun _ zq => (fun Z => Blk Z gl 29 #[.slice Aa na ca, .slice Ar nr cr]) zq) (upd D zzi true) zq' from by intro D zzi zq zq' h hm; (exact h.modb hm (by omega)))
    refine wp_region_inv (by kernel_rfl) (by kernel_rfl) (InvF (R := Mod (· = b)) [⟨fun zv zw => ∃ (g_0 : Nat), zv = .slice (some ⟨g_0, 0, none⟩) 5 5 ∧ w3.heap.size ≤ g_0 ∧ Blk zw g_0 9 #[(.string { data := #[105, 97] }), (.string { data := #[105, 98] }), (.string { data := #[105, 99] }), (.string { data := #[] }), (.string { data := #[65] })], (by rintro zv zw zx ⟨g_0, rfl, c0, q0⟩ hm; exact ⟨g_0, rfl, c0, (q0.modb hm (by omega))⟩), none, some 4⟩,
        .is (.pointer (some ⟨b, 0, none⟩)),
        ⟨fun zv zw => ∃ (g_2 : Nat), zv = .slice (some ⟨g_2, 0, none⟩) 6 6 ∧ w3.heap.size ≤ g_2 ∧ Blk zw g_2 3 #[(.int .i64 0), (.int .i64 0), (.int .i64 1), (.int .i64 2), (.int .i64 3), (.int .i64 4)], (by rintro zv zw zx ⟨g_2, rfl, c0, q0⟩ hm; exact ⟨g_2, rfl, c0, (q0.modb hm (by omega))⟩), none, some 3⟩,
        .val (fun zv => ∃ (k_3 : Int), zv = .int .i64 k_3 ∧ 0 ≤ k_3 ∧ k_3 ≤ 4),
        ⟨fun zv zw => ∃ (g_4 : Nat) (q_4 : Nat), zv = .pointer (some ⟨g_4, q_4, none⟩) ∧ q_4 < 5 ∧ w3.heap.size ≤ g_4 ∧ Blk zw g_4 9 #[.string ⟨#[105, 97]⟩, .string ⟨#[105, 98]⟩, .string ⟨#[105, 99]⟩, .string ⟨#[]⟩, .string ⟨#[65]⟩], (by rintro zv zw zx ⟨g_4, q_4, rfl, c0, c1, q0⟩ hm; exact ⟨g_4, q_4, rfl, c0, c1, (q0.modb hm (by omega))⟩), none, some 5⟩,
        .val (fun zv => ∃ (s_5 : Str), zv = .string ⟨s_5.toArray⟩ ∧ s_5.length ≤ 100),
        .is (.pointer (some ⟨b, 0, none⟩)),
        ⟨fun zv zw => ∃ (g_7 : Nat), zv = .slice (some ⟨g_7, 0, none⟩) 7 7 ∧ w3.heap.size ≤ g_7 ∧ Blk zw g_7 3 #[(.int .i64 5), (.int .i64 10), (.int .i64 20), (.int .i64 100), (.int .i64 4), (.int .i64 (-1)), (.int .i64 5761440)], (by rintro zv zw zx ⟨g_7, rfl, c0, q0⟩ hm; exact ⟨g_7, rfl, c0, (q0.modb hm (by omega))⟩), none, some 8⟩,
        .val (fun zv => ∃ (k_8 : Int), zv = .int .i64 k_8 ∧ -1 ≤ k_8 ∧ k_8 ≤ 5761440),
        .val (fun zv => ∃ (s_9 : Str), zv = .string ⟨s_9.toArray⟩ ∧ s_9.length ≤ 100),
        .val (fun zv => ∃ (k_10 : Int), zv = .int .i64 k_10 ∧ -1 ≤ k_10 ∧ k_10 ≤ 5761440)]
        (GB w3 (· = b) w3.heap.size b (Nx) (fun D => (D 3).toNat + (D 8).toNat) (fun _ zq => (fun Z => Blk Z gl 29 #[.slice Aa na ca, .slice Ar nr cr]) zq))) (InvF.start (GB.start hSx (Mod.refl _ _) (Nat.le_refl _) (HG3.out.drew))) ?_ ?_
    · refine .cons ?_ (.cons ?_ (.cons ?_ (.cons ?_ (.cons ?_ (.cons ?_ (.cons ?_ (.cons ?_ (.cons ?_ (.cons ?_ (.cons ?_ .nil))))))))))
      · intro D V zw1 a hR hI K hK
        obtain ⟨hS1, hM1, hB1, hG1⟩ := hI.1
        rw [if_pos (by rfl)]
        go_simp
        exact hK (_) _ (hI.next hR (by kernel_rfl) ((Mod.refl _ _).alloc _) (GB.quiet hI.1 (pure_alloc _ _) (by have hn := hR.not; simp [upd, hn] <;> omega) (HGs.out D 0 _ _ (hI.1).g ((Mod.refl _ _).alloc _))) (⟨_, upd_same V 0 _, (by omega), (Blk.new _ _ _)⟩))
      · intro D V zw1 a hR hI K hK
        obtain ⟨hS1, hM1, hB1, hG1⟩ := hI.1
        have ze3 := hR.frame.other (t := 3) (by kernel_rfl) rfl
        rw [if_pos (by rfl)]
        go_simp
        exact hK (.pointer (some ⟨b, 0, none⟩)) _ (hI.next hR (by kernel_rfl) (Mod.refl _ _) (GB.quiet hI.1 (Mod.refl _ _) (by have hn := hR.not; simp [upd, hn] <;> omega) (HGs.out D 1 zw1 zw1 (hI.1).g (Mod.refl _ _))) (upd_same V 1 _))
      · intro D V zw1 a hR hI K hK
        obtain ⟨hS1, hM1, hB1, hG1⟩ := hI.1
        rw [if_pos (by rfl)]
        go_simp
        exact hK (_) _ (hI.next hR (by kernel_rfl) ((Mod.refl _ _).alloc _) (GB.quiet hI.1 (pure_alloc _ _) (by have hn := hR.not; simp [upd, hn] <;> omega) (HGs.out D 2 _ _ (hI.1).g ((Mod.refl _ _).alloc _))) (⟨_, upd_same V 2 _, (by omega), (Blk.new _ _ _)⟩))
      · intro D V zw1 a hR hI K hK
        obtain ⟨hS1, hM1, hB1, hG1⟩ := hI.1
        have zd1 := hR.pred 1 (by kernel_rfl)
        have zF1 : V 1 = .pointer (some ⟨b, 0, none⟩) := hI.2 1 zd1 rfl
        have zf1 := zF1; clear zF1
        have zd2 := hR.pred 2 (by kernel_rfl)
        have zF2 : ∃ (g_2 : Nat), V 2 = .slice (some ⟨g_2, 0, none⟩) 6 6 ∧ w3.heap.size ≤ g_2 ∧ Blk zw1 g_2 3 #[(.int .i64 0), (.int .i64 0), (.int .i64 1), (.int .i64 2), (.int .i64 3), (.int .i64 4)] := hI.2 2 zd2 (by show (!D 3) = true; rw [hR.not]; rfl)
        obtain ⟨g_2, zf2, c2_0, b2_0⟩ := zF2
        have ze25 := hR.frame.done (t := 25) (j := 1) (by kernel_rfl) hR.ok zd1
        have ze26 := hR.frame.done (t := 26) (j := 2) (by kernel_rfl) hR.ok zd2
        rw [if_pos (by rfl)]
        have := Bool.toNat_le (D 3)
        have := Bool.toNat_le (D 8)
        have hNB : Nx + ((D 3).toNat + (D 8).toNat) ≤ 1000000000 := by omega
        skip
        go_simp
        refine (pickv_calls _ _ _ _ 6 6 #[(.int .i64 0), (.int .i64 0), (.int .i64 1), (.int .i64 2), (.int .i64 3), (.int .i64 4)] hS1 b2_0 hNB (by omega) rfl (by omega) (by omega) rfl).mono ?_
        rintro e zw2 ⟨k_0, hk, rfl, hS2, hm2⟩
        have hk2 : 0 ≤ k_0 ∧ k_0 ≤ 4 := by simp [intsOf, Go.RowKit.intOf] at hk; omega
        exact hK (.int .i64 k_0) _ (hI.next hR (by kernel_rfl) hm2 (GB.asks hI.1 (fun _ h _ => h) hS2 hm2 (by have hn := hR.not; simp [upd, hn] <;> omega) (HGs.out D 3 _ _ (hI.1).g hm2)) (⟨k_0, upd_same V 3 _, hk2.1, hk2.2⟩))
      · intro D V zw1 a hR hI K hK
        obtain ⟨hS1, hM1, hB1, hG1⟩ := hI.1
        have zd0 := hR.pred 0 (by kernel_rfl)
        have zF0 : ∃ (g_0 : Nat), V 0 = .slice (some ⟨g_0, 0, none⟩) 5 5 ∧ w3.heap.size ≤ g_0 ∧ Blk zw1 g_0 9 #[(.string { data := #[105, 97] }), (.string { data := #[105, 98] }), (.string { data := #[105, 99] }), (.string { data := #[] }), (.string { data := #[65] })] := hI.2 0 zd0 (by show (!D 4) = true; rw [hR.not]; rfl)
        obtain ⟨g_0, zf0, c0_0, b0_0⟩ := zF0
        have zd3 := hR.pred 3 (by kernel_rfl)
        have zF3 : ∃ (k_3 : Int), V 3 = .int .i64 k_3 ∧ 0 ≤ k_3 ∧ k_3 ≤ 4 := hI.2 3 zd3 rfl
        obtain ⟨k_3, zf3, c3_0, c3_1⟩ := zF3
        have ze24 := hR.frame.done (t := 24) (j := 0) (by kernel_rfl) hR.ok zd0
        have ze27 := hR.frame.done (t := 27) (j := 3) (by kernel_rfl) hR.ok zd3
        obtain ⟨zq, rfl⟩ := Int.eq_ofNat_of_zero_le c3_0
        have zb : zq < 5 := by omega
        have zb2 : (zq : Int) < 5 := by omega
        rw [if_pos (by rfl)]
        go_simp
        exact hK (_) _ (hI.next hR (by kernel_rfl) (Mod.refl _ _) (GB.quiet hI.1 (Mod.refl _ _) (by have hn := hR.not; simp [upd, hn] <;> omega) (HGs.out D 4 zw1 zw1 (hI.1).g (Mod.refl _ _))) (⟨g_0, zq, upd_same V 4 _, zb, (by omega), b0_0⟩))
      · intro D V zw1 a hR hI K hK
        obtain ⟨hS1, hM1, hB1, hG1⟩ := hI.1
        have zd4 := hR.pred 4 (by kernel_rfl)
        have zF4 : ∃ (g_4 : Nat) (q_4 : Nat), V 4 = .pointer (some ⟨g_4, q_4, none⟩) ∧ q_4 < 5 ∧ w3.heap.size ≤ g_4 ∧ Blk zw1 g_4 9 #[.string ⟨#[105, 97]⟩, .string ⟨#[105, 98]⟩, .string ⟨#[105, 99]⟩, .string ⟨#[]⟩, .string ⟨#[65]⟩] := hI.2 4 zd4 (by show (!D 5) = true; rw [hR.not]; rfl)
        obtain ⟨g_4, q_4, zf4, c4_0, c4_1, b4_0⟩ := zF4
        have ze28 := hR.frame.done (t := 28) (j := 4) (by kernel_rfl) hR.ok zd4
        obtain ⟨zs, hsl, hcell⟩ := strs_cell (M := 100) [[105, 97], [105, 98], [105, 99], [], [65]] b4_0 c4_0 (by decide)
        rw [if_pos (by rfl)]
        go_simp
        exact hK (_) _ (hI.next hR (by kernel_rfl) (Mod.refl _ _) (GB.quiet hI.1 (Mod.refl _ _) (by have hn := hR.not; simp [upd, hn] <;> omega) (HGs.out D 5 zw1 zw1 (hI.1).g (Mod.refl _ _))) (⟨zs, upd_same V 5 _, hsl⟩))
      · intro D V zw1 a hR hI K hK
        obtain ⟨hS1, hM1, hB1, hG1⟩ := hI.1
        have ze3 := hR.frame.other (t := 3) (by kernel_rfl) rfl
        rw [if_pos (by rfl)]
        go_simp
        exact hK (.pointer (some ⟨b, 0, none⟩)) _ (hI.next hR (by kernel_rfl) (Mod.refl _ _) (GB.quiet hI.1 (Mod.refl _ _) (by have hn := hR.not; simp [upd, hn] <;> omega) (HGs.out D 6 zw1 zw1 (hI.1).g (Mod.refl _ _))) (upd_same V 6 _))
      · intro D V zw1 a hR hI K hK
        obtain ⟨hS1, hM1, hB1, hG1⟩ := hI.1
        rw [if_pos (by rfl)]
        go_simp
        exact hK (_) _ (hI.next hR (by kernel_rfl) ((Mod.refl _ _).alloc _) (GB.quiet hI.1 (pure_alloc _ _) (by have hn := hR.not; simp [upd, hn] <;> omega) (HGs.out D 7 _ _ (hI.1).g ((Mod.refl _ _).alloc _))) (⟨_, upd_same V 7 _, (by omega), (Blk.new _ _ _)⟩))
      · intro D V zw1 a hR hI K hK
        obtain ⟨hS1, hM1, hB1, hG1⟩ := hI.1
        have zd6 := hR.pred 6 (by kernel_rfl)
        have zF6 : V 6 = .pointer (some ⟨b, 0, none⟩) := hI.2 6 zd6 rfl
        have zf6 := zF6; clear zF6
        have zd7 := hR.pred 7 (by kernel_rfl)
        have zF7 : ∃ (g_7 : Nat), V 7 = .slice (some ⟨g_7, 0, none⟩) 7 7 ∧ w3.heap.size ≤ g_7 ∧ Blk zw1 g_7 3 #[(.int .i64 5), (.int .i64 10), (.int .i64 20), (.int .i64 100), (.int .i64 4), (.int .i64 (-1)), (.int .i64 5761440)] := hI.2 7 zd7 (by show (!D 8) = true; rw [hR.not]; rfl)
        obtain ⟨g_7, zf7, c7_0, b7_0⟩ := zF7
        have ze30 := hR.frame.done (t := 30) (j := 6) (by kernel_rfl) hR.ok zd6
        have ze31 := hR.frame.done (t := 31) (j := 7) (by kernel_rfl) hR.ok zd7
        rw [if_pos (by rfl)]
        have := Bool.toNat_le (D 3)
        have := Bool.toNat_le (D 8)
        have hNB : Nx + ((D 3).toNat + (D 8).toNat) ≤ 1000000000 := by omega
        skip
        go_simp
        refine (pickv_calls _ _ _ _ 7 7 #[(.int .i64 5), (.int .i64 10), (.int .i64 20), (.int .i64 100), (.int .i64 4), (.int .i64 (-1)), (.int .i64 5761440)] hS1 b7_0 hNB (by omega) rfl (by omega) (by omega) rfl).mono ?_
        rintro e zw2 ⟨k_0, hk, rfl, hS2, hm2⟩
        have hk2 : -1 ≤ k_0 ∧ k_0 ≤ 5761440 := by simp [intsOf, Go.RowKit.intOf] at hk; omega
        exact hK (.int .i64 k_0) _ (hI.next hR (by kernel_rfl) hm2 (GB.asks hI.1 (fun _ h _ => h) hS2 hm2 (by have hn := hR.not; simp [upd, hn] <;> omega) (HGs.out D 8 _ _ (hI.1).g hm2)) (⟨k_0, upd_same V 8 _, hk2.1, hk2.2⟩))
      · intro D V zw1 a hR hI K hK
        obtain ⟨hS1, hM1, hB1, hG1⟩ := hI.1
        have zd5 := hR.pred 5 (by kernel_rfl)
        have zF5 : ∃ (s_5 : Str), V 5 = .string ⟨s_5.toArray⟩ ∧ s_5.length ≤ 100 := hI.2 5 zd5 rfl
        obtain ⟨s_5, zf5, c5_0⟩ := zF5
        have ze29 := hR.frame.done (t := 29) (j := 5) (by kernel_rfl) hR.ok zd5
        rw [if_pos (by rfl)]
        go_simp
        exact hK (.string ⟨s_5.toArray⟩) _ (hI.next hR (by kernel_rfl) (Mod.refl _ _) (GB.quiet hI.1 (Mod.refl _ _) (by have hn := hR.not; simp [upd, hn] <;> omega) (HGs.out D 9 zw1 zw1 (hI.1).g (Mod.refl _ _))) (⟨s_5, upd_same V 9 _, (by first | assumption | omega)⟩))
      · intro D V zw1 a hR hI K hK
        obtain ⟨hS1, hM1, hB1, hG1⟩ := hI.1
        have zd8 := hR.pred 8 (by kernel_rfl)
        have zF8 : ∃ (k_8 : Int), V 8 = .int .i64 k_8 ∧ -1 ≤ k_8 ∧ k_8 ≤ 5761440 := hI.2 8 zd8 rfl
        obtain ⟨k_8, zf8, c8_0, c8_1⟩ := zF8
        have ze32 := hR.frame.done (t := 32) (j := 8) (by kernel_rfl) hR.ok zd8
        rw [if_pos (by rfl)]
        go_simp
        exact hK (.int .i64 k_8) _ (hI.next hR (by kernel_rfl) (Mod.refl _ _) (GB.quiet hI.1 (Mod.refl _ _) (by have hn := hR.not; simp [upd, hn] <;> omega) (HGs.out D 10 zw1 zw1 (hI.1).g (Mod.refl _ _))) (⟨k_8, upd_same V 10 _, (by first | assumption | omega), (by first | assumption | omega)⟩))
    · intro D V w4 hD hI
      obtain ⟨hS1, hM1, hB1, hG1⟩ := hI.1
      have hSy : Strm w4 b (Nx + 2) := hS1.more (by show _ ≤ _; have := Bool.toNat_le (D 3); have := Bool.toNat_le (D 8); omega)
      clear hS1
      have hMy := hM1
      clear hM1
      have hBy := hB1
      clear hB1
      have hGy := hG1
      clear hG1
      have zF1 : V 1 = .pointer (some ⟨b, 0, none⟩) := hI.2 1 (hD 1 (by decide)) rfl
      have zf1 := zF1; clear zF1
      have zF3 : ∃ (k_3 : Int), V 3 = .int .i64 k_3 ∧ 0 ≤ k_3 ∧ k_3 ≤ 4 := hI.2 3 (hD 3 (by decide)) rfl
      obtain ⟨k_3, zf3, c3_0, c3_1⟩ := zF3
      have zF5 : ∃ (s_5 : Str), V 5 = .string ⟨s_5.toArray⟩ ∧ s_5.length ≤ 100 := hI.2 5 (hD 5 (by decide)) rfl
      obtain ⟨s_5, zf5, c5_0⟩ := zF5
      have zF6 : V 6 = .pointer (some ⟨b, 0, none⟩) := hI.2 6 (hD 6 (by decide)) rfl
      have zf6 := zF6; clear zF6
      have zF8 : ∃ (k_8 : Int), V 8 = .int .i64 k_8 ∧ -1 ≤ k_8 ∧ k_8 ≤ 5761440 := hI.2 8 (hD 8 (by decide)) rfl
      obtain ⟨k_8, zf8, c8_0, c8_1⟩ := zF8
      have zF9 : ∃ (s_9 : Str), V 9 = .string ⟨s_9.toArray⟩ ∧ s_9.length ≤ 100 := hI.2 9 (hD 9 (by decide)) rfl
      obtain ⟨s_9, zf9, c9_0⟩ := zF9
      have zF10 : ∃ (k_10 : Int), V 10 = .int .i64 k_10 ∧ -1 ≤ k_10 ∧ k_10 ≤ 5761440 := hI.2 10 (hD 10 (by decide)) rfl
      obtain ⟨k_10, zf10, c10_0, c10_1⟩ := zF10
      clear hI hD HGs
      simp only [frAll, Act.put, List.setIfInBounds_toArray, List.set_cons_zero, List.set_cons_succ, Nat.zero_add, Nat.reduceAdd, zf1, zf3, zf5, zf6, zf8, zf9, zf10]
      clear zf1 zf3 zf5 zf6 zf8 zf9 zf10
      generalize V 0 = u0
      generalize V 2 = u2
      generalize V 4 = u4
      generalize V 7 = u7
      clear V D
      have hsl : s_9.length ≤ 100 := c9_0
      have HDB4 := Lib.hid (HDB.out.ask hMy)
      have HP4 := Lib.hid (HPS.out HP3.out hMy)
      have hLW := HLV.out _ (HM3.out.trans hMy)
      have HRK : Hid (decsE L ds = 0 → (∀ d ∈ ds, ∀ z ∈ d.vals, 0 ≤ kIx L.asks z.field) ∧ ∀ d ∈ ds, d.vals.length ≠ 0) := Lib.hid right_k
      have HCO := Lib.hid (codingOf_calls w4 _ L A5 ds.length c5 ds s_9 k_10 hLW HLB.out HDB4.out.decs HDZ.out (by omega) (by omega) (fun h => (HRK.out h).1))
      have HCG := Lib.hid (fun W (h : Pure w4 W) => codings_calls W _ L A5 ds.length c5 ds k_10 (hLW.pure h) HLB.out (HDB4.out.decs.pure h) HDZ.out (by omega) (fun h => (HRK.out h).1))
      have HDF := Lib.hid (fun W (h : Pure w4 W) => dsfault_calls W _ L A5 ds.length c5 ds (hLW.pure h) HLB.out (HDB4.out.decs.pure h) HDZ.out (by omega))
      have HCA := Lib.hid (fun (h0 : decsE L ds = 0) W (h : Pure w4 W) => codedAt_calls W _ L A5 ds.length c5 ds s_9 k_10 (hLW.pure h) HLB.out (HDB4.out.decs.pure h) HDZ.out (by omega) (HRK.out h0).1)
      have HCS := Lib.hid (fun (h0 : decsE L ds = 0) W (h : Pure w4 W) => codingsAt_calls W _ L A5 ds.length c5 ds k_10 (hLW.pure h) HLB.out (HDB4.out.decs.pure h) HDZ.out (by omega) (HRK.out h0).1)
      have HELD := Lib.hid (fun W (h : Pure w4 W) => latD_el (al := L.asks) (at_ := k_10) (HDB4.out.decs.2.pure h) HDZ.out s_9)
      have HSAME : Hid (decsE L ds = 0 → (itsF L.asks k_10 ds (itemsD ds)).map (codD L.asks k_10 ds) = codsL L.asks ds k_10) := Lib.hid (fun h => by
        unfold itsF codsL
        rw [cods_ref (HRK.out h).2]
        exact List.map_congr_left (fun i _ => codD_L))
      have HVD : Hid ((latD L.asks k_10 ds s_9).vals = codV L.asks ds k_10 s_9) := Lib.hid (latD_vals _ _ _ _)
      have HMF := Lib.hid (fun W => momentF_calls W k_10)
      have HRKY := Lib.hid (fun W => rkeyP_calls W s_9 (keyB s_9) rfl (by omega))
      have HQO : Hid (cofE L ds s_9 k_10 = if decsE L ds ≠ 0 then decsE L ds else if kyE s_9 ≠ 0 then kyE s_9 else moE k_10) := Lib.hid rfl
      have HQF : Hid (cogE L ds k_10 = if decsE L ds ≠ 0 then decsE L ds else moE k_10) := Lib.hid rfl
      have HKE : Hid (kyE s_9 = if keyB s_9 = true then 0 else 5) := Lib.hid rfl
      have HG4 := Lib.hid hGy
      have HDC := Lib.hid (fun W (h : Pure w4 W) => decides_calls W (HMT.out _ (HP4.out.trans h)).1 (HMT.out _ (HP4.out.trans h)).2)
      generalize k_10 = at_ at *
      generalize s_9 = item at *
      generalize cofE L ds item at_ = qo at *
      generalize cogE L ds at_ = qf at *
      generalize decsE L ds = qs at *
      generalize kyE item = ky at *
      generalize keyB item = kb at *
      generalize hmo : moE at_ = mo at *
      generalize (itsF L.asks at_ ds (itemsD ds)).map (codD L.asks at_ ds) = CR at *
      generalize codsL L.asks ds at_ = CL at *
      generalize codV L.asks ds at_ item = cv at *
      have hX := HG4.out
      have x0 := hX.cell 0; have x1 := hX.cell 1; simp at x0 x1
      clear hX hLW hSy hMy hBy hGy hSx HDB HDB4 HDZ HP3 HM3 HG3 HLV HMT HRK hmo c9_0 c10_0 c10_1
      go_wp2_with fail
      refine HCO.out.mono ?_
      rintro e w5 ⟨cs, cA, cc, cvs, rfl, hcs, hcv, hcl, hm5⟩
      have HCSS := Lib.hid hcs
      have HCV := Lib.hid hcv
      have HCLK := Lib.hid hcl
      have HM5 := Lib.hid hm5
      have HG5 := Lib.hid (HG4.out.modp hm5)
      clear x0 x1 hcs hcv hcl hm5 HCO
      go_upto_region 6 with (fail)
      have HM6 := Lib.hid (HM5.out.alloc (.cells #[.string ⟨cs.toArray⟩, .slice cA cvs.length cc] 69))
      have HG6 := Lib.hid (HG5.out.alloc (.cells #[.string ⟨cs.toArray⟩, .slice cA cvs.length cc] 69))
      have HC6 := Lib.hid (Blk.new w5 69 #[.string ⟨cs.toArray⟩, .slice cA cvs.length cc])
      have HV6 := Lib.hid (HCV.out.pure (pure_alloc _ (.cells #[.string ⟨cs.toArray⟩, .slice cA cvs.length cc] 69)))
      clear HM5 HG5 HCV
      generalize (w5.alloc (.cells #[.string ⟨cs.toArray⟩, .slice cA cvs.length cc] 69)) = w6 at *
      generalize w5.heap.size = g8 at *
      clear w5
      have hX := HG6.out
      have x0 := hX.cell 0; have x1 := hX.cell 1; simp at x0 x1
      clear hX
      go_wp2_with fail
      refine (HCG.out _ HM6.out).mono ?_
      rintro e w7 ⟨A8, m8, k8, xs, rfl, hk8, hs8, hl8, hm⟩
      have HK8 := Lib.hid hk8
      have HS8 := Lib.hid hs8
      have HL8 := Lib.hid hl8
      have HM7 := Lib.hid (HM6.out.trans hm)
      have HG7 := Lib.hid (HG6.out.modp hm)
      have HC7 := Lib.hid (HC6.out.modp hm)
      have HV7 := Lib.hid (HV6.out.pure hm)
      clear x0 x1 hk8 hs8 hl8 hm HCG HM6 HG6 HC6 HV6
      have hX := HG7.out
      have x0 := hX.cell 0; have x1 := hX.cell 1; simp at x0 x1
      clear hX
      go_wp2_with fail
      refine (HDF.out _ HM7.out).mono ?_
      rintro e w8 ⟨rfl, hm⟩
      have HM8 := Lib.hid (HM7.out.trans hm)
      have HG8 := Lib.hid (HG7.out.modp hm)
      have HC8 := Lib.hid (HC7.out.modp hm)
      have HV8 := Lib.hid (HV7.out.pure hm)
      have HSS8 := Lib.hid (HS8.out.pure hm)
      clear x0 x1 hm HDF HM7 HG7 HC7 HV7 HS8
      have HW1 : Hid (∀ (W : World) (g : Nat), Blk W g 41 #[.int .i64 qs] → Calls Tryz.prog 33 #[.slice (some ⟨g, 0, none⟩) 1 1] W (IntPost W qs)) := Lib.hid (fun W g h => by
        have := wrongOr_calls W g 1 [qs] h.row0 (by simp)
        rwa [fe1] at this)
      go_wp2_with fail
      refine (HW1.out _ _ (Blk.new' rfl)).mono ?_
      rintro e w9 ⟨rfl, hm⟩
      have hpa := (pure_alloc w8 (.cells #[.int .i64 qs] 41)).trans hm
      have HM9 := Lib.hid (HM8.out.trans hpa)
      have HG9 := Lib.hid (HG8.out.modp hpa)
      have HC9 := Lib.hid (HC8.out.modp hpa)
      have HV9 := Lib.hid (HV8.out.pure hpa)
      have HS9 := Lib.hid (HSS8.out.pure hpa)
      clear hm hpa HW1 HM8 HG8 HC8 HV8 HSS8
      generalize ho1 : (if qs = 0 ∧ kb = false then (5 : Int) else qs) = o1 at *
      have HO1 := Lib.hid ho1
      clear ho1
      generalize hf1 : (decide (qs = 0) && !kb) = f1 at *
      have HF1 := Lib.hid hf1
      clear hf1
      go_upto_region 9 with (fail)
      go_cut [60] (fun p wx => p = .bool f1 ∧ Pure w9 wx)
      case first =>
        by_cases h0 : qs = 0
        · subst h0
          have HZ : Hid (f1 = !kb) := Lib.hid (by rw [← HF1.out]; simp)
          go_wp2_with fail
          refine (HRKY.out _).mono ?_
          rintro e wx ⟨rfl, hm⟩
          go_wp2_with fail
          go_meet
          exact ⟨by rw [HZ.out], hm⟩
        · have h0' : (qs == 0) = false := by simpa using h0
          have HZ : Hid (f1 = false) := Lib.hid (by rw [← HF1.out]; simp [h0])
          clear h0
          go_wp2_with fail
          go_meet
          exact ⟨by rw [HZ.out], Mod.refl _ _⟩
      case rest =>
        obtain ⟨rfl, hmx⟩ := hcut
        obtain ⟨wx, hwx⟩ : ∃ W, W = wc := ⟨wc, rfl⟩
        subst hwx
        have HM10 := Lib.hid (HM9.out.trans hmx)
        have HG10 := Lib.hid (HG9.out.modp hmx)
        have HC10 := Lib.hid (HC9.out.modp hmx)
        have HV10 := Lib.hid (HV9.out.pure hmx)
        have HS10 := Lib.hid (HS9.out.pure hmx)
        clear hmx HM9 HG9 HC9 HV9 HS9
        go_upto_if 60 with (fail)
        go_cut [13] (fun p wy => p = .int .i64 o1 ∧ Pure wx wy)
        case first =>
          cases f1
          · have HZ : Hid (o1 = qs) := Lib.hid (by
              have h := HF1.out
              rw [← HO1.out, if_neg]
              rintro ⟨h1, h2⟩
              rw [h2] at h
              simp [h1] at h)
            go_wp2_with fail
            go_meet
            exact ⟨by rw [HZ.out], Mod.refl _ _⟩
          · have HZ : Hid (o1 = 5) := Lib.hid (by
              have h := HF1.out
              rw [Bool.and_eq_true] at h
              rw [← HO1.out, if_pos ⟨of_decide_eq_true h.1, by simpa using h.2⟩])
            go_wp2_with fail
            go_meet
            exact ⟨by rw [HZ.out], Mod.refl _ _⟩
        case rest =>
          obtain ⟨rfl, hmy⟩ := hcut
          have HM11 := Lib.hid (HM10.out.trans hmy)
          have HG11 := Lib.hid (HG10.out.modp hmy)
          have HC11 := Lib.hid (HC10.out.modp hmy)
          have HV11 := Lib.hid (HV10.out.pure hmy)
          have HS11 := Lib.hid (HS10.out.pure hmy)
          clear hmy HM10 HG10 HC10 HV10 HS10
          have HWO : Hid (∀ (W : World) (g : Nat), Blk W g 41 #[.int .i64 o1, .int .i64 mo] → Calls Tryz.prog 33 #[.slice (some ⟨g, 0, none⟩) 2 2] W (IntPost W qo)) := Lib.hid (fun W g h => by
            have := wrongOr_calls W g 2 [o1, mo] h.row0 (by simp)
            rw [cof2] at this
            have e : (if o1 ≠ 0 then o1 else mo) = qo := by
              rw [HQO.out, ← HO1.out]
              have hk := HKE.out
              by_cases h1 : qs = 0
              · subst h1
                cases kb <;> simp [hk]
              · simp [h1]
            rwa [e] at this)
          have HWF : Hid (∀ (W : World) (g : Nat), Blk W g 41 #[.int .i64 qs, .int .i64 mo] → Calls Tryz.prog 33 #[.slice (some ⟨g, 0, none⟩) 2 2] W (IntPost W qf)) := Lib.hid (fun W g h => by
            have := wrongOr_calls W g 2 [qs, mo] h.row0 (by simp)
            rwa [cof2, ← HQF.out] at this)
          go_wp2_with fail
          refine (HMF.out _).mono ?_
          rintro e w12 ⟨rfl, hm⟩
          have HP12 := Lib.hid hm
          clear hm
          go_wp2_with fail
          refine (HWO.out _ _ (Blk.new' rfl)).mono ?_
          rintro e w13 ⟨rfl, hm⟩
          have HP13 := Lib.hid (HP12.out.trans ((pure_alloc _ _).trans hm))
          clear hm HP12
          go_wp2_with fail
          refine (HMF.out _).mono ?_
          rintro e w14 ⟨rfl, hm⟩
          have HP14 := Lib.hid (HP13.out.trans hm)
          clear hm HP13
          go_wp2_with fail
          refine (HWF.out _ _ (Blk.new' rfl)).mono ?_
          rintro e w15 ⟨rfl, hm⟩
          have HP15 := Lib.hid (HP14.out.trans ((pure_alloc _ _).trans hm))
          have HM15 := Lib.hid (HM11.out.trans HP15.out)
          have HG15 := Lib.hid (HG11.out.modp HP15.out)
          have HC15 := Lib.hid (HC11.out.modp HP15.out)
          have HV15 := Lib.hid (HV11.out.pure HP15.out)
          have HS15 := Lib.hid (HS11.out.pure HP15.out)
          clear hm HP14 HP15 HM11 HG11 HC11 HV11 HS11 HWO HWF HMF
          have HQS : Hid (qf = 0 → qs = 0) := Lib.hid (fun h => Decidable.byContradiction fun h1 => by have := HQF.out; rw [if_pos h1] at this; omega)
          have HQT : Hid (qo = 0 → qs = 0) := Lib.hid (fun h => Decidable.byContradiction fun h1 => by have := HQO.out; rw [if_pos h1] at this; omega)
          have HSC0 : Hid (qo ≠ 0 → ∀ W, Pure w15 W → Calls Tryz.prog 39 #[.agg #[.string ⟨cs.toArray⟩, .slice cA cvs.length cc], .agg #[.string ⟨#[]⟩, .slice none 0 0]] W (BoolPost W true)) := Lib.hid (fun h W hW => by
            have h1 := sameCoding_calls W ⟨cs, cA, cc, cvs⟩ ⟨[], none, 0, []⟩ (HV15.out.pure hW) ⟨Sl.nil_, fun x hx => absurd hx (by simp)⟩
            have e : codEq ⟨cs, cA, cc, cvs⟩ ⟨[], none, 0, []⟩ = true := (codEq_key _ _).2 (by
              have h2 := HCSS.out
              have h3 := HCLK.out
              rw [if_neg h] at h2 h3
              unfold likes at h3
              unfold CodR.key
              rw [h2, h3])
            rw [e] at h1
            exact h1)
          have HSC1 : Hid (qo = 0 → ∀ W, Pure w15 W → Calls Tryz.prog 39 #[.agg #[.string ⟨cs.toArray⟩, .slice cA cvs.length cc], .agg #[.string ⟨item.toArray⟩, .slice (latD L.asks at_ ds item).A (latD L.asks at_ ds item).vals.length (latD L.asks at_ ds item).c]] W (BoolPost W true)) := Lib.hid (fun h W hW => by
            have h1 := sameCoding_calls W ⟨cs, cA, cc, cvs⟩ ⟨item, (latD L.asks at_ ds item).A, (latD L.asks at_ ds item).c, (latD L.asks at_ ds item).vals⟩ (HV15.out.pure hW) (HELD.out W (HM15.out.trans hW)).1
            have e : codEq ⟨cs, cA, cc, cvs⟩ ⟨item, (latD L.asks at_ ds item).A, (latD L.asks at_ ds item).c, (latD L.asks at_ ds item).vals⟩ = true := (codEq_key _ _).2 (by
              have h2 := HCSS.out
              have h3 := HCLK.out
              rw [if_pos h] at h2 h3
              unfold likes at h3
              unfold CodR.key
              rw [h2, h3, HVD.out])
            rw [e] at h1
            exact h1)
          have HCA2 : Hid (qo = 0 → ∀ W, Pure w15 W → Calls Tryz.prog 40 #[.agg #[.slice Aa na ca, .slice Ar nr cr], .slice A5 ds.length c5, .string ⟨item.toArray⟩, .int .i64 at_] W (fun e W' => e = .returned (.agg #[.string ⟨item.toArray⟩, .slice (latD L.asks at_ ds item).A (latD L.asks at_ ds item).vals.length (latD L.asks at_ ds item).c]) ∧ Pure W W')) := Lib.hid (fun h W hW => HCA.out (HQT.out h) W (HM15.out.trans hW))
          clear HCA HVD HELD HQO HKE HRKY HCSS HCLK HF1 HO1
          generalize latD L.asks at_ ds item = y at *
          obtain ⟨yno, yat, yrev, yitem, ysec, yA, yc, yv⟩ := y
          simp only at HSC1 HCA2
          go_upto_region 14 with (fail)
          by_cases h1 : qo = 0
          · have HSCX := Lib.hid (HSC1.out h1)
            have HCAX := Lib.hid (HCA2.out h1)
            clear HSC1 HCA2 HSC0
            subst h1
            have HGs := Lib.hid (show ∀ (D : Nat → Bool) (zzi : Nat) (zq zq' : World), (fun _ zq => (fun Z => Blk Z gl 29 #[.slice Aa na ca, .slice Ar nr cr] ∧ Blk Z g8 69 #[.string ⟨cs.toArray⟩, .slice cA cvs.length cc]) zq) D zq → Mod (fun _ => False) zq zq' → (fun _ zq => (fun Z => Blk Z gl 29 #[.slice Aa na ca, .slice Ar nr cr] ∧ Blk Z g8 69 #[.string ⟨cs.toArray⟩, .slice cA cvs.length cc]) zq) (upd D zzi true) zq' from by intro D zzi zq zq' h hm; (exact ⟨h.1.modp hm, h.2.modp hm⟩))
            refine wp_region_inv (by kernel_rfl) (by kernel_rfl) (InvF (R := Mod (fun _ => False)) [.is (.int .i64 0),
                .is (.bool false),
                .is (.bool false),
                .is (undef),
                .is (undef),
                .is (undef),
                .is (undef),
                .is (.bool false),
                .is (.bool false),
                .is (.int .i64 0),
                .is (.bool true),
                .is (.bool true),
                .is (.agg #[.string ⟨cs.toArray⟩, .slice cA cvs.length cc]),
                .is (.agg #[.slice Aa na ca, .slice Ar nr cr]),
                .is (.slice A5 ds.length c5),
                .is (.string ⟨item.toArray⟩),
                .is (.int .i64 at_),
                .is (.agg #[.string ⟨item.toArray⟩, .slice yA yv.length yc]),
                .is (.bool true),
                .is (.bool false),
                .is (.bool false),
                .is (.bool false)]
                (PB w15 (fun _ => False) w15.heap.size (fun _ zq => (fun Z => Blk Z gl 29 #[.slice Aa na ca, .slice Ar nr cr] ∧ Blk Z g8 69 #[.string ⟨cs.toArray⟩, .slice cA cvs.length cc]) zq))) (InvF.start (PB.start (Mod.refl _ _) (Nat.le_refl _) (⟨HG15.out.drew, HC15.out.drew⟩))) ?_ ?_
            · refine .cons ?_ (.cons ?_ (.cons ?_ (.cons ?_ (.cons ?_ (.cons ?_ (.cons ?_ (.cons ?_ (.cons ?_ (.cons ?_ (.cons ?_ (.cons ?_ (.cons ?_ (.cons ?_ (.cons ?_ (.cons ?_ (.cons ?_ (.cons ?_ (.cons ?_ (.cons ?_ (.cons ?_ (.cons ?_ .nil)))))))))))))))))))))
              · intro D V zw1 a hR hI K hK
                obtain ⟨hM1, hB1, hG1⟩ := hI.1
                have ze13 := hR.frame.other (t := 13) (by kernel_rfl) rfl
                rw [if_pos (by rfl)]
                go_simp
                exact hK (.int .i64 0) _ (hI.next hR (by kernel_rfl) (Mod.refl _ _) (PB.quiet hI.1 (Mod.refl _ _) (HGs.out D 0 zw1 zw1 (hI.1).g (Mod.refl _ _))) (upd_same V 0 _))
              · intro D V zw1 a hR hI K hK
                obtain ⟨hM1, hB1, hG1⟩ := hI.1
                have zd0 := hR.pred 0 (by kernel_rfl)
                have zF0 : V 0 = .int .i64 0 := hI.2 0 zd0 rfl
                have zf0 := zF0; clear zF0
                have ze79 := hR.frame.done (t := 79) (j := 0) (by kernel_rfl) hR.ok zd0
                rw [if_pos (by rfl)]
                go_simp
                exact hK (.bool false) _ (hI.next hR (by kernel_rfl) (Mod.refl _ _) (PB.quiet hI.1 (Mod.refl _ _) (HGs.out D 1 zw1 zw1 (hI.1).g (Mod.refl _ _))) (upd_same V 1 _))
              · intro D V zw1 a hR hI K hK
                obtain ⟨hM1, hB1, hG1⟩ := hI.1
                have zd1 := hR.pred 1 (by kernel_rfl)
                have zF1 : V 1 = .bool false := hI.2 1 zd1 rfl
                have zf1 := zF1; clear zF1
                have ze80 := hR.frame.done (t := 80) (j := 1) (by kernel_rfl) hR.ok zd1
                rw [if_pos (by rfl)]
                go_simp
                exact hK (.bool false) _ (hI.next hR (by kernel_rfl) (Mod.refl _ _) (PB.quiet hI.1 (Mod.refl _ _) (HGs.out D 2 zw1 zw1 (hI.1).g (Mod.refl _ _))) (upd_same V 2 _))
              · intro D V zw1 a hR hI K hK
                obtain ⟨hM1, hB1, hG1⟩ := hI.1
                have zd2 := hR.pred 2 (by kernel_rfl)
                have zF2 : V 2 = .bool false := hI.2 2 zd2 rfl
                have zf2 := zF2; clear zF2
                have ze81 := hR.frame.done (t := 81) (j := 2) (by kernel_rfl) hR.ok zd2
                rw [if_neg (by simp [Region.wanted, yielded, ze81, zf2])]
                exact hK undef _ (hI.next hR (by kernel_rfl) (Mod.refl _ _) (PB.quiet hI.1 (Mod.refl _ _) (HGs.out D 3 zw1 zw1 (hI.1).g (Mod.refl _ _))) (upd_same V 3 _))
              · intro D V zw1 a hR hI K hK
                obtain ⟨hM1, hB1, hG1⟩ := hI.1
                have zd2 := hR.pred 2 (by kernel_rfl)
                have zF2 : V 2 = .bool false := hI.2 2 zd2 rfl
                have zf2 := zF2; clear zF2
                have ze81 := hR.frame.done (t := 81) (j := 2) (by kernel_rfl) hR.ok zd2
                rw [if_neg (by simp [Region.wanted, yielded, ze81, zf2])]
                exact hK undef _ (hI.next hR (by kernel_rfl) (Mod.refl _ _) (PB.quiet hI.1 (Mod.refl _ _) (HGs.out D 4 zw1 zw1 (hI.1).g (Mod.refl _ _))) (upd_same V 4 _))
              · intro D V zw1 a hR hI K hK
                obtain ⟨hM1, hB1, hG1⟩ := hI.1
                have zd2 := hR.pred 2 (by kernel_rfl)
                have zF2 : V 2 = .bool false := hI.2 2 zd2 rfl
                have zf2 := zF2; clear zF2
                have ze81 := hR.frame.done (t := 81) (j := 2) (by kernel_rfl) hR.ok zd2
                rw [if_neg (by simp [Region.wanted, yielded, ze81, zf2])]
                exact hK undef _ (hI.next hR (by kernel_rfl) (Mod.refl _ _) (PB.quiet hI.1 (Mod.refl _ _) (HGs.out D 5 zw1 zw1 (hI.1).g (Mod.refl _ _))) (upd_same V 5 _))
              · intro D V zw1 a hR hI K hK
                obtain ⟨hM1, hB1, hG1⟩ := hI.1
                have zd2 := hR.pred 2 (by kernel_rfl)
                have zF2 : V 2 = .bool false := hI.2 2 zd2 rfl
                have zf2 := zF2; clear zF2
                have ze81 := hR.frame.done (t := 81) (j := 2) (by kernel_rfl) hR.ok zd2
                rw [if_neg (by simp [Region.wanted, yielded, ze81, zf2])]
                exact hK undef _ (hI.next hR (by kernel_rfl) (Mod.refl _ _) (PB.quiet hI.1 (Mod.refl _ _) (HGs.out D 6 zw1 zw1 (hI.1).g (Mod.refl _ _))) (upd_same V 6 _))
              · intro D V zw1 a hR hI K hK
                obtain ⟨hM1, hB1, hG1⟩ := hI.1
                have zd2 := hR.pred 2 (by kernel_rfl)
                have zF2 : V 2 = .bool false := hI.2 2 zd2 rfl
                have zf2 := zF2; clear zF2
                have zd6 := hR.pred 6 (by kernel_rfl)
                have zF6 : V 6 = undef := hI.2 6 zd6 rfl
                have zf6 := zF6; clear zF6
                have ze81 := hR.frame.done (t := 81) (j := 2) (by kernel_rfl) hR.ok zd2
                have ze85 := hR.frame.done (t := 85) (j := 6) (by kernel_rfl) hR.ok zd6
                rw [if_pos (by rfl)]
                go_simp
                exact hK (.bool false) _ (hI.next hR (by kernel_rfl) (Mod.refl _ _) (PB.quiet hI.1 (Mod.refl _ _) (HGs.out D 7 zw1 zw1 (hI.1).g (Mod.refl _ _))) (upd_same V 7 _))
              · intro D V zw1 a hR hI K hK
                obtain ⟨hM1, hB1, hG1⟩ := hI.1
                have zd7 := hR.pred 7 (by kernel_rfl)
                have zF7 : V 7 = .bool false := hI.2 7 zd7 rfl
                have zf7 := zF7; clear zF7
                have ze86 := hR.frame.done (t := 86) (j := 7) (by kernel_rfl) hR.ok zd7
                rw [if_pos (by rfl)]
                go_simp
                exact hK (.bool false) _ (hI.next hR (by kernel_rfl) (Mod.refl _ _) (PB.quiet hI.1 (Mod.refl _ _) (HGs.out D 8 zw1 zw1 (hI.1).g (Mod.refl _ _))) (upd_same V 8 _))
              · intro D V zw1 a hR hI K hK
                obtain ⟨hM1, hB1, hG1⟩ := hI.1
                have zd8 := hR.pred 8 (by kernel_rfl)
                have zF8 : V 8 = .bool false := hI.2 8 zd8 rfl
                have zf8 := zF8; clear zF8
                have ze13 := hR.frame.other (t := 13) (by kernel_rfl) rfl
                have ze87 := hR.frame.done (t := 87) (j := 8) (by kernel_rfl) hR.ok zd8
                rw [if_pos (by simp [Region.wanted, yielded, ze87, zf8])]
                go_simp
                exact hK (.int .i64 0) _ (hI.next hR (by kernel_rfl) (Mod.refl _ _) (PB.quiet hI.1 (Mod.refl _ _) (HGs.out D 9 zw1 zw1 (hI.1).g (Mod.refl _ _))) (upd_same V 9 _))
              · intro D V zw1 a hR hI K hK
                obtain ⟨hM1, hB1, hG1⟩ := hI.1
                have zd9 := hR.pred 9 (by kernel_rfl)
                have zF9 : V 9 = .int .i64 0 := hI.2 9 zd9 rfl
                have zf9 := zF9; clear zF9
                have zd8 := hR.pred 8 (by kernel_rfl)
                have zF8 : V 8 = .bool false := hI.2 8 zd8 rfl
                have zf8 := zF8; clear zF8
                have ze88 := hR.frame.done (t := 88) (j := 9) (by kernel_rfl) hR.ok zd9
                have ze87 := hR.frame.done (t := 87) (j := 8) (by kernel_rfl) hR.ok zd8
                rw [if_pos (by simp [Region.wanted, yielded, ze87, zf8])]
                go_simp
                exact hK (.bool true) _ (hI.next hR (by kernel_rfl) (Mod.refl _ _) (PB.quiet hI.1 (Mod.refl _ _) (HGs.out D 10 zw1 zw1 (hI.1).g (Mod.refl _ _))) (upd_same V 10 _))
              · intro D V zw1 a hR hI K hK
                obtain ⟨hM1, hB1, hG1⟩ := hI.1
                have zd10 := hR.pred 10 (by kernel_rfl)
                have zF10 : V 10 = .bool true := hI.2 10 zd10 rfl
                have zf10 := zF10; clear zF10
                have zd8 := hR.pred 8 (by kernel_rfl)
                have zF8 : V 8 = .bool false := hI.2 8 zd8 rfl
                have zf8 := zF8; clear zF8
                have ze89 := hR.frame.done (t := 89) (j := 10) (by kernel_rfl) hR.ok zd10
                have ze87 := hR.frame.done (t := 87) (j := 8) (by kernel_rfl) hR.ok zd8
                rw [if_pos (by simp [Region.wanted, yielded, ze87, zf8])]
                go_simp
                exact hK (.bool true) _ (hI.next hR (by kernel_rfl) (Mod.refl _ _) (PB.quiet hI.1 (Mod.refl _ _) (HGs.out D 11 zw1 zw1 (hI.1).g (Mod.refl _ _))) (upd_same V 11 _))
              · intro D V zw1 a hR hI K hK
                obtain ⟨hM1, hB1, hG1⟩ := hI.1
                have zd11 := hR.pred 11 (by kernel_rfl)
                have zF11 : V 11 = .bool true := hI.2 11 zd11 rfl
                have zf11 := zF11; clear zF11
                have ze8 := hR.frame.other (t := 8) (by kernel_rfl) rfl
                have zx0 := hG1.2.cell 0; have zx1 := hG1.2.cell 1
                simp at zx0 zx1
                have ze90 := hR.frame.done (t := 90) (j := 11) (by kernel_rfl) hR.ok zd11
                rw [if_pos (by simp [Region.wanted, yielded, ze90, zf11])]
                go_simp
                exact hK (.agg #[.string ⟨cs.toArray⟩, .slice cA cvs.length cc]) _ (hI.next hR (by kernel_rfl) (Mod.refl _ _) (PB.quiet hI.1 (Mod.refl _ _) (HGs.out D 12 zw1 zw1 (hI.1).g (Mod.refl _ _))) (upd_same V 12 _))
              · intro D V zw1 a hR hI K hK
                obtain ⟨hM1, hB1, hG1⟩ := hI.1
                have zd11 := hR.pred 11 (by kernel_rfl)
                have zF11 : V 11 = .bool true := hI.2 11 zd11 rfl
                have zf11 := zF11; clear zF11
                have ze4 := hR.frame.other (t := 4) (by kernel_rfl) rfl
                have zx0 := hG1.1.cell 0; have zx1 := hG1.1.cell 1
                simp at zx0 zx1
                have ze90 := hR.frame.done (t := 90) (j := 11) (by kernel_rfl) hR.ok zd11
                rw [if_pos (by simp [Region.wanted, yielded, ze90, zf11])]
                go_simp
                exact hK (.agg #[.slice Aa na ca, .slice Ar nr cr]) _ (hI.next hR (by kernel_rfl) (Mod.refl _ _) (PB.quiet hI.1 (Mod.refl _ _) (HGs.out D 13 zw1 zw1 (hI.1).g (Mod.refl _ _))) (upd_same V 13 _))
              · intro D V zw1 a hR hI K hK
                obtain ⟨hM1, hB1, hG1⟩ := hI.1
                have zd11 := hR.pred 11 (by kernel_rfl)
                have zF11 : V 11 = .bool true := hI.2 11 zd11 rfl
                have zf11 := zF11; clear zF11
                have ze5 := hR.frame.other (t := 5) (by kernel_rfl) rfl
                have ze90 := hR.frame.done (t := 90) (j := 11) (by kernel_rfl) hR.ok zd11
                rw [if_pos (by simp [Region.wanted, yielded, ze90, zf11])]
                go_simp
                exact hK (.slice A5 ds.length c5) _ (hI.next hR (by kernel_rfl) (Mod.refl _ _) (PB.quiet hI.1 (Mod.refl _ _) (HGs.out D 14 zw1 zw1 (hI.1).g (Mod.refl _ _))) (upd_same V 14 _))
              · intro D V zw1 a hR hI K hK
                obtain ⟨hM1, hB1, hG1⟩ := hI.1
                have zd11 := hR.pred 11 (by kernel_rfl)
                have zF11 : V 11 = .bool true := hI.2 11 zd11 rfl
                have zf11 := zF11; clear zF11
                have ze6 := hR.frame.other (t := 6) (by kernel_rfl) rfl
                have ze90 := hR.frame.done (t := 90) (j := 11) (by kernel_rfl) hR.ok zd11
                rw [if_pos (by simp [Region.wanted, yielded, ze90, zf11])]
                go_simp
                exact hK (.string ⟨item.toArray⟩) _ (hI.next hR (by kernel_rfl) (Mod.refl _ _) (PB.quiet hI.1 (Mod.refl _ _) (HGs.out D 15 zw1 zw1 (hI.1).g (Mod.refl _ _))) (upd_same V 15 _))
              · intro D V zw1 a hR hI K hK
                obtain ⟨hM1, hB1, hG1⟩ := hI.1
                have zd11 := hR.pred 11 (by kernel_rfl)
                have zF11 : V 11 = .bool true := hI.2 11 zd11 rfl
                have zf11 := zF11; clear zF11
                have ze7 := hR.frame.other (t := 7) (by kernel_rfl) rfl
                have ze90 := hR.frame.done (t := 90) (j := 11) (by kernel_rfl) hR.ok zd11
                rw [if_pos (by simp [Region.wanted, yielded, ze90, zf11])]
                go_simp
                exact hK (.int .i64 at_) _ (hI.next hR (by kernel_rfl) (Mod.refl _ _) (PB.quiet hI.1 (Mod.refl _ _) (HGs.out D 16 zw1 zw1 (hI.1).g (Mod.refl _ _))) (upd_same V 16 _))
              · intro D V zw1 a hR hI K hK
                obtain ⟨hM1, hB1, hG1⟩ := hI.1
                have zd13 := hR.pred 13 (by kernel_rfl)
                have zF13 : V 13 = .agg #[.slice Aa na ca, .slice Ar nr cr] := hI.2 13 zd13 rfl
                have zf13 := zF13; clear zF13
                have zd14 := hR.pred 14 (by kernel_rfl)
                have zF14 : V 14 = .slice A5 ds.length c5 := hI.2 14 zd14 rfl
                have zf14 := zF14; clear zF14
                have zd15 := hR.pred 15 (by kernel_rfl)
                have zF15 : V 15 = .string ⟨item.toArray⟩ := hI.2 15 zd15 rfl
                have zf15 := zF15; clear zF15
                have zd16 := hR.pred 16 (by kernel_rfl)
                have zF16 : V 16 = .int .i64 at_ := hI.2 16 zd16 rfl
                have zf16 := zF16; clear zF16
                have zd11 := hR.pred 11 (by kernel_rfl)
                have zF11 : V 11 = .bool true := hI.2 11 zd11 rfl
                have zf11 := zF11; clear zF11
                have ze92 := hR.frame.done (t := 92) (j := 13) (by kernel_rfl) hR.ok zd13
                have ze93 := hR.frame.done (t := 93) (j := 14) (by kernel_rfl) hR.ok zd14
                have ze94 := hR.frame.done (t := 94) (j := 15) (by kernel_rfl) hR.ok zd15
                have ze95 := hR.frame.done (t := 95) (j := 16) (by kernel_rfl) hR.ok zd16
                have ze90 := hR.frame.done (t := 90) (j := 11) (by kernel_rfl) hR.ok zd11
                rw [if_pos (by simp [Region.wanted, yielded, ze90, zf11])]
                go_simp
                refine (HCAX.out zw1 hM1).mono ?_
                rintro e zw2 ⟨rfl, hm2⟩
                exact hK (.agg #[.string ⟨item.toArray⟩, .slice yA yv.length yc]) _ (hI.next hR (by kernel_rfl) hm2 (PB.quiet hI.1 hm2 (HGs.out D 17 _ _ (hI.1).g hm2)) (upd_same V 17 _))
              · intro D V zw1 a hR hI K hK
                obtain ⟨hM1, hB1, hG1⟩ := hI.1
                have zd12 := hR.pred 12 (by kernel_rfl)
                have zF12 : V 12 = .agg #[.string ⟨cs.toArray⟩, .slice cA cvs.length cc] := hI.2 12 zd12 rfl
                have zf12 := zF12; clear zF12
                have zd17 := hR.pred 17 (by kernel_rfl)
                have zF17 : V 17 = .agg #[.string ⟨item.toArray⟩, .slice yA yv.length yc] := hI.2 17 zd17 rfl
                have zf17 := zF17; clear zF17
                have zd11 := hR.pred 11 (by kernel_rfl)
                have zF11 : V 11 = .bool true := hI.2 11 zd11 rfl
                have zf11 := zF11; clear zF11
                have ze91 := hR.frame.done (t := 91) (j := 12) (by kernel_rfl) hR.ok zd12
                have ze96 := hR.frame.done (t := 96) (j := 17) (by kernel_rfl) hR.ok zd17
                have ze90 := hR.frame.done (t := 90) (j := 11) (by kernel_rfl) hR.ok zd11
                rw [if_pos (by simp [Region.wanted, yielded, ze90, zf11])]
                go_simp
                refine (HSCX.out zw1 hM1).mono ?_
                rintro e zw2 ⟨rfl, hm2⟩
                exact hK (.bool true) _ (hI.next hR (by kernel_rfl) hm2 (PB.quiet hI.1 hm2 (HGs.out D 18 _ _ (hI.1).g hm2)) (upd_same V 18 _))
              · intro D V zw1 a hR hI K hK
                obtain ⟨hM1, hB1, hG1⟩ := hI.1
                have zd18 := hR.pred 18 (by kernel_rfl)
                have zF18 : V 18 = .bool true := hI.2 18 zd18 rfl
                have zf18 := zF18; clear zF18
                have zd11 := hR.pred 11 (by kernel_rfl)
                have zF11 : V 11 = .bool true := hI.2 11 zd11 rfl
                have zf11 := zF11; clear zF11
                have ze97 := hR.frame.done (t := 97) (j := 18) (by kernel_rfl) hR.ok zd18
                have ze90 := hR.frame.done (t := 90) (j := 11) (by kernel_rfl) hR.ok zd11
                rw [if_pos (by simp [Region.wanted, yielded, ze90, zf11])]
                go_simp
                exact hK (.bool false) _ (hI.next hR (by kernel_rfl) (Mod.refl _ _) (PB.quiet hI.1 (Mod.refl _ _) (HGs.out D 19 zw1 zw1 (hI.1).g (Mod.refl _ _))) (upd_same V 19 _))
              · intro D V zw1 a hR hI K hK
                obtain ⟨hM1, hB1, hG1⟩ := hI.1
                have zd11 := hR.pred 11 (by kernel_rfl)
                have zF11 : V 11 = .bool true := hI.2 11 zd11 rfl
                have zf11 := zF11; clear zF11
                have zd19 := hR.pred 19 (by kernel_rfl)
                have zF19 : V 19 = .bool false := hI.2 19 zd19 rfl
                have zf19 := zF19; clear zF19
                have zd8 := hR.pred 8 (by kernel_rfl)
                have zF8 : V 8 = .bool false := hI.2 8 zd8 rfl
                have zf8 := zF8; clear zF8
                have ze90 := hR.frame.done (t := 90) (j := 11) (by kernel_rfl) hR.ok zd11
                have ze98 := hR.frame.done (t := 98) (j := 19) (by kernel_rfl) hR.ok zd19
                have ze87 := hR.frame.done (t := 87) (j := 8) (by kernel_rfl) hR.ok zd8
                rw [if_pos (by simp [Region.wanted, yielded, ze87, zf8])]
                go_simp
                exact hK (.bool false) _ (hI.next hR (by kernel_rfl) (Mod.refl _ _) (PB.quiet hI.1 (Mod.refl _ _) (HGs.out D 20 zw1 zw1 (hI.1).g (Mod.refl _ _))) (upd_same V 20 _))
              · intro D V zw1 a hR hI K hK
                obtain ⟨hM1, hB1, hG1⟩ := hI.1
                have zd8 := hR.pred 8 (by kernel_rfl)
                have zF8 : V 8 = .bool false := hI.2 8 zd8 rfl
                have zf8 := zF8; clear zF8
                have zd20 := hR.pred 20 (by kernel_rfl)
                have zF20 : V 20 = .bool false := hI.2 20 zd20 rfl
                have zf20 := zF20; clear zF20
                have ze87 := hR.frame.done (t := 87) (j := 8) (by kernel_rfl) hR.ok zd8
                have ze99 := hR.frame.done (t := 99) (j := 20) (by kernel_rfl) hR.ok zd20
                rw [if_pos (by rfl)]
                go_simp
                exact hK (.bool false) _ (hI.next hR (by kernel_rfl) (Mod.refl _ _) (PB.quiet hI.1 (Mod.refl _ _) (HGs.out D 21 zw1 zw1 (hI.1).g (Mod.refl _ _))) (upd_same V 21 _))
            · intro D V w16 hD hI
              obtain ⟨hM1, hB1, hG1⟩ := hI.1
              have hMx := hM1
              clear hM1
              have hBx := hB1
              clear hB1
              have hGx := hG1
              clear hG1
              have zF0 : V 0 = .int .i64 0 := hI.2 0 (hD 0 (by decide)) rfl
              have zf0 := zF0; clear zF0
              have zF1 : V 1 = .bool false := hI.2 1 (hD 1 (by decide)) rfl
              have zf1 := zF1; clear zF1
              have zF2 : V 2 = .bool false := hI.2 2 (hD 2 (by decide)) rfl
              have zf2 := zF2; clear zF2
              have zF3 : V 3 = undef := hI.2 3 (hD 3 (by decide)) rfl
              have zf3 := zF3; clear zF3
              have zF4 : V 4 = undef := hI.2 4 (hD 4 (by decide)) rfl
              have zf4 := zF4; clear zF4
              have zF5 : V 5 = undef := hI.2 5 (hD 5 (by decide)) rfl
              have zf5 := zF5; clear zF5
              have zF6 : V 6 = undef := hI.2 6 (hD 6 (by decide)) rfl
              have zf6 := zF6; clear zF6
              have zF7 : V 7 = .bool false := hI.2 7 (hD 7 (by decide)) rfl
              have zf7 := zF7; clear zF7
              have zF8 : V 8 = .bool false := hI.2 8 (hD 8 (by decide)) rfl
              have zf8 := zF8; clear zF8
              have zF9 : V 9 = .int .i64 0 := hI.2 9 (hD 9 (by decide)) rfl
              have zf9 := zF9; clear zF9
              have zF10 : V 10 = .bool true := hI.2 10 (hD 10 (by decide)) rfl
              have zf10 := zF10; clear zF10
              have zF11 : V 11 = .bool true := hI.2 11 (hD 11 (by decide)) rfl
              have zf11 := zF11; clear zF11
              have zF12 : V 12 = .agg #[.string ⟨cs.toArray⟩, .slice cA cvs.length cc] := hI.2 12 (hD 12 (by decide)) rfl
              have zf12 := zF12; clear zF12
              have zF13 : V 13 = .agg #[.slice Aa na ca, .slice Ar nr cr] := hI.2 13 (hD 13 (by decide)) rfl
              have zf13 := zF13; clear zF13
              have zF14 : V 14 = .slice A5 ds.length c5 := hI.2 14 (hD 14 (by decide)) rfl
              have zf14 := zF14; clear zF14
              have zF15 : V 15 = .string ⟨item.toArray⟩ := hI.2 15 (hD 15 (by decide)) rfl
              have zf15 := zF15; clear zF15
              have zF16 : V 16 = .int .i64 at_ := hI.2 16 (hD 16 (by decide)) rfl
              have zf16 := zF16; clear zF16
              have zF17 : V 17 = .agg #[.string ⟨item.toArray⟩, .slice yA yv.length yc] := hI.2 17 (hD 17 (by decide)) rfl
              have zf17 := zF17; clear zF17
              have zF18 : V 18 = .bool true := hI.2 18 (hD 18 (by decide)) rfl
              have zf18 := zF18; clear zF18
              have zF19 : V 19 = .bool false := hI.2 19 (hD 19 (by decide)) rfl
              have zf19 := zF19; clear zF19
              have zF20 : V 20 = .bool false := hI.2 20 (hD 20 (by decide)) rfl
              have zf20 := zF20; clear zF20
              have zF21 : V 21 = .bool false := hI.2 21 (hD 21 (by decide)) rfl
              have zf21 := zF21; clear zF21
              clear hI hD HGs
              simp only [frAll, Act.put, List.setIfInBounds_toArray, List.set_cons_zero, List.set_cons_succ, Nat.zero_add, Nat.reduceAdd, zf0, zf1, zf2, zf3, zf4, zf5, zf6, zf7, zf8, zf9, zf10, zf11, zf12, zf13, zf14, zf15, zf16, zf17, zf18, zf19, zf20, zf21]
              clear zf0 zf1 zf2 zf3 zf4 zf5 zf6 zf7 zf8 zf9 zf10 zf11 zf12 zf13 zf14 zf15 zf16 zf17 zf18 zf19 zf20 zf21
              clear V D
              have HM16 := Lib.hid (HM15.out.trans hMx)
              have HG16 := Lib.hid hGx.1
              have HS16 := Lib.hid (HS15.out.pure hMx)
              clear hMx hGx hBx HM15 HG15 HC15 HV15 HS15 HCAX HSCX
              by_cases h2 : qf = 0
              · have h2s : qs = 0 := HQS.out h2
                have HCSX := Lib.hid (HCS.out h2s)
                have HSAM := Lib.hid (HSAME.out h2s)
                subst h2
                have hX := HG16.out
                have x0 := hX.cell 0; have x1 := hX.cell 1; simp at x0 x1
                clear hX h2s HCS HSAME HQS HQT
                go_wp2_with fail
                refine (HCSX.out _ HM16.out).mono ?_
                rintro e w17 ⟨A9, c9, rfl, hcr, hm⟩
                have hle : eqL codEq xs CR = true := likesC_iff.2 (by rw [HSAM.out]; simpa using HL8.out)
                have HEF := Lib.hid (equalCod_calls w17 _ _ xs CR (HS16.out.pure hm) hcr)
                rw [hle] at HEF
                have HM17 := Lib.hid (HM16.out.trans hm)
                clear hle hcr hm HCSX HSAM x0 x1
                go_wp2_with fail
                refine HEF.out.mono ?_
                rintro e w18 ⟨rfl, hm⟩
                have HM18 := Lib.hid (HM17.out.trans hm)
                clear hm HEF HM17
                go_wp2_with fail
                refine (HDC.out _ HM18.out).mono ?_
                rintro e w19 ⟨rfl, hm⟩
                have HPF := Lib.hid ((HP4.out.trans HM18.out).trans hm)
                clear hm HDC
                go_wp2_with fail
                go_ret
                exact BoolPost.of rfl HPF.out
              · have h2' : (qf != 0) = true := by simpa using h2
                obtain rfl := HK8.out h2
                clear h2 HCS HSAME HQS HQT
                go_wp2_with fail
                refine (HDC.out _ HM16.out).mono ?_
                rintro e w19 ⟨rfl, hm⟩
                have HPF := Lib.hid ((HP4.out.trans HM16.out).trans hm)
                clear hm HDC
                go_wp2_with fail
                go_ret
                exact BoolPost.of rfl HPF.out
          · have HSCX := Lib.hid (HSC0.out h1)
            have HCAX := Lib.hid trivial
            have h1' : (qo != 0) = true := by simpa using h1
            have h1'' : (qo == 0) = false := by simpa using h1
            clear HSC1 HCA2 HSC0 h1
            have HGs := Lib.hid (show ∀ (D : Nat → Bool) (zzi : Nat) (zq zq' : World), (fun _ zq => (fun Z => Blk Z gl 29 #[.slice Aa na ca, .slice Ar nr cr] ∧ Blk Z g8 69 #[.string ⟨cs.toArray⟩, .slice cA cvs.length cc]) zq) D zq → Mod (fun _ => False) zq zq' → (fun _ zq => (fun Z => Blk Z gl 29 #[.slice Aa na ca, .slice Ar nr cr] ∧ Blk Z g8 69 #[.string ⟨cs.toArray⟩, .slice cA cvs.length cc]) zq) (upd D zzi true) zq' from by intro D zzi zq zq' h hm; (exact ⟨h.1.modp hm, h.2.modp hm⟩))
            refine wp_region_inv (by kernel_rfl) (by kernel_rfl) (InvF (R := Mod (fun _ => False)) [.is (.int .i64 qo),
                .is (.bool true),
                .is (.bool true),
                .is (.agg #[.string ⟨cs.toArray⟩, .slice cA cvs.length cc]),
                .is (.agg #[.string ⟨#[]⟩, .slice none 0 0]),
                .is (.bool true),
                .is (.bool false),
                .is (.bool false),
                .is (.bool false),
                .is (.int .i64 qo),
                .is (.bool false),
                .is (.bool false),
                .is (undef),
                .is (undef),
                .is (undef),
                .is (undef),
                .is (undef),
                .is (undef),
                .is (undef),
                .is (undef),
                .is (.bool false),
                .is (.bool false)]
                (PB w15 (fun _ => False) w15.heap.size (fun _ zq => (fun Z => Blk Z gl 29 #[.slice Aa na ca, .slice Ar nr cr] ∧ Blk Z g8 69 #[.string ⟨cs.toArray⟩, .slice cA cvs.length cc]) zq))) (InvF.start (PB.start (Mod.refl _ _) (Nat.le_refl _) (⟨HG15.out.drew, HC15.out.drew⟩))) ?_ ?_
            · refine .cons ?_ (.cons ?_ (.cons ?_ (.cons ?_ (.cons ?_ (.cons ?_ (.cons ?_ (.cons ?_ (.cons ?_ (.cons ?_ (.cons ?_ (.cons ?_ (.cons ?_ (.cons ?_ (.cons ?_ (.cons ?_ (.cons ?_ (.cons ?_ (.cons ?_ (.cons ?_ (.cons ?_ (.cons ?_ .nil)))))))))))))))))))))
              · intro D V zw1 a hR hI K hK
                obtain ⟨hM1, hB1, hG1⟩ := hI.1
                have ze13 := hR.frame.other (t := 13) (by kernel_rfl) rfl
                rw [if_pos (by rfl)]
                go_simp
                exact hK (.int .i64 qo) _ (hI.next hR (by kernel_rfl) (Mod.refl _ _) (PB.quiet hI.1 (Mod.refl _ _) (HGs.out D 0 zw1 zw1 (hI.1).g (Mod.refl _ _))) (upd_same V 0 _))
              · intro D V zw1 a hR hI K hK
                obtain ⟨hM1, hB1, hG1⟩ := hI.1
                have zd0 := hR.pred 0 (by kernel_rfl)
                have zF0 : V 0 = .int .i64 qo := hI.2 0 zd0 rfl
                have zf0 := zF0; clear zF0
                have ze79 := hR.frame.done (t := 79) (j := 0) (by kernel_rfl) hR.ok zd0
                rw [if_pos (by rfl)]
                go_simp
                exact hK (.bool true) _ (hI.next hR (by kernel_rfl) (Mod.refl _ _) (PB.quiet hI.1 (Mod.refl _ _) (HGs.out D 1 zw1 zw1 (hI.1).g (Mod.refl _ _))) (upd_same V 1 _))
              · intro D V zw1 a hR hI K hK
                obtain ⟨hM1, hB1, hG1⟩ := hI.1
                have zd1 := hR.pred 1 (by kernel_rfl)
                have zF1 : V 1 = .bool true := hI.2 1 zd1 rfl
                have zf1 := zF1; clear zF1
                have ze80 := hR.frame.done (t := 80) (j := 1) (by kernel_rfl) hR.ok zd1
                rw [if_pos (by rfl)]
                go_simp
                exact hK (.bool true) _ (hI.next hR (by kernel_rfl) (Mod.refl _ _) (PB.quiet hI.1 (Mod.refl _ _) (HGs.out D 2 zw1 zw1 (hI.1).g (Mod.refl _ _))) (upd_same V 2 _))
              · intro D V zw1 a hR hI K hK
                obtain ⟨hM1, hB1, hG1⟩ := hI.1
                have zd2 := hR.pred 2 (by kernel_rfl)
                have zF2 : V 2 = .bool true := hI.2 2 zd2 rfl
                have zf2 := zF2; clear zF2
                have ze8 := hR.frame.other (t := 8) (by kernel_rfl) rfl
                have zx0 := hG1.2.cell 0; have zx1 := hG1.2.cell 1
                simp at zx0 zx1
                have ze81 := hR.frame.done (t := 81) (j := 2) (by kernel_rfl) hR.ok zd2
                rw [if_pos (by simp [Region.wanted, yielded, ze81, zf2])]
                go_simp
                exact hK (.agg #[.string ⟨cs.toArray⟩, .slice cA cvs.length cc]) _ (hI.next hR (by kernel_rfl) (Mod.refl _ _) (PB.quiet hI.1 (Mod.refl _ _) (HGs.out D 3 zw1 zw1 (hI.1).g (Mod.refl _ _))) (upd_same V 3 _))
              · intro D V zw1 a hR hI K hK
                obtain ⟨hM1, hB1, hG1⟩ := hI.1
                have zd2 := hR.pred 2 (by kernel_rfl)
                have zF2 : V 2 = .bool true := hI.2 2 zd2 rfl
                have zf2 := zF2; clear zF2
                have ze81 := hR.frame.done (t := 81) (j := 2) (by kernel_rfl) hR.ok zd2
                rw [if_pos (by simp [Region.wanted, yielded, ze81, zf2])]
                go_simp
                exact hK (_) _ (hI.next hR (by kernel_rfl) (Mod.refl _ _) (PB.quiet hI.1 (Mod.refl _ _) (HGs.out D 4 zw1 zw1 (hI.1).g (Mod.refl _ _))) (upd_same V 4 _))
              · intro D V zw1 a hR hI K hK
                obtain ⟨hM1, hB1, hG1⟩ := hI.1
                have zd3 := hR.pred 3 (by kernel_rfl)
                have zF3 : V 3 = .agg #[.string ⟨cs.toArray⟩, .slice cA cvs.length cc] := hI.2 3 zd3 rfl
                have zf3 := zF3; clear zF3
                have zd4 := hR.pred 4 (by kernel_rfl)
                have zF4 : V 4 = .agg #[.string ⟨#[]⟩, .slice none 0 0] := hI.2 4 zd4 rfl
                have zf4 := zF4; clear zF4
                have zd2 := hR.pred 2 (by kernel_rfl)
                have zF2 : V 2 = .bool true := hI.2 2 zd2 rfl
                have zf2 := zF2; clear zF2
                have ze82 := hR.frame.done (t := 82) (j := 3) (by kernel_rfl) hR.ok zd3
                have ze83 := hR.frame.done (t := 83) (j := 4) (by kernel_rfl) hR.ok zd4
                have ze81 := hR.frame.done (t := 81) (j := 2) (by kernel_rfl) hR.ok zd2
                rw [if_pos (by simp [Region.wanted, yielded, ze81, zf2])]
                go_simp
                refine (HSCX.out zw1 hM1).mono ?_
                rintro e zw2 ⟨rfl, hm2⟩
                exact hK (.bool true) _ (hI.next hR (by kernel_rfl) hm2 (PB.quiet hI.1 hm2 (HGs.out D 5 _ _ (hI.1).g hm2)) (upd_same V 5 _))
              · intro D V zw1 a hR hI K hK
                obtain ⟨hM1, hB1, hG1⟩ := hI.1
                have zd5 := hR.pred 5 (by kernel_rfl)
                have zF5 : V 5 = .bool true := hI.2 5 zd5 rfl
                have zf5 := zF5; clear zF5
                have zd2 := hR.pred 2 (by kernel_rfl)
                have zF2 : V 2 = .bool true := hI.2 2 zd2 rfl
                have zf2 := zF2; clear zF2
                have ze84 := hR.frame.done (t := 84) (j := 5) (by kernel_rfl) hR.ok zd5
                have ze81 := hR.frame.done (t := 81) (j := 2) (by kernel_rfl) hR.ok zd2
                rw [if_pos (by simp [Region.wanted, yielded, ze81, zf2])]
                go_simp
                exact hK (.bool false) _ (hI.next hR (by kernel_rfl) (Mod.refl _ _) (PB.quiet hI.1 (Mod.refl _ _) (HGs.out D 6 zw1 zw1 (hI.1).g (Mod.refl _ _))) (upd_same V 6 _))
              · intro D V zw1 a hR hI K hK
                obtain ⟨hM1, hB1, hG1⟩ := hI.1
                have zd2 := hR.pred 2 (by kernel_rfl)
                have zF2 : V 2 = .bool true := hI.2 2 zd2 rfl
                have zf2 := zF2; clear zF2
                have zd6 := hR.pred 6 (by kernel_rfl)
                have zF6 : V 6 = .bool false := hI.2 6 zd6 rfl
                have zf6 := zF6; clear zF6
                have ze81 := hR.frame.done (t := 81) (j := 2) (by kernel_rfl) hR.ok zd2
                have ze85 := hR.frame.done (t := 85) (j := 6) (by kernel_rfl) hR.ok zd6
                rw [if_pos (by rfl)]
                go_simp
                exact hK (.bool false) _ (hI.next hR (by kernel_rfl) (Mod.refl _ _) (PB.quiet hI.1 (Mod.refl _ _) (HGs.out D 7 zw1 zw1 (hI.1).g (Mod.refl _ _))) (upd_same V 7 _))
              · intro D V zw1 a hR hI K hK
                obtain ⟨hM1, hB1, hG1⟩ := hI.1
                have zd7 := hR.pred 7 (by kernel_rfl)
                have zF7 : V 7 = .bool false := hI.2 7 zd7 rfl
                have zf7 := zF7; clear zF7
                have ze86 := hR.frame.done (t := 86) (j := 7) (by kernel_rfl) hR.ok zd7
                rw [if_pos (by rfl)]
                go_simp
                exact hK (.bool false) _ (hI.next hR (by kernel_rfl) (Mod.refl _ _) (PB.quiet hI.1 (Mod.refl _ _) (HGs.out D 8 zw1 zw1 (hI.1).g (Mod.refl _ _))) (upd_same V 8 _))
              · intro D V zw1 a hR hI K hK
                obtain ⟨hM1, hB1, hG1⟩ := hI.1
                have zd8 := hR.pred 8 (by kernel_rfl)
                have zF8 : V 8 = .bool false := hI.2 8 zd8 rfl
                have zf8 := zF8; clear zF8
                have ze13 := hR.frame.other (t := 13) (by kernel_rfl) rfl
                have ze87 := hR.frame.done (t := 87) (j := 8) (by kernel_rfl) hR.ok zd8
                rw [if_pos (by simp [Region.wanted, yielded, ze87, zf8])]
                go_simp
                exact hK (.int .i64 qo) _ (hI.next hR (by kernel_rfl) (Mod.refl _ _) (PB.quiet hI.1 (Mod.refl _ _) (HGs.out D 9 zw1 zw1 (hI.1).g (Mod.refl _ _))) (upd_same V 9 _))
              · intro D V zw1 a hR hI K hK
                obtain ⟨hM1, hB1, hG1⟩ := hI.1
                have zd9 := hR.pred 9 (by kernel_rfl)
                have zF9 : V 9 = .int .i64 qo := hI.2 9 zd9 rfl
                have zf9 := zF9; clear zF9
                have zd8 := hR.pred 8 (by kernel_rfl)
                have zF8 : V 8 = .bool false := hI.2 8 zd8 rfl
                have zf8 := zF8; clear zF8
                have ze88 := hR.frame.done (t := 88) (j := 9) (by kernel_rfl) hR.ok zd9
                have ze87 := hR.frame.done (t := 87) (j := 8) (by kernel_rfl) hR.ok zd8
                rw [if_pos (by simp [Region.wanted, yielded, ze87, zf8])]
                go_simp
                exact hK (.bool false) _ (hI.next hR (by kernel_rfl) (Mod.refl _ _) (PB.quiet hI.1 (Mod.refl _ _) (HGs.out D 10 zw1 zw1 (hI.1).g (Mod.refl _ _))) (upd_same V 10 _))
              · intro D V zw1 a hR hI K hK
                obtain ⟨hM1, hB1, hG1⟩ := hI.1
                have zd10 := hR.pred 10 (by kernel_rfl)
                have zF10 : V 10 = .bool false := hI.2 10 zd10 rfl
                have zf10 := zF10; clear zF10
                have zd8 := hR.pred 8 (by kernel_rfl)
                have zF8 : V 8 = .bool false := hI.2 8 zd8 rfl
                have zf8 := zF8; clear zF8
                have ze89 := hR.frame.done (t := 89) (j := 10) (by kernel_rfl) hR.ok zd10
                have ze87 := hR.frame.done (t := 87) (j := 8) (by kernel_rfl) hR.ok zd8
                rw [if_pos (by simp [Region.wanted, yielded, ze87, zf8])]
                go_simp
                exact hK (.bool false) _ (hI.next hR (by kernel_rfl) (Mod.refl _ _) (PB.quiet hI.1 (Mod.refl _ _) (HGs.out D 11 zw1 zw1 (hI.1).g (Mod.refl _ _))) (upd_same V 11 _))
              · intro D V zw1 a hR hI K hK
                obtain ⟨hM1, hB1, hG1⟩ := hI.1
                have zd11 := hR.pred 11 (by kernel_rfl)
                have zF11 : V 11 = .bool false := hI.2 11 zd11 rfl
                have zf11 := zF11; clear zF11
                have ze90 := hR.frame.done (t := 90) (j := 11) (by kernel_rfl) hR.ok zd11
                rw [if_neg (by simp [Region.wanted, yielded, ze90, zf11])]
                exact hK undef _ (hI.next hR (by kernel_rfl) (Mod.refl _ _) (PB.quiet hI.1 (Mod.refl _ _) (HGs.out D 12 zw1 zw1 (hI.1).g (Mod.refl _ _))) (upd_same V 12 _))
              · intro D V zw1 a hR hI K hK
                obtain ⟨hM1, hB1, hG1⟩ := hI.1
                have zd11 := hR.pred 11 (by kernel_rfl)
                have zF11 : V 11 = .bool false := hI.2 11 zd11 rfl
                have zf11 := zF11; clear zF11
                have ze90 := hR.frame.done (t := 90) (j := 11) (by kernel_rfl) hR.ok zd11
                rw [if_neg (by simp [Region.wanted, yielded, ze90, zf11])]
                exact hK undef _ (hI.next hR (by kernel_rfl) (Mod.refl _ _) (PB.quiet hI.1 (Mod.refl _ _) (HGs.out D 13 zw1 zw1 (hI.1).g (Mod.refl _ _))) (upd_same V 13 _))
              · intro D V zw1 a hR hI K hK
                obtain ⟨hM1, hB1, hG1⟩ := hI.1
                have zd11 := hR.pred 11 (by kernel_rfl)
                have zF11 : V 11 = .bool false := hI.2 11 zd11 rfl
                have zf11 := zF11; clear zF11
                have ze90 := hR.frame.done (t := 90) (j := 11) (by kernel_rfl) hR.ok zd11
                rw [if_neg (by simp [Region.wanted, yielded, ze90, zf11])]
                exact hK undef _ (hI.next hR (by kernel_rfl) (Mod.refl _ _) (PB.quiet hI.1 (Mod.refl _ _) (HGs.out D 14 zw1 zw1 (hI.1).g (Mod.refl _ _))) (upd_same V 14 _))
              · intro D V zw1 a hR hI K hK
                obtain ⟨hM1, hB1, hG1⟩ := hI.1
                have zd11 := hR.pred 11 (by kernel_rfl)
                have zF11 : V 11 = .bool false := hI.2 11 zd11 rfl
                have zf11 := zF11; clear zF11
                have ze90 := hR.frame.done (t := 90) (j := 11) (by kernel_rfl) hR.ok zd11
                rw [if_neg (by simp [Region.wanted, yielded, ze90, zf11])]
                exact hK undef _ (hI.next hR (by kernel_rfl) (Mod.refl _ _) (PB.quiet hI.1 (Mod.refl _ _) (HGs.out D 15 zw1 zw1 (hI.1).g (Mod.refl _ _))) (upd_same V 15 _))
              · intro D V zw1 a hR hI K hK
                obtain ⟨hM1, hB1, hG1⟩ := hI.1
                have zd11 := hR.pred 11 (by kernel_rfl)
                have zF11 : V 11 = .bool false := hI.2 11 zd11 rfl
                have zf11 := zF11; clear zF11
                have ze90 := hR.frame.done (t := 90) (j := 11) (by kernel_rfl) hR.ok zd11
                rw [if_neg (by simp [Region.wanted, yielded, ze90, zf11])]
                exact hK undef _ (hI.next hR (by kernel_rfl) (Mod.refl _ _) (PB.quiet hI.1 (Mod.refl _ _) (HGs.out D 16 zw1 zw1 (hI.1).g (Mod.refl _ _))) (upd_same V 16 _))
              · intro D V zw1 a hR hI K hK
                obtain ⟨hM1, hB1, hG1⟩ := hI.1
                have zd11 := hR.pred 11 (by kernel_rfl)
                have zF11 : V 11 = .bool false := hI.2 11 zd11 rfl
                have zf11 := zF11; clear zF11
                have ze90 := hR.frame.done (t := 90) (j := 11) (by kernel_rfl) hR.ok zd11
                rw [if_neg (by simp [Region.wanted, yielded, ze90, zf11])]
                exact hK undef _ (hI.next hR (by kernel_rfl) (Mod.refl _ _) (PB.quiet hI.1 (Mod.refl _ _) (HGs.out D 17 zw1 zw1 (hI.1).g (Mod.refl _ _))) (upd_same V 17 _))
              · intro D V zw1 a hR hI K hK
                obtain ⟨hM1, hB1, hG1⟩ := hI.1
                have zd11 := hR.pred 11 (by kernel_rfl)
                have zF11 : V 11 = .bool false := hI.2 11 zd11 rfl
                have zf11 := zF11; clear zF11
                have ze90 := hR.frame.done (t := 90) (j := 11) (by kernel_rfl) hR.ok zd11
                rw [if_neg (by simp [Region.wanted, yielded, ze90, zf11])]
                exact hK undef _ (hI.next hR (by kernel_rfl) (Mod.refl _ _) (PB.quiet hI.1 (Mod.refl _ _) (HGs.out D 18 zw1 zw1 (hI.1).g (Mod.refl _ _))) (upd_same V 18 _))
              · intro D V zw1 a hR hI K hK
                obtain ⟨hM1, hB1, hG1⟩ := hI.1
                have zd11 := hR.pred 11 (by kernel_rfl)
                have zF11 : V 11 = .bool false := hI.2 11 zd11 rfl
                have zf11 := zF11; clear zF11
                have ze90 := hR.frame.done (t := 90) (j := 11) (by kernel_rfl) hR.ok zd11
                rw [if_neg (by simp [Region.wanted, yielded, ze90, zf11])]
                exact hK undef _ (hI.next hR (by kernel_rfl) (Mod.refl _ _) (PB.quiet hI.1 (Mod.refl _ _) (HGs.out D 19 zw1 zw1 (hI.1).g (Mod.refl _ _))) (upd_same V 19 _))
              · intro D V zw1 a hR hI K hK
                obtain ⟨hM1, hB1, hG1⟩ := hI.1
                have zd11 := hR.pred 11 (by kernel_rfl)
                have zF11 : V 11 = .bool false := hI.2 11 zd11 rfl
                have zf11 := zF11; clear zF11
                have zd19 := hR.pred 19 (by kernel_rfl)
                have zF19 : V 19 = undef := hI.2 19 zd19 rfl
                have zf19 := zF19; clear zF19
                have zd8 := hR.pred 8 (by kernel_rfl)
                have zF8 : V 8 = .bool false := hI.2 8 zd8 rfl
                have zf8 := zF8; clear zF8
                have ze90 := hR.frame.done (t := 90) (j := 11) (by kernel_rfl) hR.ok zd11
                have ze98 := hR.frame.done (t := 98) (j := 19) (by kernel_rfl) hR.ok zd19
                have ze87 := hR.frame.done (t := 87) (j := 8) (by kernel_rfl) hR.ok zd8
                rw [if_pos (by simp [Region.wanted, yielded, ze87, zf8])]
                go_simp
                exact hK (.bool false) _ (hI.next hR (by kernel_rfl) (Mod.refl _ _) (PB.quiet hI.1 (Mod.refl _ _) (HGs.out D 20 zw1 zw1 (hI.1).g (Mod.refl _ _))) (upd_same V 20 _))
              · intro D V zw1 a hR hI K hK
                obtain ⟨hM1, hB1, hG1⟩ := hI.1
                have zd8 := hR.pred 8 (by kernel_rfl)
                have zF8 : V 8 = .bool false := hI.2 8 zd8 rfl
                have zf8 := zF8; clear zF8
                have zd20 := hR.pred 20 (by kernel_rfl)
                have zF20 : V 20 = .bool false := hI.2 20 zd20 rfl
                have zf20 := zF20; clear zF20
                have ze87 := hR.frame.done (t := 87) (j := 8) (by kernel_rfl) hR.ok zd8
                have ze99 := hR.frame.done (t := 99) (j := 20) (by kernel_rfl) hR.ok zd20
                rw [if_pos (by rfl)]
                go_simp
                exact hK (.bool false) _ (hI.next hR (by kernel_rfl) (Mod.refl _ _) (PB.quiet hI.1 (Mod.refl _ _) (HGs.out D 21 zw1 zw1 (hI.1).g (Mod.refl _ _))) (upd_same V 21 _))
            · intro D V w16 hD hI
              obtain ⟨hM1, hB1, hG1⟩ := hI.1
              have hMx := hM1
              clear hM1
              have hBx := hB1
              clear hB1
              have hGx := hG1
              clear hG1
              have zF0 : V 0 = .int .i64 qo := hI.2 0 (hD 0 (by decide)) rfl
              have zf0 := zF0; clear zF0
              have zF1 : V 1 = .bool true := hI.2 1 (hD 1 (by decide)) rfl
              have zf1 := zF1; clear zF1
              have zF2 : V 2 = .bool true := hI.2 2 (hD 2 (by decide)) rfl
              have zf2 := zF2; clear zF2
              have zF3 : V 3 = .agg #[.string ⟨cs.toArray⟩, .slice cA cvs.length cc] := hI.2 3 (hD 3 (by decide)) rfl
              have zf3 := zF3; clear zF3
              have zF4 : V 4 = .agg #[.string ⟨#[]⟩, .slice none 0 0] := hI.2 4 (hD 4 (by decide)) rfl
              have zf4 := zF4; clear zF4
              have zF5 : V 5 = .bool true := hI.2 5 (hD 5 (by decide)) rfl
              have zf5 := zF5; clear zF5
              have zF6 : V 6 = .bool false := hI.2 6 (hD 6 (by decide)) rfl
              have zf6 := zF6; clear zF6
              have zF7 : V 7 = .bool false := hI.2 7 (hD 7 (by decide)) rfl
              have zf7 := zF7; clear zF7
              have zF8 : V 8 = .bool false := hI.2 8 (hD 8 (by decide)) rfl
              have zf8 := zF8; clear zF8
              have zF9 : V 9 = .int .i64 qo := hI.2 9 (hD 9 (by decide)) rfl
              have zf9 := zF9; clear zF9
              have zF10 : V 10 = .bool false := hI.2 10 (hD 10 (by decide)) rfl
              have zf10 := zF10; clear zF10
              have zF11 : V 11 = .bool false := hI.2 11 (hD 11 (by decide)) rfl
              have zf11 := zF11; clear zF11
              have zF12 : V 12 = undef := hI.2 12 (hD 12 (by decide)) rfl
              have zf12 := zF12; clear zF12
              have zF13 : V 13 = undef := hI.2 13 (hD 13 (by decide)) rfl
              have zf13 := zF13; clear zF13
              have zF14 : V 14 = undef := hI.2 14 (hD 14 (by decide)) rfl
              have zf14 := zF14; clear zF14
              have zF15 : V 15 = undef := hI.2 15 (hD 15 (by decide)) rfl
              have zf15 := zF15; clear zF15
              have zF16 : V 16 = undef := hI.2 16 (hD 16 (by decide)) rfl
              have zf16 := zF16; clear zF16
              have zF17 : V 17 = undef := hI.2 17 (hD 17 (by decide)) rfl
              have zf17 := zF17; clear zF17
              have zF18 : V 18 = undef := hI.2 18 (hD 18 (by decide)) rfl
              have zf18 := zF18; clear zF18
              have zF19 : V 19 = undef := hI.2 19 (hD 19 (by decide)) rfl
              have zf19 := zF19; clear zF19
              have zF20 : V 20 = .bool false := hI.2 20 (hD 20 (by decide)) rfl
              have zf20 := zF20; clear zF20
              have zF21 : V 21 = .bool false := hI.2 21 (hD 21 (by decide)) rfl
              have zf21 := zF21; clear zF21
              clear hI hD HGs
              simp only [frAll, Act.put, List.setIfInBounds_toArray, List.set_cons_zero, List.set_cons_succ, Nat.zero_add, Nat.reduceAdd, zf0, zf1, zf2, zf3, zf4, zf5, zf6, zf7, zf8, zf9, zf10, zf11, zf12, zf13, zf14, zf15, zf16, zf17, zf18, zf19, zf20, zf21]
              clear zf0 zf1 zf2 zf3 zf4 zf5 zf6 zf7 zf8 zf9 zf10 zf11 zf12 zf13 zf14 zf15 zf16 zf17 zf18 zf19 zf20 zf21
              clear V D
              have HM16 := Lib.hid (HM15.out.trans hMx)
              have HG16 := Lib.hid hGx.1
              have HS16 := Lib.hid (HS15.out.pure hMx)
              clear hMx hGx hBx HM15 HG15 HC15 HV15 HS15 HCAX HSCX
              by_cases h2 : qf = 0
              · have h2s : qs = 0 := HQS.out h2
                have HCSX := Lib.hid (HCS.out h2s)
                have HSAM := Lib.hid (HSAME.out h2s)
                subst h2
                have hX := HG16.out
                have x0 := hX.cell 0; have x1 := hX.cell 1; simp at x0 x1
                clear hX h2s HCS HSAME HQS HQT
                go_wp2_with fail
                refine (HCSX.out _ HM16.out).mono ?_
                rintro e w17 ⟨A9, c9, rfl, hcr, hm⟩
                have hle : eqL codEq xs CR = true := likesC_iff.2 (by rw [HSAM.out]; simpa using HL8.out)
                have HEF := Lib.hid (equalCod_calls w17 _ _ xs CR (HS16.out.pure hm) hcr)
                rw [hle] at HEF
                have HM17 := Lib.hid (HM16.out.trans hm)
                clear hle hcr hm HCSX HSAM x0 x1
                go_wp2_with fail
                refine HEF.out.mono ?_
                rintro e w18 ⟨rfl, hm⟩
                have HM18 := Lib.hid (HM17.out.trans hm)
                clear hm HEF HM17
                go_wp2_with fail
                refine (HDC.out _ HM18.out).mono ?_
                rintro e w19 ⟨rfl, hm⟩
                have HPF := Lib.hid ((HP4.out.trans HM18.out).trans hm)
                clear hm HDC
                go_wp2_with fail
                go_ret
                exact BoolPost.of rfl HPF.out
              · have h2' : (qf != 0) = true := by simpa using h2
                obtain rfl := HK8.out h2
                clear h2 HCS HSAME HQS HQT
                go_wp2_with fail
                refine (HDC.out _ HM16.out).mono ?_
                rintro e w19 ⟨rfl, hm⟩
                have HPF := Lib.hid ((HP4.out.trans HM16.out).trans hm)
                clear hm HDC
                go_wp2_with fail
                go_ret
                exact BoolPost.of rfl HPF.out

end Go.Proofs.YtkkndblcejmmjaaGreatDoor
