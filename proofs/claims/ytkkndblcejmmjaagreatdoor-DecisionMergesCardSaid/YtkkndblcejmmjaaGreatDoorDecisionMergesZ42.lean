/- Texts of the proof of DecisionMerges, put together: LawDecisionMerges. -/
import Derived.Test.YtkkndblcejmmjaaGreatDoorDecisionMergesZ14
import Derived.Test.YtkkndblcejmmjaaGreatDoorDecisionMergesZ34
import Derived.Test.YtkkndblcejmmjaaGreatDoorDecisionMergesZ36
import Derived.Test.YtkkndblcejmmjaaGreatDoorDecisionMergesZ41
/- The law DecisionMerges. -/
namespace Go.Proofs.YtkkndblcejmmjaaGreatDoor
set_option linter.unusedVariables false
set_option linter.unusedSimpArgs false
open Go.RowKit

theorem own_ltK {w : World} {base n size : Nat} {e : TypeId} {v : Value} {xs : List Value} (h : w.ownsRow base e size v n xs) {j : Nat} (hj : v.ownBlock = some j) : j < w.heap.size := by
 obtain ⟨arr, ha⟩ := own_heap h hj
 exact lt_of_heap ha
theorem own_nilD {w : World} {base n : Nat} {v : Value} {xs : List Value} (h : w.ownsRow base 40 6 v n xs) : NilD v := by
 intro k c e
 rcases h.2 with ⟨h1, h0⟩ | ⟨g, cap, _, h1, _⟩
 ·rw [e] at h1; cases h1; exact ⟨rfl, rfl⟩
 ·rw [e] at h1; cases h1
/-- Rows that share no block. -/
def Apart (p q : Value) : Prop := ∀ g, p.ownBlock = some g → q.ownBlock ≠ some g
/-- The first list and the layout, while the second one is made longer. -/
def MbR (W : World) (b5 gl : Nat) (lay : Array Value) (v5 : Value) (ds : List DecR) : Prop := OwD W b5 v5 ds ∧ DecS W ds ∧ Blk W gl 29 lay
theorem MbR.pure {W W' : World} {b5 gl : Nat} {lay : Array Value} {v5 : Value} {ds : List DecR} (h : MbR W b5 gl lay v5 ds) (hm : Pure W W') : MbR W' b5 gl lay v5 ds := ⟨own_pure h.1 hm, h.2.1.pure hm, h.2.2.modp hm⟩
theorem MbR.mod {W W' : World} {b5 gl base n : Nat} {lay : Array Value} {v5 u : Value} {ds : List DecR} {xs : List Value} (h : MbR W b5 gl lay v5 ds) (hu : W.ownsRow base 40 6 u n xs) (hne : Apart v5 u) (hgl : gl < base) (hm : Mod (fun k => u.ownBlock = some k) W W') : MbR W' b5 gl lay v5 ds :=
 ⟨own_mod h.1 hm (fun g hg hv => hne g hg hv), h.2.1.mod hm (fun i arr fr hi hv => absurd (own_ty hu hv hi) (by decide)) (fun i arr fr hi hv => absurd (own_ty hu hv hi) (by decide)), h.2.2.mod hm (fun hv => by have := own_block hu _ hv; omega)⟩
/-- The second list. -/
def MbP (W : World) (p : Value) (m : Nat) : Prop := ∃ (A : Option Addr) (c : Nat) (es : List DecR), p = .slice A es.length c ∧ NilD p ∧ Decs W p es ∧ es.length ≤ m ∧ ∀ x ∈ es, DecB x
def MbL (w w2 : World) (b b5 b6 gl : Nat) (lay : Array Value) (v5 v : Value) (ds : List DecR) (m : Nat) (CC : List Cnt) (gk : Nat) (i : Value) (wr : World) : Prop :=
 ∃ (k : Nat) (us : List DecR), m - k = gk ∧ k ≤ m ∧ i = .int .i64 (k : Int) ∧ NumR wr b6 v m k CC us ∧ (∀ x ∈ us, DecB x) ∧ MbR wr b5 gl lay v5 ds ∧ Pure w wr ∧ Mod (· = b) w2 wr
theorem decB_numb {x : DecR} (h : DecB x) (k : Int) (h1 : 0 ≤ k) (h2 : k ≤ 1000) : DecB (x.numb k) := ⟨by show _ ≤ k; omega, by show k ≤ _; omega, h.2.2.1, h.2.2.2.1, h.2.2.2.2.1, h.2.2.2.2.2.1, h.2.2.2.2.2.2⟩

set_option maxRecDepth 100000 in
set_option maxHeartbeats 16000000 in
theorem DecisionMerges_calls (w : World) (A : Option Addr) (n c : Nat) (hA : ArgInts w A n) (hM : MlnS w) (hT : Asc w) : Calls Tryz.prog 5 #[.slice A n c] w (BoolPost w true) := by
 have hS0 := strm_new (c := c) hA
 have HMT : Hid (∀ w1, Pure w w1 → MlnS w1 ∧ Asc w1) := Lib.hid (fun _ h => ⟨hM.pure h, hT.pure h⟩)
 obtain ⟨b, hb⟩ : ∃ b, b = w.heap.size := ⟨_, rfl⟩
 have P0 := pure_alloc w (.cells #[.slice A n c, .int .i64 0] 25)
 have HPS : Hid (∀ {w1 w' : World}, Pure w w1 → Mod (· = b) w1 w' → Pure w w') := Lib.hid (fun k h => k.trans' h (fun i hi hlt => by omega))
 rw [← hb] at hS0
 have hbw := Nat.le_of_eq hb.symm
 clear hM hT hA
 go_enter Tryz.func5, Tryz.ntmps5
 go_wp2_with fail
 rw [← hb]
 generalize (w.alloc (.cells #[.slice A n c, .int .i64 0] 25)) = w0 at *
 clear hb
 refine (layout_calls w0 b _ hS0 (by omega)).mono ?_
 rintro e w1 ⟨Aa, Ar, na, ca, nr, cr, L, rfl, hL, hla, hlr, hab, hrb, hS1, hM1⟩
 have P1 := HPS.out P0 hM1
 have hLB : LayB L := ⟨by omega, by omega, hab, hrb⟩
 have HLB := Lib.hid hLB
 have hpl := pure_alloc w1 (.cells #[.slice Aa na ca, .slice Ar nr cr] 29)
 have HG := Lib.hid (Blk.new w1 29 #[.slice Aa na ca, .slice Ar nr cr])
 have HP2 := Lib.hid (P1.trans hpl)
 have hS2 := hS1.alloc (.cells #[.slice Aa na ca, .slice Ar nr cr] 29)
 have HLV : Hid (∀ W, Mod (· = b) (w1.alloc (.cells #[.slice Aa na ca, .slice Ar nr cr] 29)) W → LayV W L (.agg #[.slice Aa na ca, .slice Ar nr cr])) := Lib.hid (fun W h => (hL.pure hpl).strm hS2 h)
 have hb1 := hS1.lt
 clear hS0 P0 hM1 hL hab hrb hLB P1 hpl hS1
 go_upto_region 3 with (fail)
 generalize (w1.alloc (.cells #[.slice Aa na ca, .slice Ar nr cr] 29)) = w2 at *
 generalize w1.heap.size = gl at *
 clear w0 w1
 have hgl2 := HG.out.lt
 have HGs := Lib.hid (show ∀ (D : Nat → Bool) (zzi : Nat) (zq zq' : World), (fun _ zq => (fun Z => Blk Z gl 29 #[.slice Aa na ca, .slice Ar nr cr]) zq) D zq → Mod (· = b) zq zq' → (fun _ zq => (fun Z => Blk Z gl 29 #[.slice Aa na ca, .slice Ar nr cr]) zq) (upd D zzi true) zq' from by intro D zzi zq zq' h hm; (exact h.modb hm (by omega)))
 refine wp_region_inv (by kernel_rfl) (by kernel_rfl) (fun D V zw => InvF (R := Mod (· = b)) [.is (.pointer (some ⟨b, 0, none⟩)),
   .is (.agg #[.slice Aa na ca, .slice Ar nr cr]),
   .is (.pointer (some ⟨b, 0, none⟩)),
   .val (fun zv => ∃ (q_3 : Nat), zv = .int .i64 (q_3 : Int) ∧ q_3 ≤ 6),
   ⟨fun zv zw => ∃ (base_4 : Nat) (c_4 : Nat) (A_4 : Option Addr) (ds_4 : List DecR), zv = .slice A_4 ds_4.length c_4 ∧ w2.heap.size ≤ base_4 ∧ ds_4.length ≤ 6 ∧ (∀ x ∈ ds_4, DecB x) ∧ DcB zw b base_4 A_4 c_4 ds_4, (by rintro zv zw zx ⟨base_4, c_4, A_4, ds_4, rfl, c0, c1, c2, q0⟩ hm; exact ⟨base_4, c_4, A_4, ds_4, rfl, c0, c1, c2, (q0.ask hm)⟩), none, none⟩,
   .is (.pointer (some ⟨b, 0, none⟩)),
   .is (.agg #[.slice Aa na ca, .slice Ar nr cr]),
   .is (.pointer (some ⟨b, 0, none⟩)),
   .val (fun zv => ∃ (q_8 : Nat), zv = .int .i64 (q_8 : Int) ∧ q_8 ≤ 6),
   ⟨fun zv zw => ∃ (base_9 : Nat) (c_9 : Nat) (A_9 : Option Addr) (es_9 : List DecR), zv = .slice A_9 es_9.length c_9 ∧ w2.heap.size ≤ base_9 ∧ es_9.length ≤ 6 ∧ (∀ x ∈ es_9, DecB x) ∧ DcB zw b base_9 A_9 c_9 es_9, (by rintro zv zw zx ⟨base_9, c_9, A_9, es_9, rfl, c0, c1, c2, q0⟩ hm; exact ⟨base_9, c_9, A_9, es_9, rfl, c0, c1, c2, (q0.ask hm)⟩), none, none⟩,
   ⟨fun zv zw => ∃ (base_10 : Nat) (c_10 : Nat) (A_10 : Option Addr) (ds_10 : List DecR), zv = .slice A_10 ds_10.length c_10 ∧ w2.heap.size ≤ base_10 ∧ ds_10.length ≤ 6 ∧ (∀ x ∈ ds_10, DecB x) ∧ DcB zw b base_10 A_10 c_10 ds_10, (by rintro zv zw zx ⟨base_10, c_10, A_10, ds_10, rfl, c0, c1, c2, q0⟩ hm; exact ⟨base_10, c_10, A_10, ds_10, rfl, c0, c1, c2, (q0.ask hm)⟩), none, none⟩,
   ⟨fun zv zw => ∃ (base_11 : Nat) (c_11 : Nat) (A_11 : Option Addr) (es_11 : List DecR), zv = .slice A_11 es_11.length c_11 ∧ w2.heap.size ≤ base_11 ∧ es_11.length ≤ 6 ∧ (∀ x ∈ es_11, DecB x) ∧ DcB zw b base_11 A_11 c_11 es_11, (by rintro zv zw zx ⟨base_11, c_11, A_11, es_11, rfl, c0, c1, c2, q0⟩ hm; exact ⟨base_11, c_11, A_11, es_11, rfl, c0, c1, c2, (q0.ask hm)⟩), none, none⟩]
   (GB w2 (· = b) w2.heap.size b ((0 + 100)) (fun D => (D 3).toNat + 3000 * (D 4).toNat + (D 8).toNat + 3000 * (D 9).toNat) (fun _ zq => (fun Z => Blk Z gl 29 #[.slice Aa na ca, .slice Ar nr cr]) zq)) D V zw ∧ (D 9 = true → (Apart) (V 4) (V 9)) ∧ (D 10 = true → (fun p q => p = q) (V 4) (V 10)) ∧ (D 11 = true → (fun p q => p = q) (V 9) (V 11))) ⟨InvF.start (GB.start (hS2.more (by omega)) (Mod.refl _ _) (Nat.le_refl _) (HG.out.drew)), (fun h => (by cases h)), (fun h => (by cases h)), (fun h => (by cases h))⟩ ?_ ?_
 ·refine .cons ?_ (.cons ?_ (.cons ?_ (.cons ?_ (.cons ?_ (.cons ?_ (.cons ?_ (.cons ?_ (.cons ?_ (.cons ?_ (.cons ?_ (.cons ?_ .nil)))))))))))
  ·intro D V zw1 a hR hIz K hKz
   have hI := hIz.1
   obtain ⟨hC0, hC1, hC2⟩ := hIz.2
   have hK := fun zv zw h => hKz zv zw ⟨h, (by simpa [upd] using hC0), (by simpa [upd] using hC1), (by simpa [upd] using hC2)⟩
   obtain ⟨hS1, hM1, hB1, hG1⟩ := hI.1
   have ze3 := hR.frame.other (t := 3) (by kernel_rfl) rfl
   rw [if_pos (by rfl)]
   go_simp
   exact hK (.pointer (some ⟨b, 0, none⟩)) _ (hI.next hR (by kernel_rfl) (Mod.refl _ _) (GB.quiet hI.1 (Mod.refl _ _) (by have hn := hR.not; simp [upd, hn] <;> omega) (HGs.out D 0 zw1 zw1 (hI.1).g (Mod.refl _ _))) (upd_same V 0 _))
  ·intro D V zw1 a hR hIz K hKz
   have hI := hIz.1
   obtain ⟨hC0, hC1, hC2⟩ := hIz.2
   have hK := fun zv zw h => hKz zv zw ⟨h, (by simpa [upd] using hC0), (by simpa [upd] using hC1), (by simpa [upd] using hC2)⟩
   obtain ⟨hS1, hM1, hB1, hG1⟩ := hI.1
   have ze4 := hR.frame.other (t := 4) (by kernel_rfl) rfl
   have zx0 := hG1.cell 0; have zx1 := hG1.cell 1
   simp at zx0 zx1
   rw [if_pos (by rfl)]
   go_simp
   exact hK (.agg #[.slice Aa na ca, .slice Ar nr cr]) _ (hI.next hR (by kernel_rfl) (Mod.refl _ _) (GB.quiet hI.1 (Mod.refl _ _) (by have hn := hR.not; simp [upd, hn] <;> omega) (HGs.out D 1 zw1 zw1 (hI.1).g (Mod.refl _ _))) (upd_same V 1 _))
  ·intro D V zw1 a hR hIz K hKz
   have hI := hIz.1
   obtain ⟨hC0, hC1, hC2⟩ := hIz.2
   have hK := fun zv zw h => hKz zv zw ⟨h, (by simpa [upd] using hC0), (by simpa [upd] using hC1), (by simpa [upd] using hC2)⟩
   obtain ⟨hS1, hM1, hB1, hG1⟩ := hI.1
   have ze3 := hR.frame.other (t := 3) (by kernel_rfl) rfl
   rw [if_pos (by rfl)]
   go_simp
   exact hK (.pointer (some ⟨b, 0, none⟩)) _ (hI.next hR (by kernel_rfl) (Mod.refl _ _) (GB.quiet hI.1 (Mod.refl _ _) (by have hn := hR.not; simp [upd, hn] <;> omega) (HGs.out D 2 zw1 zw1 (hI.1).g (Mod.refl _ _))) (upd_same V 2 _))
  ·intro D V zw1 a hR hIz K hKz
   have hI := hIz.1
   obtain ⟨hC0, hC1, hC2⟩ := hIz.2
   have hK := fun zv zw h => hKz zv zw ⟨h, (by simpa [upd] using hC0), (by simpa [upd] using hC1), (by simpa [upd] using hC2)⟩
   obtain ⟨hS1, hM1, hB1, hG1⟩ := hI.1
   have zd2 := hR.pred 2 (by kernel_rfl)
   have zF2 : V 2 = .pointer (some ⟨b, 0, none⟩) := hI.2 2 zd2 rfl
   have zf2 := zF2; clear zF2
   have ze20 := hR.frame.done (t := 20) (j := 2) (by kernel_rfl) hR.ok zd2
   rw [if_pos (by rfl)]
   have := Bool.toNat_le (D 3)
   have := Bool.toNat_le (D 4)
   have := Bool.toNat_le (D 8)
   have := Bool.toNat_le (D 9)
   have hNB : (0 + 100) + ((D 3).toNat + 3000 * (D 4).toNat + (D 8).toNat + 3000 * (D 9).toNat) ≤ 1000000000 := by omega
   skip
   go_simp
   refine (range_calls _ _ _ _ _ hS1 hNB (by omega) (by omega) (by omega)).mono ?_
   rintro e zw2 ⟨k_0, hk1, hk2, rfl, hS2, hm2⟩
   obtain ⟨q_0, rfl⟩ := Int.eq_ofNat_of_zero_le hk1
   exact hK (.int .i64 (q_0 : Int)) _ (hI.next hR (by kernel_rfl) hm2 (GB.asks hI.1 (fun _ h _ => h) hS2 hm2 (by have hn := hR.not; simp [upd, hn] <;> omega) (HGs.out D 3 _ _ (hI.1).g hm2)) (⟨q_0, upd_same V 3 _, (by first | assumption | omega)⟩))
  ·intro D V zw1 a hR hIz K hKz
   have hI := hIz.1
   obtain ⟨hC0, hC1, hC2⟩ := hIz.2
   have hK := fun zv zw h => hKz zv zw ⟨h, (fun hq => (by (have h9 : D 9 = true := (by simpa [upd] using hq)); (have h4 := (hR.closed 8 _ 4 rfl (by kernel_rfl) (hR.closed 9 _ 8 rfl (by kernel_rfl) h9))); rw [hR.not] at h4; cases h4)), (fun hq => (by (have h9 : D 10 = true := (by simpa [upd] using hq)); (have h4 := (hR.closed 10 _ 4 rfl (by kernel_rfl) h9)); rw [hR.not] at h4; cases h4)), (by simpa [upd] using hC2)⟩
   obtain ⟨hS1, hM1, hB1, hG1⟩ := hI.1
   have zd0 := hR.pred 0 (by kernel_rfl)
   have zF0 : V 0 = .pointer (some ⟨b, 0, none⟩) := hI.2 0 zd0 rfl
   have zf0 := zF0; clear zF0
   have zd1 := hR.pred 1 (by kernel_rfl)
   have zF1 : V 1 = .agg #[.slice Aa na ca, .slice Ar nr cr] := hI.2 1 zd1 rfl
   have zf1 := zF1; clear zF1
   have zd3 := hR.pred 3 (by kernel_rfl)
   have zF3 : ∃ (q_3 : Nat), V 3 = .int .i64 (q_3 : Int) ∧ q_3 ≤ 6 := hI.2 3 zd3 rfl
   obtain ⟨q_3, zf3, c3_0⟩ := zF3
   have ze18 := hR.frame.done (t := 18) (j := 0) (by kernel_rfl) hR.ok zd0
   have ze19 := hR.frame.done (t := 19) (j := 1) (by kernel_rfl) hR.ok zd1
   have ze21 := hR.frame.done (t := 21) (j := 3) (by kernel_rfl) hR.ok zd3
   rw [if_pos (by rfl)]
   have := Bool.toNat_le (D 3)
   have := Bool.toNat_le (D 4)
   have := Bool.toNat_le (D 8)
   have := Bool.toNat_le (D 9)
   have hNB : (0 + 100) + ((D 3).toNat + 3000 * (D 4).toNat + (D 8).toNat + 3000 * (D 9).toNat) ≤ 1000000000 := by omega
   skip
   go_simp
   refine (decisions_calls _ b _ _ L q_3 hS1 (by omega) (by omega) (HLV.out _ hM1) hla HLB.out).mono ?_
   rintro e zw2 ⟨base_0, c_0, A_0, ds_0, rfl, hbb, hwb, hdg, hdl, hdz, hS2, hm2⟩
   exact hK (.slice A_0 ds_0.length c_0) _ (hI.next hR (by kernel_rfl) hm2 (GB.asks hI.1 (fun _ h _ => h) hS2 hm2 (by have hn := hR.not; simp [upd, hn] <;> omega) (HGs.out D 4 _ _ (hI.1).g hm2)) (⟨base_0, c_0, A_0, ds_0, upd_same V 4 _, (by omega), (by omega), hdz, (DcB.of hdg hbb hS2)⟩))
  ·intro D V zw1 a hR hIz K hKz
   have hI := hIz.1
   obtain ⟨hC0, hC1, hC2⟩ := hIz.2
   have hK := fun zv zw h => hKz zv zw ⟨h, (by simpa [upd] using hC0), (by simpa [upd] using hC1), (by simpa [upd] using hC2)⟩
   obtain ⟨hS1, hM1, hB1, hG1⟩ := hI.1
   have ze3 := hR.frame.other (t := 3) (by kernel_rfl) rfl
   rw [if_pos (by rfl)]
   go_simp
   exact hK (.pointer (some ⟨b, 0, none⟩)) _ (hI.next hR (by kernel_rfl) (Mod.refl _ _) (GB.quiet hI.1 (Mod.refl _ _) (by have hn := hR.not; simp [upd, hn] <;> omega) (HGs.out D 5 zw1 zw1 (hI.1).g (Mod.refl _ _))) (upd_same V 5 _))
  ·intro D V zw1 a hR hIz K hKz
   have hI := hIz.1
   obtain ⟨hC0, hC1, hC2⟩ := hIz.2
   have hK := fun zv zw h => hKz zv zw ⟨h, (by simpa [upd] using hC0), (by simpa [upd] using hC1), (by simpa [upd] using hC2)⟩
   obtain ⟨hS1, hM1, hB1, hG1⟩ := hI.1
   have ze4 := hR.frame.other (t := 4) (by kernel_rfl) rfl
   have zx0 := hG1.cell 0; have zx1 := hG1.cell 1
   simp at zx0 zx1
   rw [if_pos (by rfl)]
   go_simp
   exact hK (.agg #[.slice Aa na ca, .slice Ar nr cr]) _ (hI.next hR (by kernel_rfl) (Mod.refl _ _) (GB.quiet hI.1 (Mod.refl _ _) (by have hn := hR.not; simp [upd, hn] <;> omega) (HGs.out D 6 zw1 zw1 (hI.1).g (Mod.refl _ _))) (upd_same V 6 _))
  ·intro D V zw1 a hR hIz K hKz
   have hI := hIz.1
   obtain ⟨hC0, hC1, hC2⟩ := hIz.2
   have hK := fun zv zw h => hKz zv zw ⟨h, (by simpa [upd] using hC0), (by simpa [upd] using hC1), (by simpa [upd] using hC2)⟩
   obtain ⟨hS1, hM1, hB1, hG1⟩ := hI.1
   have ze3 := hR.frame.other (t := 3) (by kernel_rfl) rfl
   rw [if_pos (by rfl)]
   go_simp
   exact hK (.pointer (some ⟨b, 0, none⟩)) _ (hI.next hR (by kernel_rfl) (Mod.refl _ _) (GB.quiet hI.1 (Mod.refl _ _) (by have hn := hR.not; simp [upd, hn] <;> omega) (HGs.out D 7 zw1 zw1 (hI.1).g (Mod.refl _ _))) (upd_same V 7 _))
  ·intro D V zw1 a hR hIz K hKz
   have hI := hIz.1
   obtain ⟨hC0, hC1, hC2⟩ := hIz.2
   have hK := fun zv zw h => hKz zv zw ⟨h, (by simpa [upd] using hC0), (by simpa [upd] using hC1), (by simpa [upd] using hC2)⟩
   obtain ⟨hS1, hM1, hB1, hG1⟩ := hI.1
   have zd7 := hR.pred 7 (by kernel_rfl)
   have zF7 : V 7 = .pointer (some ⟨b, 0, none⟩) := hI.2 7 zd7 rfl
   have zf7 := zF7; clear zF7
   have ze25 := hR.frame.done (t := 25) (j := 7) (by kernel_rfl) hR.ok zd7
   rw [if_pos (by rfl)]
   have := Bool.toNat_le (D 3)
   have := Bool.toNat_le (D 4)
   have := Bool.toNat_le (D 8)
   have := Bool.toNat_le (D 9)
   have hNB : (0 + 100) + ((D 3).toNat + 3000 * (D 4).toNat + (D 8).toNat + 3000 * (D 9).toNat) ≤ 1000000000 := by omega
   skip
   go_simp
   refine (range_calls _ _ _ _ _ hS1 hNB (by omega) (by omega) (by omega)).mono ?_
   rintro e zw2 ⟨k_0, hk1, hk2, rfl, hS2, hm2⟩
   obtain ⟨q_0, rfl⟩ := Int.eq_ofNat_of_zero_le hk1
   exact hK (.int .i64 (q_0 : Int)) _ (hI.next hR (by kernel_rfl) hm2 (GB.asks hI.1 (fun _ h _ => h) hS2 hm2 (by have hn := hR.not; simp [upd, hn] <;> omega) (HGs.out D 8 _ _ (hI.1).g hm2)) (⟨q_0, upd_same V 8 _, (by first | assumption | omega)⟩))
  ·intro D V zw1 a hR hIz K hKz
   have hI := hIz.1
   obtain ⟨hC0, hC1, hC2⟩ := hIz.2
   have hK := fun zv zw h => fun (hr0 : (Apart) (V 4) zv) => hKz zv zw ⟨h, (fun _ => (by simpa [upd] using hr0)), (by simpa [upd] using hC1), (fun hq => (by (have h9 : D 11 = true := (by simpa [upd] using hq)); (have h4 := (hR.closed 11 _ 9 rfl (by kernel_rfl) h9)); rw [hR.not] at h4; cases h4))⟩
   obtain ⟨hS1, hM1, hB1, hG1⟩ := hI.1
   have zd5 := hR.pred 5 (by kernel_rfl)
   have zF5 : V 5 = .pointer (some ⟨b, 0, none⟩) := hI.2 5 zd5 rfl
   have zf5 := zF5; clear zF5
   have zd6 := hR.pred 6 (by kernel_rfl)
   have zF6 : V 6 = .agg #[.slice Aa na ca, .slice Ar nr cr] := hI.2 6 zd6 rfl
   have zf6 := zF6; clear zF6
   have zd8 := hR.pred 8 (by kernel_rfl)
   have zF8 : ∃ (q_8 : Nat), V 8 = .int .i64 (q_8 : Int) ∧ q_8 ≤ 6 := hI.2 8 zd8 rfl
   obtain ⟨q_8, zf8, c8_0⟩ := zF8
   have zd4 := hR.closed 8 _ 4 rfl (by kernel_rfl) (hR.pred 8 (by kernel_rfl))
   have zF4 : ∃ (base_4 : Nat) (c_4 : Nat) (A_4 : Option Addr) (ds_4 : List DecR), V 4 = .slice A_4 ds_4.length c_4 ∧ w2.heap.size ≤ base_4 ∧ ds_4.length ≤ 6 ∧ (∀ x ∈ ds_4, DecB x) ∧ DcB zw1 b base_4 A_4 c_4 ds_4 := hI.2 4 zd4 rfl
   obtain ⟨base_4, c_4, A_4, ds_4, zf4, c4_0, c4_1, c4_2, b4_0⟩ := zF4
   have ze23 := hR.frame.done (t := 23) (j := 5) (by kernel_rfl) hR.ok zd5
   have ze24 := hR.frame.done (t := 24) (j := 6) (by kernel_rfl) hR.ok zd6
   have ze26 := hR.frame.done (t := 26) (j := 8) (by kernel_rfl) hR.ok zd8
   rw [if_pos (by rfl)]
   have := Bool.toNat_le (D 3)
   have := Bool.toNat_le (D 4)
   have := Bool.toNat_le (D 8)
   have := Bool.toNat_le (D 9)
   have hNB : (0 + 100) + ((D 3).toNat + 3000 * (D 4).toNat + (D 8).toNat + 3000 * (D 9).toNat) ≤ 1000000000 := by omega
   skip
   go_simp
   refine (decisions_calls _ b _ _ L q_8 hS1 (by omega) (by omega) (HLV.out _ hM1) hla HLB.out).mono ?_
   rintro e zw2 ⟨base_0, c_0, A_0, es_0, rfl, hbb, hwb, hdg, hdl, hdz, hS2, hm2⟩
   exact hK (.slice A_0 es_0.length c_0) _ (hI.next hR (by kernel_rfl) hm2 (GB.asks hI.1 (fun _ h _ => h) hS2 hm2 (by have hn := hR.not; simp [upd, hn] <;> omega) (HGs.out D 9 _ _ (hI.1).g hm2)) (⟨base_0, c_0, A_0, es_0, upd_same V 9 _, (by omega), (by omega), hdz, (DcB.of hdg hbb hS2)⟩)) (by rw [show V 4 = _ from zf4]; intro g hg hv; have := own_ltK b4_0.2.1 hg; have := own_block hdg.1 g hv; omega)
  ·intro D V zw1 a hR hIz K hKz
   have hI := hIz.1
   obtain ⟨hC0, hC1, hC2⟩ := hIz.2
   have hK := fun zv zw h => fun (hr1 : (fun p q => p = q) (V 4) zv) => hKz zv zw ⟨h, (by simpa [upd] using hC0), (fun _ => (by simpa [upd] using hr1)), (by simpa [upd] using hC2)⟩
   obtain ⟨hS1, hM1, hB1, hG1⟩ := hI.1
   have zd4 := hR.pred 4 (by kernel_rfl)
   have zF4 : ∃ (base_4 : Nat) (c_4 : Nat) (A_4 : Option Addr) (ds_4 : List DecR), V 4 = .slice A_4 ds_4.length c_4 ∧ w2.heap.size ≤ base_4 ∧ ds_4.length ≤ 6 ∧ (∀ x ∈ ds_4, DecB x) ∧ DcB zw1 b base_4 A_4 c_4 ds_4 := hI.2 4 zd4 rfl
   obtain ⟨base_4, c_4, A_4, ds_4, zf4, c4_0, c4_1, c4_2, b4_0⟩ := zF4
   have ze22 := hR.frame.done (t := 22) (j := 4) (by kernel_rfl) hR.ok zd4
   rw [if_pos (by rfl)]
   go_simp
   exact hK (.slice A_4 ds_4.length c_4) _ (hI.next hR (by kernel_rfl) (Mod.refl _ _) (GB.quiet hI.1 (Mod.refl _ _) (by have hn := hR.not; simp [upd, hn] <;> omega) (HGs.out D 10 zw1 zw1 (hI.1).g (Mod.refl _ _))) (⟨base_4, c_4, A_4, ds_4, upd_same V 10 _, (by first | assumption | omega), (by first | assumption | omega), (by first | assumption | omega), b4_0⟩)) (zf4)
  ·intro D V zw1 a hR hIz K hKz
   have hI := hIz.1
   obtain ⟨hC0, hC1, hC2⟩ := hIz.2
   have hK := fun zv zw h => fun (hr2 : (fun p q => p = q) (V 9) zv) => hKz zv zw ⟨h, (by simpa [upd] using hC0), (by simpa [upd] using hC1), (fun _ => (by simpa [upd] using hr2))⟩
   obtain ⟨hS1, hM1, hB1, hG1⟩ := hI.1
   have zd9 := hR.pred 9 (by kernel_rfl)
   have zF9 : ∃ (base_9 : Nat) (c_9 : Nat) (A_9 : Option Addr) (es_9 : List DecR), V 9 = .slice A_9 es_9.length c_9 ∧ w2.heap.size ≤ base_9 ∧ es_9.length ≤ 6 ∧ (∀ x ∈ es_9, DecB x) ∧ DcB zw1 b base_9 A_9 c_9 es_9 := hI.2 9 zd9 rfl
   obtain ⟨base_9, c_9, A_9, es_9, zf9, c9_0, c9_1, c9_2, b9_0⟩ := zF9
   have ze27 := hR.frame.done (t := 27) (j := 9) (by kernel_rfl) hR.ok zd9
   rw [if_pos (by rfl)]
   go_simp
   exact hK (.slice A_9 es_9.length c_9) _ (hI.next hR (by kernel_rfl) (Mod.refl _ _) (GB.quiet hI.1 (Mod.refl _ _) (by have hn := hR.not; simp [upd, hn] <;> omega) (HGs.out D 11 zw1 zw1 (hI.1).g (Mod.refl _ _))) (⟨base_9, c_9, A_9, es_9, upd_same V 11 _, (by first | assumption | omega), (by first | assumption | omega), (by first | assumption | omega), b9_0⟩)) (zf9)
 ·intro D V w3 hD hIz
  have hI := hIz.1
  obtain ⟨hRel0, hRel1, hRel2⟩ := hIz.2
  replace hRel0 := hRel0 (hD 9 (by decide))
  replace hRel1 := hRel1 (hD 10 (by decide))
  replace hRel2 := hRel2 (hD 11 (by decide))
  obtain ⟨hS1, hM1, hB1, hG1⟩ := hI.1
  have hSx : Strm w3 b ((0 + 100) + 6002) := hS1.more (by show _ ≤ _; have := Bool.toNat_le (D 3); have := Bool.toNat_le (D 4); have := Bool.toNat_le (D 8); have := Bool.toNat_le (D 9); omega)
  clear hS1
  have hMx := hM1
  clear hM1
  have hBx := hB1
  clear hB1
  have hGx := hG1
  clear hG1
  have zF0 : V 0 = .pointer (some ⟨b, 0, none⟩) := hI.2 0 (hD 0 (by decide)) rfl
  have zf0 := zF0; clear zF0
  have zF1 : V 1 = .agg #[.slice Aa na ca, .slice Ar nr cr] := hI.2 1 (hD 1 (by decide)) rfl
  have zf1 := zF1; clear zF1
  have zF2 : V 2 = .pointer (some ⟨b, 0, none⟩) := hI.2 2 (hD 2 (by decide)) rfl
  have zf2 := zF2; clear zF2
  have zF3 : ∃ (q_3 : Nat), V 3 = .int .i64 (q_3 : Int) ∧ q_3 ≤ 6 := hI.2 3 (hD 3 (by decide)) rfl
  obtain ⟨q_3, zf3, c3_0⟩ := zF3
  have zF4 : ∃ (base_4 : Nat) (c_4 : Nat) (A_4 : Option Addr) (ds_4 : List DecR), V 4 = .slice A_4 ds_4.length c_4 ∧ w2.heap.size ≤ base_4 ∧ ds_4.length ≤ 6 ∧ (∀ x ∈ ds_4, DecB x) ∧ DcB w3 b base_4 A_4 c_4 ds_4 := hI.2 4 (hD 4 (by decide)) rfl
  obtain ⟨base_4, c_4, A_4, ds_4, zf4, c4_0, c4_1, c4_2, b4_0⟩ := zF4
  have zF5 : V 5 = .pointer (some ⟨b, 0, none⟩) := hI.2 5 (hD 5 (by decide)) rfl
  have zf5 := zF5; clear zF5
  have zF6 : V 6 = .agg #[.slice Aa na ca, .slice Ar nr cr] := hI.2 6 (hD 6 (by decide)) rfl
  have zf6 := zF6; clear zF6
  have zF7 : V 7 = .pointer (some ⟨b, 0, none⟩) := hI.2 7 (hD 7 (by decide)) rfl
  have zf7 := zF7; clear zF7
  have zF8 : ∃ (q_8 : Nat), V 8 = .int .i64 (q_8 : Int) ∧ q_8 ≤ 6 := hI.2 8 (hD 8 (by decide)) rfl
  obtain ⟨q_8, zf8, c8_0⟩ := zF8
  have zF9 : ∃ (base_9 : Nat) (c_9 : Nat) (A_9 : Option Addr) (es_9 : List DecR), V 9 = .slice A_9 es_9.length c_9 ∧ w2.heap.size ≤ base_9 ∧ es_9.length ≤ 6 ∧ (∀ x ∈ es_9, DecB x) ∧ DcB w3 b base_9 A_9 c_9 es_9 := hI.2 9 (hD 9 (by decide)) rfl
  obtain ⟨base_9, c_9, A_9, es_9, zf9, c9_0, c9_1, c9_2, b9_0⟩ := zF9
  have zF10 : ∃ (base_10 : Nat) (c_10 : Nat) (A_10 : Option Addr) (ds_10 : List DecR), V 10 = .slice A_10 ds_10.length c_10 ∧ w2.heap.size ≤ base_10 ∧ ds_10.length ≤ 6 ∧ (∀ x ∈ ds_10, DecB x) ∧ DcB w3 b base_10 A_10 c_10 ds_10 := hI.2 10 (hD 10 (by decide)) rfl
  obtain ⟨base_10, c_10, A_10, ds_10, zf10, c10_0, c10_1, c10_2, b10_0⟩ := zF10
  have zF11 : ∃ (base_11 : Nat) (c_11 : Nat) (A_11 : Option Addr) (es_11 : List DecR), V 11 = .slice A_11 es_11.length c_11 ∧ w2.heap.size ≤ base_11 ∧ es_11.length ≤ 6 ∧ (∀ x ∈ es_11, DecB x) ∧ DcB w3 b base_11 A_11 c_11 es_11 := hI.2 11 (hD 11 (by decide)) rfl
  obtain ⟨base_11, c_11, A_11, es_11, zf11, c11_0, c11_1, c11_2, b11_0⟩ := zF11
  rw [zf4, zf9] at hRel0
  rw [zf4, zf10] at hRel1
  rw [zf9, zf11] at hRel2
  clear hI hD HGs hIz
  simp only [frAll, Act.put, List.setIfInBounds_toArray, List.set_cons_zero, List.set_cons_succ, Nat.zero_add, Nat.reduceAdd, zf0, zf1, zf2, zf3, zf4, zf5, zf6, zf7, zf8, zf9, zf10, zf11]
  clear zf0 zf1 zf2 zf3 zf4 zf5 zf6 zf7 zf8 zf9 zf10 zf11
  clear V D
  rw [hRel1, hRel2] at hRel0
  have HAP := Lib.hid hRel0
  have HM3 := Lib.hid hMx
  have HP3 := Lib.hid (HPS.out HP2.out hMx)
  have HG3 := Lib.hid hGx
  have HO1 := Lib.hid (And.intro b10_0.2.1 (fun x (hx : x ∈ ds_10) => (b10_0.2.2 x hx).1))
  have HO2 := Lib.hid (And.intro b11_0.2.1 (fun x (hx : x ∈ es_11) => (b11_0.2.2 x hx).1))
  have HB1 := Lib.hid (b10_0)
  have HB2 := Lib.hid (b11_0)
  have HDZ := Lib.hid c10_2
  have HEZ := Lib.hid c11_2
  have hw3 := hMx.size
  have hbw3 := hSx.lt
  clear hRel0 hRel1 hRel2 b4_0 b9_0 b10_0 b11_0 c3_0 c4_0 c4_1 c4_2 c8_0 c9_0 c9_1 c9_2 c10_2 c11_2 hMx hGx hBx HP2 HG hS2
  generalize ds_10 = ds at *
  generalize A_10 = A5 at *
  generalize c_10 = c5 at *
  generalize base_10 = b5 at *
  generalize es_11 = es at *
  generalize A_11 = A6 at *
  generalize c_11 = c6 at *
  generalize base_11 = b6 at *
  go_wp2_with fail
  refine (flip_calls w3 b _ 2 hSx (by omega) (by omega) (by omega)).mono ?_
  rintro e w4 ⟨kf, rfl, hS4, hm4⟩
  have HM4 := Lib.hid (HM3.out.trans hm4)
  have HP4 := Lib.hid (HPS.out HP3.out hm4)
  have HG4 := Lib.hid (HG3.out.modb hm4 (by omega))
  replace HB1 := Lib.hid (HB1.out.ask hm4)
  replace HB2 := Lib.hid (HB2.out.ask hm4)
  clear hm4 hS4 hSx HP3 HM3 HG3 HO1 HO2
  have HR4 : Hid (MbR w4 b5 gl #[.slice Aa na ca, .slice Ar nr cr] (.slice A5 ds.length c5) ds) := Lib.hid ⟨HB1.out.2.1, fun x hx => (HB1.out.2.2 x hx).1, HG4.out⟩
  have HE4 : Hid (OwD w4 w2.heap.size (.slice A6 es.length c6) es ∧ DecS w4 es) := Lib.hid ⟨own_baseK HB2.out.2.1 c11_0, fun x hx => (HB2.out.2.2 x hx).1⟩
  clear HB1 HB2 HG4
  go_upto_if 29 with (fail)
  go_cut [6] (fun p wy => MbP wy p 12 ∧ MbR wy b5 gl #[.slice Aa na ca, .slice Ar nr cr] (.slice A5 ds.length c5) ds ∧ Pure w wy ∧ Mod (· = b) w2 wy)
  case first =>
   cases kf
   ·go_wp2_with fail
    go_meet
    exact ⟨⟨A6, c6, es, rfl, own_nilD HE4.out.1, ⟨Sl.of_own HE4.out.1, HE4.out.2⟩, by omega, HEZ.out⟩, HR4.out, HP4.out, HM4.out⟩
   ·obtain ⟨i0, hi0, hz0, hz1, hz2⟩ := info_parts info_dec
    have hw4 := HM4.out.size
    have hwP := HP4.out.size
    have hgl4 := HR4.out.2.2.lt
    go_upto_region 5 with (fail)
    go_cut [6] (fun p wy => ∃ (A7 : Option Addr) (c7 : Nat) (zs : List DecR), p = .slice A7 zs.length c7 ∧ OwD wy w2.heap.size p zs ∧ DecS wy zs ∧ Apart (.slice A5 ds.length c5) p ∧ zs.length ≤ 12 ∧ (∀ x ∈ zs, DecB x) ∧ MbR wy b5 gl #[.slice Aa na ca, .slice Ar nr cr] (.slice A5 ds.length c5) ds ∧ Pure w wy ∧ Mod (· = b) w2 wy)
    case first =>
     have hownE := HE4.out.1
     have hownD := HR4.out.1
     rcases hownD.2 with ⟨hv, h0⟩ | ⟨g, cap, _, hv, _⟩
     ·obtain rfl : ds = [] := List.eq_nil_of_length_eq_zero h0
      cases hv
      clear h0 hownD
      go_wp2_with (at_builtin; (refine wpList_append_own_none rfl _ _ _ rfl w2.heap.size 40 i0 6 Tryz.underlying31 hi0 _ _ _ rfl hownE rfl ?_))
      go_meet
      exact ⟨A6, c6, es, rfl, HE4.out.1, HE4.out.2, HAP.out, by omega, HEZ.out, HR4.out, HP4.out, HM4.out⟩
     ·cases hv
      have HN := Lib.hid (own_newsK hownD)
      have HO := Lib.hid (decV_one ds)
      have HBL := Lib.hid (decV_len ds)
      have HOE := Lib.hid hownE
      clear hownD
      go_wp2_with (at_builtin; refine wpList_append_own_at _ rfl _ _ _ rfl w2.heap.size 40 i0 _ 6 80 Tryz.underlying31 hi0 hz0 hz1 hz2 rfl (by omega) _ es.length _ rfl hownE ⟨g, 0, none⟩ ds.length _ (decV ds) rfl HBL.out HN.out HO.out (by simp [maxLen]; omega) (by omega) (by omega) ?_; intro v5 w5 hown5 hgrow hn5 hat)
      have hT := mod_grown hgrow
      have hown6 : OwD w5 w2.heap.size v5 (es ++ ds) := by unfold OwD; rw [decV_app, List.length_append]; exact hown5
      obtain ⟨A7, c7, rfl⟩ := own_formD hown6
      have hbk := own_block HOE.out
      have hap2 : Apart (.slice (some ⟨g, 0, none⟩) ds.length c5) (.slice A7 (es ++ ds).length c7) := by
       intro q hq hv
       rcases hat with h | h
       ·rw [h] at hv; exact HAP.out q hq hv
       ·rw [h] at hv; have := own_ltK HR4.out.1 hq; cases hv; omega
      have HFIN : Hid (∃ (A8 : Option Addr) (c8 : Nat) (zs : List DecR), Value.slice A7 (es ++ ds).length c7 = .slice A8 zs.length c8 ∧ OwD w5 w2.heap.size (.slice A7 (es ++ ds).length c7) zs ∧ DecS w5 zs ∧ Apart (.slice (some ⟨g, 0, none⟩) ds.length c5) (.slice A7 (es ++ ds).length c7) ∧ zs.length ≤ 12 ∧ (∀ x ∈ zs, DecB x) ∧ MbR w5 b5 gl #[.slice Aa na ca, .slice Ar nr cr] (.slice (some ⟨g, 0, none⟩) ds.length c5) ds ∧ Pure w w5 ∧ Mod (· = b) w2 w5) := Lib.hid
       ⟨A7, c7, es ++ ds, rfl, hown6, DecS.app (HE4.out.2.mod hT (fun i arr fr hi hv => absurd (own_ty HOE.out hv hi) (by decide)) (fun i arr fr hi hv => absurd (own_ty HOE.out hv hi) (by decide))) (HR4.out.2.1.mod hT (fun i arr fr hi hv => absurd (own_ty HOE.out hv hi) (by decide)) (fun i arr fr hi hv => absurd (own_ty HOE.out hv hi) (by decide))), hap2, by rw [List.length_append]; omega, fun x hx => (List.mem_append.1 hx).elim (HEZ.out x) (HDZ.out x), HR4.out.mod HOE.out HAP.out (by omega) hT, HP4.out.grown hgrow (fun j hj => .inr (by have := hbk j hj; omega)), HM4.out.grown hgrow (fun j hj => .inr (by have := hbk j hj; omega))⟩
      have hfl : (es ++ ds).length = es.length + ds.length := List.length_append
      clear hT hown5 hbk hap2 hgrow hn5 hat hown6 HE4 HR4 HP4 HM4
      generalize (es ++ ds).length = m at *
      subst hfl
      go_wp2_with fail
      go_meet
      exact HFIN.out
    case rest =>
     obtain ⟨A7, c7, zs, rfl, hown, hds, hap, hl12, hzz, hmr, hpp, hmm⟩ := hcut
     obtain ⟨wx, hwx⟩ : ∃ W, W = wc := ⟨wc, rfl⟩
     subst hwx
     have HN0 : Hid (NumR wx w2.heap.size (.slice A7 zs.length c7) zs.length 0 (zs.map DecR.cnt) zs) := Lib.hid ⟨hown, rfl, hds, rfl, fun i h hi => absurd hi (by omega)⟩
     have HA7 := Lib.hid hap
     have HZ7 := Lib.hid hzz
     have HR7 := Lib.hid hmr
     have HP7 := Lib.hid hpp
     have HM7 := Lib.hid hmm
     clear hown hds hap hzz hmr hpp hmm HE4 HR4 HP4 HM4 HAP
     generalize zs.map DecR.cnt = CC at *
     generalize zs.length = m at *
     go_wp2_with fail
     go_loopg [35] m (fun gk i wr => MbL w w2 b b5 w2.heap.size gl #[.slice Aa na ca, .slice Ar nr cr] (.slice A5 ds.length c5) (.slice A7 m c7) ds m CC gk i wr)
     case atStart => exact ⟨0, zs, by omega, by omega, rfl, HN0.out, HZ7.out, HR7.out, HP7.out, HM7.out⟩
     case round =>
      clear HN0 HZ7 HR7 HP7 HM7
      obtain ⟨k, us, rfl, hk, rfl, hN, hz, hr, hp, hm⟩ := hrel
      by_cases hlt : k < m
      ·obtain ⟨g7, cap7, he, hge, _⟩ := hN.1.form (by omega)
       cases he
       obtain ⟨us2, hus, hN2⟩ := hN.step2 hlt
       obtain ⟨⟨z0, hz0'⟩, hf0⟩ := hN.cellNo hlt
       have hT : Mod (fun i => (Value.slice (some ⟨g7, 0, none⟩) m c7).ownBlock = some i) wr (wr.setCell ⟨g7, k * 6, none⟩ (.int .i64 ((k : Int) + 1))) := Mod.setCell (S := fun i => (Value.slice (some ⟨g7, 0, none⟩) m c7).ownBlock = some i) (p := ⟨g7, k * 6, none⟩) (Mod.refl _ _) (.inl rfl) _
       have HR2 := Lib.hid (hr.mod hN.1 HA7.out (by omega) hT)
       have HZ2 : Hid (∀ x ∈ us2, DecB x) := Lib.hid (fun x hx => (hus x hx).elim (hz x) (fun ⟨y, hy, e⟩ => e ▸ decB_numb (hz y hy) _ (by omega) (by omega)))
       have HN2 := Lib.hid hN2
       have HP8 := Lib.hid (hp.setCell (p := ⟨g7, k * 6, none⟩) (.inr (by show w.heap.size ≤ g7; omega)) (.int .i64 ((k : Int) + 1)))
       have HM8 := Lib.hid (hm.setCell (p := ⟨g7, k * 6, none⟩) (.inr (by show w2.heap.size ≤ g7; omega)) (.int .i64 ((k : Int) + 1)))
       clear hN hN2 hm hp hr hz hT hus
       have k4 : (0 : Int) ≤ (k : Int) := by omega
       have k5 : (k : Int) < (m : Int) := by omega
       go_wp2_with fail
       go_roundg (m - (k + 1))
       case measure => omega
       case rel => exact ⟨k + 1, us2, rfl, by omega, by simp, HN2.out, HZ2.out, HR2.out, HP8.out, HM8.out⟩
      ·obtain rfl : m = k := by omega
       have HFIN : Hid (MbP wr (.slice A7 m c7) 12 ∧ MbR wr b5 gl #[.slice Aa na ca, .slice Ar nr cr] (.slice A5 ds.length c5) ds ∧ Pure w wr ∧ Mod (· = b) w2 wr) := Lib.hid (by
        obtain ⟨n1, n2, n3, n4, n5⟩ := hN
        exact ⟨⟨A7, c7, us, by rw [n2], own_nilD n1, ⟨Sl.of_own n1, n3⟩, by omega, hz⟩, hr, hp, hm⟩)
       clear hlt hk hN hz hr hp hm
       go_wp2_with fail
       go_meet
       exact HFIN.out
  case rest =>
   obtain ⟨hmb, hmr, hmp, hmm⟩ := hcut
   obtain ⟨w5, hw5⟩ : ∃ W, W = wc := ⟨wc, rfl⟩
   subst hw5
   obtain ⟨A7, c7, zs, rfl, hnl, hzd, hzl, hzz⟩ := hmb
   have HMT2 := Lib.hid (fun W (h : Pure w5 W) => HMT.out W (hmp.trans h))
   have hLW := HLV.out _ hmm
   have HDD : Hid (Decs w5 (.slice A5 ds.length c5) ds) := Lib.hid ⟨Sl.of_own hmr.1, hmr.2.1⟩
   have hn5 := own_nilD hmr.1
   have hzl2 : zs.length ≤ 4000 := by omega
   have hdl2 : ds.length ≤ 4000 := by omega
   have HMG := Lib.hid (merge_calls w5 _ L A5 A7 c5 c7 ds zs hLW HLB.out HDD.out hzd HDZ.out hzz (by omega) (by omega))
   have HF1 := Lib.hid (fun W (h : Pure w5 W) => dsfault_calls W _ L A5 ds.length c5 ds (hLW.pure h) HLB.out (HDD.out.pure h) HDZ.out hdl2)
   have HF2 := Lib.hid (fun W (h : Pure w5 W) => dsfault_calls W _ L A7 zs.length c7 zs (hLW.pure h) HLB.out (hzd.pure h) hzz hzl2)
   have HDO := Lib.hid (fun (h1 : decsE L ds = 0) (h2 : decsE L zs = 0) W (h : Pure w5 W) => decisionsOf_calls W _ L A5 A7 c5 c7 ds zs (hLW.pure h) HLB.out (HDD.out.pure h) (hzd.pure h) hn5 hnl HDZ.out hzz (by omega) (by omega) h1 h2)
   have HQ : Hid (mgE L ds zs = if decsE L ds ≠ 0 then decsE L ds else decsE L zs) := Lib.hid rfl
   have HDC := Lib.hid (fun W (h : Pure w5 W) => decides_calls W (HMT2.out W h).1 (HMT2.out W h).2)
   have HG5 := Lib.hid hmr.2.2
   have HP5 := Lib.hid hmp
   clear hLW hzd hnl hn5 hmr hmm hmp HDD HDZ HEZ HMT HMT2 HLV HR4 HE4 HAP HP4 HM4 hzz
   generalize decsE L ds = qa at *
   generalize decsE L zs = qb at *
   generalize mgE L ds zs = q at *
   have hX := HG5.out
   have x0 := hX.cell 0; have x1 := hX.cell 1; simp at x0 x1
   clear hX
   go_wp2_with fail
   refine HMG.out.mono ?_
   rintro e w6 ⟨A8, k8, c8, us, rfl, hk8, hok8, hm6⟩
   have HK8 := Lib.hid hk8
   have HO8 := Lib.hid hok8
   have HM6 := Lib.hid hm6
   have HG6 := Lib.hid (HG5.out.modp hm6)
   have HF3 : Hid (∀ (W : World) (g : Nat), Blk W g 41 #[.int .i64 qa, .int .i64 qb] → Calls Tryz.prog 33 #[.slice (some ⟨g, 0, none⟩) 2 2] W (IntPost W q)) := Lib.hid (fun W g h => by
    have := wrongOr_calls W g 2 [qa, qb] h.row0 (by simp)
    rw [HQ.out]
    rwa [show firstErr [qa, qb] = if qa ≠ 0 then qa else qb by by_cases h1 : qa = 0 <;> by_cases h2 : qb = 0 <;> simp [firstErr, h1, h2]] at this)
   clear hk8 hok8 hm6 HMG x0 x1 HG5
   go_upto_region 12 with (fail)
   have HGs := Lib.hid (show ∀ (D : Nat → Bool) (zzi : Nat) (zq zq' : World), (fun _ zq => (fun Z => Blk Z gl 29 #[.slice Aa na ca, .slice Ar nr cr]) zq) D zq → Mod (fun _ => False) zq zq' → (fun _ zq => (fun Z => Blk Z gl 29 #[.slice Aa na ca, .slice Ar nr cr]) zq) (upd D zzi true) zq' from by intro D zzi zq zq' h hm; (exact h.modp hm))
   refine wp_region_inv (by kernel_rfl) (by kernel_rfl) (InvF (R := Mod (fun _ => False)) [.is (.agg #[.slice Aa na ca, .slice Ar nr cr]),
     .is (.slice A5 ds.length c5),
     .is (.int .i64 qa),
     .is (.agg #[.slice Aa na ca, .slice Ar nr cr]),
     .is (.slice A7 zs.length c7),
     .is (.int .i64 qb),
     ⟨fun zv zw => ∃ (g_6 : Nat), zv = .slice (some ⟨g_6, 0, none⟩) 2 2 ∧ w6.heap.size ≤ g_6 ∧ Blk zw g_6 41 #[.int .i64 qa, .int .i64 qb], (by rintro zv zw zx ⟨g_6, rfl, c0, q0⟩ hm; exact ⟨g_6, rfl, c0, (q0.modp hm)⟩), none, some 7⟩,
     .is (.int .i64 q),
     .is (.int .i64 q)]
     (PB w6 (fun _ => False) w6.heap.size (fun _ zq => (fun Z => Blk Z gl 29 #[.slice Aa na ca, .slice Ar nr cr]) zq))) (InvF.start (PB.start (Mod.refl _ _) (Nat.le_refl _) (HG6.out.drew))) ?_ ?_
   ·refine .cons ?_ (.cons ?_ (.cons ?_ (.cons ?_ (.cons ?_ (.cons ?_ (.cons ?_ (.cons ?_ (.cons ?_ .nil))))))))
    ·intro D V zw1 a hR hI K hK
     obtain ⟨hM1, hB1, hG1⟩ := hI.1
     have ze4 := hR.frame.other (t := 4) (by kernel_rfl) rfl
     have zx0 := hG1.cell 0; have zx1 := hG1.cell 1
     simp at zx0 zx1
     rw [if_pos (by rfl)]
     go_simp
     exact hK (.agg #[.slice Aa na ca, .slice Ar nr cr]) _ (hI.next hR (by kernel_rfl) (Mod.refl _ _) (PB.quiet hI.1 (Mod.refl _ _) (HGs.out D 0 zw1 zw1 (hI.1).g (Mod.refl _ _))) (upd_same V 0 _))
    ·intro D V zw1 a hR hI K hK
     obtain ⟨hM1, hB1, hG1⟩ := hI.1
     have ze5 := hR.frame.other (t := 5) (by kernel_rfl) rfl
     rw [if_pos (by rfl)]
     go_simp
     exact hK (.slice A5 ds.length c5) _ (hI.next hR (by kernel_rfl) (Mod.refl _ _) (PB.quiet hI.1 (Mod.refl _ _) (HGs.out D 1 zw1 zw1 (hI.1).g (Mod.refl _ _))) (upd_same V 1 _))
    ·intro D V zw1 a hR hI K hK
     obtain ⟨hM1, hB1, hG1⟩ := hI.1
     have zd0 := hR.pred 0 (by kernel_rfl)
     have zF0 : V 0 = .agg #[.slice Aa na ca, .slice Ar nr cr] := hI.2 0 zd0 rfl
     have zf0 := zF0; clear zF0
     have zd1 := hR.pred 1 (by kernel_rfl)
     have zF1 : V 1 = .slice A5 ds.length c5 := hI.2 1 zd1 rfl
     have zf1 := zF1; clear zF1
     have ze52 := hR.frame.done (t := 52) (j := 0) (by kernel_rfl) hR.ok zd0
     have ze53 := hR.frame.done (t := 53) (j := 1) (by kernel_rfl) hR.ok zd1
     rw [if_pos (by rfl)]
     go_simp
     refine (HF1.out zw1 (HM6.out.trans hM1)).mono ?_
     rintro e zw2 ⟨rfl, hm2⟩
     exact hK (.int .i64 qa) _ (hI.next hR (by kernel_rfl) hm2 (PB.quiet hI.1 hm2 (HGs.out D 2 _ _ (hI.1).g hm2)) (upd_same V 2 _))
    ·intro D V zw1 a hR hI K hK
     obtain ⟨hM1, hB1, hG1⟩ := hI.1
     have ze4 := hR.frame.other (t := 4) (by kernel_rfl) rfl
     have zx0 := hG1.cell 0; have zx1 := hG1.cell 1
     simp at zx0 zx1
     rw [if_pos (by rfl)]
     go_simp
     exact hK (.agg #[.slice Aa na ca, .slice Ar nr cr]) _ (hI.next hR (by kernel_rfl) (Mod.refl _ _) (PB.quiet hI.1 (Mod.refl _ _) (HGs.out D 3 zw1 zw1 (hI.1).g (Mod.refl _ _))) (upd_same V 3 _))
    ·intro D V zw1 a hR hI K hK
     obtain ⟨hM1, hB1, hG1⟩ := hI.1
     have ze6 := hR.frame.other (t := 6) (by kernel_rfl) rfl
     rw [if_pos (by rfl)]
     go_simp
     exact hK (.slice A7 zs.length c7) _ (hI.next hR (by kernel_rfl) (Mod.refl _ _) (PB.quiet hI.1 (Mod.refl _ _) (HGs.out D 4 zw1 zw1 (hI.1).g (Mod.refl _ _))) (upd_same V 4 _))
    ·intro D V zw1 a hR hI K hK
     obtain ⟨hM1, hB1, hG1⟩ := hI.1
     have zd3 := hR.pred 3 (by kernel_rfl)
     have zF3 : V 3 = .agg #[.slice Aa na ca, .slice Ar nr cr] := hI.2 3 zd3 rfl
     have zf3 := zF3; clear zF3
     have zd4 := hR.pred 4 (by kernel_rfl)
     have zF4 : V 4 = .slice A7 zs.length c7 := hI.2 4 zd4 rfl
     have zf4 := zF4; clear zF4
     have ze55 := hR.frame.done (t := 55) (j := 3) (by kernel_rfl) hR.ok zd3
     have ze56 := hR.frame.done (t := 56) (j := 4) (by kernel_rfl) hR.ok zd4
     rw [if_pos (by rfl)]
     go_simp
     refine (HF2.out zw1 (HM6.out.trans hM1)).mono ?_
     rintro e zw2 ⟨rfl, hm2⟩
     exact hK (.int .i64 qb) _ (hI.next hR (by kernel_rfl) hm2 (PB.quiet hI.1 hm2 (HGs.out D 5 _ _ (hI.1).g hm2)) (upd_same V 5 _))
    ·intro D V zw1 a hR hI K hK
     obtain ⟨hM1, hB1, hG1⟩ := hI.1
     have zd2 := hR.pred 2 (by kernel_rfl)
     have zF2 : V 2 = .int .i64 qa := hI.2 2 zd2 rfl
     have zf2 := zF2; clear zF2
     have zd5 := hR.pred 5 (by kernel_rfl)
     have zF5 : V 5 = .int .i64 qb := hI.2 5 zd5 rfl
     have zf5 := zF5; clear zF5
     have ze54 := hR.frame.done (t := 54) (j := 2) (by kernel_rfl) hR.ok zd2
     have ze57 := hR.frame.done (t := 57) (j := 5) (by kernel_rfl) hR.ok zd5
     rw [if_pos (by rfl)]
     go_simp
     exact hK (_) _ (hI.next hR (by kernel_rfl) ((Mod.refl _ _).alloc _) (PB.quiet hI.1 (pure_alloc _ _) (HGs.out D 6 _ _ (hI.1).g ((Mod.refl _ _).alloc _))) (⟨_, upd_same V 6 _, (by omega), (Blk.new _ _ _)⟩))
    ·intro D V zw1 a hR hI K hK
     obtain ⟨hM1, hB1, hG1⟩ := hI.1
     have zd6 := hR.pred 6 (by kernel_rfl)
     have zF6 : ∃ (g_6 : Nat), V 6 = .slice (some ⟨g_6, 0, none⟩) 2 2 ∧ w6.heap.size ≤ g_6 ∧ Blk zw1 g_6 41 #[.int .i64 qa, .int .i64 qb] := hI.2 6 zd6 (by show (!D 7) = true; rw [hR.not]; rfl)
     obtain ⟨g_6, zf6, c6_0, b6_0⟩ := zF6
     have ze58 := hR.frame.done (t := 58) (j := 6) (by kernel_rfl) hR.ok zd6
     rw [if_pos (by rfl)]
     go_simp
     refine (HF3.out zw1 _ b6_0).mono ?_
     rintro e zw2 ⟨rfl, hm2⟩
     exact hK (.int .i64 q) _ (hI.next hR (by kernel_rfl) hm2 (PB.quiet hI.1 hm2 (HGs.out D 7 _ _ (hI.1).g hm2)) (upd_same V 7 _))
    ·intro D V zw1 a hR hI K hK
     obtain ⟨hM1, hB1, hG1⟩ := hI.1
     have zd7 := hR.pred 7 (by kernel_rfl)
     have zF7 : V 7 = .int .i64 q := hI.2 7 zd7 rfl
     have zf7 := zF7; clear zF7
     have ze59 := hR.frame.done (t := 59) (j := 7) (by kernel_rfl) hR.ok zd7
     rw [if_pos (by rfl)]
     go_simp
     exact hK (.int .i64 q) _ (hI.next hR (by kernel_rfl) (Mod.refl _ _) (PB.quiet hI.1 (Mod.refl _ _) (HGs.out D 8 zw1 zw1 (hI.1).g (Mod.refl _ _))) (upd_same V 8 _))
   ·intro D V w7 hD hI
    obtain ⟨hM1, hB1, hG1⟩ := hI.1
    have hMx := hM1
    clear hM1
    have hBx := hB1
    clear hB1
    have hGx := hG1
    clear hG1
    have zF0 : V 0 = .agg #[.slice Aa na ca, .slice Ar nr cr] := hI.2 0 (hD 0 (by decide)) rfl
    have zf0 := zF0; clear zF0
    have zF1 : V 1 = .slice A5 ds.length c5 := hI.2 1 (hD 1 (by decide)) rfl
    have zf1 := zF1; clear zF1
    have zF2 : V 2 = .int .i64 qa := hI.2 2 (hD 2 (by decide)) rfl
    have zf2 := zF2; clear zF2
    have zF3 : V 3 = .agg #[.slice Aa na ca, .slice Ar nr cr] := hI.2 3 (hD 3 (by decide)) rfl
    have zf3 := zF3; clear zF3
    have zF4 : V 4 = .slice A7 zs.length c7 := hI.2 4 (hD 4 (by decide)) rfl
    have zf4 := zF4; clear zF4
    have zF5 : V 5 = .int .i64 qb := hI.2 5 (hD 5 (by decide)) rfl
    have zf5 := zF5; clear zF5
    have zF7 : V 7 = .int .i64 q := hI.2 7 (hD 7 (by decide)) rfl
    have zf7 := zF7; clear zF7
    have zF8 : V 8 = .int .i64 q := hI.2 8 (hD 8 (by decide)) rfl
    have zf8 := zF8; clear zF8
    clear hI hD HGs
    simp only [frAll, Act.put, List.setIfInBounds_toArray, List.set_cons_zero, List.set_cons_succ, Nat.zero_add, Nat.reduceAdd, zf0, zf1, zf2, zf3, zf4, zf5, zf7, zf8]
    clear zf0 zf1 zf2 zf3 zf4 zf5 zf7 zf8
    generalize V 6 = u6
    clear V D
    have HM7 := Lib.hid (HM6.out.trans hMx)
    have HX67 := Lib.hid hMx
    have HG7 := Lib.hid hGx
    clear hMx hGx hBx HF1 HF2 HF3 HG6
    by_cases h0 : q = 0
    ·subst h0
     have h0 : qa = 0 ∧ qb = 0 := by
      have := HQ.out
      by_cases h : qa = 0
      ·rw [if_neg (by simp [h])] at this; exact ⟨h, this.symm⟩
      ·rw [if_pos h] at this; exact absurd this.symm h
     have HDX := Lib.hid (HDO.out h0.1 h0.2 w7 HM7.out)
     have h8 := HO8.out rfl
     have HL8 := Lib.hid (h8.1.len)
     have HS8 := Lib.hid (And.intro (h8.1.pure HX67.out) h8.2)
     clear h0 HDO h8 HO8 HK8 HQ
     have hX := HG7.out
     have x0 := hX.cell 0; have x1 := hX.cell 1; simp at x0 x1
     clear hX
     go_wp2_with fail
     refine HDX.out.mono ?_
     rintro e w8 ⟨A9, k9, c9, vs, rfl, hk9, hok9, hm8⟩
     have h9 := hok9 rfl
     have hle : eqL decEq us vs = true := likesD_iff.2 (num_likes (HS8.out.2.1.uniq h9.2.1) HS8.out.2.2 h9.2.2)
     have HEF := Lib.hid (equalDec_calls w8 _ _ us vs (HS8.out.1.pure hm8) h9.1)
     rw [hle] at HEF
     have HM8 := Lib.hid (HM7.out.trans hm8)
     clear hle hk9 hok9 h9 hm8 HM7 HS8 HDX x0 x1
     go_wp2_with fail
     refine HEF.out.mono ?_
     rintro e w9 ⟨rfl, hm⟩
     have HM9 := Lib.hid (HM8.out.trans hm)
     clear hm HM8
     go_wp2_with fail
     refine (HDC.out _ HM9.out).mono ?_
     rintro e w10 ⟨rfl, hm⟩
     have HPF := Lib.hid ((HP5.out.trans HM9.out).trans hm)
     clear hm HDC
     go_wp2_with fail
     go_ret
     exact BoolPost.of rfl HPF.out
    ·have h0' : (q != 0) = true := by simpa using h0
     obtain rfl := HK8.out h0
     clear h0 HDO HO8 HK8
     go_wp2_with fail
     refine (HDC.out _ HM7.out).mono ?_
     rintro e w10 ⟨rfl, hm⟩
     have HPF := Lib.hid ((HP5.out.trans HM7.out).trans hm)
     clear hm HDC
     go_wp2_with fail
     go_ret
     exact BoolPost.of rfl HPF.out

end Go.Proofs.YtkkndblcejmmjaaGreatDoor
