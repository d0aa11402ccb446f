/- Texts of the proof of LayoutTexts, put together: TxtA. -/
import Derived.Test.YtaidkmnbjbnciaaGreatDoorLayoutTextsZ22
import Derived.Test.YtaidkmnbjbnciaaGreatDoorLayoutTextsZ29
import Derived.Test.YtaidkmnbjbnciaaGreatDoorLayoutTextsZ30
import Derived.Test.YtaidkmnbjbnciaaGreatDoorLayoutTextsZ32
import Derived.Test.YtaidkmnbjbnciaaGreatDoorLayoutTextsZ35
import Derived.Deep.AppendLies
/- TextLayout of the program. -/
namespace Go.Proofs.YtaidkmnbjbnciaaGreatDoor
set_option linter.unusedVariables false
set_option linter.unusedSimpArgs false
open Go.RowKit

theorem chosen_calls (w : World) (b : Bool) (x y : Str) : Calls Tryz.prog 58 #[.bool b, .string ⟨x.toArray⟩, .string ⟨y.toArray⟩] w (JnPost w (if b then x else y)) := by
 cases b
 ·go_enter Tryz.func58, Tryz.ntmps58
  go_wp2_with fail
  go_ret
  exact ⟨rfl, Mod.refl _ _⟩
 ·go_enter Tryz.func58, Tryz.ntmps58
  go_wp2_with fail
  go_ret
  exact ⟨rfl, Mod.refl _ _⟩
theorem info_strT : (Tryz.prog.info? 9).map (fun i => (i.zero, i.size, i.bytes)) = some (some (.string ByteArray.empty), 1, 16) := by kernel_rfl
theorem sp3_cell {W : World} {g : Nat} (h : Blk W g 9 (strsV sp3).toArray) {k : Nat} (hk : k < 3) : W.cell? ⟨g, k, none⟩ = some (.string ⟨(sprdW (k : Int)).toArray⟩) := by
 match k, hk with
 | 0, _ => exact h.cell 0
 | 1, _ => exact h.cell 1
 | 2, _ => exact h.cell 2
theorem spreadsQ_calls (w : World) (hA : Asc w) : Calls Tryz.prog 59 #[] w (fun e w' => ∃ g, e = .returned (.slice (some ⟨g, 0, none⟩) 3 3) ∧ Blk w' g 9 (strsV sp3).toArray ∧ Pure w w') := by
 refine (spreads_calls w hA).mono ?_
 rintro e w' ⟨rfl, rfl⟩
 exact ⟨_, rfl, Blk.new _ _ _, pure_alloc _ _⟩
theorem bytes_appT (a b : Str) : (⟨a.toArray⟩ : ByteArray) ++ ⟨b.toArray⟩ = ⟨(a ++ b).toArray⟩ := by
 show (⟨a.toArray⟩ : ByteArray).append ⟨b.toArray⟩ = _
 apply ByteArray.ext
 simp [ByteArray.append]
theorem sl_news {W : World} {g off n c : Nat} {ss : List Str} (h : Sl W 9 1 (.slice (some ⟨g, off, none⟩) n c) (strsV ss)) (hn : 0 < n) : ∀ j u, (strsV ss)[j]? = some u → W.cell? ((⟨g, off, none⟩ : Addr).add j) = some u := by
 obtain ⟨A', n', c', e, h1, h2, h3, h4⟩ := h
 injection e with e1 e2 e3
 subst e1 e2 e3
 obtain ⟨g', o', e, hr⟩ := h4 hn
 cases e
 intro j u hj
 have h := hr.cell hj
 rcases Nat.eq_zero_or_pos j with h0 | h0
 ·subst h0; simpa [Addr.add] using h
 ·rw [show (⟨g, off, none⟩ : Addr).add j = ⟨g, off + j, none⟩ by simp [Addr.add]; omega]
  exact h
theorem Sl.someA {W : World} {e : TypeId} {size n c : Nat} {A : Option Addr} {xs : List Value} (h : Sl W e size (.slice A n c) xs) (hn : 0 < n) : ∃ g off, A = some ⟨g, off, none⟩ := by
 obtain ⟨A', n', c', e, h1, h2, h3, h4⟩ := h
 injection e with e1 e2 e3
 subst e1 e2 e3
 obtain ⟨g', o', e, _⟩ := h4 hn
 exact ⟨g', o', e⟩
def TxPost (w : World) (L : LayR) (e : Ending) (w' : World) : Prop := Pure w w' ∧ ((layE L ≠ 0 ∧ e = .returned (.tuple #[.string ⟨#[]⟩, .int .i64 (layE L)])) ∨ (layE L = 0 ∧ e = .returned (.tuple #[.string ⟨(layT L).toArray⟩, .int .i64 0])))

set_option maxRecDepth 100000 in
set_option maxHeartbeats 16000000 in
theorem textLayout_calls (w : World) (A : Option Addr) (n c : Nat) (A2 : Option Addr) (n2 c2 : Nat) (L : LayR) (hL : LayV w L (.agg #[.slice A n c, .slice A2 n2 c2])) (hb : LayB L) (hA : Asc w) (hok : layE L = 0 → LayOk L ∧ (layT L).length ≤ 200000) :
  Calls Tryz.prog 8 #[.agg #[.slice A n c, .slice A2 n2 c2]] w (TxPost w L) := by
 have hp := pure_alloc w (.cells #[.slice A n c, .slice A2 n2 c2] 29)
 have HC := Lib.hid (checkLayout_calls _ _ L (hL.pure hp) hb)
 have HG := Lib.hid (Blk.new w 29 #[.slice A n c, .slice A2 n2 c2])
 have HP := Lib.hid hp
 have HA := Lib.hid (hA.pure hp)
 have HL := Lib.hid (hL.pure hp)
 have HOK := Lib.hid hok
 obtain ⟨q, hq⟩ : ∃ q, layE L = q := ⟨_, rfl⟩
 have HQ := Lib.hid hq
 rw [hq] at HC HOK
 clear hp hL hb hA hok hq
 go_enter Tryz.func8, Tryz.ntmps8
 go_wp2_with fail
 generalize (w.alloc (.cells #[.slice A n c, .slice A2 n2 c2] 29)) = w0 at *
 generalize w.heap.size = gb at *
 refine HC.out.mono ?_
 rintro e w1 ⟨rfl, hm⟩
 replace HG := Lib.hid (HG.out.modp hm)
 replace HP := Lib.hid (HP.out.trans hm)
 replace HA := Lib.hid (HA.out.pure hm)
 replace HL := Lib.hid (HL.out.pure hm)
 clear hm HC
 by_cases h0 : q = 0
 ·subst h0
  obtain ⟨hlo, hll⟩ := HOK.out rfl
  obtain ⟨A', n', c', A2', n2', c2', e, hla, hlr⟩ := HL.out
  cases e
  obtain ⟨al, rs⟩ := L
  simp only at hla hlr
  have hla1 := hla.len
  have hlr1 := hlr.len
  have hlac := hla.cap
  subst hla1 hlr1
  have HAK : Hid (∀ a ∈ al, askOk a) := Lib.hid hlo.1
  have HRK : Hid (∀ r ∈ rs, rulOk r) := Lib.hid hlo.2.1
  have hrsb : rs.length ≤ 100 := hlo.2.2.2
  have HLA := Lib.hid hla
  have HLR := Lib.hid hlr
  have HLL : Hid ((asksT al ++ rulsT rs).length ≤ 200000) := Lib.hid hll
  clear hlo hll hla hlr HOK HL
  have hG := HG.out
  have x0 := hG.cell 0; have x1 := hG.cell 1; simp at x0 x1
  clear hG
  go_wp2_with fail
  go_loopg [5, 19] al.length (fun gk s i wr => ∃ k : Nat, al.length - k = gk ∧ k ≤ al.length ∧ s = .string ⟨(asksT (al.take k)).toArray⟩ ∧ i = .int .i64 (k : Int) ∧ Pure w1 wr)
  case atStart => exact ⟨0, by omega, by omega, rfl, rfl, Mod.refl _ _⟩
  case round =>
   obtain ⟨k, rfl, hk, rfl, rfl, hm⟩ := hrel
   by_cases hlt : k < al.length
   ·obtain ⟨g1, o1, rfl, q0, q1, q2, q3⟩ := Asks.cells (HLA.out.pure hm) hlt
    have HS := Lib.hid ((HLA.out.2 al[k] (List.getElem_mem hlt)).pure hm)
    have hak := HAK.out _ (List.getElem_mem hlt)
    have HSN := Lib.hid (asksT_snoc hlt)
    have HAr := Lib.hid (HA.out.pure hm)
    have HM := Lib.hid hm
    clear hm HRK HLR
    have hskl := asksT_take al k
    have hskl2 := HLL.out
    rw [List.length_append] at hskl2
    have hskb : (asksT (al.take k)).length ≤ 200000 := by omega
    clear hskl hskl2
    obtain ⟨sn, hsn⟩ : ∃ sn, asksT (al.take (k + 1)) = sn := ⟨_, rfl⟩
    rw [hsn] at HSN
    have HSE := Lib.hid hsn
    clear hsn
    generalize asksT (al.take k) = sk at *
    generalize al[k] = x at *
    obtain ⟨f, B, cb, ch, mb, sp⟩ := x
    obtain ⟨hk1, hk2, hk3, hk4⟩ := hak
    simp only at q0 q1 q2 q3 hk1 hk2 hk3 HS
    obtain ⟨spn, rfl⟩ : ∃ m : Nat, sp = (m : Int) := ⟨sp.toNat, by omega⟩
    obtain ⟨gc, oc, rfl⟩ := HS.out.someA hk1
    obtain ⟨jn, hjn⟩ : ∃ jn, Lib.join (askW ⟨f, some ⟨gc, oc, none⟩, cb, ch, mb, spn⟩) [32] = jn := ⟨_, rfl⟩
    have HKL : Hid ((Lib.join (askW ⟨f, some ⟨gc, oc, none⟩, cb, ch, mb, spn⟩) [32]).length ≤ 60000) := Lib.hid (by unfold lnW at hk4; rw [List.length_append] at hk4; omega)
    have HJ1 : Hid ((⟨jn.toArray⟩ : ByteArray) ++ ⟨#[10]⟩ = ⟨(jn ++ [10]).toArray⟩) := Lib.hid (bytes_appT jn [10])
    have HJ2 : Hid ((⟨sk.toArray⟩ : ByteArray) ++ ⟨(jn ++ [10]).toArray⟩ = ⟨sn.toArray⟩) := Lib.hid (by rw [bytes_appT, HSN.out, ← hjn]; rfl)
    obtain ⟨jl, hjl⟩ : ∃ jl, jn ++ [10] = jl := ⟨_, rfl⟩
    have HJLL : Hid (jl.length = jn.length + 1) := Lib.hid (by rw [← hjl]; simp)
    rw [hjl] at HJ1 HJ2
    clear hjl
    have HKC : Hid (ch.length ≤ 60000) := Lib.hid (by
     have h1 := join_many (askW ⟨f, some ⟨gc, oc, none⟩, cb, ch, mb, spn⟩)
     have h2 := HKL.out
     have h3 : (askW ⟨f, some ⟨gc, oc, none⟩, cb, ch, mb, spn⟩).length = 4 + ch.length := by simp [askW]; omega
     omega)
    have hjnl : jn.length ≤ 60000 := by rw [← hjn]; exact HKL.out
    clear hk4 HSN
    have HJN : Hid (∀ W v, Sl W 9 1 v (strsV (askW ⟨f, some ⟨gc, oc, none⟩, cb, ch, mb, spn⟩)) → Calls Tryz.prog 57 #[v, .string ⟨#[32]⟩] W (JnPost W jn)) := Lib.hid (fun W v h => by
     have := joinT_calls W v _ [32] h (by have := HKC.out; simp [askW]; omega) (by have := HKL.out; omega)
     rwa [hjn] at this)
    have HCH : Hid (∀ W, Calls Tryz.prog 58 #[.bool mb, .string ⟨#[109, 97, 110, 121]⟩, .string ⟨#[111, 110, 101]⟩] W (JnPost W (if mb then wMany else wOne))) := Lib.hid (fun W => chosen_calls W mb wMany wOne)
    have hs3 : (spn : Int) < 3 := by omega
    have hs3n : spn < 3 := by omega
    obtain ⟨nc, hnc⟩ : ∃ m, ch.length = m := ⟨_, rfl⟩
    have HNC := Lib.hid hnc
    rw [hnc] at hk1 HS q1
    have hncb : nc ≤ 60000 := by have := HKC.out; omega
    have hjll := Nat.le_of_eq HJLL.out
    clear hjn hnc HJLL
    obtain ⟨mw, hmw⟩ : ∃ mw, (if mb then wMany else wOne) = mw := ⟨_, rfl⟩
    have HMW := Lib.hid hmw
    rw [hmw] at HCH
    clear hmw
    go_upto_region 8 with (fail)
    have hG1 := Blk.new wr 99 #[.string ⟨f.toArray⟩, .slice (some ⟨gc, oc, none⟩) nc cb, .bool mb, .int .i64 (spn : Int)]
    have hpa := pure_alloc wr (.cells #[.string ⟨f.toArray⟩, .slice (some ⟨gc, oc, none⟩) nc cb, .bool mb, .int .i64 (spn : Int)] 99)
    have HB4 := Lib.hid hG1
    have HS4 := Lib.hid (HS.out.pure hpa)
    have HA4 := Lib.hid (HAr.out.pure hpa)
    have HM4 := Lib.hid (HM.out.trans hpa)
    clear hG1 hpa HS HAr
    generalize (wr.alloc (.cells #[.string ⟨f.toArray⟩, .slice (some ⟨gc, oc, none⟩) nc cb, .bool mb, .int .i64 (spn : Int)] 99)) = w4 at *
    generalize wr.heap.size = gA at *
    have HA5 : Hid (∀ W, Pure w4 W → Asc W) := Lib.hid (fun W h => HA4.out.pure h)
    obtain ⟨i0, hi0, hz0, hz1, hz2⟩ := info_parts info_strT
    have HGs := Lib.hid (show ∀ (D : Nat → Bool) (zzi : Nat) (zq zq' : World), zzi ≠ 14 → (fun D zq => (D 14 = false → (fun Z => Sl Z 9 1 (.slice (some ⟨gc, oc, none⟩) nc cb) (strsV ch)) zq) ∧ (fun Z => Blk Z gA 99 #[.string ⟨f.toArray⟩, .slice (some ⟨gc, oc, none⟩) nc cb, .bool mb, .int .i64 (spn : Int)]) zq) D zq → Mod (fun _ => False) zq zq' → (fun D zq => (D 14 = false → (fun Z => Sl Z 9 1 (.slice (some ⟨gc, oc, none⟩) nc cb) (strsV ch)) zq) ∧ (fun Z => Blk Z gA 99 #[.string ⟨f.toArray⟩, .slice (some ⟨gc, oc, none⟩) nc cb, .bool mb, .int .i64 (spn : Int)]) zq) (upd D zzi true) zq' from by intro D zzi zq zq' hi hh hm; refine ⟨fun hs => ?_, ?_⟩; (rw [upd_ne _ _ (Ne.symm hi)] at hs; have h := hh.1 hs; (exact h.pure hm)); (have h := hh.2; (exact h.modp hm)))
    refine wp_region_inv (by kernel_rfl) (by kernel_rfl) (InvF (R := Mod (fun _ => False)) [.is (.string ⟨sk.toArray⟩),
      .is (.pointer (some ⟨gA, 0, none⟩)),
      .is (.string ⟨f.toArray⟩),
      .is (.pointer (some ⟨gA, 2, none⟩)),
      .is (.bool mb),
      .is (.string ⟨mw.toArray⟩),
      ⟨fun zv zw => ∃ (g_6 : Nat), zv = .slice (some ⟨g_6, 0, none⟩) 3 3 ∧ Blk zw g_6 9 (strsV sp3).toArray, (by rintro zv zw zx ⟨g_6, rfl, q0⟩ hm; exact ⟨g_6, rfl, (q0.modp hm)⟩), none, some 10⟩,
      .is (.pointer (some ⟨gA, 3, none⟩)),
      .is (.int .i64 (spn : Int)),
      ⟨fun zv zw => ∃ (g_9 : Nat), zv = .pointer (some ⟨g_9, spn, none⟩) ∧ Blk zw g_9 9 (strsV sp3).toArray, (by rintro zv zw zx ⟨g_9, rfl, q0⟩ hm; exact ⟨g_9, rfl, (q0.modp hm)⟩), none, some 10⟩,
      .is (.string ⟨(sprdW (spn : Int)).toArray⟩),
      ⟨fun zv zw => ∃ (g_11 : Nat), zv = .slice (some ⟨g_11, 0, none⟩) 4 4 ∧ w4.heap.size ≤ g_11 ∧ Blk zw g_11 9 #[(.string { data := #[97, 115, 107] }), .string ⟨f.toArray⟩, .string ⟨mw.toArray⟩, .string ⟨(sprdW (spn : Int)).toArray⟩], (by rintro zv zw zx ⟨g_11, rfl, c0, q0⟩ hm; exact ⟨g_11, rfl, c0, (q0.modp hm)⟩), none, some 14⟩,
      .is (.pointer (some ⟨gA, 1, none⟩)),
      .is (.slice (some ⟨gc, oc, none⟩) nc cb),
      ⟨fun zv zw => ∃ (g_14 : Nat) (c_14 : Nat), zv = .slice (some ⟨g_14, 0, none⟩) (4 + nc) c_14 ∧ Sl zw 9 1 (.slice (some ⟨g_14, 0, none⟩) (4 + nc) c_14) (strsV (askW ⟨f, some ⟨gc, oc, none⟩, cb, ch, mb, spn⟩)), (by rintro zv zw zx ⟨g_14, c_14, rfl, q0⟩ hm; exact ⟨g_14, c_14, rfl, (q0.pure hm)⟩), none, some 15⟩,
      .is (.string ⟨jn.toArray⟩),
      .is (.string ⟨jl.toArray⟩),
      .is (.string ⟨sn.toArray⟩),
      .is (.string ⟨sn.toArray⟩)]
      (PB w4 (fun _ => False) w4.heap.size (fun D zq => (D 14 = false → (fun Z => Sl Z 9 1 (.slice (some ⟨gc, oc, none⟩) nc cb) (strsV ch)) zq) ∧ (fun Z => Blk Z gA 99 #[.string ⟨f.toArray⟩, .slice (some ⟨gc, oc, none⟩) nc cb, .bool mb, .int .i64 (spn : Int)]) zq))) (InvF.start (PB.start (Mod.refl _ _) (Nat.le_refl _) (⟨fun _ => HS4.out.pure ((Mod.refl _ _).drew), HB4.out.drew⟩))) ?_ ?_
    ·refine .cons ?_ (.cons ?_ (.cons ?_ (.cons ?_ (.cons ?_ (.cons ?_ (.cons ?_ (.cons ?_ (.cons ?_ (.cons ?_ (.cons ?_ (.cons ?_ (.cons ?_ (.cons ?_ (.cons ?_ (.cons ?_ (.cons ?_ (.cons ?_ (.cons ?_ .nil))))))))))))))))))
     ·intro D V zw1 a hR hI K hK
      obtain ⟨hM1, hB1, hG1⟩ := hI.1
      obtain ⟨hGK, hG1⟩ := hG1
      have ze5 := hR.frame.undone (t := 5) (j := 18) (by kernel_rfl) (hR.later 18 rfl (by kernel_rfl)) rfl
      rw [if_pos (by rfl)]
      go_simp
      exact hK (.string ⟨sk.toArray⟩) _ (hI.next hR (by kernel_rfl) (Mod.refl _ _) (PB.quiet hI.1 (Mod.refl _ _) (HGs.out D 0 zw1 zw1 (by omega) (hI.1).g (Mod.refl _ _))) (upd_same V 0 _))
     ·intro D V zw1 a hR hI K hK
      obtain ⟨hM1, hB1, hG1⟩ := hI.1
      obtain ⟨hGK, hG1⟩ := hG1
      have ze7 := hR.frame.other (t := 7) (by kernel_rfl) rfl
      rw [if_pos (by rfl)]
      go_simp
      exact hK (.pointer (some ⟨gA, 0, none⟩)) _ (hI.next hR (by kernel_rfl) (Mod.refl _ _) (PB.quiet hI.1 (Mod.refl _ _) (HGs.out D 1 zw1 zw1 (by omega) (hI.1).g (Mod.refl _ _))) (upd_same V 1 _))
     ·intro D V zw1 a hR hI K hK
      obtain ⟨hM1, hB1, hG1⟩ := hI.1
      obtain ⟨hGK, hG1⟩ := hG1
      have zd1 := hR.pred 1 (by kernel_rfl)
      have zF1 : V 1 = .pointer (some ⟨gA, 0, none⟩) := hI.2 1 zd1 rfl
      have zf1 := zF1; clear zF1
      have ze24 := hR.frame.done (t := 24) (j := 1) (by kernel_rfl) hR.ok zd1
      have zx0 := hG1.cell 0; simp at zx0
      rw [if_pos (by rfl)]
      go_simp
      exact hK (.string ⟨f.toArray⟩) _ (hI.next hR (by kernel_rfl) (Mod.refl _ _) (PB.quiet hI.1 (Mod.refl _ _) (HGs.out D 2 zw1 zw1 (by omega) (hI.1).g (Mod.refl _ _))) (upd_same V 2 _))
     ·intro D V zw1 a hR hI K hK
      obtain ⟨hM1, hB1, hG1⟩ := hI.1
      obtain ⟨hGK, hG1⟩ := hG1
      have ze7 := hR.frame.other (t := 7) (by kernel_rfl) rfl
      rw [if_pos (by rfl)]
      go_simp
      exact hK (.pointer (some ⟨gA, 2, none⟩)) _ (hI.next hR (by kernel_rfl) (Mod.refl _ _) (PB.quiet hI.1 (Mod.refl _ _) (HGs.out D 3 zw1 zw1 (by omega) (hI.1).g (Mod.refl _ _))) (upd_same V 3 _))
     ·intro D V zw1 a hR hI K hK
      obtain ⟨hM1, hB1, hG1⟩ := hI.1
      obtain ⟨hGK, hG1⟩ := hG1
      have zd3 := hR.pred 3 (by kernel_rfl)
      have zF3 : V 3 = .pointer (some ⟨gA, 2, none⟩) := hI.2 3 zd3 rfl
      have zf3 := zF3; clear zF3
      have ze26 := hR.frame.done (t := 26) (j := 3) (by kernel_rfl) hR.ok zd3
      have zx0 := hG1.cell 2; simp at zx0
      rw [if_pos (by rfl)]
      go_simp
      exact hK (.bool mb) _ (hI.next hR (by kernel_rfl) (Mod.refl _ _) (PB.quiet hI.1 (Mod.refl _ _) (HGs.out D 4 zw1 zw1 (by omega) (hI.1).g (Mod.refl _ _))) (upd_same V 4 _))
     ·intro D V zw1 a hR hI K hK
      obtain ⟨hM1, hB1, hG1⟩ := hI.1
      obtain ⟨hGK, hG1⟩ := hG1
      have zd4 := hR.pred 4 (by kernel_rfl)
      have zF4 : V 4 = .bool mb := hI.2 4 zd4 rfl
      have zf4 := zF4; clear zF4
      have ze27 := hR.frame.done (t := 27) (j := 4) (by kernel_rfl) hR.ok zd4
      rw [if_pos (by rfl)]
      go_simp
      refine (HCH.out _).mono ?_
      rintro e zw2 ⟨rfl, hm2⟩
      exact hK (.string ⟨mw.toArray⟩) _ (hI.next hR (by kernel_rfl) hm2 (PB.quiet hI.1 hm2 (HGs.out D 5 _ _ (by omega) (hI.1).g hm2)) (upd_same V 5 _))
     ·intro D V zw1 a hR hI K hK
      obtain ⟨hM1, hB1, hG1⟩ := hI.1
      obtain ⟨hGK, hG1⟩ := hG1
      rw [if_pos (by rfl)]
      go_simp
      refine (spreadsQ_calls _ (HA5.out _ hM1)).mono ?_
      rintro e zw2 ⟨g_0, rfl, hsl, hm2⟩
      exact hK (.slice (some ⟨g_0, 0, none⟩) 3 3) _ (hI.next hR (by kernel_rfl) hm2 (PB.quiet hI.1 hm2 (HGs.out D 6 _ _ (by omega) (hI.1).g hm2)) (⟨g_0, upd_same V 6 _, hsl⟩))
     ·intro D V zw1 a hR hI K hK
      obtain ⟨hM1, hB1, hG1⟩ := hI.1
      obtain ⟨hGK, hG1⟩ := hG1
      have ze7 := hR.frame.other (t := 7) (by kernel_rfl) rfl
      rw [if_pos (by rfl)]
      go_simp
      exact hK (.pointer (some ⟨gA, 3, none⟩)) _ (hI.next hR (by kernel_rfl) (Mod.refl _ _) (PB.quiet hI.1 (Mod.refl _ _) (HGs.out D 7 zw1 zw1 (by omega) (hI.1).g (Mod.refl _ _))) (upd_same V 7 _))
     ·intro D V zw1 a hR hI K hK
      obtain ⟨hM1, hB1, hG1⟩ := hI.1
      obtain ⟨hGK, hG1⟩ := hG1
      have zd7 := hR.pred 7 (by kernel_rfl)
      have zF7 : V 7 = .pointer (some ⟨gA, 3, none⟩) := hI.2 7 zd7 rfl
      have zf7 := zF7; clear zF7
      have ze30 := hR.frame.done (t := 30) (j := 7) (by kernel_rfl) hR.ok zd7
      have zx0 := hG1.cell 3; simp at zx0
      rw [if_pos (by rfl)]
      go_simp
      exact hK (.int .i64 (spn : Int)) _ (hI.next hR (by kernel_rfl) (Mod.refl _ _) (PB.quiet hI.1 (Mod.refl _ _) (HGs.out D 8 zw1 zw1 (by omega) (hI.1).g (Mod.refl _ _))) (upd_same V 8 _))
     ·intro D V zw1 a hR hI K hK
      obtain ⟨hM1, hB1, hG1⟩ := hI.1
      obtain ⟨hGK, hG1⟩ := hG1
      have zd6 := hR.pred 6 (by kernel_rfl)
      have zF6 : ∃ (g_6 : Nat), V 6 = .slice (some ⟨g_6, 0, none⟩) 3 3 ∧ Blk zw1 g_6 9 (strsV sp3).toArray := hI.2 6 zd6 (by show (!D 10) = true; cases hs : D 10 with | false => rfl | true => (have := hR.closed 10 _ 9 rfl (by kernel_rfl) hs; rw [hR.not] at this; cases this))
      obtain ⟨g_6, zf6, b6_0⟩ := zF6
      have zd8 := hR.pred 8 (by kernel_rfl)
      have zF8 : V 8 = .int .i64 (spn : Int) := hI.2 8 zd8 rfl
      have zf8 := zF8; clear zF8
      have ze29 := hR.frame.done (t := 29) (j := 6) (by kernel_rfl) hR.ok zd6
      have ze31 := hR.frame.done (t := 31) (j := 8) (by kernel_rfl) hR.ok zd8
      rw [if_pos (by rfl)]
      go_simp
      exact hK (_) _ (hI.next hR (by kernel_rfl) (Mod.refl _ _) (PB.quiet hI.1 (Mod.refl _ _) (HGs.out D 9 zw1 zw1 (by omega) (hI.1).g (Mod.refl _ _))) (⟨g_6, upd_same V 9 _, b6_0⟩))
     ·intro D V zw1 a hR hI K hK
      obtain ⟨hM1, hB1, hG1⟩ := hI.1
      obtain ⟨hGK, hG1⟩ := hG1
      have zd9 := hR.pred 9 (by kernel_rfl)
      have zF9 : ∃ (g_9 : Nat), V 9 = .pointer (some ⟨g_9, spn, none⟩) ∧ Blk zw1 g_9 9 (strsV sp3).toArray := hI.2 9 zd9 (by show (!D 10) = true; rw [hR.not]; rfl)
      obtain ⟨g_9, zf9, b9_0⟩ := zF9
      have ze32 := hR.frame.done (t := 32) (j := 9) (by kernel_rfl) hR.ok zd9
      have zx0 := sp3_cell b9_0 hs3n
      rw [if_pos (by rfl)]
      go_simp
      exact hK (.string ⟨(sprdW (spn : Int)).toArray⟩) _ (hI.next hR (by kernel_rfl) (Mod.refl _ _) (PB.quiet hI.1 (Mod.refl _ _) (HGs.out D 10 zw1 zw1 (by omega) (hI.1).g (Mod.refl _ _))) (upd_same V 10 _))
     ·intro D V zw1 a hR hI K hK
      obtain ⟨hM1, hB1, hG1⟩ := hI.1
      obtain ⟨hGK, hG1⟩ := hG1
      have zd2 := hR.pred 2 (by kernel_rfl)
      have zF2 : V 2 = .string ⟨f.toArray⟩ := hI.2 2 zd2 rfl
      have zf2 := zF2; clear zF2
      have zd5 := hR.pred 5 (by kernel_rfl)
      have zF5 : V 5 = .string ⟨mw.toArray⟩ := hI.2 5 zd5 rfl
      have zf5 := zF5; clear zF5
      have zd10 := hR.pred 10 (by kernel_rfl)
      have zF10 : V 10 = .string ⟨(sprdW (spn : Int)).toArray⟩ := hI.2 10 zd10 rfl
      have zf10 := zF10; clear zF10
      have ze25 := hR.frame.done (t := 25) (j := 2) (by kernel_rfl) hR.ok zd2
      have ze28 := hR.frame.done (t := 28) (j := 5) (by kernel_rfl) hR.ok zd5
      have ze33 := hR.frame.done (t := 33) (j := 10) (by kernel_rfl) hR.ok zd10
      rw [if_pos (by rfl)]
      go_simp
      exact hK (_) _ (hI.next hR (by kernel_rfl) ((Mod.refl _ _).alloc _) (PB.quiet hI.1 (pure_alloc _ _) (HGs.out D 11 _ _ (by omega) (hI.1).g ((Mod.refl _ _).alloc _))) (⟨_, upd_same V 11 _, (by omega), (Blk.new _ _ _)⟩))
     ·intro D V zw1 a hR hI K hK
      obtain ⟨hM1, hB1, hG1⟩ := hI.1
      obtain ⟨hGK, hG1⟩ := hG1
      have ze7 := hR.frame.other (t := 7) (by kernel_rfl) rfl
      rw [if_pos (by rfl)]
      go_simp
      exact hK (.pointer (some ⟨gA, 1, none⟩)) _ (hI.next hR (by kernel_rfl) (Mod.refl _ _) (PB.quiet hI.1 (Mod.refl _ _) (HGs.out D 12 zw1 zw1 (by omega) (hI.1).g (Mod.refl _ _))) (upd_same V 12 _))
     ·intro D V zw1 a hR hI K hK
      obtain ⟨hM1, hB1, hG1⟩ := hI.1
      obtain ⟨hGK, hG1⟩ := hG1
      have zd12 := hR.pred 12 (by kernel_rfl)
      have zF12 : V 12 = .pointer (some ⟨gA, 1, none⟩) := hI.2 12 zd12 rfl
      have zf12 := zF12; clear zF12
      have ze35 := hR.frame.done (t := 35) (j := 12) (by kernel_rfl) hR.ok zd12
      have zx0 := hG1.cell 1; simp at zx0
      rw [if_pos (by rfl)]
      go_simp
      exact hK (.slice (some ⟨gc, oc, none⟩) nc cb) _ (hI.next hR (by kernel_rfl) (Mod.refl _ _) (PB.quiet hI.1 (Mod.refl _ _) (HGs.out D 13 zw1 zw1 (by omega) (hI.1).g (Mod.refl _ _))) (upd_same V 13 _))
     ·intro D V zw1 a hR hI K hK
      obtain ⟨hM1, hB1, hG1⟩ := hI.1
      obtain ⟨hGK, hG1⟩ := hG1
      have zd11 := hR.pred 11 (by kernel_rfl)
      have zF11 : ∃ (g_11 : Nat), V 11 = .slice (some ⟨g_11, 0, none⟩) 4 4 ∧ w4.heap.size ≤ g_11 ∧ Blk zw1 g_11 9 #[(.string { data := #[97, 115, 107] }), .string ⟨f.toArray⟩, .string ⟨mw.toArray⟩, .string ⟨(sprdW (spn : Int)).toArray⟩] := hI.2 11 zd11 (by show (!D 14) = true; rw [hR.not]; rfl)
      obtain ⟨g_11, zf11, c11_0, b11_0⟩ := zF11
      have zd13 := hR.pred 13 (by kernel_rfl)
      have zF13 : V 13 = .slice (some ⟨gc, oc, none⟩) nc cb := hI.2 13 zd13 rfl
      have zf13 := zF13; clear zF13
      have ze34 := hR.frame.done (t := 34) (j := 11) (by kernel_rfl) hR.ok zd11
      have ze36 := hR.frame.done (t := 36) (j := 13) (by kernel_rfl) hR.ok zd13
      rw [if_pos (by rfl)]
      have hown := (own_ofBlk (n := 4) (size := 1) (bw := w4.heap.size) (xs := [.string ⟨#[97, 115, 107]⟩, .string ⟨f.toArray⟩, .string ⟨mw.toArray⟩, .string ⟨(sprdW (spn : Int)).toArray⟩]) b11_0 (by omega) (by rfl) (by omega))
      refine wp_append_lies _ (.tmp 34) (.tmp 36) 57 (by rfl) w4.heap.size 9 i0 _ 1 16 Tryz.underlying57 hi0 hz0 hz1 hz2 (by rfl) (by omega) (.slice (some ⟨g_11, 0, none⟩) 4 4) (4) ([.string ⟨#[97, 115, 107]⟩, .string ⟨f.toArray⟩, .string ⟨mw.toArray⟩, .string ⟨(sprdW (spn : Int)).toArray⟩]) ?_ hown ⟨gc, oc, none⟩ nc cb (strsV ch) ?_ (by rw [strsV_lenT, HNC.out, Nat.mul_one]) (sl_news (hGK hR.not) hk1) (strsV_one ch) (by omega) (by simp [maxLen]; omega) (by omega) (by omega) zw1.heap.size rfl ?_
      ·show a.tmps.getD 34 undef = _; simp [ze34, zf11]
      ·show a.tmps.getD 36 undef = _; simp [ze36, zf13]
      intro g5 cap5 zw2 hown5 hgrow hat hlt5
      have hT := mod_grown hgrow
      have hTb : ∀ j, (.slice (some ⟨g_11, 0, none⟩) 4 4 : Value).ownBlock = some j → w4.heap.size ≤ j := own_block hown
      refine hK _ _ (InvF.last (PB.writes hI.1 (fun j hj hl => by have := hTb j hj; omega) hT ⟨fun hs => absurd hs (by rw [upd_same]; decide), (hG1.mod hT (fun h => by have h2 := hG1; unfold Blk at h2; exact absurd (own_ty hown h h2) (by decide)))⟩) ⟨_, _, upd_same V 14 _, (by have h := Sl.of_own hown5; rw [← HMW.out] at h; exact h)⟩ ?_)
      intro k hk hDk hlv
      have hkl := hR.lt k hDk
      have hv := hI.2 k hDk (liveB_of hlv)
      match k, hk, hDk, hlv, hkl, hv with
      | 0, _, _, _, _, hv => exact hv
      | 1, _, _, _, _, hv => exact hv
      | 2, _, _, _, _, hv => exact hv
      | 3, _, _, _, _, hv => exact hv
      | 4, _, _, _, _, hv => exact hv
      | 5, _, _, _, _, hv => exact hv
      | 6, _, _, hlv, _, _ => exact absurd hlv (by show ¬ (!upd D 14 true 10) = true; rw [upd_ne _ _ (by omega), hR.closed 11 _ 10 rfl (by kernel_rfl) (hR.pred 11 (by kernel_rfl))]; decide)
      | 7, _, _, _, _, hv => exact hv
      | 8, _, _, _, _, hv => exact hv
      | 9, _, _, hlv, _, _ => exact absurd hlv (by show ¬ (!upd D 14 true 10) = true; rw [upd_ne _ _ (by omega), hR.closed 11 _ 10 rfl (by kernel_rfl) (hR.pred 11 (by kernel_rfl))]; decide)
      | 10, _, _, _, _, hv => exact hv
      | 11, _, _, hlv, _, _ => exact absurd hlv (by show ¬ (!upd D 14 true 14) = true; rw [upd_same]; decide)
      | 12, _, _, _, _, hv => exact hv
      | 13, _, _, _, _, hv => exact hv
      | 14, hk, _, _, _, _ => exact absurd rfl hk
      | 15, _, _, _, _, hv => exact hv
      | 16, _, _, _, _, hv => exact hv
      | 17, _, _, _, _, hv => exact hv
      | 18, _, _, _, _, hv => exact hv
      | k + 19, _, _, _, hkl, _ => exact absurd hkl (by simp)
     ·intro D V zw1 a hR hI K hK
      obtain ⟨hM1, hB1, hG1⟩ := hI.1
      obtain ⟨hGK, hG1⟩ := hG1
      have zd14 := hR.pred 14 (by kernel_rfl)
      have zF14 : ∃ (g_14 : Nat) (c_14 : Nat), V 14 = .slice (some ⟨g_14, 0, none⟩) (4 + nc) c_14 ∧ Sl zw1 9 1 (.slice (some ⟨g_14, 0, none⟩) (4 + nc) c_14) (strsV (askW ⟨f, some ⟨gc, oc, none⟩, cb, ch, mb, spn⟩)) := hI.2 14 zd14 (by show (!D 15) = true; rw [hR.not]; rfl)
      obtain ⟨g_14, c_14, zf14, b14_0⟩ := zF14
      have ze37 := hR.frame.done (t := 37) (j := 14) (by kernel_rfl) hR.ok zd14
      rw [if_pos (by rfl)]
      go_simp
      refine (HJN.out _ _ b14_0).mono ?_
      rintro e zw2 ⟨rfl, hm2⟩
      exact hK (.string ⟨jn.toArray⟩) _ (hI.next hR (by kernel_rfl) hm2 (PB.quiet hI.1 hm2 (HGs.out D 15 _ _ (by omega) (hI.1).g hm2)) (upd_same V 15 _))
     ·intro D V zw1 a hR hI K hK
      obtain ⟨hM1, hB1, hG1⟩ := hI.1
      obtain ⟨hGK, hG1⟩ := hG1
      have zd15 := hR.pred 15 (by kernel_rfl)
      have zF15 : V 15 = .string ⟨jn.toArray⟩ := hI.2 15 zd15 rfl
      have zf15 := zF15; clear zF15
      have ze38 := hR.frame.done (t := 38) (j := 15) (by kernel_rfl) hR.ok zd15
      rw [if_pos (by rfl)]
      go_simp
      rw [if_neg (by omega)]
      go_simp
      rw [HJ1.out]
      exact hK (.string ⟨jl.toArray⟩) _ (hI.next hR (by kernel_rfl) (Mod.refl _ _) (PB.quiet hI.1 (Mod.refl _ _) (HGs.out D 16 zw1 zw1 (by omega) (hI.1).g (Mod.refl _ _))) (upd_same V 16 _))
     ·intro D V zw1 a hR hI K hK
      obtain ⟨hM1, hB1, hG1⟩ := hI.1
      obtain ⟨hGK, hG1⟩ := hG1
      have zd0 := hR.pred 0 (by kernel_rfl)
      have zF0 : V 0 = .string ⟨sk.toArray⟩ := hI.2 0 zd0 rfl
      have zf0 := zF0; clear zF0
      have zd16 := hR.pred 16 (by kernel_rfl)
      have zF16 : V 16 = .string ⟨jl.toArray⟩ := hI.2 16 zd16 rfl
      have zf16 := zF16; clear zF16
      have ze23 := hR.frame.done (t := 23) (j := 0) (by kernel_rfl) hR.ok zd0
      have ze39 := hR.frame.done (t := 39) (j := 16) (by kernel_rfl) hR.ok zd16
      rw [if_pos (by rfl)]
      go_simp
      rw [if_neg (by omega)]
      go_simp
      rw [HJ2.out]
      exact hK (.string ⟨sn.toArray⟩) _ (hI.next hR (by kernel_rfl) (Mod.refl _ _) (PB.quiet hI.1 (Mod.refl _ _) (HGs.out D 17 zw1 zw1 (by omega) (hI.1).g (Mod.refl _ _))) (upd_same V 17 _))
     ·intro D V zw1 a hR hI K hK
      obtain ⟨hM1, hB1, hG1⟩ := hI.1
      obtain ⟨hGK, hG1⟩ := hG1
      have zd17 := hR.pred 17 (by kernel_rfl)
      have zF17 : V 17 = .string ⟨sn.toArray⟩ := hI.2 17 zd17 rfl
      have zf17 := zF17; clear zF17
      have ze40 := hR.frame.done (t := 40) (j := 17) (by kernel_rfl) hR.ok zd17
      rw [if_pos (by rfl)]
      go_simp
      exact hK (.string ⟨sn.toArray⟩) _ (hI.next hR (by kernel_rfl) (Mod.refl _ _) (PB.quiet hI.1 (Mod.refl _ _) (HGs.out D 18 zw1 zw1 (by omega) (hI.1).g (Mod.refl _ _))) (upd_same V 18 _))
    ·intro D V w5 hD hI
     obtain ⟨hM1, hB1, hG1⟩ := hI.1
     have hMx := hM1
     clear hM1
     have hBx := hB1
     clear hB1
     have hGx := hG1.2
     clear hG1
     have zF0 : V 0 = .string ⟨sk.toArray⟩ := hI.2 0 (hD 0 (by decide)) rfl
     have zf0 := zF0; clear zF0
     have zF1 : V 1 = .pointer (some ⟨gA, 0, none⟩) := hI.2 1 (hD 1 (by decide)) rfl
     have zf1 := zF1; clear zF1
     have zF2 : V 2 = .string ⟨f.toArray⟩ := hI.2 2 (hD 2 (by decide)) rfl
     have zf2 := zF2; clear zF2
     have zF3 : V 3 = .pointer (some ⟨gA, 2, none⟩) := hI.2 3 (hD 3 (by decide)) rfl
     have zf3 := zF3; clear zF3
     have zF4 : V 4 = .bool mb := hI.2 4 (hD 4 (by decide)) rfl
     have zf4 := zF4; clear zF4
     have zF5 : V 5 = .string ⟨mw.toArray⟩ := hI.2 5 (hD 5 (by decide)) rfl
     have zf5 := zF5; clear zF5
     have zF7 : V 7 = .pointer (some ⟨gA, 3, none⟩) := hI.2 7 (hD 7 (by decide)) rfl
     have zf7 := zF7; clear zF7
     have zF8 : V 8 = .int .i64 (spn : Int) := hI.2 8 (hD 8 (by decide)) rfl
     have zf8 := zF8; clear zF8
     have zF10 : V 10 = .string ⟨(sprdW (spn : Int)).toArray⟩ := hI.2 10 (hD 10 (by decide)) rfl
     have zf10 := zF10; clear zF10
     have zF12 : V 12 = .pointer (some ⟨gA, 1, none⟩) := hI.2 12 (hD 12 (by decide)) rfl
     have zf12 := zF12; clear zF12
     have zF13 : V 13 = .slice (some ⟨gc, oc, none⟩) nc cb := hI.2 13 (hD 13 (by decide)) rfl
     have zf13 := zF13; clear zF13
     have zF15 : V 15 = .string ⟨jn.toArray⟩ := hI.2 15 (hD 15 (by decide)) rfl
     have zf15 := zF15; clear zF15
     have zF16 : V 16 = .string ⟨jl.toArray⟩ := hI.2 16 (hD 16 (by decide)) rfl
     have zf16 := zF16; clear zF16
     have zF17 : V 17 = .string ⟨sn.toArray⟩ := hI.2 17 (hD 17 (by decide)) rfl
     have zf17 := zF17; clear zF17
     have zF18 : V 18 = .string ⟨sn.toArray⟩ := hI.2 18 (hD 18 (by decide)) rfl
     have zf18 := zF18; clear zF18
     clear hI hD HGs
     simp only [frAll, Act.put, List.setIfInBounds_toArray, List.set_cons_zero, List.set_cons_succ, Nat.zero_add, Nat.reduceAdd, zf0, zf1, zf2, zf3, zf4, zf5, zf7, zf8, zf10, zf12, zf13, zf15, zf16, zf17, zf18]
     clear zf0 zf1 zf2 zf3 zf4 zf5 zf7 zf8 zf10 zf12 zf13 zf15 zf16 zf17 zf18
     generalize V 6 = u6
     generalize V 9 = u9
     generalize V 11 = u11
     generalize V 14 = u14
     clear V D
     have HM5 := Lib.hid (HM4.out.trans hMx)
     clear hMx hBx hGx HB4 HS4 HA4 HA5 HM4 HM
     go_wp2_with fail
     go_roundg (al.length - (k + 1))
     case measure => omega
     case rel => exact ⟨k + 1, rfl, by omega, by rw [HSE.out], by simp, HM5.out⟩
   ·obtain rfl : k = al.length := by omega
    obtain ⟨w2, hw2⟩ : ∃ W, W = wr := ⟨wr, rfl⟩
    subst hw2
    have HM := Lib.hid hm
    have HB2 := Lib.hid (HG.out.modp hm)
    have HLR2 := Lib.hid (HLR.out.pure hm)
    have HP2 := Lib.hid (HP.out.trans hm)
    clear hm hk hlt HG HLA HLR HP HA HAK x0 x1
    rw [List.take_of_length_le (Nat.le_refl _)]
    obtain ⟨sa, hsa⟩ : ∃ sa, asksT al = sa := ⟨_, rfl⟩
    rw [hsa] at HLL ⊢
    have HSA := Lib.hid hsa
    clear hsa
    have hB2 := HB2.out
    have x0 := hB2.cell 0; have x1 := hB2.cell 1; simp at x0 x1
    clear hB2
    go_wp2_with fail
    go_loopg [5, 45] rs.length (fun gk s i wr => ∃ k : Nat, rs.length - k = gk ∧ k ≤ rs.length ∧ s = .string ⟨(sa ++ rulsT (rs.take k)).toArray⟩ ∧ i = .int .i64 (k : Int) ∧ Pure w2 wr)
    case atStart => exact ⟨0, by omega, by omega, by simp [rulsT], rfl, Mod.refl _ _⟩
    case round =>
     obtain ⟨k, rfl, hk, rfl, rfl, hm⟩ := hrel
     by_cases hlt : k < rs.length
     ·obtain ⟨g1, o1, rfl, q0, q1, q2, q3, q4⟩ := Ruls.cells (Sl.pure HLR2.out hm) hlt
      have hrk := HRK.out _ (List.getElem_mem hlt)
      have HSN := Lib.hid (rulsT_snoc hlt)
      have HM := Lib.hid hm
      have hskl := rulsT_take rs k
      have hskl2 := HLL.out
      rw [List.length_append] at hskl2
      have hskb : (sa ++ rulsT (rs.take k)).length ≤ 200000 := by rw [List.length_append]; omega
      clear hm hskl hskl2 HRK HLR2
      obtain ⟨sk, hsk⟩ : ∃ sk, sa ++ rulsT (rs.take k) = sk := ⟨_, rfl⟩
      obtain ⟨sn, hsn⟩ : ∃ sn, sa ++ rulsT (rs.take (k + 1)) = sn := ⟨_, rfl⟩
      have HSN2 : Hid (sn = sk ++ lnW (rulW rs[k])) := Lib.hid (by rw [← hsn, ← hsk, HSN.out, List.append_assoc])
      have HSE := Lib.hid hsn
      rw [hsk] at hskb ⊢
      clear hsk hsn HSN
      generalize rs[k] = y at *
      obtain ⟨kd, f, ifs, oth, thn⟩ := y
      obtain ⟨hk1, hk4⟩ := hrk
      simp only at q0 q1 q2 q3 q4 hk1
      obtain ⟨jn, hjn⟩ : ∃ jn, Lib.join (rulW ⟨kd, f, ifs, oth, thn⟩) [32] = jn := ⟨_, rfl⟩
      have HKL : Hid ((Lib.join (rulW ⟨kd, f, ifs, oth, thn⟩) [32]).length ≤ 60000) := Lib.hid (by unfold lnW at hk4; rw [List.length_append] at hk4; omega)
      have HRL : Hid ((rulW ⟨kd, f, ifs, oth, thn⟩).length ≤ 6) := Lib.hid (by unfold rulW; by_cases h : thn = [] <;> simp [h])
      have HJ1 : Hid ((⟨jn.toArray⟩ : ByteArray) ++ ⟨#[10]⟩ = ⟨(jn ++ [10]).toArray⟩) := Lib.hid (bytes_appT jn [10])
      have HJ2 : Hid ((⟨sk.toArray⟩ : ByteArray) ++ ⟨(jn ++ [10]).toArray⟩ = ⟨sn.toArray⟩) := Lib.hid (by rw [bytes_appT, HSN2.out, ← hjn]; rfl)
      obtain ⟨jl, hjl⟩ : ∃ jl, jn ++ [10] = jl := ⟨_, rfl⟩
      have HJLL : Hid (jl.length = jn.length + 1) := Lib.hid (by rw [← hjl]; simp)
      rw [hjl] at HJ1 HJ2
      have hjll := Nat.le_of_eq HJLL.out
      have hjnl : jn.length ≤ 60000 := by rw [← hjn]; exact HKL.out
      have HJN : Hid (∀ W v, Sl W 9 1 v (strsV (rulW ⟨kd, f, ifs, oth, thn⟩)) → Calls Tryz.prog 57 #[v, .string ⟨#[32]⟩] W (JnPost W jn)) := Lib.hid (fun W v h => by
       have := joinT_calls W v _ [32] h (by have := HRL.out; omega) (by have := HKL.out; omega)
       rwa [hjn] at this)
      clear hjl hjn hk4 HJLL HKL HSN2 HRL
      obtain ⟨kb, hkb⟩ : ∃ kb, (kd == 1) = kb := ⟨_, rfl⟩
      have HKB := Lib.hid hkb
      obtain ⟨mw, hmw⟩ : ∃ mw, (if kb then wNeeds else wBars) = mw := ⟨_, rfl⟩
      have HRW : Hid (rulW ⟨kd, f, ifs, oth, thn⟩ = [wRule, mw, f, ifs, oth] ++ (if thn = [] then [] else [thn])) := Lib.hid (by
       unfold rulW
       rw [← hmw, ← hkb]
       simp only [beq_iff_eq])
      have HCH : Hid (∀ W, Calls Tryz.prog 58 #[.bool kb, .string ⟨#[110, 101, 101, 100, 115]⟩, .string ⟨#[98, 97, 114, 115]⟩] W (JnPost W mw)) := Lib.hid (fun W => by have := chosen_calls W kb wNeeds wBars; rwa [hmw] at this)
      clear hkb hmw
      go_upto_region 13 with (fail)
      have hG1 := Blk.new wr 103 #[.int .i64 kd, .string ⟨f.toArray⟩, .string ⟨ifs.toArray⟩, .string ⟨oth.toArray⟩, .string ⟨thn.toArray⟩]
      have hpa := pure_alloc wr (.cells #[.int .i64 kd, .string ⟨f.toArray⟩, .string ⟨ifs.toArray⟩, .string ⟨oth.toArray⟩, .string ⟨thn.toArray⟩] 103)
      have HB4 := Lib.hid hG1
      have HM4 := Lib.hid (HM.out.trans hpa)
      clear hG1 hpa HM
      generalize (wr.alloc (.cells #[.int .i64 kd, .string ⟨f.toArray⟩, .string ⟨ifs.toArray⟩, .string ⟨oth.toArray⟩, .string ⟨thn.toArray⟩] 103)) = w4 at *
      generalize wr.heap.size = gA at *
      have HGs := Lib.hid (show ∀ (D : Nat → Bool) (zzi : Nat) (zq zq' : World), (fun _ zq => (fun Z => Blk Z gA 103 #[.int .i64 kd, .string ⟨f.toArray⟩, .string ⟨ifs.toArray⟩, .string ⟨oth.toArray⟩, .string ⟨thn.toArray⟩]) zq) D zq → Mod (fun _ => False) zq zq' → (fun _ zq => (fun Z => Blk Z gA 103 #[.int .i64 kd, .string ⟨f.toArray⟩, .string ⟨ifs.toArray⟩, .string ⟨oth.toArray⟩, .string ⟨thn.toArray⟩]) zq) (upd D zzi true) zq' from by intro D zzi zq zq' h hm; (exact h.modp hm))
      refine wp_region_inv (by kernel_rfl) (by kernel_rfl) (InvF (R := Mod (fun _ => False)) [.is (.pointer (some ⟨gA, 0, none⟩)),
        .is (.int .i64 kd),
        .is (.bool kb),
        .is (.string ⟨mw.toArray⟩),
        .is (.pointer (some ⟨gA, 1, none⟩)),
        .is (.string ⟨f.toArray⟩),
        .is (.pointer (some ⟨gA, 2, none⟩)),
        .is (.string ⟨ifs.toArray⟩),
        .is (.pointer (some ⟨gA, 3, none⟩)),
        .is (.string ⟨oth.toArray⟩),
        ⟨fun zv zw => ∃ (g_10 : Nat), zv = .slice (some ⟨g_10, 0, none⟩) 5 5 ∧ w4.heap.size ≤ g_10 ∧ Blk zw g_10 9 #[(.string { data := #[114, 117, 108, 101] }), .string ⟨mw.toArray⟩, .string ⟨f.toArray⟩, .string ⟨ifs.toArray⟩, .string ⟨oth.toArray⟩], (by rintro zv zw zx ⟨g_10, rfl, c0, q0⟩ hm; exact ⟨g_10, rfl, c0, (q0.modp hm)⟩), none, none⟩,
        ⟨fun zv zw => ∃ (g_11 : Nat), zv = .slice (some ⟨g_11, 0, none⟩) 5 5 ∧ w4.heap.size ≤ g_11 ∧ Blk zw g_11 9 #[(.string { data := #[114, 117, 108, 101] }), .string ⟨mw.toArray⟩, .string ⟨f.toArray⟩, .string ⟨ifs.toArray⟩, .string ⟨oth.toArray⟩], (by rintro zv zw zx ⟨g_11, rfl, c0, q0⟩ hm; exact ⟨g_11, rfl, c0, (q0.modp hm)⟩), none, none⟩]
        (PB w4 (fun _ => False) w4.heap.size (fun _ zq => (fun Z => Blk Z gA 103 #[.int .i64 kd, .string ⟨f.toArray⟩, .string ⟨ifs.toArray⟩, .string ⟨oth.toArray⟩, .string ⟨thn.toArray⟩]) zq))) (InvF.start (PB.start (Mod.refl _ _) (Nat.le_refl _) (HB4.out.drew))) ?_ ?_
      ·refine .cons ?_ (.cons ?_ (.cons ?_ (.cons ?_ (.cons ?_ (.cons ?_ (.cons ?_ (.cons ?_ (.cons ?_ (.cons ?_ (.cons ?_ (.cons ?_ .nil)))))))))))
       ·intro D V zw1 a hR hI K hK
        obtain ⟨hM1, hB1, hG1⟩ := hI.1
        have ze9 := hR.frame.other (t := 9) (by kernel_rfl) rfl
        rw [if_pos (by rfl)]
        go_simp
        exact hK (.pointer (some ⟨gA, 0, none⟩)) _ (hI.next hR (by kernel_rfl) (Mod.refl _ _) (PB.quiet hI.1 (Mod.refl _ _) (HGs.out D 0 zw1 zw1 (hI.1).g (Mod.refl _ _))) (upd_same V 0 _))
       ·intro D V zw1 a hR hI K hK
        obtain ⟨hM1, hB1, hG1⟩ := hI.1
        have zd0 := hR.pred 0 (by kernel_rfl)
        have zF0 : V 0 = .pointer (some ⟨gA, 0, none⟩) := hI.2 0 zd0 rfl
        have zf0 := zF0; clear zF0
        have ze49 := hR.frame.done (t := 49) (j := 0) (by kernel_rfl) hR.ok zd0
        have zx0 := hG1.cell 0; simp at zx0
        rw [if_pos (by rfl)]
        go_simp
        exact hK (.int .i64 kd) _ (hI.next hR (by kernel_rfl) (Mod.refl _ _) (PB.quiet hI.1 (Mod.refl _ _) (HGs.out D 1 zw1 zw1 (hI.1).g (Mod.refl _ _))) (upd_same V 1 _))
       ·intro D V zw1 a hR hI K hK
        obtain ⟨hM1, hB1, hG1⟩ := hI.1
        have zd1 := hR.pred 1 (by kernel_rfl)
        have zF1 : V 1 = .int .i64 kd := hI.2 1 zd1 rfl
        have zf1 := zF1; clear zF1
        have ze50 := hR.frame.done (t := 50) (j := 1) (by kernel_rfl) hR.ok zd1
        have zkb := HKB.out
        rw [if_pos (by rfl)]
        go_simp
        exact hK (.bool kb) _ (hI.next hR (by kernel_rfl) (Mod.refl _ _) (PB.quiet hI.1 (Mod.refl _ _) (HGs.out D 2 zw1 zw1 (hI.1).g (Mod.refl _ _))) (upd_same V 2 _))
       ·intro D V zw1 a hR hI K hK
        obtain ⟨hM1, hB1, hG1⟩ := hI.1
        have zd2 := hR.pred 2 (by kernel_rfl)
        have zF2 : V 2 = .bool kb := hI.2 2 zd2 rfl
        have zf2 := zF2; clear zF2
        have ze51 := hR.frame.done (t := 51) (j := 2) (by kernel_rfl) hR.ok zd2
        rw [if_pos (by rfl)]
        go_simp
        refine (HCH.out _).mono ?_
        rintro e zw2 ⟨rfl, hm2⟩
        exact hK (.string ⟨mw.toArray⟩) _ (hI.next hR (by kernel_rfl) hm2 (PB.quiet hI.1 hm2 (HGs.out D 3 _ _ (hI.1).g hm2)) (upd_same V 3 _))
       ·intro D V zw1 a hR hI K hK
        obtain ⟨hM1, hB1, hG1⟩ := hI.1
        have ze9 := hR.frame.other (t := 9) (by kernel_rfl) rfl
        rw [if_pos (by rfl)]
        go_simp
        exact hK (.pointer (some ⟨gA, 1, none⟩)) _ (hI.next hR (by kernel_rfl) (Mod.refl _ _) (PB.quiet hI.1 (Mod.refl _ _) (HGs.out D 4 zw1 zw1 (hI.1).g (Mod.refl _ _))) (upd_same V 4 _))
       ·intro D V zw1 a hR hI K hK
        obtain ⟨hM1, hB1, hG1⟩ := hI.1
        have zd4 := hR.pred 4 (by kernel_rfl)
        have zF4 : V 4 = .pointer (some ⟨gA, 1, none⟩) := hI.2 4 zd4 rfl
        have zf4 := zF4; clear zF4
        have ze53 := hR.frame.done (t := 53) (j := 4) (by kernel_rfl) hR.ok zd4
        have zx0 := hG1.cell 1; simp at zx0
        rw [if_pos (by rfl)]
        go_simp
        exact hK (.string ⟨f.toArray⟩) _ (hI.next hR (by kernel_rfl) (Mod.refl _ _) (PB.quiet hI.1 (Mod.refl _ _) (HGs.out D 5 zw1 zw1 (hI.1).g (Mod.refl _ _))) (upd_same V 5 _))
       ·intro D V zw1 a hR hI K hK
        obtain ⟨hM1, hB1, hG1⟩ := hI.1
        have ze9 := hR.frame.other (t := 9) (by kernel_rfl) rfl
        rw [if_pos (by rfl)]
        go_simp
        exact hK (.pointer (some ⟨gA, 2, none⟩)) _ (hI.next hR (by kernel_rfl) (Mod.refl _ _) (PB.quiet hI.1 (Mod.refl _ _) (HGs.out D 6 zw1 zw1 (hI.1).g (Mod.refl _ _))) (upd_same V 6 _))
       ·intro D V zw1 a hR hI K hK
        obtain ⟨hM1, hB1, hG1⟩ := hI.1
        have zd6 := hR.pred 6 (by kernel_rfl)
        have zF6 : V 6 = .pointer (some ⟨gA, 2, none⟩) := hI.2 6 zd6 rfl
        have zf6 := zF6; clear zF6
        have ze55 := hR.frame.done (t := 55) (j := 6) (by kernel_rfl) hR.ok zd6
        have zx0 := hG1.cell 2; simp at zx0
        rw [if_pos (by rfl)]
        go_simp
        exact hK (.string ⟨ifs.toArray⟩) _ (hI.next hR (by kernel_rfl) (Mod.refl _ _) (PB.quiet hI.1 (Mod.refl _ _) (HGs.out D 7 zw1 zw1 (hI.1).g (Mod.refl _ _))) (upd_same V 7 _))
       ·intro D V zw1 a hR hI K hK
        obtain ⟨hM1, hB1, hG1⟩ := hI.1
        have ze9 := hR.frame.other (t := 9) (by kernel_rfl) rfl
        rw [if_pos (by rfl)]
        go_simp
        exact hK (.pointer (some ⟨gA, 3, none⟩)) _ (hI.next hR (by kernel_rfl) (Mod.refl _ _) (PB.quiet hI.1 (Mod.refl _ _) (HGs.out D 8 zw1 zw1 (hI.1).g (Mod.refl _ _))) (upd_same V 8 _))
       ·intro D V zw1 a hR hI K hK
        obtain ⟨hM1, hB1, hG1⟩ := hI.1
        have zd8 := hR.pred 8 (by kernel_rfl)
        have zF8 : V 8 = .pointer (some ⟨gA, 3, none⟩) := hI.2 8 zd8 rfl
        have zf8 := zF8; clear zF8
        have ze57 := hR.frame.done (t := 57) (j := 8) (by kernel_rfl) hR.ok zd8
        have zx0 := hG1.cell 3; simp at zx0
        rw [if_pos (by rfl)]
        go_simp
        exact hK (.string ⟨oth.toArray⟩) _ (hI.next hR (by kernel_rfl) (Mod.refl _ _) (PB.quiet hI.1 (Mod.refl _ _) (HGs.out D 9 zw1 zw1 (hI.1).g (Mod.refl _ _))) (upd_same V 9 _))
       ·intro D V zw1 a hR hI K hK
        obtain ⟨hM1, hB1, hG1⟩ := hI.1
        have zd3 := hR.pred 3 (by kernel_rfl)
        have zF3 : V 3 = .string ⟨mw.toArray⟩ := hI.2 3 zd3 rfl
        have zf3 := zF3; clear zF3
        have zd5 := hR.pred 5 (by kernel_rfl)
        have zF5 : V 5 = .string ⟨f.toArray⟩ := hI.2 5 zd5 rfl
        have zf5 := zF5; clear zF5
        have zd7 := hR.pred 7 (by kernel_rfl)
        have zF7 : V 7 = .string ⟨ifs.toArray⟩ := hI.2 7 zd7 rfl
        have zf7 := zF7; clear zF7
        have zd9 := hR.pred 9 (by kernel_rfl)
        have zF9 : V 9 = .string ⟨oth.toArray⟩ := hI.2 9 zd9 rfl
        have zf9 := zF9; clear zF9
        have ze52 := hR.frame.done (t := 52) (j := 3) (by kernel_rfl) hR.ok zd3
        have ze54 := hR.frame.done (t := 54) (j := 5) (by kernel_rfl) hR.ok zd5
        have ze56 := hR.frame.done (t := 56) (j := 7) (by kernel_rfl) hR.ok zd7
        have ze58 := hR.frame.done (t := 58) (j := 9) (by kernel_rfl) hR.ok zd9
        rw [if_pos (by rfl)]
        go_simp
        exact hK (_) _ (hI.next hR (by kernel_rfl) ((Mod.refl _ _).alloc _) (PB.quiet hI.1 (pure_alloc _ _) (HGs.out D 10 _ _ (hI.1).g ((Mod.refl _ _).alloc _))) (⟨_, upd_same V 10 _, (by omega), (Blk.new _ _ _)⟩))
       ·intro D V zw1 a hR hI K hK
        obtain ⟨hM1, hB1, hG1⟩ := hI.1
        have zd10 := hR.pred 10 (by kernel_rfl)
        have zF10 : ∃ (g_10 : Nat), V 10 = .slice (some ⟨g_10, 0, none⟩) 5 5 ∧ w4.heap.size ≤ g_10 ∧ Blk zw1 g_10 9 #[(.string { data := #[114, 117, 108, 101] }), .string ⟨mw.toArray⟩, .string ⟨f.toArray⟩, .string ⟨ifs.toArray⟩, .string ⟨oth.toArray⟩] := hI.2 10 zd10 rfl
        obtain ⟨g_10, zf10, c10_0, b10_0⟩ := zF10
        have ze59 := hR.frame.done (t := 59) (j := 10) (by kernel_rfl) hR.ok zd10
        rw [if_pos (by rfl)]
        go_simp
        exact hK (.slice (some ⟨g_10, 0, none⟩) 5 5) _ (hI.next hR (by kernel_rfl) (Mod.refl _ _) (PB.quiet hI.1 (Mod.refl _ _) (HGs.out D 11 zw1 zw1 (hI.1).g (Mod.refl _ _))) (⟨g_10, upd_same V 11 _, (by first | assumption | omega), b10_0⟩))
      ·intro D V w5 hD hI
       obtain ⟨hM1, hB1, hG1⟩ := hI.1
       have hMx := hM1
       clear hM1
       have hBx := hB1
       clear hB1
       have hGx := hG1
       clear hG1
       have zF0 : V 0 = .pointer (some ⟨gA, 0, none⟩) := hI.2 0 (hD 0 (by decide)) rfl
       have zf0 := zF0; clear zF0
       have zF1 : V 1 = .int .i64 kd := hI.2 1 (hD 1 (by decide)) rfl
       have zf1 := zF1; clear zF1
       have zF2 : V 2 = .bool kb := hI.2 2 (hD 2 (by decide)) rfl
       have zf2 := zF2; clear zF2
       have zF3 : V 3 = .string ⟨mw.toArray⟩ := hI.2 3 (hD 3 (by decide)) rfl
       have zf3 := zF3; clear zF3
       have zF4 : V 4 = .pointer (some ⟨gA, 1, none⟩) := hI.2 4 (hD 4 (by decide)) rfl
       have zf4 := zF4; clear zF4
       have zF5 : V 5 = .string ⟨f.toArray⟩ := hI.2 5 (hD 5 (by decide)) rfl
       have zf5 := zF5; clear zF5
       have zF6 : V 6 = .pointer (some ⟨gA, 2, none⟩) := hI.2 6 (hD 6 (by decide)) rfl
       have zf6 := zF6; clear zF6
       have zF7 : V 7 = .string ⟨ifs.toArray⟩ := hI.2 7 (hD 7 (by decide)) rfl
       have zf7 := zF7; clear zF7
       have zF8 : V 8 = .pointer (some ⟨gA, 3, none⟩) := hI.2 8 (hD 8 (by decide)) rfl
       have zf8 := zF8; clear zF8
       have zF9 : V 9 = .string ⟨oth.toArray⟩ := hI.2 9 (hD 9 (by decide)) rfl
       have zf9 := zF9; clear zF9
       have zF10 : ∃ (g_10 : Nat), V 10 = .slice (some ⟨g_10, 0, none⟩) 5 5 ∧ w4.heap.size ≤ g_10 ∧ Blk w5 g_10 9 #[(.string { data := #[114, 117, 108, 101] }), .string ⟨mw.toArray⟩, .string ⟨f.toArray⟩, .string ⟨ifs.toArray⟩, .string ⟨oth.toArray⟩] := hI.2 10 (hD 10 (by decide)) rfl
       obtain ⟨g_10, zf10, c10_0, b10_0⟩ := zF10
       have zF11 : ∃ (g_11 : Nat), V 11 = .slice (some ⟨g_11, 0, none⟩) 5 5 ∧ w4.heap.size ≤ g_11 ∧ Blk w5 g_11 9 #[(.string { data := #[114, 117, 108, 101] }), .string ⟨mw.toArray⟩, .string ⟨f.toArray⟩, .string ⟨ifs.toArray⟩, .string ⟨oth.toArray⟩] := hI.2 11 (hD 11 (by decide)) rfl
       obtain ⟨g_11, zf11, c11_0, b11_0⟩ := zF11
       clear hI hD HGs
       simp only [frAll, Act.put, List.setIfInBounds_toArray, List.set_cons_zero, List.set_cons_succ, Nat.zero_add, Nat.reduceAdd, zf0, zf1, zf2, zf3, zf4, zf5, zf6, zf7, zf8, zf9, zf10, zf11]
       clear zf0 zf1 zf2 zf3 zf4 zf5 zf6 zf7 zf8 zf9 zf10 zf11
       clear V D
       have HX := Lib.hid b11_0
       have hxg := c11_0
       have HR5 := Lib.hid hGx
       have HM5 := Lib.hid hMx
       have hgx := b11_0.lt
       clear b10_0 b11_0 c10_0 c11_0 hMx hBx hGx HB4 HCH HKB
       generalize g_11 = gx at *
       have hR5 := HR5.out
       have r4 := hR5.cell 4
       simp at r4
       clear hR5
       go_upto_if 62 with (fail)
       go_cut [10] (fun p wy => ∃ (m cc : Nat) (gg : Nat), p = .slice (some ⟨gg, 0, none⟩) m cc ∧ Sl wy 9 1 (.slice (some ⟨gg, 0, none⟩) m cc) (strsV (rulW ⟨kd, f, ifs, oth, thn⟩)) ∧ Pure w4 wy)
       case first =>
        have hownS : w5.ownsRow w4.heap.size 9 1 (.slice (some ⟨gx, 0, none⟩) 5 5) 5 [.string ⟨#[114, 117, 108, 101]⟩, .string ⟨mw.toArray⟩, .string ⟨f.toArray⟩, .string ⟨ifs.toArray⟩, .string ⟨oth.toArray⟩] := own_ofBlk (n := 5) (size := 1) (bw := w4.heap.size) HX.out (by omega) (by rfl) (by omega)
        by_cases ht : thn = []
        ·subst ht
         clear HJN
         go_wp2_with fail
         go_meet
         exact ⟨5, 5, gx, rfl, by rw [show rulW ⟨kd, f, ifs, oth, []⟩ = [wRule, mw, f, ifs, oth] by rw [HRW.out]; rfl]; exact Sl.of_own hownS, HM5.out⟩
        ·have t1 : (thn == []) = false := by simpa using ht
         have t2 : (thn != []) = true := by simpa using ht
         have t3 : (!thn.isEmpty) = true := by cases thn with | nil => exact absurd rfl ht | cons a b => rfl
         have HT := Lib.hid ht
         clear ht HJN
         obtain ⟨i0, hi0, hz0, hz1, hz2⟩ := info_parts info_strT
         have hmS := HM5.out
         have r4b := (HR5.out.alloc (.cells #[.string ⟨thn.toArray⟩] 9)).cell 4
         simp at r4b
         obtain ⟨w6, hw6⟩ : ∃ W, W = w5 := ⟨w5, rfl⟩
         subst hw6
         go_wp2_with (at_builtin; refine wpList_append_lies _ rfl _ _ _ rfl w4.heap.size 9 i0 _ 1 16 Tryz.underlying57 hi0 hz0 hz1 hz2 rfl (by omega) (.slice (some ⟨gx, 0, none⟩) 5 5) 5 ([.string ⟨#[114, 117, 108, 101]⟩, .string ⟨mw.toArray⟩, .string ⟨f.toArray⟩, .string ⟨ifs.toArray⟩, .string ⟨oth.toArray⟩]) rfl (hownS.alloc _) ⟨w6.heap.size, 0, none⟩ 1 1 [.string ⟨thn.toArray⟩] rfl rfl (World.news_of_block (cs := #[.string ⟨thn.toArray⟩]) (t := 9) (fr := (0, 0)) (heap_alloc_new w6 _)) (by simp [Value.oneCell']) (by omega) (by decide) (by omega) (by have := hmS.size; simp; omega) (w6.heap.size + 1) (by simp) ?_; intro g5 cap5 w5 hown5 hgrow hat hlt5)
         all_goals first | (rename_i hz; rw [t3] at hz; exact absurd hz (by decide)) | (go_meet; have hob := own_block hownS; exact ⟨6, _, g5, rfl, by rw [HRW.out, if_neg HT.out]; exact Sl.of_own hown5, (HM5.out.trans (pure_alloc _ _)).trans' (mod_grown hgrow) (fun i hi hlt => by have := hob i hi; omega)⟩)
       case rest =>
        obtain ⟨m, cc, gg, rfl, hs, hm⟩ := hcut
        have HJX := Lib.hid (HJN.out wc _ hs)
        have HM6 := Lib.hid (HM4.out.trans hm)
        clear hs hm HJN HX HR5 HM5 HM4 r4
        go_wp2_with fail
        refine HJX.out.mono ?_
        rintro e w7 ⟨rfl, hm⟩
        have HM7 := Lib.hid (HM6.out.trans hm)
        clear hm HJX HM6
        have hn1 : ¬ 9223372036854775807 < jn.length + 1 := by omega
        have hn2 : ¬ 9223372036854775807 < sk.length + jl.length := by omega
        go_wp2_with first | (rw [HJ1.out]) | (rw [HJ2.out])
        go_roundg (rs.length - (k + 1))
        case measure => omega
        case rel => exact ⟨k + 1, rfl, by omega, by rw [HSE.out], by simp, HM7.out⟩
     ·obtain rfl : k = rs.length := by omega
      have HM2 := Lib.hid (HP2.out.trans hm)
      clear hm hk hlt HRK HLR2 HB2 HP2 x0 x1
      rw [List.take_of_length_le (Nat.le_refl _)]
      have HT : Hid (layT ⟨al, rs⟩ = sa ++ rulsT rs) := Lib.hid (by rw [← HSA.out]; rfl)
      have hll := HLL.out
      generalize sa ++ rulsT rs = tx at *
      have hgt : ¬ (200000 : Int) < (tx.length : Int) := by omega
      go_wp2_with fail
      try simp only [Exit.inBlock, Exit.then]
      refine bodyPost_ret (v := .tuple #[.string ⟨tx.toArray⟩, .int .i64 0]) (by simp [results, Tryz.results8, go_sem]) rfl ?_
      exact ⟨HM2.out, .inr ⟨HQ.out, by rw [HT.out]⟩⟩
 ·have h0' : (q != 0) = true := by simpa using h0
  clear HOK HL HA HG
  go_wp2_with fail
  try simp only [Exit.inBlock, Exit.then]
  refine bodyPost_ret (v := .tuple #[.string ⟨#[]⟩, .int .i64 q]) (by simp [results, Tryz.results8, go_sem]) rfl ?_
  exact ⟨HP.out, .inl ⟨by rw [HQ.out]; exact h0, by rw [HQ.out]⟩⟩

end Go.Proofs.YtaidkmnbjbnciaaGreatDoor
