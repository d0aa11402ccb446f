/- Texts of the proof of LayoutTexts, put together: TxtB, RfB, SrtQ, SamL, Nea, LawLayoutTexts. -/
import Derived.Test.YtaidkmnbjbnciaaGreatDoorLayoutTextsZ7
import Derived.Test.YtaidkmnbjbnciaaGreatDoorLayoutTextsZ12
import Derived.Test.YtaidkmnbjbnciaaGreatDoorLayoutTextsZ14
import Derived.Test.YtaidkmnbjbnciaaGreatDoorLayoutTextsZ22
import Derived.Test.YtaidkmnbjbnciaaGreatDoorLayoutTextsZ27
import Derived.Test.YtaidkmnbjbnciaaGreatDoorLayoutTextsZ29
import Derived.Test.YtaidkmnbjbnciaaGreatDoorLayoutTextsZ30
import Derived.Test.YtaidkmnbjbnciaaGreatDoorLayoutTextsZ31
import Derived.Test.YtaidkmnbjbnciaaGreatDoorLayoutTextsZ35
import Derived.Test.YtaidkmnbjbnciaaGreatDoorLayoutTextsZ38
import Derived.Test.YtaidkmnbjbnciaaGreatDoorLayoutTextsZ39
import Derived.Test.YtaidkmnbjbnciaaGreatDoorLayoutTextsZ40
import Derived.Great.Walk
import Derived.Shelf.SlSortCmp.WholeK
import Derived.Sort.OwnSorted
import Derived.Shelf.SlicesQ.Equal
import Derived.Laws.StructEq
/- LayoutLines of the reference. -/
namespace Go.Proofs.YtaidkmnbjbnciaaGreatDoor
set_option linter.unusedVariables false
set_option linter.unusedSimpArgs false
open Go.RowKit

theorem flagT_calls (w : World) (b : Bool) (k : Nat) (h : (if b then 1 else 0) = k) : Calls Tryz.prog 65 #[.bool b] w (IntPost w (k : Int)) := by
 subst h
 cases b
 ·go_enter Tryz.func65, Tryz.ntmps65
  go_wp2_with fail
  go_ret
  exact IntPost.of rfl (Mod.refl _ _)
 ·go_enter Tryz.func65, Tryz.ntmps65
  go_wp2_with fail
  go_ret
  exact IntPost.of rfl (Mod.refl _ _)
theorem spwQ_calls (w : World) : Calls Tryz.prog 66 #[] w (fun e w' => ∃ g, e = .returned (.slice (some ⟨g, 0, none⟩) 3 3) ∧ Blk w' g 9 (strsV sp3).toArray ∧ Pure w w') := by
 go_enter Tryz.func66, Tryz.ntmps66
 go_wp2_with fail
 go_ret
 exact ⟨_, rfl, Blk.new _ _ _, pure_alloc _ _⟩
theorem om_cell {W : World} {g : Nat} {b : Bool} {k : Nat} {mw : Str} (h : Blk W g 9 #[.string ⟨#[111, 110, 101]⟩, .string ⟨#[109, 97, 110, 121]⟩]) (hk : (if b then 1 else 0) = k) (hm : (if b then wMany else wOne) = mw) : W.cell? ⟨g, k, none⟩ = some (.string ⟨mw.toArray⟩) := by
 subst hk hm
 cases b
 ·exact h.cell 0
 ·exact h.cell 1
theorem nb_cell {W : World} {g k : Nat} {mw : Str} (h : Blk W g 9 #[.string ⟨#[]⟩, .string ⟨#[110, 101, 101, 100, 115]⟩, .string ⟨#[98, 97, 114, 115]⟩]) (hk : k = 1 ∨ k = 2) (hm : (if (k : Int) = 1 then wNeeds else wBars) = mw) : W.cell? ⟨g, k, none⟩ = some (.string ⟨mw.toArray⟩) := by
 subst hm
 rcases hk with rfl | rfl
 ·exact h.cell 1
 ·exact h.cell 2
def LlPost (w : World) (L : LayR) (e : Ending) (w' : World) : Prop := e = .returned (.string ⟨(layT L).toArray⟩) ∧ Pure w w'

set_option maxRecDepth 100000 in
set_option maxHeartbeats 16000000 in
theorem layoutLines_calls (w : World) (A : Option Addr) (n c : Nat) (A2 : Option Addr) (n2 c2 : Nat) (L : LayR) (hL : LayV w L (.agg #[.slice A n c, .slice A2 n2 c2])) (hlo : LayOk L) (hll : (layT L).length ≤ 200000) :
  Calls Tryz.prog 10 #[.agg #[.slice A n c, .slice A2 n2 c2]] w (LlPost w L) := by
 have hp := pure_alloc w (.cells #[.slice A n c, .slice A2 n2 c2] 29)
 have HG := Lib.hid (Blk.new w 29 #[.slice A n c, .slice A2 n2 c2])
 have HP := Lib.hid hp
 have HL := Lib.hid (hL.pure hp)
 clear hp hL
 obtain ⟨A', n', c', A2', n2', c2', e, hla, hlr⟩ := HL.out
 cases e
 obtain ⟨al, rs⟩ := L
 simp only at hla hlr
 have hla1 := hla.len
 have hlr1 := hlr.len
 have hlac := hla.cap
 subst hla1 hlr1
 have HAK : Hid (∀ a ∈ al, askOk a) := Lib.hid hlo.1
 have HRK : Hid (∀ r ∈ rs, rulOk r) := Lib.hid hlo.2.1
 have hrsb : rs.length ≤ 100 := hlo.2.2.2
 have HLA := Lib.hid hla
 have HLR := Lib.hid hlr
 have HLL : Hid ((asksT al ++ rulsT rs).length ≤ 200000) := Lib.hid hll
 clear hlo hll hla hlr HL
 have hG := HG.out
 have x0 := hG.cell 0; have x1 := hG.cell 1; simp at x0 x1
 clear hG
 go_enter Tryz.func10, Tryz.ntmps10
 go_wp2_with fail
 generalize (w.alloc (.cells #[.slice A al.length c, .slice A2 rs.length c2] 29)) = w1 at *
 generalize w.heap.size = gb at *
 go_loopg [3, 13] al.length (fun gk s i wr => ∃ k : Nat, al.length - k = gk ∧ k ≤ al.length ∧ s = .string ⟨(asksT (al.take k)).toArray⟩ ∧ i = .int .i64 (k : Int) ∧ Pure w1 wr)
 case atStart => exact ⟨0, by omega, by omega, rfl, rfl, Mod.refl _ _⟩
 case round =>
  obtain ⟨k, rfl, hk, rfl, rfl, hm⟩ := hrel
  by_cases hlt : k < al.length
  ·obtain ⟨g1, o1, rfl, q0, q1, q2, q3⟩ := Asks.cells (HLA.out.pure hm) hlt
   have HS := Lib.hid ((HLA.out.2 al[k] (List.getElem_mem hlt)).pure hm)
   have hak := HAK.out _ (List.getElem_mem hlt)
   have HSN := Lib.hid (asksT_snoc hlt)
   have HM := Lib.hid hm
   clear hm HRK HLR
   have hskl := asksT_take al k
   have hskl2 := HLL.out
   rw [List.length_append] at hskl2
   have hskb : (asksT (al.take k)).length ≤ 200000 := by omega
   clear hskl hskl2
   obtain ⟨sn, hsn⟩ : ∃ sn, asksT (al.take (k + 1)) = sn := ⟨_, rfl⟩
   rw [hsn] at HSN
   have HSE := Lib.hid hsn
   clear hsn
   generalize asksT (al.take k) = sk at *
   generalize al[k] = x at *
   obtain ⟨f, B, cb, ch, mb, sp⟩ := x
   obtain ⟨hk1, hk2, hk3, hk4⟩ := hak
   simp only at q0 q1 q2 q3 hk1 hk2 hk3 HS
   obtain ⟨spn, rfl⟩ : ∃ m : Nat, sp = (m : Int) := ⟨sp.toNat, by omega⟩
   obtain ⟨gc, oc, rfl⟩ := HS.out.someA hk1
   obtain ⟨jn, hjn⟩ : ∃ jn, Lib.join (askW ⟨f, some ⟨gc, oc, none⟩, cb, ch, mb, spn⟩) [32] = jn := ⟨_, rfl⟩
   have HKL : Hid ((Lib.join (askW ⟨f, some ⟨gc, oc, none⟩, cb, ch, mb, spn⟩) [32]).length ≤ 60000) := Lib.hid (by unfold lnW at hk4; rw [List.length_append] at hk4; omega)
   have HJ1 : Hid ((⟨jn.toArray⟩ : ByteArray) ++ ⟨#[10]⟩ = ⟨(jn ++ [10]).toArray⟩) := Lib.hid (bytes_appT jn [10])
   have HJ2 : Hid ((⟨sk.toArray⟩ : ByteArray) ++ ⟨(jn ++ [10]).toArray⟩ = ⟨sn.toArray⟩) := Lib.hid (by rw [bytes_appT, HSN.out, ← hjn]; rfl)
   obtain ⟨jl, hjl⟩ : ∃ jl, jn ++ [10] = jl := ⟨_, rfl⟩
   have HJLL : Hid (jl.length = jn.length + 1) := Lib.hid (by rw [← hjl]; simp)
   rw [hjl] at HJ1 HJ2
   clear hjl
   have HKC : Hid (ch.length ≤ 60000) := Lib.hid (by
    have h1 := join_many (askW ⟨f, some ⟨gc, oc, none⟩, cb, ch, mb, spn⟩)
    have h2 := HKL.out
    have h3 : (askW ⟨f, some ⟨gc, oc, none⟩, cb, ch, mb, spn⟩).length = 4 + ch.length := by simp [askW]; omega
    omega)
   have hjnl : jn.length ≤ 60000 := by rw [← hjn]; exact HKL.out
   clear hk4 HSN
   have HJN : Hid (∀ W v, Sl W 9 1 v (strsV (askW ⟨f, some ⟨gc, oc, none⟩, cb, ch, mb, spn⟩)) → Calls Tryz.prog 57 #[v, .string ⟨#[32]⟩] W (JnPost W jn)) := Lib.hid (fun W v h => by
    have := joinT_calls W v _ [32] h (by have := HKC.out; simp [askW]; omega) (by have := HKL.out; omega)
    rwa [hjn] at this)
   have hs3 : (spn : Int) < 3 := by omega
   have hs3n : spn < 3 := by omega
   obtain ⟨nc, hnc⟩ : ∃ m, ch.length = m := ⟨_, rfl⟩
   have HNC := Lib.hid hnc
   rw [hnc] at hk1 HS q1
   have hncb : nc ≤ 60000 := by have := HKC.out; omega
   have hjll := Nat.le_of_eq HJLL.out
   clear hjn hnc HJLL
   obtain ⟨mw, hmw⟩ : ∃ mw, (if mb then wMany else wOne) = mw := ⟨_, rfl⟩
   have HMW := Lib.hid hmw
   obtain ⟨fl, hfl⟩ : ∃ fl : Nat, (if mb then 1 else 0) = fl := ⟨_, rfl⟩
   have HFL := Lib.hid hfl
   have hfl3 : fl < 2 := by rw [← hfl]; split <;> omega
   have hfl2 : (fl : Int) < 2 := by omega
   have HFC := Lib.hid (fun W => flagT_calls W mb fl hfl)
   clear hmw hfl
   go_upto_region 5 with (fail)
   have hG1 := Blk.new wr 99 #[.string ⟨f.toArray⟩, .slice (some ⟨gc, oc, none⟩) nc cb, .bool mb, .int .i64 (spn : Int)]
   have hpa := pure_alloc wr (.cells #[.string ⟨f.toArray⟩, .slice (some ⟨gc, oc, none⟩) nc cb, .bool mb, .int .i64 (spn : Int)] 99)
   have HB4 := Lib.hid hG1
   have HS4 := Lib.hid (HS.out.pure hpa)
   have HM4 := Lib.hid (HM.out.trans hpa)
   clear hG1 hpa HS
   generalize (wr.alloc (.cells #[.string ⟨f.toArray⟩, .slice (some ⟨gc, oc, none⟩) nc cb, .bool mb, .int .i64 (spn : Int)] 99)) = w4 at *
   generalize wr.heap.size = gA at *
   have HGs := Lib.hid (show ∀ (D : Nat → Bool) (zzi : Nat) (zq zq' : World), (fun _ zq => (fun Z => Blk Z gA 99 #[.string ⟨f.toArray⟩, .slice (some ⟨gc, oc, none⟩) nc cb, .bool mb, .int .i64 (spn : Int)]) zq) D zq → Mod (fun _ => False) zq zq' → (fun _ zq => (fun Z => Blk Z gA 99 #[.string ⟨f.toArray⟩, .slice (some ⟨gc, oc, none⟩) nc cb, .bool mb, .int .i64 (spn : Int)]) zq) (upd D zzi true) zq' from by intro D zzi zq zq' h hm; (exact h.modp hm))
   refine wp_region_inv (by kernel_rfl) (by kernel_rfl) (InvF (R := Mod (fun _ => False)) [.is (.pointer (some ⟨gA, 0, none⟩)),
     .is (.string ⟨f.toArray⟩),
     ⟨fun zv zw => ∃ (g_2 : Nat), zv = .slice (some ⟨g_2, 0, none⟩) 2 2 ∧ w4.heap.size ≤ g_2 ∧ Blk zw g_2 9 #[(.string { data := #[111, 110, 101] }), (.string { data := #[109, 97, 110, 121] })], (by rintro zv zw zx ⟨g_2, rfl, c0, q0⟩ hm; exact ⟨g_2, rfl, c0, (q0.modp hm)⟩), none, some 6⟩,
     .is (.pointer (some ⟨gA, 2, none⟩)),
     .is (.bool mb),
     .is (.int .i64 (fl : Int)),
     ⟨fun zv zw => ∃ (g_6 : Nat), zv = .pointer (some ⟨g_6, fl, none⟩) ∧ Blk zw g_6 9 #[.string ⟨#[111, 110, 101]⟩, .string ⟨#[109, 97, 110, 121]⟩], (by rintro zv zw zx ⟨g_6, rfl, q0⟩ hm; exact ⟨g_6, rfl, (q0.modp hm)⟩), none, some 7⟩,
     .is (.string ⟨mw.toArray⟩),
     ⟨fun zv zw => ∃ (g_8 : Nat), zv = .slice (some ⟨g_8, 0, none⟩) 3 3 ∧ Blk zw g_8 9 (strsV sp3).toArray, (by rintro zv zw zx ⟨g_8, rfl, q0⟩ hm; exact ⟨g_8, rfl, (q0.modp hm)⟩), none, some 12⟩,
     .is (.pointer (some ⟨gA, 3, none⟩)),
     .is (.int .i64 (spn : Int)),
     ⟨fun zv zw => ∃ (g_11 : Nat), zv = .pointer (some ⟨g_11, spn, none⟩) ∧ Blk zw g_11 9 (strsV sp3).toArray, (by rintro zv zw zx ⟨g_11, rfl, q0⟩ hm; exact ⟨g_11, rfl, (q0.modp hm)⟩), none, some 12⟩,
     .is (.string ⟨(sprdW (spn : Int)).toArray⟩),
     ⟨fun zv zw => ∃ (g_13 : Nat), zv = .slice (some ⟨g_13, 0, none⟩) 4 4 ∧ w4.heap.size ≤ g_13 ∧ Blk zw g_13 9 #[(.string { data := #[97, 115, 107] }), .string ⟨f.toArray⟩, .string ⟨mw.toArray⟩, .string ⟨(sprdW (spn : Int)).toArray⟩], (by rintro zv zw zx ⟨g_13, rfl, c0, q0⟩ hm; exact ⟨g_13, rfl, c0, (q0.modp hm)⟩), none, none⟩,
     ⟨fun zv zw => ∃ (g_14 : Nat), zv = .slice (some ⟨g_14, 0, none⟩) 4 4 ∧ w4.heap.size ≤ g_14 ∧ Blk zw g_14 9 #[(.string { data := #[97, 115, 107] }), .string ⟨f.toArray⟩, .string ⟨mw.toArray⟩, .string ⟨(sprdW (spn : Int)).toArray⟩], (by rintro zv zw zx ⟨g_14, rfl, c0, q0⟩ hm; exact ⟨g_14, rfl, c0, (q0.modp hm)⟩), none, none⟩]
     (PB w4 (fun _ => False) w4.heap.size (fun _ zq => (fun Z => Blk Z gA 99 #[.string ⟨f.toArray⟩, .slice (some ⟨gc, oc, none⟩) nc cb, .bool mb, .int .i64 (spn : Int)]) zq))) (InvF.start (PB.start (Mod.refl _ _) (Nat.le_refl _) (HB4.out.drew))) ?_ ?_
   ·refine .cons ?_ (.cons ?_ (.cons ?_ (.cons ?_ (.cons ?_ (.cons ?_ (.cons ?_ (.cons ?_ (.cons ?_ (.cons ?_ (.cons ?_ (.cons ?_ (.cons ?_ (.cons ?_ (.cons ?_ .nil))))))))))))))
    ·intro D V zw1 a hR hI K hK
     obtain ⟨hM1, hB1, hG1⟩ := hI.1
     have ze5 := hR.frame.other (t := 5) (by kernel_rfl) rfl
     rw [if_pos (by rfl)]
     go_simp
     exact hK (.pointer (some ⟨gA, 0, none⟩)) _ (hI.next hR (by kernel_rfl) (Mod.refl _ _) (PB.quiet hI.1 (Mod.refl _ _) (HGs.out D 0 zw1 zw1 (hI.1).g (Mod.refl _ _))) (upd_same V 0 _))
    ·intro D V zw1 a hR hI K hK
     obtain ⟨hM1, hB1, hG1⟩ := hI.1
     have zd0 := hR.pred 0 (by kernel_rfl)
     have zF0 : V 0 = .pointer (some ⟨gA, 0, none⟩) := hI.2 0 zd0 rfl
     have zf0 := zF0; clear zF0
     have ze17 := hR.frame.done (t := 17) (j := 0) (by kernel_rfl) hR.ok zd0
     have zx0 := hG1.cell 0; simp at zx0
     rw [if_pos (by rfl)]
     go_simp
     exact hK (.string ⟨f.toArray⟩) _ (hI.next hR (by kernel_rfl) (Mod.refl _ _) (PB.quiet hI.1 (Mod.refl _ _) (HGs.out D 1 zw1 zw1 (hI.1).g (Mod.refl _ _))) (upd_same V 1 _))
    ·intro D V zw1 a hR hI K hK
     obtain ⟨hM1, hB1, hG1⟩ := hI.1
     rw [if_pos (by rfl)]
     go_simp
     exact hK (_) _ (hI.next hR (by kernel_rfl) ((Mod.refl _ _).alloc _) (PB.quiet hI.1 (pure_alloc _ _) (HGs.out D 2 _ _ (hI.1).g ((Mod.refl _ _).alloc _))) (⟨_, upd_same V 2 _, (by omega), (Blk.new _ _ _)⟩))
    ·intro D V zw1 a hR hI K hK
     obtain ⟨hM1, hB1, hG1⟩ := hI.1
     have ze5 := hR.frame.other (t := 5) (by kernel_rfl) rfl
     rw [if_pos (by rfl)]
     go_simp
     exact hK (.pointer (some ⟨gA, 2, none⟩)) _ (hI.next hR (by kernel_rfl) (Mod.refl _ _) (PB.quiet hI.1 (Mod.refl _ _) (HGs.out D 3 zw1 zw1 (hI.1).g (Mod.refl _ _))) (upd_same V 3 _))
    ·intro D V zw1 a hR hI K hK
     obtain ⟨hM1, hB1, hG1⟩ := hI.1
     have zd3 := hR.pred 3 (by kernel_rfl)
     have zF3 : V 3 = .pointer (some ⟨gA, 2, none⟩) := hI.2 3 zd3 rfl
     have zf3 := zF3; clear zF3
     have ze20 := hR.frame.done (t := 20) (j := 3) (by kernel_rfl) hR.ok zd3
     have zx0 := hG1.cell 2; simp at zx0
     rw [if_pos (by rfl)]
     go_simp
     exact hK (.bool mb) _ (hI.next hR (by kernel_rfl) (Mod.refl _ _) (PB.quiet hI.1 (Mod.refl _ _) (HGs.out D 4 zw1 zw1 (hI.1).g (Mod.refl _ _))) (upd_same V 4 _))
    ·intro D V zw1 a hR hI K hK
     obtain ⟨hM1, hB1, hG1⟩ := hI.1
     have zd4 := hR.pred 4 (by kernel_rfl)
     have zF4 : V 4 = .bool mb := hI.2 4 zd4 rfl
     have zf4 := zF4; clear zF4
     have ze21 := hR.frame.done (t := 21) (j := 4) (by kernel_rfl) hR.ok zd4
     rw [if_pos (by rfl)]
     go_simp
     refine (HFC.out _).mono ?_
     rintro e zw2 ⟨rfl, hm2⟩
     exact hK (.int .i64 (fl : Int)) _ (hI.next hR (by kernel_rfl) hm2 (PB.quiet hI.1 hm2 (HGs.out D 5 _ _ (hI.1).g hm2)) (upd_same V 5 _))
    ·intro D V zw1 a hR hI K hK
     obtain ⟨hM1, hB1, hG1⟩ := hI.1
     have zd2 := hR.pred 2 (by kernel_rfl)
     have zF2 : ∃ (g_2 : Nat), V 2 = .slice (some ⟨g_2, 0, none⟩) 2 2 ∧ w4.heap.size ≤ g_2 ∧ Blk zw1 g_2 9 #[(.string { data := #[111, 110, 101] }), (.string { data := #[109, 97, 110, 121] })] := hI.2 2 zd2 (by show (!D 6) = true; rw [hR.not]; rfl)
     obtain ⟨g_2, zf2, c2_0, b2_0⟩ := zF2
     have zd5 := hR.pred 5 (by kernel_rfl)
     have zF5 : V 5 = .int .i64 (fl : Int) := hI.2 5 zd5 rfl
     have zf5 := zF5; clear zF5
     have ze19 := hR.frame.done (t := 19) (j := 2) (by kernel_rfl) hR.ok zd2
     have ze22 := hR.frame.done (t := 22) (j := 5) (by kernel_rfl) hR.ok zd5
     rw [if_pos (by rfl)]
     go_simp
     exact hK (_) _ (hI.next hR (by kernel_rfl) (Mod.refl _ _) (PB.quiet hI.1 (Mod.refl _ _) (HGs.out D 6 zw1 zw1 (hI.1).g (Mod.refl _ _))) (⟨g_2, upd_same V 6 _, b2_0⟩))
    ·intro D V zw1 a hR hI K hK
     obtain ⟨hM1, hB1, hG1⟩ := hI.1
     have zd6 := hR.pred 6 (by kernel_rfl)
     have zF6 : ∃ (g_6 : Nat), V 6 = .pointer (some ⟨g_6, fl, none⟩) ∧ Blk zw1 g_6 9 #[.string ⟨#[111, 110, 101]⟩, .string ⟨#[109, 97, 110, 121]⟩] := hI.2 6 zd6 (by show (!D 7) = true; rw [hR.not]; rfl)
     obtain ⟨g_6, zf6, b6_0⟩ := zF6
     have ze23 := hR.frame.done (t := 23) (j := 6) (by kernel_rfl) hR.ok zd6
     have zx0 := om_cell b6_0 HFL.out HMW.out
     rw [if_pos (by rfl)]
     go_simp
     exact hK (.string ⟨mw.toArray⟩) _ (hI.next hR (by kernel_rfl) (Mod.refl _ _) (PB.quiet hI.1 (Mod.refl _ _) (HGs.out D 7 zw1 zw1 (hI.1).g (Mod.refl _ _))) (upd_same V 7 _))
    ·intro D V zw1 a hR hI K hK
     obtain ⟨hM1, hB1, hG1⟩ := hI.1
     rw [if_pos (by rfl)]
     go_simp
     refine (spwQ_calls _).mono ?_
     rintro e zw2 ⟨g_0, rfl, hsl, hm2⟩
     exact hK (.slice (some ⟨g_0, 0, none⟩) 3 3) _ (hI.next hR (by kernel_rfl) hm2 (PB.quiet hI.1 hm2 (HGs.out D 8 _ _ (hI.1).g hm2)) (⟨g_0, upd_same V 8 _, hsl⟩))
    ·intro D V zw1 a hR hI K hK
     obtain ⟨hM1, hB1, hG1⟩ := hI.1
     have ze5 := hR.frame.other (t := 5) (by kernel_rfl) rfl
     rw [if_pos (by rfl)]
     go_simp
     exact hK (.pointer (some ⟨gA, 3, none⟩)) _ (hI.next hR (by kernel_rfl) (Mod.refl _ _) (PB.quiet hI.1 (Mod.refl _ _) (HGs.out D 9 zw1 zw1 (hI.1).g (Mod.refl _ _))) (upd_same V 9 _))
    ·intro D V zw1 a hR hI K hK
     obtain ⟨hM1, hB1, hG1⟩ := hI.1
     have zd9 := hR.pred 9 (by kernel_rfl)
     have zF9 : V 9 = .pointer (some ⟨gA, 3, none⟩) := hI.2 9 zd9 rfl
     have zf9 := zF9; clear zF9
     have ze26 := hR.frame.done (t := 26) (j := 9) (by kernel_rfl) hR.ok zd9
     have zx0 := hG1.cell 3; simp at zx0
     rw [if_pos (by rfl)]
     go_simp
     exact hK (.int .i64 (spn : Int)) _ (hI.next hR (by kernel_rfl) (Mod.refl _ _) (PB.quiet hI.1 (Mod.refl _ _) (HGs.out D 10 zw1 zw1 (hI.1).g (Mod.refl _ _))) (upd_same V 10 _))
    ·intro D V zw1 a hR hI K hK
     obtain ⟨hM1, hB1, hG1⟩ := hI.1
     have zd8 := hR.pred 8 (by kernel_rfl)
     have zF8 : ∃ (g_8 : Nat), V 8 = .slice (some ⟨g_8, 0, none⟩) 3 3 ∧ Blk zw1 g_8 9 (strsV sp3).toArray := hI.2 8 zd8 (by show (!D 12) = true; cases hs : D 12 with | false => rfl | true => (have := hR.closed 12 _ 11 rfl (by kernel_rfl) hs; rw [hR.not] at this; cases this))
     obtain ⟨g_8, zf8, b8_0⟩ := zF8
     have zd10 := hR.pred 10 (by kernel_rfl)
     have zF10 : V 10 = .int .i64 (spn : Int) := hI.2 10 zd10 rfl
     have zf10 := zF10; clear zF10
     have ze25 := hR.frame.done (t := 25) (j := 8) (by kernel_rfl) hR.ok zd8
     have ze27 := hR.frame.done (t := 27) (j := 10) (by kernel_rfl) hR.ok zd10
     rw [if_pos (by rfl)]
     go_simp
     exact hK (_) _ (hI.next hR (by kernel_rfl) (Mod.refl _ _) (PB.quiet hI.1 (Mod.refl _ _) (HGs.out D 11 zw1 zw1 (hI.1).g (Mod.refl _ _))) (⟨g_8, upd_same V 11 _, b8_0⟩))
    ·intro D V zw1 a hR hI K hK
     obtain ⟨hM1, hB1, hG1⟩ := hI.1
     have zd11 := hR.pred 11 (by kernel_rfl)
     have zF11 : ∃ (g_11 : Nat), V 11 = .pointer (some ⟨g_11, spn, none⟩) ∧ Blk zw1 g_11 9 (strsV sp3).toArray := hI.2 11 zd11 (by show (!D 12) = true; rw [hR.not]; rfl)
     obtain ⟨g_11, zf11, b11_0⟩ := zF11
     have ze28 := hR.frame.done (t := 28) (j := 11) (by kernel_rfl) hR.ok zd11
     have zx0 := sp3_cell b11_0 hs3n
     rw [if_pos (by rfl)]
     go_simp
     exact hK (.string ⟨(sprdW (spn : Int)).toArray⟩) _ (hI.next hR (by kernel_rfl) (Mod.refl _ _) (PB.quiet hI.1 (Mod.refl _ _) (HGs.out D 12 zw1 zw1 (hI.1).g (Mod.refl _ _))) (upd_same V 12 _))
    ·intro D V zw1 a hR hI K hK
     obtain ⟨hM1, hB1, hG1⟩ := hI.1
     have zd1 := hR.pred 1 (by kernel_rfl)
     have zF1 : V 1 = .string ⟨f.toArray⟩ := hI.2 1 zd1 rfl
     have zf1 := zF1; clear zF1
     have zd7 := hR.pred 7 (by kernel_rfl)
     have zF7 : V 7 = .string ⟨mw.toArray⟩ := hI.2 7 zd7 rfl
     have zf7 := zF7; clear zF7
     have zd12 := hR.pred 12 (by kernel_rfl)
     have zF12 : V 12 = .string ⟨(sprdW (spn : Int)).toArray⟩ := hI.2 12 zd12 rfl
     have zf12 := zF12; clear zF12
     have ze18 := hR.frame.done (t := 18) (j := 1) (by kernel_rfl) hR.ok zd1
     have ze24 := hR.frame.done (t := 24) (j := 7) (by kernel_rfl) hR.ok zd7
     have ze29 := hR.frame.done (t := 29) (j := 12) (by kernel_rfl) hR.ok zd12
     rw [if_pos (by rfl)]
     go_simp
     exact hK (_) _ (hI.next hR (by kernel_rfl) ((Mod.refl _ _).alloc _) (PB.quiet hI.1 (pure_alloc _ _) (HGs.out D 13 _ _ (hI.1).g ((Mod.refl _ _).alloc _))) (⟨_, upd_same V 13 _, (by omega), (Blk.new _ _ _)⟩))
    ·intro D V zw1 a hR hI K hK
     obtain ⟨hM1, hB1, hG1⟩ := hI.1
     have zd13 := hR.pred 13 (by kernel_rfl)
     have zF13 : ∃ (g_13 : Nat), V 13 = .slice (some ⟨g_13, 0, none⟩) 4 4 ∧ w4.heap.size ≤ g_13 ∧ Blk zw1 g_13 9 #[(.string { data := #[97, 115, 107] }), .string ⟨f.toArray⟩, .string ⟨mw.toArray⟩, .string ⟨(sprdW (spn : Int)).toArray⟩] := hI.2 13 zd13 rfl
     obtain ⟨g_13, zf13, c13_0, b13_0⟩ := zF13
     have ze30 := hR.frame.done (t := 30) (j := 13) (by kernel_rfl) hR.ok zd13
     rw [if_pos (by rfl)]
     go_simp
     exact hK (.slice (some ⟨g_13, 0, none⟩) 4 4) _ (hI.next hR (by kernel_rfl) (Mod.refl _ _) (PB.quiet hI.1 (Mod.refl _ _) (HGs.out D 14 zw1 zw1 (hI.1).g (Mod.refl _ _))) (⟨g_13, upd_same V 14 _, (by first | assumption | omega), b13_0⟩))
   ·intro D V w5 hD hI
    obtain ⟨hM1, hB1, hG1⟩ := hI.1
    have hMx := hM1
    clear hM1
    have hBx := hB1
    clear hB1
    have hGx := hG1
    clear hG1
    have zF0 : V 0 = .pointer (some ⟨gA, 0, none⟩) := hI.2 0 (hD 0 (by decide)) rfl
    have zf0 := zF0; clear zF0
    have zF1 : V 1 = .string ⟨f.toArray⟩ := hI.2 1 (hD 1 (by decide)) rfl
    have zf1 := zF1; clear zF1
    have zF3 : V 3 = .pointer (some ⟨gA, 2, none⟩) := hI.2 3 (hD 3 (by decide)) rfl
    have zf3 := zF3; clear zF3
    have zF4 : V 4 = .bool mb := hI.2 4 (hD 4 (by decide)) rfl
    have zf4 := zF4; clear zF4
    have zF5 : V 5 = .int .i64 (fl : Int) := hI.2 5 (hD 5 (by decide)) rfl
    have zf5 := zF5; clear zF5
    have zF7 : V 7 = .string ⟨mw.toArray⟩ := hI.2 7 (hD 7 (by decide)) rfl
    have zf7 := zF7; clear zF7
    have zF9 : V 9 = .pointer (some ⟨gA, 3, none⟩) := hI.2 9 (hD 9 (by decide)) rfl
    have zf9 := zF9; clear zF9
    have zF10 : V 10 = .int .i64 (spn : Int) := hI.2 10 (hD 10 (by decide)) rfl
    have zf10 := zF10; clear zF10
    have zF12 : V 12 = .string ⟨(sprdW (spn : Int)).toArray⟩ := hI.2 12 (hD 12 (by decide)) rfl
    have zf12 := zF12; clear zF12
    have zF13 : ∃ (g_13 : Nat), V 13 = .slice (some ⟨g_13, 0, none⟩) 4 4 ∧ w4.heap.size ≤ g_13 ∧ Blk w5 g_13 9 #[(.string { data := #[97, 115, 107] }), .string ⟨f.toArray⟩, .string ⟨mw.toArray⟩, .string ⟨(sprdW (spn : Int)).toArray⟩] := hI.2 13 (hD 13 (by decide)) rfl
    obtain ⟨g_13, zf13, c13_0, b13_0⟩ := zF13
    have zF14 : ∃ (g_14 : Nat), V 14 = .slice (some ⟨g_14, 0, none⟩) 4 4 ∧ w4.heap.size ≤ g_14 ∧ Blk w5 g_14 9 #[(.string { data := #[97, 115, 107] }), .string ⟨f.toArray⟩, .string ⟨mw.toArray⟩, .string ⟨(sprdW (spn : Int)).toArray⟩] := hI.2 14 (hD 14 (by decide)) rfl
    obtain ⟨g_14, zf14, c14_0, b14_0⟩ := zF14
    clear hI hD HGs
    simp only [frAll, Act.put, List.setIfInBounds_toArray, List.set_cons_zero, List.set_cons_succ, Nat.zero_add, Nat.reduceAdd, zf0, zf1, zf3, zf4, zf5, zf7, zf9, zf10, zf12, zf13, zf14]
    clear zf0 zf1 zf3 zf4 zf5 zf7 zf9 zf10 zf12 zf13 zf14
    generalize V 2 = u2
    generalize V 6 = u6
    generalize V 8 = u8
    generalize V 11 = u11
    clear V D
    have HX := Lib.hid b14_0
    have hxg := c14_0
    have HR5 := Lib.hid hGx
    have HS5 := Lib.hid (HS4.out.pure hMx)
    have HM5 := Lib.hid hMx
    have hgx := b14_0.lt
    clear b13_0 b14_0 c13_0 c14_0 hMx hBx hGx HB4 HFC HS4
    generalize g_14 = gx at *
    have hR5 := HR5.out
    have r1 := hR5.cell 1
    simp at r1
    clear hR5
    have hownS : w5.ownsRow w4.heap.size 9 1 (.slice (some ⟨gx, 0, none⟩) 4 4) 4 [.string ⟨#[97, 115, 107]⟩, .string ⟨f.toArray⟩, .string ⟨mw.toArray⟩, .string ⟨(sprdW (spn : Int)).toArray⟩] := own_ofBlk (n := 4) (size := 1) (bw := w4.heap.size) HX.out (by omega) (by rfl) (by omega)
    obtain ⟨i0, hi0, hz0, hz1, hz2⟩ := info_parts info_strT
    obtain ⟨w6, hw6⟩ : ∃ W, W = w5 := ⟨w5, rfl⟩
    subst hw6
    have hms := HM5.out.size
    have HWR : Hid (strsV (askW ⟨f, some ⟨gc, oc, none⟩, cb, ch, mb, spn⟩) = [.string ⟨#[97, 115, 107]⟩, .string ⟨f.toArray⟩, .string ⟨mw.toArray⟩, .string ⟨(sprdW (spn : Int)).toArray⟩] ++ strsV ch) := Lib.hid (by rw [← HMW.out]; rfl)
    go_wp2_with (at_builtin; refine wpList_append_lies _ rfl _ _ _ rfl w4.heap.size 9 i0 _ 1 16 Tryz.underlying57 hi0 hz0 hz1 hz2 rfl (by omega) (.slice (some ⟨gx, 0, none⟩) 4 4) 4 ([.string ⟨#[97, 115, 107]⟩, .string ⟨f.toArray⟩, .string ⟨mw.toArray⟩, .string ⟨(sprdW (spn : Int)).toArray⟩]) rfl hownS ⟨gc, oc, none⟩ nc cb (strsV ch) rfl (by rw [strsV_lenT, HNC.out, Nat.mul_one]) (sl_news HS5.out hk1) (strsV_one ch) hk1 (by simp [maxLen]; omega) (by omega) (by omega) w6.heap.size rfl ?_; intro g5 cap5 w5 hown5 hgrow hat hlt5)
    have hob := own_block hownS
    have hs5 := Sl.of_own hown5
    rw [← HWR.out] at hs5
    have HJX := Lib.hid (HJN.out w5 _ hs5)
    have HM6 := Lib.hid (HM4.out.trans (HM5.out.trans' (mod_grown hgrow) (fun i hi hlt => by have := hob i hi; omega)))
    clear hs5 HJN HX HR5 HS5 hownS r1
    refine HJX.out.mono ?_
    rintro e w7 ⟨rfl, hm⟩
    have HM7 := Lib.hid (HM6.out.trans hm)
    clear hm HJX HM6
    have hn1 : ¬ 9223372036854775807 < jn.length + 1 := by omega
    have hn2 : ¬ 9223372036854775807 < sk.length + jl.length := by omega
    go_wp2_with first | (rw [HJ1.out]) | (rw [HJ2.out])
    go_roundg (al.length - (k + 1))
    case measure => omega
    case rel => exact ⟨k + 1, rfl, by omega, by rw [HSE.out], by simp, HM7.out⟩
  ·obtain rfl : k = al.length := by omega
   obtain ⟨w2, hw2⟩ : ∃ W, W = wr := ⟨wr, rfl⟩
   subst hw2
   have HM := Lib.hid hm
   have HB2 := Lib.hid (HG.out.modp hm)
   have HLR2 := Lib.hid (HLR.out.pure hm)
   have HP2 := Lib.hid (HP.out.trans hm)
   clear hm hk hlt HG HLA HLR HP HAK x0 x1
   rw [List.take_of_length_le (Nat.le_refl _)]
   obtain ⟨sa, hsa⟩ : ∃ sa, asksT al = sa := ⟨_, rfl⟩
   rw [hsa] at HLL ⊢
   have HSA := Lib.hid hsa
   clear hsa
   have hB2 := HB2.out
   have x0 := hB2.cell 0; have x1 := hB2.cell 1; simp at x0 x1
   clear hB2
   go_wp2_with fail
   go_loopg [3, 43] rs.length (fun gk s i wr => ∃ k : Nat, rs.length - k = gk ∧ k ≤ rs.length ∧ s = .string ⟨(sa ++ rulsT (rs.take k)).toArray⟩ ∧ i = .int .i64 (k : Int) ∧ Pure w2 wr)
   case atStart => exact ⟨0, by omega, by omega, by simp [rulsT], rfl, Mod.refl _ _⟩
   case round =>
    obtain ⟨k, rfl, hk, rfl, rfl, hm⟩ := hrel
    by_cases hlt : k < rs.length
    ·obtain ⟨g1, o1, rfl, q0, q1, q2, q3, q4⟩ := Ruls.cells (Sl.pure HLR2.out hm) hlt
     have hrk := HRK.out _ (List.getElem_mem hlt)
     have HSN := Lib.hid (rulsT_snoc hlt)
     have HM := Lib.hid hm
     have hskl := rulsT_take rs k
     have hskl2 := HLL.out
     rw [List.length_append] at hskl2
     have hskb : (sa ++ rulsT (rs.take k)).length ≤ 200000 := by rw [List.length_append]; omega
     clear hm hskl hskl2 HRK HLR2
     obtain ⟨sk, hsk⟩ : ∃ sk, sa ++ rulsT (rs.take k) = sk := ⟨_, rfl⟩
     obtain ⟨sn, hsn⟩ : ∃ sn, sa ++ rulsT (rs.take (k + 1)) = sn := ⟨_, rfl⟩
     have HSN2 : Hid (sn = sk ++ lnW (rulW rs[k])) := Lib.hid (by rw [← hsn, ← hsk, HSN.out, List.append_assoc])
     have HSE := Lib.hid hsn
     rw [hsk] at hskb ⊢
     clear hsk hsn HSN
     generalize rs[k] = y at *
     obtain ⟨kd, f, ifs, oth, thn⟩ := y
     obtain ⟨hk1, hk4⟩ := hrk
     simp only at q0 q1 q2 q3 q4 hk1
     obtain ⟨jn, hjn⟩ : ∃ jn, Lib.join (rulW ⟨kd, f, ifs, oth, thn⟩) [32] = jn := ⟨_, rfl⟩
     have HKL : Hid ((Lib.join (rulW ⟨kd, f, ifs, oth, thn⟩) [32]).length ≤ 60000) := Lib.hid (by unfold lnW at hk4; rw [List.length_append] at hk4; omega)
     have HRL : Hid ((rulW ⟨kd, f, ifs, oth, thn⟩).length ≤ 6) := Lib.hid (by unfold rulW; by_cases h : thn = [] <;> simp [h])
     have HJ1 : Hid ((⟨jn.toArray⟩ : ByteArray) ++ ⟨#[10]⟩ = ⟨(jn ++ [10]).toArray⟩) := Lib.hid (bytes_appT jn [10])
     have HJ2 : Hid ((⟨sk.toArray⟩ : ByteArray) ++ ⟨(jn ++ [10]).toArray⟩ = ⟨sn.toArray⟩) := Lib.hid (by rw [bytes_appT, HSN2.out, ← hjn]; rfl)
     obtain ⟨jl, hjl⟩ : ∃ jl, jn ++ [10] = jl := ⟨_, rfl⟩
     have HJLL : Hid (jl.length = jn.length + 1) := Lib.hid (by rw [← hjl]; simp)
     rw [hjl] at HJ1 HJ2
     have hjll := Nat.le_of_eq HJLL.out
     have hjnl : jn.length ≤ 60000 := by rw [← hjn]; exact HKL.out
     have HJN : Hid (∀ W v, Sl W 9 1 v (strsV (rulW ⟨kd, f, ifs, oth, thn⟩)) → Calls Tryz.prog 57 #[v, .string ⟨#[32]⟩] W (JnPost W jn)) := Lib.hid (fun W v h => by
      have := joinT_calls W v _ [32] h (by have := HRL.out; omega) (by have := HKL.out; omega)
      rwa [hjn] at this)
     clear hjl hjn hk4 HJLL HKL HSN2 HRL
     obtain ⟨kn, rfl⟩ : ∃ m : Nat, kd = (m : Int) := ⟨kd.toNat, by omega⟩
     have hkn : kn = 1 ∨ kn = 2 := by omega
     have HKN := Lib.hid hkn
     have hkn3 : (kn : Int) < 3 := by omega
     have hkn4 : kn < 3 := by omega
     obtain ⟨mw, hmw⟩ : ∃ mw, (if (kn : Int) = 1 then wNeeds else wBars) = mw := ⟨_, rfl⟩
     have HMW := Lib.hid hmw
     have HRW : Hid (rulW ⟨(kn : Int), f, ifs, oth, thn⟩ = [wRule, mw, f, ifs, oth] ++ (if thn = [] then [] else [thn])) := Lib.hid (by
      unfold rulW
      rw [← hmw])
     clear hmw hkn hk1
     go_upto_region 11 with (fail)
     have hG1 := Blk.new wr 103 #[.int .i64 (kn : Int), .string ⟨f.toArray⟩, .string ⟨ifs.toArray⟩, .string ⟨oth.toArray⟩, .string ⟨thn.toArray⟩]
     have hpa := pure_alloc wr (.cells #[.int .i64 (kn : Int), .string ⟨f.toArray⟩, .string ⟨ifs.toArray⟩, .string ⟨oth.toArray⟩, .string ⟨thn.toArray⟩] 103)
     have HB4 := Lib.hid hG1
     have HM4 := Lib.hid (HM.out.trans hpa)
     clear hG1 hpa HM
     generalize (wr.alloc (.cells #[.int .i64 (kn : Int), .string ⟨f.toArray⟩, .string ⟨ifs.toArray⟩, .string ⟨oth.toArray⟩, .string ⟨thn.toArray⟩] 103)) = w4 at *
     generalize wr.heap.size = gA at *
     have HGs := Lib.hid (show ∀ (D : Nat → Bool) (zzi : Nat) (zq zq' : World), (fun _ zq => (fun Z => Blk Z gA 103 #[.int .i64 (kn : Int), .string ⟨f.toArray⟩, .string ⟨ifs.toArray⟩, .string ⟨oth.toArray⟩, .string ⟨thn.toArray⟩]) zq) D zq → Mod (fun _ => False) zq zq' → (fun _ zq => (fun Z => Blk Z gA 103 #[.int .i64 (kn : Int), .string ⟨f.toArray⟩, .string ⟨ifs.toArray⟩, .string ⟨oth.toArray⟩, .string ⟨thn.toArray⟩]) zq) (upd D zzi true) zq' from by intro D zzi zq zq' h hm; (exact h.modp hm))
     refine wp_region_inv (by kernel_rfl) (by kernel_rfl) (InvF (R := Mod (fun _ => False)) [⟨fun zv zw => ∃ (g_0 : Nat), zv = .slice (some ⟨g_0, 0, none⟩) 3 3 ∧ w4.heap.size ≤ g_0 ∧ Blk zw g_0 9 #[(.string { data := #[] }), (.string { data := #[110, 101, 101, 100, 115] }), (.string { data := #[98, 97, 114, 115] })], (by rintro zv zw zx ⟨g_0, rfl, c0, q0⟩ hm; exact ⟨g_0, rfl, c0, (q0.modp hm)⟩), none, some 3⟩,
       .is (.pointer (some ⟨gA, 0, none⟩)),
       .is (.int .i64 (kn : Int)),
       ⟨fun zv zw => ∃ (g_3 : Nat), zv = .pointer (some ⟨g_3, kn, none⟩) ∧ Blk zw g_3 9 #[.string ⟨#[]⟩, .string ⟨#[110, 101, 101, 100, 115]⟩, .string ⟨#[98, 97, 114, 115]⟩], (by rintro zv zw zx ⟨g_3, rfl, q0⟩ hm; exact ⟨g_3, rfl, (q0.modp hm)⟩), none, some 4⟩,
       .is (.string ⟨mw.toArray⟩),
       .is (.pointer (some ⟨gA, 1, none⟩)),
       .is (.string ⟨f.toArray⟩),
       .is (.pointer (some ⟨gA, 2, none⟩)),
       .is (.string ⟨ifs.toArray⟩),
       .is (.pointer (some ⟨gA, 3, none⟩)),
       .is (.string ⟨oth.toArray⟩),
       ⟨fun zv zw => ∃ (g_11 : Nat), zv = .slice (some ⟨g_11, 0, none⟩) 5 5 ∧ w4.heap.size ≤ g_11 ∧ Blk zw g_11 9 #[(.string { data := #[114, 117, 108, 101] }), .string ⟨mw.toArray⟩, .string ⟨f.toArray⟩, .string ⟨ifs.toArray⟩, .string ⟨oth.toArray⟩], (by rintro zv zw zx ⟨g_11, rfl, c0, q0⟩ hm; exact ⟨g_11, rfl, c0, (q0.modp hm)⟩), none, none⟩,
       ⟨fun zv zw => ∃ (g_12 : Nat), zv = .slice (some ⟨g_12, 0, none⟩) 5 5 ∧ w4.heap.size ≤ g_12 ∧ Blk zw g_12 9 #[(.string { data := #[114, 117, 108, 101] }), .string ⟨mw.toArray⟩, .string ⟨f.toArray⟩, .string ⟨ifs.toArray⟩, .string ⟨oth.toArray⟩], (by rintro zv zw zx ⟨g_12, rfl, c0, q0⟩ hm; exact ⟨g_12, rfl, c0, (q0.modp hm)⟩), none, none⟩]
       (PB w4 (fun _ => False) w4.heap.size (fun _ zq => (fun Z => Blk Z gA 103 #[.int .i64 (kn : Int), .string ⟨f.toArray⟩, .string ⟨ifs.toArray⟩, .string ⟨oth.toArray⟩, .string ⟨thn.toArray⟩]) zq))) (InvF.start (PB.start (Mod.refl _ _) (Nat.le_refl _) (HB4.out.drew))) ?_ ?_
     ·refine .cons ?_ (.cons ?_ (.cons ?_ (.cons ?_ (.cons ?_ (.cons ?_ (.cons ?_ (.cons ?_ (.cons ?_ (.cons ?_ (.cons ?_ (.cons ?_ (.cons ?_ .nil))))))))))))
      ·intro D V zw1 a hR hI K hK
       obtain ⟨hM1, hB1, hG1⟩ := hI.1
       rw [if_pos (by rfl)]
       go_simp
       exact hK (_) _ (hI.next hR (by kernel_rfl) ((Mod.refl _ _).alloc _) (PB.quiet hI.1 (pure_alloc _ _) (HGs.out D 0 _ _ (hI.1).g ((Mod.refl _ _).alloc _))) (⟨_, upd_same V 0 _, (by omega), (Blk.new _ _ _)⟩))
      ·intro D V zw1 a hR hI K hK
       obtain ⟨hM1, hB1, hG1⟩ := hI.1
       have ze8 := hR.frame.other (t := 8) (by kernel_rfl) rfl
       rw [if_pos (by rfl)]
       go_simp
       exact hK (.pointer (some ⟨gA, 0, none⟩)) _ (hI.next hR (by kernel_rfl) (Mod.refl _ _) (PB.quiet hI.1 (Mod.refl _ _) (HGs.out D 1 zw1 zw1 (hI.1).g (Mod.refl _ _))) (upd_same V 1 _))
      ·intro D V zw1 a hR hI K hK
       obtain ⟨hM1, hB1, hG1⟩ := hI.1
       have zd1 := hR.pred 1 (by kernel_rfl)
       have zF1 : V 1 = .pointer (some ⟨gA, 0, none⟩) := hI.2 1 zd1 rfl
       have zf1 := zF1; clear zF1
       have ze48 := hR.frame.done (t := 48) (j := 1) (by kernel_rfl) hR.ok zd1
       have zx0 := hG1.cell 0; simp at zx0
       rw [if_pos (by rfl)]
       go_simp
       exact hK (.int .i64 (kn : Int)) _ (hI.next hR (by kernel_rfl) (Mod.refl _ _) (PB.quiet hI.1 (Mod.refl _ _) (HGs.out D 2 zw1 zw1 (hI.1).g (Mod.refl _ _))) (upd_same V 2 _))
      ·intro D V zw1 a hR hI K hK
       obtain ⟨hM1, hB1, hG1⟩ := hI.1
       have zd0 := hR.pred 0 (by kernel_rfl)
       have zF0 : ∃ (g_0 : Nat), V 0 = .slice (some ⟨g_0, 0, none⟩) 3 3 ∧ w4.heap.size ≤ g_0 ∧ Blk zw1 g_0 9 #[(.string { data := #[] }), (.string { data := #[110, 101, 101, 100, 115] }), (.string { data := #[98, 97, 114, 115] })] := hI.2 0 zd0 (by show (!D 3) = true; rw [hR.not]; rfl)
       obtain ⟨g_0, zf0, c0_0, b0_0⟩ := zF0
       have zd2 := hR.pred 2 (by kernel_rfl)
       have zF2 : V 2 = .int .i64 (kn : Int) := hI.2 2 zd2 rfl
       have zf2 := zF2; clear zF2
       have ze47 := hR.frame.done (t := 47) (j := 0) (by kernel_rfl) hR.ok zd0
       have ze49 := hR.frame.done (t := 49) (j := 2) (by kernel_rfl) hR.ok zd2
       rw [if_pos (by rfl)]
       go_simp
       exact hK (_) _ (hI.next hR (by kernel_rfl) (Mod.refl _ _) (PB.quiet hI.1 (Mod.refl _ _) (HGs.out D 3 zw1 zw1 (hI.1).g (Mod.refl _ _))) (⟨g_0, upd_same V 3 _, b0_0⟩))
      ·intro D V zw1 a hR hI K hK
       obtain ⟨hM1, hB1, hG1⟩ := hI.1
       have zd3 := hR.pred 3 (by kernel_rfl)
       have zF3 : ∃ (g_3 : Nat), V 3 = .pointer (some ⟨g_3, kn, none⟩) ∧ Blk zw1 g_3 9 #[.string ⟨#[]⟩, .string ⟨#[110, 101, 101, 100, 115]⟩, .string ⟨#[98, 97, 114, 115]⟩] := hI.2 3 zd3 (by show (!D 4) = true; rw [hR.not]; rfl)
       obtain ⟨g_3, zf3, b3_0⟩ := zF3
       have ze50 := hR.frame.done (t := 50) (j := 3) (by kernel_rfl) hR.ok zd3
       have zx0 := nb_cell b3_0 HKN.out HMW.out
       rw [if_pos (by rfl)]
       go_simp
       exact hK (.string ⟨mw.toArray⟩) _ (hI.next hR (by kernel_rfl) (Mod.refl _ _) (PB.quiet hI.1 (Mod.refl _ _) (HGs.out D 4 zw1 zw1 (hI.1).g (Mod.refl _ _))) (upd_same V 4 _))
      ·intro D V zw1 a hR hI K hK
       obtain ⟨hM1, hB1, hG1⟩ := hI.1
       have ze8 := hR.frame.other (t := 8) (by kernel_rfl) rfl
       rw [if_pos (by rfl)]
       go_simp
       exact hK (.pointer (some ⟨gA, 1, none⟩)) _ (hI.next hR (by kernel_rfl) (Mod.refl _ _) (PB.quiet hI.1 (Mod.refl _ _) (HGs.out D 5 zw1 zw1 (hI.1).g (Mod.refl _ _))) (upd_same V 5 _))
      ·intro D V zw1 a hR hI K hK
       obtain ⟨hM1, hB1, hG1⟩ := hI.1
       have zd5 := hR.pred 5 (by kernel_rfl)
       have zF5 : V 5 = .pointer (some ⟨gA, 1, none⟩) := hI.2 5 zd5 rfl
       have zf5 := zF5; clear zF5
       have ze52 := hR.frame.done (t := 52) (j := 5) (by kernel_rfl) hR.ok zd5
       have zx0 := hG1.cell 1; simp at zx0
       rw [if_pos (by rfl)]
       go_simp
       exact hK (.string ⟨f.toArray⟩) _ (hI.next hR (by kernel_rfl) (Mod.refl _ _) (PB.quiet hI.1 (Mod.refl _ _) (HGs.out D 6 zw1 zw1 (hI.1).g (Mod.refl _ _))) (upd_same V 6 _))
      ·intro D V zw1 a hR hI K hK
       obtain ⟨hM1, hB1, hG1⟩ := hI.1
       have ze8 := hR.frame.other (t := 8) (by kernel_rfl) rfl
       rw [if_pos (by rfl)]
       go_simp
       exact hK (.pointer (some ⟨gA, 2, none⟩)) _ (hI.next hR (by kernel_rfl) (Mod.refl _ _) (PB.quiet hI.1 (Mod.refl _ _) (HGs.out D 7 zw1 zw1 (hI.1).g (Mod.refl _ _))) (upd_same V 7 _))
      ·intro D V zw1 a hR hI K hK
       obtain ⟨hM1, hB1, hG1⟩ := hI.1
       have zd7 := hR.pred 7 (by kernel_rfl)
       have zF7 : V 7 = .pointer (some ⟨gA, 2, none⟩) := hI.2 7 zd7 rfl
       have zf7 := zF7; clear zF7
       have ze54 := hR.frame.done (t := 54) (j := 7) (by kernel_rfl) hR.ok zd7
       have zx0 := hG1.cell 2; simp at zx0
       rw [if_pos (by rfl)]
       go_simp
       exact hK (.string ⟨ifs.toArray⟩) _ (hI.next hR (by kernel_rfl) (Mod.refl _ _) (PB.quiet hI.1 (Mod.refl _ _) (HGs.out D 8 zw1 zw1 (hI.1).g (Mod.refl _ _))) (upd_same V 8 _))
      ·intro D V zw1 a hR hI K hK
       obtain ⟨hM1, hB1, hG1⟩ := hI.1
       have ze8 := hR.frame.other (t := 8) (by kernel_rfl) rfl
       rw [if_pos (by rfl)]
       go_simp
       exact hK (.pointer (some ⟨gA, 3, none⟩)) _ (hI.next hR (by kernel_rfl) (Mod.refl _ _) (PB.quiet hI.1 (Mod.refl _ _) (HGs.out D 9 zw1 zw1 (hI.1).g (Mod.refl _ _))) (upd_same V 9 _))
      ·intro D V zw1 a hR hI K hK
       obtain ⟨hM1, hB1, hG1⟩ := hI.1
       have zd9 := hR.pred 9 (by kernel_rfl)
       have zF9 : V 9 = .pointer (some ⟨gA, 3, none⟩) := hI.2 9 zd9 rfl
       have zf9 := zF9; clear zF9
       have ze56 := hR.frame.done (t := 56) (j := 9) (by kernel_rfl) hR.ok zd9
       have zx0 := hG1.cell 3; simp at zx0
       rw [if_pos (by rfl)]
       go_simp
       exact hK (.string ⟨oth.toArray⟩) _ (hI.next hR (by kernel_rfl) (Mod.refl _ _) (PB.quiet hI.1 (Mod.refl _ _) (HGs.out D 10 zw1 zw1 (hI.1).g (Mod.refl _ _))) (upd_same V 10 _))
      ·intro D V zw1 a hR hI K hK
       obtain ⟨hM1, hB1, hG1⟩ := hI.1
       have zd4 := hR.pred 4 (by kernel_rfl)
       have zF4 : V 4 = .string ⟨mw.toArray⟩ := hI.2 4 zd4 rfl
       have zf4 := zF4; clear zF4
       have zd6 := hR.pred 6 (by kernel_rfl)
       have zF6 : V 6 = .string ⟨f.toArray⟩ := hI.2 6 zd6 rfl
       have zf6 := zF6; clear zF6
       have zd8 := hR.pred 8 (by kernel_rfl)
       have zF8 : V 8 = .string ⟨ifs.toArray⟩ := hI.2 8 zd8 rfl
       have zf8 := zF8; clear zF8
       have zd10 := hR.pred 10 (by kernel_rfl)
       have zF10 : V 10 = .string ⟨oth.toArray⟩ := hI.2 10 zd10 rfl
       have zf10 := zF10; clear zF10
       have ze51 := hR.frame.done (t := 51) (j := 4) (by kernel_rfl) hR.ok zd4
       have ze53 := hR.frame.done (t := 53) (j := 6) (by kernel_rfl) hR.ok zd6
       have ze55 := hR.frame.done (t := 55) (j := 8) (by kernel_rfl) hR.ok zd8
       have ze57 := hR.frame.done (t := 57) (j := 10) (by kernel_rfl) hR.ok zd10
       rw [if_pos (by rfl)]
       go_simp
       exact hK (_) _ (hI.next hR (by kernel_rfl) ((Mod.refl _ _).alloc _) (PB.quiet hI.1 (pure_alloc _ _) (HGs.out D 11 _ _ (hI.1).g ((Mod.refl _ _).alloc _))) (⟨_, upd_same V 11 _, (by omega), (Blk.new _ _ _)⟩))
      ·intro D V zw1 a hR hI K hK
       obtain ⟨hM1, hB1, hG1⟩ := hI.1
       have zd11 := hR.pred 11 (by kernel_rfl)
       have zF11 : ∃ (g_11 : Nat), V 11 = .slice (some ⟨g_11, 0, none⟩) 5 5 ∧ w4.heap.size ≤ g_11 ∧ Blk zw1 g_11 9 #[(.string { data := #[114, 117, 108, 101] }), .string ⟨mw.toArray⟩, .string ⟨f.toArray⟩, .string ⟨ifs.toArray⟩, .string ⟨oth.toArray⟩] := hI.2 11 zd11 rfl
       obtain ⟨g_11, zf11, c11_0, b11_0⟩ := zF11
       have ze58 := hR.frame.done (t := 58) (j := 11) (by kernel_rfl) hR.ok zd11
       rw [if_pos (by rfl)]
       go_simp
       exact hK (.slice (some ⟨g_11, 0, none⟩) 5 5) _ (hI.next hR (by kernel_rfl) (Mod.refl _ _) (PB.quiet hI.1 (Mod.refl _ _) (HGs.out D 12 zw1 zw1 (hI.1).g (Mod.refl _ _))) (⟨g_11, upd_same V 12 _, (by first | assumption | omega), b11_0⟩))
     ·intro D V w5 hD hI
      obtain ⟨hM1, hB1, hG1⟩ := hI.1
      have hMx := hM1
      clear hM1
      have hBx := hB1
      clear hB1
      have hGx := hG1
      clear hG1
      have zF1 : V 1 = .pointer (some ⟨gA, 0, none⟩) := hI.2 1 (hD 1 (by decide)) rfl
      have zf1 := zF1; clear zF1
      have zF2 : V 2 = .int .i64 (kn : Int) := hI.2 2 (hD 2 (by decide)) rfl
      have zf2 := zF2; clear zF2
      have zF4 : V 4 = .string ⟨mw.toArray⟩ := hI.2 4 (hD 4 (by decide)) rfl
      have zf4 := zF4; clear zF4
      have zF5 : V 5 = .pointer (some ⟨gA, 1, none⟩) := hI.2 5 (hD 5 (by decide)) rfl
      have zf5 := zF5; clear zF5
      have zF6 : V 6 = .string ⟨f.toArray⟩ := hI.2 6 (hD 6 (by decide)) rfl
      have zf6 := zF6; clear zF6
      have zF7 : V 7 = .pointer (some ⟨gA, 2, none⟩) := hI.2 7 (hD 7 (by decide)) rfl
      have zf7 := zF7; clear zF7
      have zF8 : V 8 = .string ⟨ifs.toArray⟩ := hI.2 8 (hD 8 (by decide)) rfl
      have zf8 := zF8; clear zF8
      have zF9 : V 9 = .pointer (some ⟨gA, 3, none⟩) := hI.2 9 (hD 9 (by decide)) rfl
      have zf9 := zF9; clear zF9
      have zF10 : V 10 = .string ⟨oth.toArray⟩ := hI.2 10 (hD 10 (by decide)) rfl
      have zf10 := zF10; clear zF10
      have zF11 : ∃ (g_11 : Nat), V 11 = .slice (some ⟨g_11, 0, none⟩) 5 5 ∧ w4.heap.size ≤ g_11 ∧ Blk w5 g_11 9 #[(.string { data := #[114, 117, 108, 101] }), .string ⟨mw.toArray⟩, .string ⟨f.toArray⟩, .string ⟨ifs.toArray⟩, .string ⟨oth.toArray⟩] := hI.2 11 (hD 11 (by decide)) rfl
      obtain ⟨g_11, zf11, c11_0, b11_0⟩ := zF11
      have zF12 : ∃ (g_12 : Nat), V 12 = .slice (some ⟨g_12, 0, none⟩) 5 5 ∧ w4.heap.size ≤ g_12 ∧ Blk w5 g_12 9 #[(.string { data := #[114, 117, 108, 101] }), .string ⟨mw.toArray⟩, .string ⟨f.toArray⟩, .string ⟨ifs.toArray⟩, .string ⟨oth.toArray⟩] := hI.2 12 (hD 12 (by decide)) rfl
      obtain ⟨g_12, zf12, c12_0, b12_0⟩ := zF12
      clear hI hD HGs
      simp only [frAll, Act.put, List.setIfInBounds_toArray, List.set_cons_zero, List.set_cons_succ, Nat.zero_add, Nat.reduceAdd, zf1, zf2, zf4, zf5, zf6, zf7, zf8, zf9, zf10, zf11, zf12]
      clear zf1 zf2 zf4 zf5 zf6 zf7 zf8 zf9 zf10 zf11 zf12
      generalize V 0 = u0
      generalize V 3 = u3
      clear V D
      have HX := Lib.hid b12_0
      have hxg := c12_0
      have HR5 := Lib.hid hGx
      have HM5 := Lib.hid hMx
      have hgx := b12_0.lt
      clear b11_0 b12_0 c11_0 c12_0 hMx hBx hGx HB4
      generalize g_12 = gx at *
      have hR5 := HR5.out
      have r4 := hR5.cell 4
      simp at r4
      clear hR5
      go_upto_if 61 with (fail)
      go_cut [9] (fun p wy => ∃ (m cc : Nat) (gg : Nat), p = .slice (some ⟨gg, 0, none⟩) m cc ∧ Sl wy 9 1 (.slice (some ⟨gg, 0, none⟩) m cc) (strsV (rulW ⟨(kn : Int), f, ifs, oth, thn⟩)) ∧ Pure w4 wy)
      case first =>
       have hownS : w5.ownsRow w4.heap.size 9 1 (.slice (some ⟨gx, 0, none⟩) 5 5) 5 [.string ⟨#[114, 117, 108, 101]⟩, .string ⟨mw.toArray⟩, .string ⟨f.toArray⟩, .string ⟨ifs.toArray⟩, .string ⟨oth.toArray⟩] := own_ofBlk (n := 5) (size := 1) (bw := w4.heap.size) HX.out (by omega) (by rfl) (by omega)
       by_cases ht : thn = []
       ·subst ht
        clear HJN
        go_wp2_with fail
        go_meet
        exact ⟨5, 5, gx, rfl, by rw [show rulW ⟨(kn : Int), f, ifs, oth, []⟩ = [wRule, mw, f, ifs, oth] by rw [HRW.out]; rfl]; exact Sl.of_own hownS, HM5.out⟩
       ·have t1 : (thn == []) = false := by simpa using ht
        have t2 : (thn != []) = true := by simpa using ht
        have t3 : (!thn.isEmpty) = true := by cases thn with | nil => exact absurd rfl ht | cons a b => rfl
        have HT := Lib.hid ht
        clear ht HJN
        obtain ⟨i0, hi0, hz0, hz1, hz2⟩ := info_parts info_strT
        have hmS := HM5.out
        have r4b := (HR5.out.alloc (.cells #[.string ⟨thn.toArray⟩] 9)).cell 4
        simp at r4b
        obtain ⟨w6, hw6⟩ : ∃ W, W = w5 := ⟨w5, rfl⟩
        subst hw6
        go_wp2_with (at_builtin; refine wpList_append_lies _ rfl _ _ _ rfl w4.heap.size 9 i0 _ 1 16 Tryz.underlying57 hi0 hz0 hz1 hz2 rfl (by omega) (.slice (some ⟨gx, 0, none⟩) 5 5) 5 ([.string ⟨#[114, 117, 108, 101]⟩, .string ⟨mw.toArray⟩, .string ⟨f.toArray⟩, .string ⟨ifs.toArray⟩, .string ⟨oth.toArray⟩]) rfl (hownS.alloc _) ⟨w6.heap.size, 0, none⟩ 1 1 [.string ⟨thn.toArray⟩] rfl rfl (World.news_of_block (cs := #[.string ⟨thn.toArray⟩]) (t := 9) (fr := (0, 0)) (heap_alloc_new w6 _)) (by simp [Value.oneCell']) (by omega) (by decide) (by omega) (by have := hmS.size; simp; omega) (w6.heap.size + 1) (by simp) ?_; intro g5 cap5 w5 hown5 hgrow hat hlt5)
        all_goals first | (rename_i hz; rw [t3] at hz; exact absurd hz (by decide)) | (go_meet; have hob := own_block hownS; exact ⟨6, _, g5, rfl, by rw [HRW.out, if_neg HT.out]; exact Sl.of_own hown5, (HM5.out.trans (pure_alloc _ _)).trans' (mod_grown hgrow) (fun i hi hlt => by have := hob i hi; omega)⟩)
      case rest =>
       obtain ⟨m, cc, gg, rfl, hs, hm⟩ := hcut
       have HJX := Lib.hid (HJN.out wc _ hs)
       have HM6 := Lib.hid (HM4.out.trans hm)
       clear hs hm HJN HX HR5 HM5 HM4 r4
       go_wp2_with fail
       refine HJX.out.mono ?_
       rintro e w7 ⟨rfl, hm⟩
       have HM7 := Lib.hid (HM6.out.trans hm)
       clear hm HJX HM6
       have hn1 : ¬ 9223372036854775807 < jn.length + 1 := by omega
       have hn2 : ¬ 9223372036854775807 < sk.length + jl.length := by omega
       go_wp2_with first | (rw [HJ1.out]) | (rw [HJ2.out])
       go_roundg (rs.length - (k + 1))
       case measure => omega
       case rel => exact ⟨k + 1, rfl, by omega, by rw [HSE.out], by simp, HM7.out⟩
    ·obtain rfl : k = rs.length := by omega
     have HM2 := Lib.hid (HP2.out.trans hm)
     clear hm hk hlt HRK HLR2 HB2 HP2 x0 x1
     rw [List.take_of_length_le (Nat.le_refl _)]
     have HT : Hid (layT ⟨al, rs⟩ = sa ++ rulsT rs) := Lib.hid (by rw [← HSA.out]; rfl)
     have hll := HLL.out
     generalize sa ++ rulsT rs = tx at *
     go_wp2_with fail
     go_ret
     exact ⟨(by rw [HT.out]; rfl), HM2.out⟩

end Go.Proofs.YtaidkmnbjbnciaaGreatDoor

/- LayoutRead of the reference, for any text that is not too long. -/
namespace Go.Proofs.YtaidkmnbjbnciaaGreatDoor
set_option linter.unusedVariables false
set_option linter.unusedSimpArgs false
open Go.RowKit

theorem refLn_lnL : refLn = lnL := funext fun S => funext fun s => refLn_eq S s
set_option maxRecDepth 100000 in
set_option maxHeartbeats 8000000 in
theorem readR_calls (w : World) (s : Str) (hs : s.length ≤ 201) (hM : MlnS w) : Calls Tryz.prog 14 #[.string ⟨s.toArray⟩] w (RdGPost w s) := by
 have hp : Pure w ((w.alloc (.cells #[.slice none 0 0, .slice none 0 0] 29)).alloc (.cells #[.slice none 0 0, .slice none 0 0] 29)) := (pure_alloc _ _).trans (pure_alloc _ _)
 have HP := Lib.hid hp
 have HG := Lib.hid ((Blk.new w 29 #[.slice none 0 0, .slice none 0 0]).alloc (.cells #[.slice none 0 0, .slice none 0 0] 29))
 have hm1 := hM.lt
 have HLN := Lib.hid (rlines2_calls ((w.alloc (.cells #[.slice none 0 0, .slice none 0 0] 29)).alloc (.cells #[.slice none 0 0, .slice none 0 0] 29)) s (w.heap.size + 1) 74 (.pointer (some ⟨w.heap.size + 1, 0, none⟩)) refLn (RdI (w.heap.size + 1) (w.heap.size + 1)) ⟨[], []⟩
  (fun W hW => (hM.pure hp).keep hW (by omega)) (by omega)
  ⟨none, 0, none, 0, [], Blk.snd _ _ _ _, ⟨rfl, .inl ⟨rfl, rfl⟩⟩, ⟨rfl, .inl ⟨rfl, rfl⟩⟩, fun x hx => absurd hx (by simp), rfl, by simp, Nat.le_refl _⟩
  (fun k S W W' h hm => h.pure hm) (fun v W => rfl)
  (fun k S W l hk hW hR => rf1_calls W _ _ k S l (by omega) (by omega) ((hM.pure hp).keep hW (by omega)) hR))
 rw [refLn_lnL] at HLN
 have hds : (⟨s.toArray⟩ : ByteArray).size = s.length := rfl
 have HLB := Lib.hid (fun (S : RdS) (L : LayR) (h : rdG lnL (wholeQ s) (linesQ s) 0 ⟨[], []⟩ = .inr S) => layB_of (L := L) h hs)
 clear hM hp
 unfold RdGPost
 generalize rdG lnL (wholeQ s) (linesQ s) 0 ⟨[], []⟩ = r at *
 generalize s.length = sl at *
 generalize (⟨s.toArray⟩ : ByteArray) = sb at *
 have hz0 : (w.alloc (.cells #[.slice none 0 0, .slice none 0 0] 29)).heap.size = w.heap.size + 1 := by simp
 have hz1 : ((w.alloc (.cells #[.slice none 0 0, .slice none 0 0] 29)).alloc (.cells #[.slice none 0 0, .slice none 0 0] 29)).heap.size = w.heap.size + 2 := by simp
 go_enter Tryz.func14, Tryz.ntmps14
 go_wp2_with fail
 refine HLN.out.mono ?_
 rintro e w1 ⟨hm, hl, hr⟩
 have HP1 := Lib.hid (KeepS.pure hm HP.out (by omega))
 have HG1 := Lib.hid (HG.out.mod hm (fun h => by have := h.1; omega))
 have HL := Lib.hid hl
 have HR := Lib.hid hr
 clear hm hl hr HLN HG HP
 generalize hgr : w.heap.size = gr at *
 have hgr2 := Nat.le_of_eq hgr
 clear hgr hz0 hz1
 have hG1 := HG1.out
 have z0 := hG1.cell 0; have zf0 := hG1.frozen 0; have z1 := hG1.cell 1; have zf1 := hG1.frozen 1; simp at z0 z1
 clear hG1
 cases r with
 | inl i =>
  obtain rfl := HL.out i rfl
  clear HL HR HLB
  go_wp2_with fail
  have hGE := (HG1.out.set 0 (.slice none 0 0)).set 1 (.slice none 0 0)
  have u0 := hGE.cell 0; have u1 := hGE.cell 1; simp at u0 u1
  try simp only [Exit.inBlock, Exit.then]
  refine bodyPost_ret (v := .tuple #[layZ, .int .i64 (i : Int), .int .i64 9]) (by simp [results, Tryz.results14, go_sem, layZ, u0, u1]) rfl ?_
  exact ⟨(HP1.out.setCell (p := ⟨gr, 0, none⟩) (.inr (by show w.heap.size ≤ gr; omega)) _).setCell (p := ⟨gr, 1, none⟩) (.inr (by show w.heap.size ≤ gr; omega)) _, fun j hj => (by cases hj; rfl), fun S hS => (by cases hS)⟩
 | inr S =>
  obtain ⟨rfl, _, A, c, A2, c2, al, h1, h2, h3, h4, h5, h6, h7⟩ := HR.out S rfl
  have HV := Lib.hid (show LayV w1 ⟨al, S.rules⟩ (.agg #[.slice A al.length c, .slice A2 S.rules.length c2]) from ⟨A, _, c, A2, _, c2, rfl, ⟨Sl.of_own h2, h4⟩, Sl.of_own h3⟩)
  have HCL := Lib.hid (layoutFault_calls w1 _ _ HV.out (HLB.out S _ rfl h5 rfl))
  rw [layE_q (S := S) h5 rfl] at HCL
  have HQ := Lib.hid h5
  have HB1 := Lib.hid h1
  have x0 := h1.cell 0; have x1 := h1.cell 1; simp at x0 x1
  clear HL HR HLB h1 h2 h3 h4 h5 h6 h7
  generalize al.length = na at *
  generalize S.rules.length = nr at *
  generalize hle : layE (layS S) = le at *
  have HLE := Lib.hid hle
  clear hle
  go_wp2_with fail
  refine HCL.out.mono ?_
  rintro e w2 ⟨rfl, hm2⟩
  have hB2 := HB1.out.modp hm2
  have hG2 := HG1.out.modp hm2
  have HG2 := Lib.hid hG2
  have HP2 := Lib.hid (HP1.out.trans hm2)
  have HV2 := Lib.hid (HV.out.pure hm2)
  have y0 := hB2.cell 0; have y1 := hB2.cell 1; simp at y0 y1
  have z0 := hG2.cell 0; have zf0 := hG2.frozen 0; have z1 := hG2.cell 1; have zf1 := hG2.frozen 1; simp at z0 z1
  clear hB2 hG2 HCL x0 x1 hm2 HB1 HG1 HP1 HV
  by_cases he : le = 0
  ·subst he
   go_wp2_with fail
   have hGE := (HG2.out.set 0 (.slice A na c)).set 1 (.slice A2 nr c2)
   have u0 := hGE.cell 0; have u1 := hGE.cell 1; simp at u0 u1
   try simp only [Exit.inBlock, Exit.then]
   refine bodyPost_ret (v := .tuple #[.agg #[.slice A na c, .slice A2 nr c2], .int .i64 0, .int .i64 0]) (by simp [results, Tryz.results14, go_sem, u0, u1]) rfl ?_
   have hm8 : Mod (· = gr) w2 ((w2.setCell ⟨gr, 0, none⟩ (.slice A na c)).setCell ⟨gr, 1, none⟩ (.slice A2 nr c2)) := ((Mod.refl (· = gr) w2).setCell (.inl rfl) _).setCell (.inl rfl) _
   refine ⟨(HP2.out.setCell (p := ⟨gr, 0, none⟩) (.inr (by show w.heap.size ≤ gr; omega)) _).setCell (p := ⟨gr, 1, none⟩) (.inr (by show w.heap.size ≤ gr; omega)) _, fun j hj => (by cases hj), fun S' hS => ?_⟩
   cases hS
   exact .inr ⟨HLE.out, A, na, c, A2, nr, c2, ⟨al, S.rules⟩, HQ.out, rfl, HV2.out.other hm8 HG2.out (by decide) (by decide) (by decide), rfl⟩
  ·have he2 : (le != 0) = true := by simp [he]
   go_wp2_with fail
   have hGE := (HG2.out.set 0 (.slice none 0 0)).set 1 (.slice none 0 0)
   have u0 := hGE.cell 0; have u1 := hGE.cell 1; simp at u0 u1
   try simp only [Exit.inBlock, Exit.then]
   refine bodyPost_ret (v := .tuple #[layZ, .int .i64 0, .int .i64 le]) (by simp [results, Tryz.results14, go_sem, layZ, u0, u1]) rfl ?_
   refine ⟨(HP2.out.setCell (p := ⟨gr, 0, none⟩) (.inr (by show w.heap.size ≤ gr; omega)) _).setCell (p := ⟨gr, 1, none⟩) (.inr (by show w.heap.size ≤ gr; omega)) _, fun j hj => (by cases hj), fun S' hS => ?_⟩
   cases hS
   exact .inl ⟨by rw [HLE.out]; exact he, by rw [HLE.out]⟩

end Go.Proofs.YtaidkmnbjbnciaaGreatDoor

/- slices.SortFunc over rows of structs: between the shelf's words and mine. -/
namespace Go.Proofs.YtaidkmnbjbnciaaGreatDoor
set_option linter.unusedVariables false
set_option linter.unusedSimpArgs false
open Go.RowKit Go.Sort Go.Shelf

section
variable {α : Type} {enc : α → List Value} {k : Nat}
variable [Inhabited α]
theorem flatK_at (hk : ∀ x, (enc x).length = k) (h0 : 0 < k) : ∀ (xs : List α) (t : Nat), t < xs.length * k → (xs.flatMap enc)[t]? = some (enc xs[t / k]!)[t % k]!
 | [], t, h => by simp at h
 | x :: xs, t, h => by
  rw [List.flatMap_cons]
  by_cases ht : t < k
  ·rw [List.getElem?_append_left (by rw [hk]; exact ht), Nat.div_eq_of_lt ht, Nat.mod_eq_of_lt ht]
   have : t < (enc x).length := by rw [hk]; exact ht
   simp [this]
  ·obtain ⟨s, rfl⟩ : ∃ s, t = s + k := ⟨t - k, by omega⟩
   rw [List.getElem?_append_right (by rw [hk]; omega), hk, Nat.add_sub_cancel, Nat.add_div_right _ h0, Nat.add_mod_right]
   have hs : s < xs.length * k := by rw [List.length_cons, Nat.add_mul] at h; omega
   rw [flatK_at hk h0 xs s hs]
   simp
end
end Go.Proofs.YtaidkmnbjbnciaaGreatDoor

/- SameLayout of the reference. -/
namespace Go.Proofs.YtaidkmnbjbnciaaGreatDoor
set_option linter.unusedVariables false
set_option linter.unusedSimpArgs false
open Go.RowKit Go.Sort Go.Shelf

def rulA (x : RulR) : Value := .agg #[.int .i64 x.kind, .string ⟨x.field.toArray⟩, .string ⟨x.ifs.toArray⟩, .string ⟨x.other.toArray⟩, .string ⟨x.thn.toArray⟩]
def rulEq (x y : RulR) : Bool := decide (x.kind = y.kind) && decide (x.field = y.field) && decide (x.ifs = y.ifs) && decide (x.other = y.other) && decide (x.thn = y.thn)
theorem rulEq_refl (x : RulR) : rulEq x x = true := by unfold rulEq; simp
instance : Inhabited RulR := ⟨⟨0, [], [], [], []⟩⟩

theorem eqTypeRul : Tryz.prog.stoodInHeld 103 = false := by kernel_rfl
theorem eqGuardTRul : Tryz.prog.eqGuardType Tryz.prog.depth 103 = false := by kernel_rfl
theorem eqStructRul : Tryz.prog.underlying 103 = some (.struct (Tryz.prog.fieldsOf 103)) := by kernel_rfl
set_option maxRecDepth 100000 in
set_option maxHeartbeats 2000000 in
theorem eqInRul (x y : RulR) (w : World) : Sem.run Tryz.prog (Op.equalIn 10000 103 (rulA x) (rulA y)) w = .ok (rulEq x y) w := by
 have us := Tryz.underlying9
 have ag := Tryz.isAgg9
 have zs := Tryz.sizeOf9
 have ui := Tryz.underlying3
 have ai := Tryz.isAgg3
 have zi := Tryz.sizeOf3
 have hS := eqStructRul
 unfold rulA rulEq
 rw [show (10000 : Nat) = 9999 + 1 from rfl, run_equalIn_agg w 9999 103 _ _ hS eqTypeRul]
 simp only [Program.fieldsOf, Tryz.underlying103]
 clear hS
 go_simp
 (repeat' split) <;> simp_all
theorem neqRul (x y : RulR) (w : World) : Sem.run Tryz.prog (binOp .neq 103 (rulA x) (rulA y)) w = .ok (.bool (!rulEq x y)) w := by
 have h := eqInRul x y w
 unfold rulA at h ⊢
 rw [run_neq_struct, h]
 rfl
theorem guardRul (op : BinOp) (a b : Operand) (x y : RulR) (w : World) : Sem.run Tryz.prog (eqGuard op 103 a b (rulA x) (rulA y)) w = .ok () w :=
 run_eqGuard_agg w op 103 a b _ _ eqGuardTRul
theorem neqAtRul : NeqAt Tryz.prog 103 (fun x => .agg (rulC x).toArray) rulEq := ⟨neqRul, guardRul⟩


set_option maxRecDepth 100000 in
set_option maxHeartbeats 2000000 in
theorem equal0Rul_calls (w : World) (A1 A2 : Option Addr) (c1 c2 : Nat) : Calls Tryz.prog 77 #[.slice A1 0 c1, .slice A2 0 c2] w (BoolPost w true) := by
 go_enter Tryz.func77, Tryz.ntmps77
 go_wp2_with fail
 refine wp_loop_rounds 1 ?_
 rw [rounds_succ]
 go_wp2_with fail
 go_ret
 exact BoolPost.of rfl (Mod.refl _ _)
set_option maxHeartbeats 1000000 in
theorem equalRul_calls (w : World) (v1 v2 : Value) (xs : List RulR) (h1 : Sl w 103 5 v1 (rulV xs)) (h2 : Sl w 103 5 v2 (rulV xs)) : Calls Tryz.prog 77 #[v1, v2] w (BoolPost w true) := by
 obtain ⟨A1, n1, c1, rfl, a1, a2, a3, a4⟩ := h1
 obtain ⟨A2, n2, c2, rfl, b1, b2, b3, b4⟩ := h2
 rw [rulV_len] at a3 b3
 obtain rfl : n1 = xs.length := by omega
 obtain rfl : n2 = xs.length := by omega
 by_cases h0 : xs.length = 0
 ·rw [h0]
  exact equal0Rul_calls w A1 A2 c1 c2
 obtain ⟨g1, o1, rfl, r1⟩ := a4 (by omega)
 obtain ⟨g2, o2, rfl, r2⟩ := b4 (by omega)
 have hk : ∀ x, (rulC x).length = 5 := fun _ => rfl
 have hr : ∀ {g o : Nat}, RowAt w 103 g o (rulV xs) → ∀ j, j < xs.length → ∀ i v, (rulC xs[j]!)[i]? = some v → w.cell? ⟨g, o + j * 5 + i, none⟩ = some v := fun {g o} r j hj i v hv => by
  have hi : i < 5 := by
   rw [← hk xs[j]!]
   exact (List.getElem?_eq_some_iff.1 hv).1
  have h := r.cell (i := j * 5 + i) (u := v) (by
   show (xs.flatMap rulC)[j * 5 + i]? = some v
   rw [flatK_at hk (by omega) xs (j * 5 + i) (by omega), show (j * 5 + i) / 5 = j by omega, show (j * 5 + i) % 5 = i by omega]
   obtain ⟨h3, h4⟩ := List.getElem?_eq_some_iff.1 hv
   rw [getElem!_pos _ i h3, h4])
  rw [Nat.add_assoc]
  exact h
 refine (AnyQ.slices_Equal Tryz.eqRul 5 Tryz.isAgg103 Tryz.sizeOf103 rulC hk rulEq neqAtRul g1 o1 xs.length c1 g2 o2 xs.length c2 xs xs w (Nat.le_refl _) (Nat.le_refl _) (by omega) (by omega) (hr r1) (hr r2)).mono ?_
 rintro e w' ⟨rfl, q, rfl⟩
 rw [Lib.allEq_all rulEq _ _ rfl (fun j _ => rulEq_refl _)]
 exact BoolPost.of rfl ((Mod.refl _ _).drewN q)

def AskEl (W : World) (x : AskR) : Prop := Sl W 9 1 (.slice x.A x.ch.length x.c) (strsV x.ch)
theorem AskEl.pure {x : AskR} {w w' : World} (h : AskEl w x) (hm : Pure w w') : AskEl w' x := Sl.pure h hm
theorem Asks.el {w : World} {v : Value} {xs : List AskR} (h : Asks w v xs) {k : Nat} (hk : k < xs.length) : AskEl w xs[k] := h.2 _ (List.getElem_mem hk)
def askEqB (x y : AskR) : Bool := decide (x.field = y.field) && (decide (x.many = y.many) && (decide (x.spread = y.spread) && decide (x.ch = y.ch)))
theorem askEqB_iff (x y : AskR) : askEqB x y = true ↔ x.q = y.q := by
 unfold askEqB AskR.q
 simp only [Bool.and_eq_true, decide_eq_true_eq, Prod.mk.injEq]
 exact ⟨fun ⟨a, b, c, d⟩ => ⟨a, d, b, c⟩, fun ⟨a, d, b, c⟩ => ⟨a, b, c, d⟩⟩

set_option maxRecDepth 100000 in
set_option maxHeartbeats 4000000 in
theorem sameAsk_calls (w : World) (x y : AskR) (hx : AskEl w x) (hy : AskEl w y) : Calls Tryz.prog 79 #[.agg #[.string ⟨x.field.toArray⟩, .slice x.A x.ch.length x.c, .bool x.many, .int .i64 x.spread], .agg #[.string ⟨y.field.toArray⟩, .slice y.A y.ch.length y.c, .bool y.many, .int .i64 y.spread]] w (BoolPost w (askEqB x y)) := by
 obtain ⟨xf, xA, xc, xs, xm, xp⟩ := x
 obtain ⟨yf, yA, yc, ys, ym, yp⟩ := y
 simp only
 have hp : Pure w ((w.alloc (.cells #[.string ⟨xf.toArray⟩, .slice xA xs.length xc, .bool xm, .int .i64 xp] 99)).alloc (.cells #[.string ⟨yf.toArray⟩, .slice yA ys.length yc, .bool ym, .int .i64 yp] 99)) := (pure_alloc _ _).trans (pure_alloc _ _)
 have HP := Lib.hid hp
 have HE := Lib.hid (equalG_calls _ _ _ xs ys (Sl.pure hx hp) (Sl.pure hy hp))
 have HQ : Hid (askEqB ⟨xf, xA, xc, xs, xm, xp⟩ ⟨yf, yA, yc, ys, ym, yp⟩ = (decide (xf = yf) && (decide (xm = ym) && (decide (xp = yp) && decide (xs = ys))))) := Lib.hid rfl
 clear hp hx hy
 generalize askEqB ⟨xf, xA, xc, xs, xm, xp⟩ ⟨yf, yA, yc, ys, ym, yp⟩ = q at *
 generalize decide (xs = ys) = fc at *
 by_cases hno : xf = yf
 rotate_left
 ·have tno : (xf == yf) = false := by simpa using hno
  have HQ2 : Hid (q = false) := Lib.hid (by rw [HQ.out]; simp [hno])
  clear HQ hno HE
  go_enter Tryz.func79, Tryz.ntmps79
  go_wp2_with fail
  go_ret
  exact BoolPost.of HQ2.out HP.out
 subst hno
 have tno : (xf == xf) = true := by simp
 by_cases hat : xm = ym
 rotate_left
 ·have tat : (xm == ym) = false := by simpa using hat
  have HQ2 : Hid (q = false) := Lib.hid (by rw [HQ.out]; simp [hat])
  clear HQ hat HE
  go_enter Tryz.func79, Tryz.ntmps79
  go_wp2_with fail
  go_ret
  exact BoolPost.of HQ2.out HP.out
 subst hat
 have tat : (xm == xm) = true := by simp
 by_cases hsp : xp = yp
 rotate_left
 ·have tsp : (xp == yp) = false := by simpa using hsp
  have HQ2 : Hid (q = false) := Lib.hid (by rw [HQ.out]; simp [hsp])
  clear HQ hsp HE
  go_enter Tryz.func79, Tryz.ntmps79
  go_wp2_with fail
  go_ret
  exact BoolPost.of HQ2.out HP.out
 subst hsp
 have tsp : (xp == xp) = true := by simp
 have HQ2 : Hid (q = fc) := Lib.hid (by rw [HQ.out]; simp)
 clear HQ
 go_enter Tryz.func79, Tryz.ntmps79
 go_wp2_with fail
 refine HE.out.mono ?_
 rintro e w1 ⟨rfl, m1⟩
 go_wp2_with fail
 go_ret
 exact BoolPost.of HQ2.out (HP.out.trans m1)

set_option maxRecDepth 100000 in
set_option maxHeartbeats 2000000 in
theorem equalAsk_calls (w : World) (v1 v2 : Value) (xs ys : List AskR) (h1 : Asks w v1 xs) (h2 : Asks w v2 ys) :
  Calls Tryz.prog 78 #[v1, v2, .func (.func 79) #[] #[]] w (BoolPost w (eqL askEqB xs ys)) := by
 obtain ⟨A1, n1, c1, rfl⟩ := h1.1.form
 obtain ⟨A2, n2, c2, rfl⟩ := h2.1.form
 have hb : n1 ≤ 9223372036854775807 := by have := Sl.capL h1.1; omega
 have hn1 := h1.len
 have hn2 := h2.len
 subst hn1 hn2
 have H1 := Lib.hid h1
 have H2 := Lib.hid h2
 have hcf : ∀ (x y : Value) (W : World), Sem.run Tryz.prog (callFunc 79 #[x, y]) W = .ok (.enter 79 #[x, y]) W := fun _ _ _ => rfl
 clear h1 h2
 by_cases hlen : xs.length = ys.length
 ·have HLN := Lib.hid hlen
  have hlx := Nat.le_of_eq hlen
  have hly := Nat.le_of_eq hlen.symm
  have hne : ((xs.length : Int) != (ys.length : Int)) = false := by rw [hlen]; simp
  clear hlen
  go_enter Tryz.func78, Tryz.ntmps78
  go_wp2_with fail
  go_loopg [17] xs.length (fun gk i wr => ∃ k : Nat, xs.length - k = gk ∧ k ≤ xs.length ∧ i = .int .i64 (k : Int) ∧ Hid (eqL askEqB (xs.drop k) (ys.drop k) = eqL askEqB xs ys) ∧ Pure w wr)
  case atStart => exact ⟨0, by omega, by omega, rfl, Lib.hid rfl, Mod.refl _ _⟩
  case round =>
   obtain ⟨k, rfl, hk, rfl, HT, hm⟩ := hrel
   by_cases hlt : k < xs.length
   ·have hky : k < ys.length := by omega
    obtain ⟨g1, o1, rfl, q0, q1, q2, q3⟩ := Asks.cells (H1.out.pure hm) hlt
    obtain ⟨g2, o2, rfl, p0, p1, p2, p3⟩ := Asks.cells (H2.out.pure hm) hky
    have s1 := Asks.el (H1.out.pure hm) hlt
    have s2 := Asks.el (H2.out.pure hm) hky
    have HS0 := Lib.hid (eqL_step askEqB hlt hky)
    have HC := Lib.hid (fun W (h : Pure wr W) => sameAsk_calls W xs[k] ys[k] (AskEl.pure s1 h) (AskEl.pure s2 h))
    clear s1 s2
    generalize xs[k] = x at *
    generalize ys[k] = y at *
    have r0 := cell_alloc p0 (.cells #[.string ⟨x.field.toArray⟩, .slice x.A x.ch.length x.c, .bool x.many, .int .i64 x.spread] 99)
    have r1 := cell_alloc p1 (.cells #[.string ⟨x.field.toArray⟩, .slice x.A x.ch.length x.c, .bool x.many, .int .i64 x.spread] 99)
    have r2 := cell_alloc p2 (.cells #[.string ⟨x.field.toArray⟩, .slice x.A x.ch.length x.c, .bool x.many, .int .i64 x.spread] 99)
    have r3 := cell_alloc p3 (.cells #[.string ⟨x.field.toArray⟩, .slice x.A x.ch.length x.c, .bool x.many, .int .i64 x.spread] 99)
    have HP : Hid (Pure wr ((wr.alloc (.cells #[.string ⟨x.field.toArray⟩, .slice x.A x.ch.length x.c, .bool x.many, .int .i64 x.spread] 99)).alloc (.cells #[.string ⟨y.field.toArray⟩, .slice y.A y.ch.length y.c, .bool y.many, .int .i64 y.spread] 99))) := Lib.hid ((pure_alloc _ _).trans (pure_alloc _ _))
    have HM := Lib.hid (hm.trans HP.out)
    have HC2 := Lib.hid (HC.out _ HP.out)
    have HNX := Lib.hid (HT.out.symm.trans HS0.out)
    have i1 : (0 : Int) ≤ (k : Int) := by omega
    have i2 : (k : Int) < (xs.length : Int) := by omega
    have i3 : (k : Int) < (ys.length : Int) := by omega
    clear hm HT HS0 HC p0 p1 p2 p3
    generalize askEqB x y = fb at *
    go_wp2_with fail
    refine HC2.out.mono ?_
    rintro e w1 ⟨rfl, hm1⟩
    cases fb
    ·have HZ := HNX.out
     rw [Bool.false_and] at HZ
     have HZ2 := Lib.hid HZ
     clear HNX HZ
     go_wp2_with fail
     go_ret
     exact BoolPost.of HZ2.out (HM.out.trans hm1)
    ·have HZ := HNX.out
     rw [Bool.true_and] at HZ
     have HZ2 := Lib.hid HZ
     clear HNX HZ
     go_wp2_with fail
     go_roundg (xs.length - (k + 1))
     case measure => omega
     case rel => exact ⟨k + 1, rfl, by omega, by simp, Lib.hid HZ2.out.symm, HM.out.trans hm1⟩
   ·have HZ : Hid (eqL askEqB xs ys = true) := Lib.hid (by
     rw [← HT.out, List.drop_of_length_le (by omega), List.drop_of_length_le (by have := HLN.out; omega)]; rfl)
    have hke : k = xs.length := by omega
    subst hke
    clear HT
    go_wp2_with fail
    go_ret
    exact BoolPost.of HZ.out hm
 ·have HZ : Hid (eqL askEqB xs ys = false) := Lib.hid (eqL_len askEqB hlen)
  have hne : ((xs.length : Int) != (ys.length : Int)) = true := by rw [bne_iff_ne]; omega
  clear hlen
  go_enter Tryz.func78, Tryz.ntmps78
  go_wp2_with fail
  go_ret
  exact BoolPost.of HZ.out (Mod.refl _ _)


set_option maxRecDepth 100000 in
set_option maxHeartbeats 4000000 in
theorem sameLayout_calls (w : World) (v1 v2 : Value) (L1 L2 : LayR) (h1 : LayV w L1 v1) (h2 : LayV w L2 v2) (hq : L1.asks.map AskR.q = L2.asks.map AskR.q) (hr : L1.rules = L2.rules) : Calls Tryz.prog 15 #[v1, v2] w (BoolPost w true) := by
 obtain ⟨A1, n1, c1, B1, m1, d1, rfl, ha1, hr1⟩ := h1
 obtain ⟨A2, n2, c2, B2, m2, d2, rfl, ha2, hr2⟩ := h2
 obtain ⟨al1, rs1⟩ := L1
 obtain ⟨al2, rs2⟩ := L2
 simp only at ha1 hr1 ha2 hr2 hq hr
 subst hr
 have hp : Pure w ((w.alloc (.cells #[.slice A1 n1 c1, .slice B1 m1 d1] 29)).alloc (.cells #[.slice A2 n2 c2, .slice B2 m2 d2] 29)) := (pure_alloc _ _).trans (pure_alloc _ _)
 have HP := Lib.hid hp
 have HE := Lib.hid (equalRul_calls _ _ _ rs1 (Sl.pure hr1 hp) (Sl.pure hr2 hp))
 have HF := Lib.hid (fun W (h : Pure ((w.alloc (.cells #[.slice A1 n1 c1, .slice B1 m1 d1] 29)).alloc (.cells #[.slice A2 n2 c2, .slice B2 m2 d2] 29)) W) => equalAsk_calls W _ _ al1 al2 ((ha1.pure hp).pure h) ((ha2.pure hp).pure h))
 rw [eqL_map askEqB_iff |>.2 hq] at HF
 have HB1 := Lib.hid ((Blk.new w 29 #[.slice A1 n1 c1, .slice B1 m1 d1]).alloc (.cells #[.slice A2 n2 c2, .slice B2 m2 d2] 29))
 have HB2 := Lib.hid (Blk.snd w (.cells #[.slice A1 n1 c1, .slice B1 m1 d1] 29) 29 #[.slice A2 n2 c2, .slice B2 m2 d2])
 clear hp ha1 ha2 hr1 hr2 hq
 go_enter Tryz.func15, Tryz.ntmps15
 go_wp2_with fail
 refine HE.out.mono ?_
 rintro e w1 ⟨rfl, m1⟩
 have hB1 := HB1.out.modp m1
 have hB2 := HB2.out.modp m1
 have HF1 := Lib.hid (HF.out w1 m1)
 have HP1 := Lib.hid (HP.out.trans m1)
 have x0 := hB1.cell 0; have x1 := hB1.cell 1; simp at x0 x1
 have y0 := hB2.cell 0; have y1 := hB2.cell 1; simp at y0 y1
 clear hB1 hB2 HE HF m1 HP
 go_wp2_with fail
 refine HF1.out.mono ?_
 rintro e w2 ⟨rfl, m2⟩
 go_wp2_with fail
 go_ret
 exact BoolPost.of rfl (HP1.out.trans m2)

end Go.Proofs.YtaidkmnbjbnciaaGreatDoor

/- A text of which some bytes are changed. -/
namespace Go.Proofs.YtaidkmnbjbnciaaGreatDoor
set_option linter.unusedVariables false
set_option linter.unusedSimpArgs false
open Go.RowKit

theorem cloneStr_calls (w : World) (s : Str) (hs : s.length ≤ 1000000) : Calls Tryz.prog 68 #[.string ⟨s.toArray⟩] w (JnPost w s) := by
 have HC := Lib.hid (Any.stringslite_Clone Tryz.laysM316 ⟨s.toArray⟩ w (by show s.toArray.size ≤ _; simp; omega))
 go_enter Tryz.func68, Tryz.ntmps68
 go_wp2_with fail
 refine HC.out.mono ?_
 rintro e w1 ⟨rfl, hb⟩
 go_wp2_with fail
 go_ret
 exact ⟨rfl, Mod.of_below hb⟩
def NeaPost (w : World) (b N n : Nat) (e : Ending) (w' : World) : Prop := ∃ s : Str, s.length ≤ n ∧ e = .returned (.string ⟨s.toArray⟩) ∧ Strm w' b (N + 8) ∧ Mod (· = b) w w'
def NeaRel (w : World) (b N m t wi : Nat) (gk : Nat) (x i : Value) (wr : World) : Prop :=
 ∃ (k : Nat) (s : Str), m - k = gk ∧ k ≤ m ∧ x = .string ⟨s.toArray⟩ ∧ i = .int .i64 (k : Int) ∧ s.length ≤ t + k * wi ∧ Strm wr b (N + 1 + 3 * k) ∧ Mod (· = b) w wr

set_option maxRecDepth 100000 in
set_option maxHeartbeats 4000000 in
theorem nearly_calls (w : World) (b N : Nat) (t wi : Str) (n : Nat) (hS : Strm w b N) (hN : N ≤ 10000000) (hn : t.length + 2 * wi.length ≤ n) (hn2 : n ≤ 100000) (h1 : 1 ≤ wi.length) (h2 : wi.length ≤ 1000) (h3 : ∀ i (h : i < (⟨wi.toArray⟩ : ByteArray).size), (⟨wi.toArray⟩ : ByteArray)[i].toNat < 128) :
  Calls Tryz.prog 11 #[.pointer (some ⟨b, 0, none⟩), .string ⟨t.toArray⟩, .string ⟨wi.toArray⟩] w (NeaPost w b N n) := by
 have H3 := Lib.hid h3
 have hbw := hS.lt
 go_enter Tryz.func11, Tryz.ntmps11
 go_wp2_with fail
 refine (pickv_calls _ b _ w.heap.size _ _ #[.int .i64 0, .int .i64 1, .int .i64 1, .int .i64 2] (hS.alloc _) (Blk.new _ _ _) (by omega) (by omega) rfl (by decide) (by decide) rfl).mono ?_
 rintro e w6 ⟨mI, hmem, rfl, hS6, hM6⟩
 have hm02 : 0 ≤ mI ∧ mI ≤ 2 := by
  have : mI = 0 ∨ mI = 1 ∨ mI = 1 ∨ mI = 2 := by simpa [intsOf, Go.RowKit.intOf] using hmem
  omega
 obtain ⟨m, rfl⟩ := Int.eq_ofNat_of_zero_le hm02.1
 have hm2 : m ≤ 2 := by omega
 have HM6 : Hid (Mod (· = b) w w6) := Lib.hid (((Mod.refl (· = b) w).alloc _).trans hM6)
 clear hmem hm02 hM6 h3 hS
 go_wp2_with fail
 go_loopg [1, 10] m (fun gk x i wr => NeaRel w b N m t.length wi.length gk x i wr)
 case atStart => exact ⟨0, t, rfl, by omega, rfl, rfl, by omega, hS6, HM6.out⟩
 case round =>
  clear HM6 hS6
  obtain ⟨k, s, rfl, hk, rfl, rfl, hs, hS, hm⟩ := hrel
  have hkw : k * wi.length ≤ 2 * wi.length := Nat.mul_le_mul_right _ (by omega)
  by_cases hlt : k < m
  ·have HC := Lib.hid (changed_calls wr b _ ⟨s.toArray⟩ ⟨wi.toArray⟩ hS (by omega) (by show s.toArray.size ≤ _; simp; omega) (by show 1 ≤ wi.toArray.size; simp; omega) (by show wi.toArray.size ≤ _; simp; omega) H3.out)
   have HM := Lib.hid hm
   clear hm hS
   go_wp2_with fail
   refine HC.out.mono ?_
   rintro e w7 ⟨a, ha, rfl, hS7, hm7⟩
   have HM7 := Lib.hid (HM.out.trans hm7)
   have ha2 : a.data.toList.length ≤ t.length + (k + 1) * wi.length := by
    have : a.size ≤ s.toArray.size + wi.toArray.size := ha
    simp at this
    rw [Nat.add_mul]
    show a.data.size ≤ _
    have e : a.data.size = a.size := rfl
    omega
   have he : a = ⟨a.data.toList.toArray⟩ := by simp
   clear HC hm7 HM ha
   rw [he]
   generalize a.data.toList = l at *
   clear he
   go_wp2_with fail
   go_roundg (m - (k + 1))
   case measure => omega
   case rel => exact ⟨k + 1, l, rfl, by omega, rfl, by simp, ha2, hS7.more (by omega), HM7.out⟩
  ·obtain rfl : k = m := by omega
   have HC := Lib.hid (cloneStr_calls wr s (by omega))
   have HM := Lib.hid hm
   clear hm
   go_wp2_with fail
   refine HC.out.mono ?_
   rintro e w7 ⟨rfl, hm7⟩
   go_wp2_with fail
   go_ret
   exact ⟨s, by omega, rfl, (hS.pure hm7).more (by omega), HM.out.transp hm7⟩

end Go.Proofs.YtaidkmnbjbnciaaGreatDoor

/- The law LayoutTexts. -/
namespace Go.Proofs.YtaidkmnbjbnciaaGreatDoor
set_option linter.unusedVariables false
set_option linter.unusedSimpArgs false
open Go.RowKit

/-- What a reading answers, but for the places of slices. -/
def RdForm (r : Nat ⊕ RdS) (i f : Int) (L : LayR) : Prop :=
 (∃ j : Nat, r = .inl j ∧ i = (j : Int) ∧ f = 9 ∧ L = ⟨[], []⟩) ∨ (∃ S, r = .inr S ∧ layE (layS S) ≠ 0 ∧ i = 0 ∧ f = layE (layS S) ∧ L = ⟨[], []⟩) ∨ (∃ S, r = .inr S ∧ layE (layS S) = 0 ∧ i = 0 ∧ f = 0 ∧ L.asks.map AskR.q = S.asks ∧ L.rules = S.rules)
theorem layV_nil (w : World) : LayV w ⟨[], []⟩ (.agg #[.slice none 0 0, .slice none 0 0]) := ⟨none, 0, 0, none, 0, 0, rfl, ⟨Sl.nil_, fun x hx => absurd hx (by simp)⟩, Sl.nil_⟩
theorem RdRes.form {r : Nat ⊕ RdS} {e : Ending} {w' : World} (h : RdRes r e w') : ∃ (A : Option Addr) (n c : Nat) (A2 : Option Addr) (n2 c2 : Nat) (L : LayR) (i f : Int), e = .returned (.tuple #[.agg #[.slice A n c, .slice A2 n2 c2], .int .i64 i, .int .i64 f]) ∧ LayV w' L (.agg #[.slice A n c, .slice A2 n2 c2]) ∧ RdForm r i f L := by
 obtain ⟨h1, h2⟩ := h
 cases r with
 | inl j => exact ⟨none, 0, 0, none, 0, 0, ⟨[], []⟩, j, 9, h1 j rfl, layV_nil _, .inl ⟨j, rfl, rfl, rfl, rfl⟩⟩
 | inr S =>
  rcases h2 S rfl with ⟨h3, h4⟩ | ⟨h3, A, n, c, A2, n2, c2, L, h4, h5, h6, h7⟩
  ·exact ⟨none, 0, 0, none, 0, 0, ⟨[], []⟩, 0, _, h4, layV_nil _, .inr (.inl ⟨S, rfl, h3, rfl, rfl, rfl⟩)⟩
  ·exact ⟨A, n, c, A2, n2, c2, L, 0, 0, h7, h6, .inr (.inr ⟨S, rfl, h3, rfl, rfl, h4, h5⟩)⟩
theorem RdForm.same {r : Nat ⊕ RdS} {i f i2 f2 : Int} {L L2 : LayR} (h : RdForm r i f L) (k : RdForm r i2 f2 L2) : i = i2 ∧ f = f2 ∧ L.asks.map AskR.q = L2.asks.map AskR.q ∧ L.rules = L2.rules := by
 rcases h with ⟨j, e, rfl, rfl, rfl⟩ | ⟨S, e, h0, rfl, rfl, rfl⟩ | ⟨S, e, h0, rfl, rfl, h1, h2⟩ <;> rcases k with ⟨j2, e2, rfl, rfl, rfl⟩ | ⟨S2, e2, k0, rfl, rfl, rfl⟩ | ⟨S2, e2, k0, rfl, rfl, k1, k2⟩ <;> rw [e] at e2 <;> cases e2
 ·exact ⟨rfl, rfl, rfl, rfl⟩
 ·exact ⟨rfl, rfl, rfl, rfl⟩
 ·exact absurd k0 h0
 ·exact absurd h0 k0
 ·exact ⟨rfl, rfl, by rw [h1, k1], by rw [h2, k2]⟩
def txI : Str := [32, 10, 97, 115, 107, 111, 110, 101, 32, 114, 117, 108, 101]

set_option maxRecDepth 100000 in
set_option maxHeartbeats 8000000 in
theorem LayoutTexts_calls (w : World) (A : Option Addr) (n c : Nat) (hA : ArgInts w A n) (hM : MlnS w) (hT : Asc w) : Calls Tryz.prog 3 #[.slice A n c] w (BoolPost w true) := by
 have hS0 := strm_new (c := c) hA
 have HMT : Hid (∀ w1, Pure w w1 → MlnS w1 ∧ Asc w1) := Lib.hid (fun _ h => ⟨hM.pure h, hT.pure h⟩)
 obtain ⟨b, hb⟩ : ∃ b, b = w.heap.size := ⟨_, rfl⟩
 have P0 := pure_alloc w (.cells #[.slice A n c, .int .i64 0] 25)
 have HPS : Hid (∀ {w1 w' : World}, Pure w w1 → Mod (· = b) w1 w' → Pure w w') := Lib.hid (fun k h => k.trans' h (fun i hi hlt => by omega))
 rw [← hb] at hS0
 clear hM hT hA
 go_enter Tryz.func3, Tryz.ntmps3
 go_wp2_with fail
 rw [← hb]
 generalize (w.alloc (.cells #[.slice A n c, .int .i64 0] 25)) = w0 at *
 clear hb
 refine (layout_calls w0 b _ hS0 (by omega)).mono ?_
 rintro e w1 ⟨Aa, Ar, na, ca, nr, cr, L, rfl, hL, hla, hlr, hab, hrb, hS1, hM1⟩
 have P1 := HPS.out P0 hM1
 have hLB : LayB L := ⟨by omega, by omega, hab, hrb⟩
 have HOK : Hid (layE L = 0 → LayOk L ∧ (layT L).length ≤ 200000) := Lib.hid (fun h => layE_ok h ⟨hab, hrb⟩ hla hlr)
 have hpl := pure_alloc w1 (.cells #[.slice Aa na ca, .slice Ar nr cr] 29)
 have HTX := Lib.hid (textLayout_calls (w1.alloc (.cells #[.slice Aa na ca, .slice Ar nr cr] 29)) Aa na ca Ar nr cr L (hL.pure hpl) hLB (HMT.out _ (P1.trans hpl)).2 HOK.out)
 have HLB := Lib.hid hLB
 have HG := Lib.hid (Blk.new w1 29 #[.slice Aa na ca, .slice Ar nr cr])
 have HP2 := Lib.hid (P1.trans hpl)
 have HL2 := Lib.hid (hL.pure hpl)
 have HS2 := Lib.hid (hS1.alloc (.cells #[.slice Aa na ca, .slice Ar nr cr] 29))
 have hg := HG.out
 have hb1 := hS1.lt
 have x0 := hg.cell 0; have x1 := hg.cell 1; simp at x0 x1
 clear hS0 P0 hM1 hL hab hrb hLB P1 hpl hg hS1 hla hlr
 go_wp2_with fail
 refine HTX.out.mono ?_
 rintro e w3 ⟨hm3, hcase⟩
 have hL3 := HL2.out.pure hm3
 have HG3 := Lib.hid (HG.out.modp hm3)
 have HP3 := Lib.hid (HP2.out.trans hm3)
 have HS3 := Lib.hid (HS2.out.pure hm3)
 obtain ⟨le, hle⟩ : ∃ le, layE L = le := ⟨_, rfl⟩
 obtain ⟨lt, hlt⟩ : ∃ lt, layT L = lt := ⟨_, rfl⟩
 obtain ⟨tx, rfl, htx⟩ : ∃ tx : Str, e = .returned (.tuple #[.string ⟨tx.toArray⟩, .int .i64 le]) ∧ ((le ≠ 0 ∧ tx = []) ∨ (le = 0 ∧ tx = lt)) := by
  rcases hcase with ⟨h1, h2⟩ | ⟨h1, h2⟩
  ·exact ⟨[], by rw [h2, hle], .inl ⟨by rw [← hle]; exact h1, rfl⟩⟩
  ·exact ⟨lt, by rw [h2, ← hle, h1, hlt], .inr ⟨by rw [← hle]; exact h1, rfl⟩⟩
 have HLF := Lib.hid (layoutFault_calls w3 _ L hL3 HLB.out)
 have HLL := Lib.hid (fun (h : le = 0) W (hm : Pure w3 W) => layoutLines_calls W Aa na ca Ar nr cr L (hL3.pure hm) (HOK.out (hle.trans h)).1 (HOK.out (hle.trans h)).2)
 unfold LlPost at HLL
 rw [hle] at HLF
 rw [hlt] at HLL
 have HTXS := Lib.hid htx
 have hg3 := HG3.out
 have y0 := hg3.cell 0; have y1 := hg3.cell 1; simp at y0 y1
 generalize w1.heap.size = gl at *
 clear x0 x1 hm3 hcase hL3 HL2 HS2 HLB HTX HG HP2 hg3 HOK hle hlt htx
 go_wp2_with fail
 refine HLF.out.mono ?_
 rintro e w4 ⟨rfl, hm4⟩
 have HG4 := Lib.hid (HG3.out.modp hm4)
 have HM4 := Lib.hid hm4
 have hg4 := HG4.out
 have x0 := hg4.cell 0; have x1 := hg4.cell 1; simp at x0 x1
 clear y0 y1 hm4 hg4 HLF HG3
 go_upto_region 5 with (fail)
 go_cut [45] (fun p wy => p = .bool false ∧ Pure w4 wy)
 case first =>
  rcases HTXS.out with ⟨hle, rfl⟩ | ⟨rfl, rfl⟩
  ·have hne : (le == 0) = false := by simpa using hle
   have hne2 : (le != 0) = true := by simpa using hle
   clear HTXS HLL
   go_wp2_with fail
   go_meet
   exact ⟨rfl, Mod.refl _ _⟩
  ·have hse : (tx != tx) = false := by simp
   have HLLW := Lib.hid (HLL.out rfl _ HM4.out)
   clear HTXS HLL
   go_wp2_with fail
   refine HLLW.out.mono ?_
   rintro e w6 ⟨rfl, hm6⟩
   go_wp2_with fail
   go_meet
   exact ⟨rfl, hm6⟩
 case rest =>
  obtain ⟨rfl, hm5⟩ := hcut
  have hS5 := (HS3.out.pure HM4.out).pure hm5
  have HP5 := Lib.hid ((HP3.out.trans HM4.out).trans hm5)
  clear x0 x1 hm5 HG4 HM4 HS3 HP3 HTXS HLL
  go_wp2_with fail
  refine (rightLayout_calls wc b _ hS5 (by omega)).mono ?_
  rintro e w6 ⟨A6, c6, B6, d6, al, rs, rfl, ho, ht, hr, hl2, hl3, hrl, hab, hrb, hS6, hM6⟩
  have HP6 := Lib.hid (HPS.out HP5.out hM6)
  have HV6 : Hid (LayV w6 ⟨al, rs⟩ (.agg #[.slice A6 al.length c6, .slice B6 rs.length d6])) := Lib.hid ⟨A6, _, c6, B6, _, d6, rfl, ⟨Sl.of_own ho, fun x hx => (ht x hx).1⟩, Sl.of_own hr⟩
  have hok := layG_ok (L := ⟨al, rs⟩) hl3 hrl hab hrb
  have HLT := Lib.hid (layoutLines_calls w6 A6 al.length c6 B6 rs.length d6 ⟨al, rs⟩ HV6.out hok.1 (by omega))
  have hll := hok.2
  unfold LlPost at HLT
  generalize layT ⟨al, rs⟩ = lt6 at *
  clear hok ho ht hr hl2 hl3 hrl hab hrb hS5 hM6 HP5 HV6
  go_wp2_with fail
  refine HLT.out.mono ?_
  rintro e w7 ⟨rfl, hm7⟩
  have hS7 := hS6.pure hm7
  have HP7 := Lib.hid (HP6.out.trans hm7)
  clear hm7 hS6 HLT HP6
  have HNE := Lib.hid (nearly_calls w7 b _ lt6 txI 201 hS7 (by omega) (by show lt6.length + 2 * 13 ≤ 201; omega) (by omega) (by decide) (by decide) (by decide))
  clear hS7
  go_wp2_with fail
  refine HNE.out.mono ?_
  rintro e w8 ⟨s, hs, rfl, hS8, hM8⟩
  have hp8 := HPS.out HP7.out hM8
  have HRD := Lib.hid (readG_calls w8 s hs (HMT.out _ hp8).1 (HMT.out _ hp8).2)
  have HP8 := Lib.hid hp8
  clear hM8 hp8 HNE HP7 hS8 hll
  go_wp2_with fail
  refine HRD.out.mono ?_
  rintro e w9 ⟨hm9, hr9⟩
  obtain ⟨A9, n9, c9, B9, k9, d9, L9, i9, f9, rfl, hL9, hF9⟩ := hr9.form
  have hp9 := HP8.out.trans hm9
  have hpl := pure_alloc w9 (.cells #[.slice A9 n9 c9, .slice B9 k9 d9] 29)
  have HL9 := Lib.hid (hL9.pure hpl)
  have HF9 := Lib.hid hF9
  have HG9 := Lib.hid (Blk.new w9 29 #[.slice A9 n9 c9, .slice B9 k9 d9])
  have HP9 := Lib.hid (hp9.trans hpl)
  have HRR := Lib.hid (readR_calls (w9.alloc (.cells #[.slice A9 n9 c9, .slice B9 k9 d9] 29)) s hs (HMT.out _ (hp9.trans hpl)).1)
  clear hm9 hr9 hL9 hF9 hp9 hpl HRD HP8
  go_wp2_with fail
  generalize (w9.alloc (.cells #[.slice A9 n9 c9, .slice B9 k9 d9] 29)) = wA at *
  generalize w9.heap.size = g9 at *
  refine HRR.out.mono ?_
  rintro e wB ⟨hmB, hrB⟩
  obtain ⟨AB, nB, cB, BB, kB, dB, LB, iB, fB, rfl, hLB, hFB⟩ := hrB.form
  obtain ⟨rfl, rfl, hq, hru⟩ := HF9.out.same hFB
  have hpl := pure_alloc wB (.cells #[.slice AB nB cB, .slice BB kB dB] 29)
  have HPB := Lib.hid ((HP9.out.trans hmB).trans hpl)
  have HG9B := Lib.hid ((HG9.out.modp hmB).modp hpl)
  have HGB := Lib.hid (Blk.new wB 29 #[.slice AB nB cB, .slice BB kB dB])
  have HSL := Lib.hid (fun W (h : Pure (wB.alloc (.cells #[.slice AB nB cB, .slice BB kB dB] 29)) W) => sameLayout_calls W _ _ L9 LB (((HL9.out.pure hmB).pure hpl).pure h) ((hLB.pure hpl).pure h) hq hru)
  have HDC := Lib.hid (fun W (h : Pure (wB.alloc (.cells #[.slice AB nB cB, .slice BB kB dB] 29)) W) => decides_calls W (HMT.out _ (HPB.out.trans h)).1 (HMT.out _ (HPB.out.trans h)).2)
  clear hmB hrB hLB hFB hq hru hpl HF9 HG9 HP9 HRR HL9
  have hg9 := HG9B.out
  have hgb := HGB.out
  have x0 := hg9.cell 0; have x1 := hg9.cell 1; simp at x0 x1
  have y0 := hgb.cell 0; have y1 := hgb.cell 1; simp at y0 y1
  clear hg9 hgb
  go_wp2_with fail
  refine (HSL.out _ (Mod.refl _ _)).mono ?_
  rintro e wE ⟨rfl, hmE⟩
  have HDCE := Lib.hid (HDC.out _ hmE)
  clear HSL HDC x0 x1 y0 y1 HG9B HGB
  go_wp2_with fail
  refine HDCE.out.mono ?_
  rintro e wF ⟨rfl, hmF⟩
  have HPF := Lib.hid ((HPB.out.trans hmE).trans hmF)
  clear hmE hmF HDCE
  go_wp2_with fail
  go_ret
  exact BoolPost.of rfl HPF.out

end Go.Proofs.YtaidkmnbjbnciaaGreatDoor
