/- Texts of the proof of CodingSpreads, put together: CntG, ItmK, ItmI, ItmJ, ItmL, ItmM, LawR, LayFie, RdA, RdB, LawCodingSpreads, LayM6, LaidV, LayM1, LaidS. -/
import Derived.Test.YtpinlcapgoljfaaGreatDoorCodingSpreadsZ10
import Derived.Test.YtpinlcapgoljfaaGreatDoorCodingSpreadsZ11
import Derived.Test.YtpinlcapgoljfaaGreatDoorCodingSpreadsZ12
import Derived.Test.YtpinlcapgoljfaaGreatDoorCodingSpreadsZ14
import Derived.Test.YtpinlcapgoljfaaGreatDoorCodingSpreadsZ17
import Derived.Test.YtpinlcapgoljfaaGreatDoorCodingSpreadsZ18
import Derived.Test.YtpinlcapgoljfaaGreatDoorCodingSpreadsZ20
import Derived.Test.YtpinlcapgoljfaaGreatDoorCodingSpreadsZ22
import Derived.Test.YtpinlcapgoljfaaGreatDoorCodingSpreadsZ23
import Derived.Test.YtpinlcapgoljfaaGreatDoorCodingSpreadsZ25
import Derived.Test.YtpinlcapgoljfaaGreatDoorCodingSpreadsZ32
import Derived.Test.YtpinlcapgoljfaaGreatDoorCodingSpreadsZ36
import Derived.Test.YtpinlcapgoljfaaGreatDoorCodingSpreadsZ37
import Derived.Deep.DeepCutAuto
import Derived.Deep.CutBlock
import Derived.Ground.NamesProg
import Derived.Shelf.Strings.Fields
import Derived.Test.YtpinlcapgoljfaaGreatDoorProg
import Derived.Lib.LaidTab
import Derived.Deep.AppendLies
import Derived.Shelf.LaysM
import Derived.Test.YtpinlcapgoljfaaGreatDoorRows
import Derived.Stop.LaidErr
import Derived.ProofKit
import Derived.Lib.LaidU8T
set_option linter.unusedVariables false
set_option linter.unusedSimpArgs false
/- The generator Coded. -/
namespace Go.Proofs.YtpinlcapgoljfaaGreatDoor
open Go.RowKit

/-- Codings that do not lie in block b, in a row of one's own. -/
def CcB (W : World) (b base : Nat) (A : Option Addr) (c : Nat) (xs : List CodR) : Prop := b < base ∧ W.ownsRow base 76 2 (.slice A xs.length c) xs.length (cdV xs) ∧ ∀ x ∈ xs, VlsB W b (.slice x.A x.vals.length x.c) x.vals
theorem CcB.ask {w w' : World} {b base c : Nat} {A : Option Addr} {xs : List CodR} (h : CcB w b base A c xs) (hm : Mod (· = b) w w') : CcB w' b base A c xs :=
 ⟨h.1, own_mod h.2.1 hm (fun g hg => by have := own_block h.2.1 g hg; have := h.1; omega), fun x hx => (h.2.2 x hx).ask hm⟩
theorem CcB.pure {w w' : World} {b base c : Nat} {A : Option Addr} {xs : List CodR} (h : CcB w b base A c xs) (hm : Pure w w') : CcB w' b base A c xs :=
 ⟨h.1, own_pure h.2.1 hm, fun x hx => (h.2.2 x hx).pure hm⟩
theorem CcB.cods {w : World} {b base c : Nat} {A : Option Addr} {xs : List CodR} (h : CcB w b base A c xs) : Cods w (.slice A xs.length c) xs := ⟨Sl.of_own h.2.1, fun x hx => (h.2.2 x hx).1⟩
theorem VlsB.modC {w w' : World} {S : Nat → Prop} {b : Nat} {v : Value} {cs : List ChoR} (h : VlsB w b v cs) (hm : Mod S w w') (h1 : ∀ g arr fr, w.heap[g]? = some (.cells arr 125 fr) → ¬ S g) (h2 : ∀ g arr fr, w.heap[g]? = some (.cells arr 9 fr) → ¬ S g) : VlsB w' b v cs := ⟨h.1.mod hm h1 h2, h.2⟩
theorem CcB.app {w w' : World} {b base n' c c5 : Nat} {A A5 : Option Addr} {xs : List CodR} {x : CodR} (h : CcB w b base A c xs) (hx : VlsB w b (.slice x.A x.vals.length x.c) x.vals) (hm : Mod (fun j => (Value.slice A xs.length c).ownBlock = some j) w w') (hn : n' = xs.length + 1)
  (hown : w'.ownsRow base 76 2 (.slice A5 n' c5) n' (cdV xs ++ cdC x)) : CcB w' b base A5 c5 (xs ++ [x]) := by
 have hty1 : ∀ i arr fr, w.heap[i]? = some (.cells arr 125 fr) → ¬ (Value.slice A xs.length c).ownBlock = some i := fun i arr fr hi hv => absurd (own_ty h.2.1 hv hi) (by decide);have hty2 : ∀ i arr fr, w.heap[i]? = some (.cells arr 9 fr) → ¬ (Value.slice A xs.length c).ownBlock = some i := fun i arr fr hi hv => absurd (own_ty h.2.1 hv hi) (by decide);subst hn;refine ⟨h.1, by rw [cdV_snoc]; simpa using hown, fun y hy => ?_⟩
 rcases List.mem_append.1 hy with h1 | h1
 ·exact (h.2.2 y h1).modC hm hty1 hty2
 ·rw [List.mem_singleton.1 h1]; exact hx.modC hm hty1 hty2
theorem CcB.nil {w : World} {b base : Nat} (h : b < base) : CcB w b base none 0 [] := ⟨h, World.ownsRow_nil _ _ _ _, fun x hx => absurd hx (by simp)⟩
theorem own_ltC {w : World} {base n size : Nat} {e : TypeId} {v : Value} {xs : List Value} (h : w.ownsRow base e size v n xs) {j : Nat} (hj : v.ownBlock = some j) : j < w.heap.size := by
 obtain ⟨arr, ha⟩ := own_heap h hj;exact lt_of_heap ha
def CgPost (w : World) (b N m : Nat) (e : Ending) (w' : World) : Prop :=
 ∃ (base c : Nat) (A : Option Addr) (xs : List CodR), e = .returned (.slice A xs.length c) ∧ w.heap.size ≤ base ∧ CcB w' b base A c xs ∧ xs.length ≤ m ∧ (∀ x ∈ xs, CodB x) ∧ Strm w' b N ∧ Mod (· = b) w w'
def CgRel (w : World) (b N base gl m : Nat) (lay : Array Value) (gk : Nat) (o i : Value) (wr : World) : Prop :=
 ∃ (k cap : Nat) (Ao : Option Addr) (ys : List CodR), m - k = gk ∧ k ≤ m ∧ o = .slice Ao ys.length cap ∧ i = .int .i64 (k : Int) ∧ ys.length ≤ k ∧ (∀ y ∈ ys, CodB y) ∧ CcB wr b base Ao cap ys ∧ Blk wr gl 63 lay ∧ Strm wr b (N + 401 * k) ∧ Mod (· = b) w wr

set_option maxRecDepth 100000 in
set_option maxHeartbeats 16000000 in
theorem coded_calls (w : World) (b N : Nat) (vl : Value) (L : LayR) (Ai : Option Addr) (ci : Nat) (its : List Itm) (hS : Strm w b N) (hN : N ≤ 100000000) (hL : LayV w L vl) (hla : L.asks.length ≤ 3) (hLB : LayB L) (hI : Its w (.slice Ai its.length ci) its) (hni : its.length ≤ 20) (hid : ∀ x ∈ its, x.id.length ≤ 100) :
  Calls Tryz.prog 27 #[.pointer (some ⟨b, 0, none⟩), vl, .slice Ai its.length ci] w (CgPost w b (N + (401 * its.length + 402)) (its.length + 1)) := by
 obtain ⟨i0, hi0, hz0, hz1, hz2⟩ := info_parts info_cod;have hbl := hS.lt;have HLV : Hid (∀ W, Mod (· = b) w W → LayV W L vl) := Lib.hid (fun W h => hL.strm hS h);have HIT : Hid (∀ W, Mod (· = b) w W → Its W (.slice Ai its.length ci) its) := Lib.hid (fun W h => Sl.strm hI hS h (by decide));have HID := Lib.hid hid;have HAB := Lib.hid hLB.2.2.1;obtain ⟨A, n, c, A3, n3, c3, rfl, _, _⟩ := hL;have HB0 := Lib.hid (Blk.new w 63 #[.slice A n c, .slice A3 n3 c3]);have HM0 : Hid (Mod (· = b) w (w.alloc (.cells #[.slice A n c, .slice A3 n3 c3] 63))) := Lib.hid ((Mod.refl _ _).alloc _);have HS0 := Lib.hid (hS.alloc (.cells #[.slice A n c, .slice A3 n3 c3] 63));clear hS hI hid hLB
 go_enter Tryz.func27, Tryz.ntmps27
 go_upto_region 1 with (fail)
 generalize (w.alloc (.cells #[.slice A n c, .slice A3 n3 c3] 63)) = w1 at *;generalize hgl : w.heap.size = gl at *;have hgl3 := Nat.le_of_eq hgl;have hgl4 := Nat.le_of_eq hgl.symm;clear hgl;have hglb := HB0.out.lt;obtain ⟨base, hbase⟩ : ∃ base, base = gl + 1 := ⟨_, rfl⟩;have hs1 := Nat.le_of_eq hbase;have hs2 := Nat.le_of_eq hbase.symm;clear hbase
 go_wp2_with fail
 go_loopg [7, 12] its.length (fun gk o i wr => CgRel w b N base gl its.length #[.slice A n c, .slice A3 n3 c3] gk o i wr)
 case atStart => exact ⟨0, 0, none, [], by omega, by omega, rfl, rfl, by simp, fun y hy => absurd hy (by simp), CcB.nil (by omega), HB0.out, HS0.out.more (by omega), HM0.out⟩
 case round =>
  clear HB0 HS0;have hw1 := HM0.out.size;obtain ⟨k, cap, Ao, ys, rfl, hk, rfl, rfl, hyk, hyz, hcc, hB, hSt, hm⟩ := hrel;have hwr := hm.size;have hgr := hB.lt;have hbr := hSt.lt
  by_cases hlt : k < its.length
  ·obtain ⟨g, off, rfl, hrow⟩ : ∃ g off, Ai = some ⟨g, off, none⟩ ∧ RowAt wr 83 g off (itV its) := by
    obtain ⟨_, _, _, e, _, _, _, h⟩ := HIT.out wr hm
    cases e
    exact h (by omega)
   obtain ⟨q0, q1, q2, q3, q4, q5, q6⟩ := item_cells hrow hlt;have hxi := HID.out _ (List.getElem_mem hlt);have HB1 := Lib.hid (hB.alloc (.cells (itC its[k]).toArray 83));have HX1 := Lib.hid (Blk.new wr 83 (itC its[k]).toArray);have HC1 := Lib.hid (hcc.pure (pure_alloc wr (.cells (itC its[k]).toArray 83)));have HLT : Hid (∀ j, (Value.slice Ao ys.length cap).ownBlock = some j → j < wr.heap.size) := Lib.hid (fun j hj => own_ltC hcc.2.1 hj);have HM1 := Lib.hid (hm.alloc (.cells (itC its[k]).toArray 83));have HS1 := Lib.hid (hSt.alloc (.cells (itC its[k]).toArray 83));have HYZ := Lib.hid hyz;clear hcc hB hm hSt hyz hrow;generalize its[k] = x at *;simp only [itC] at HB1 HX1 HC1 HM1 HS1
   go_upto_region 5 with (fail)
   clear q0 q1 q2 q3 q4 q5 q6;generalize (wr.alloc (.cells #[.string ⟨x.id.toArray⟩, .string ⟨x.cust.toArray⟩, .int .i64 x.kind, .string ⟨x.name.toArray⟩, .int .i64 x.tm, .string ⟨x.par.toArray⟩, .string ⟨x.text.toArray⟩] 83)) = w2 at *;generalize hg9 : wr.heap.size = g9 at *;have hg9b := Nat.le_of_eq hg9;clear hg9
   go_wp2_with fail
   refine (flip_calls w2 b _ 2 HS1.out (by omega) (by omega) (by omega)).mono ?_;rintro e w3 ⟨kf, rfl, hS3, hm3⟩;have hgx := HX1.out.lt;have HB3 := Lib.hid (HB1.out.modb hm3 (by omega));have HX3 := Lib.hid (HX1.out.modb hm3 (by omega));have HC3 := Lib.hid (HC1.out.ask hm3);have HM3 := Lib.hid (HM1.out.trans hm3);have hw3 := hm3.size;clear hm3 HB1 HX1 HC1 HM1 HS1
   cases kf
   ·go_wp2_with fail
    go_roundg (its.length - (k + 1))
    case measure => omega
    case rel => exact ⟨k + 1, cap, Ao, ys, rfl, by omega, rfl, by simp, by omega, HYZ.out, HC3.out, HB3.out, hS3.more (by omega), HM3.out⟩
   ·go_upto_region 6 with (fail)
    have HGs := Lib.hid (show ∀ (D : Nat → Bool) (zzi : Nat) (zq zq' : World), zzi ≠ 8 → (fun D zq => (D 8 = false → (fun Z => CcB Z b base Ao cap ys) zq) ∧ (fun Z => Blk Z gl 63 #[.slice A n c, .slice A3 n3 c3] ∧ Blk Z g9 83 #[.string ⟨x.id.toArray⟩, .string ⟨x.cust.toArray⟩, .int .i64 x.kind, .string ⟨x.name.toArray⟩, .int .i64 x.tm, .string ⟨x.par.toArray⟩, .string ⟨x.text.toArray⟩]) zq) D zq → Mod (· = b) zq zq' → (fun D zq => (D 8 = false → (fun Z => CcB Z b base Ao cap ys) zq) ∧ (fun Z => Blk Z gl 63 #[.slice A n c, .slice A3 n3 c3] ∧ Blk Z g9 83 #[.string ⟨x.id.toArray⟩, .string ⟨x.cust.toArray⟩, .int .i64 x.kind, .string ⟨x.name.toArray⟩, .int .i64 x.tm, .string ⟨x.par.toArray⟩, .string ⟨x.text.toArray⟩]) zq) (upd D zzi true) zq' from by intro D zzi zq zq' hi hh hm; refine ⟨fun hs => ?_, ?_⟩; (rw [upd_ne _ _ (Ne.symm hi)] at hs; have h := hh.1 hs; (exact h.ask hm)); (have h := hh.2; (exact ⟨h.1.modb hm (by omega), h.2.modb hm (by omega)⟩)))
    refine wp_region_inv (by kernel_rfl) (by kernel_rfl) (InvF (R := Mod (· = b)) [.is (.slice Ao ys.length cap),
      .is (.pointer (some ⟨g9, 0, none⟩)),
      .is (.string ⟨x.id.toArray⟩),
      .is (.pointer (some ⟨b, 0, none⟩)),
      .is (.agg #[.slice A n c, .slice A3 n3 c3]),
      ⟨fun zv zw => ∃ (A_5 : Option Addr) (c_5 : Nat) (cs_5 : List ChoR), zv = .slice A_5 cs_5.length c_5 ∧ cs_5.length ≤ 10 ∧ (∀ x ∈ cs_5, ChoB x) ∧ VlsB zw b (.slice A_5 cs_5.length c_5) cs_5, (by rintro zv zw zx ⟨A_5, c_5, cs_5, rfl, c0, c1, q0⟩ hm; exact ⟨A_5, c_5, cs_5, rfl, c0, c1, (q0.ask hm)⟩), none, some 6⟩,
      ⟨fun zv zw => ∃ (A_6 : Option Addr) (c_6 : Nat) (cs_6 : List ChoR), zv = .agg #[.string ⟨x.id.toArray⟩, .slice A_6 cs_6.length c_6] ∧ cs_6.length ≤ 10 ∧ (∀ x ∈ cs_6, ChoB x) ∧ VlsB zw b (.slice A_6 cs_6.length c_6) cs_6, (by rintro zv zw zx ⟨A_6, c_6, cs_6, rfl, c0, c1, q0⟩ hm; exact ⟨A_6, c_6, cs_6, rfl, c0, c1, (q0.ask hm)⟩), none, some 7⟩,
      ⟨fun zv zw => ∃ (A_7 : Option Addr) (c_7 : Nat) (cs_7 : List ChoR) (g_7 : Nat), zv = .slice (some ⟨g_7, 0, none⟩) 1 1 ∧ cs_7.length ≤ 10 ∧ (∀ x ∈ cs_7, ChoB x) ∧ w3.heap.size ≤ g_7 ∧ Blk zw g_7 76 #[.string ⟨x.id.toArray⟩, .slice A_7 cs_7.length c_7] ∧ VlsB zw b (.slice A_7 cs_7.length c_7) cs_7, (by rintro zv zw zx ⟨A_7, c_7, cs_7, g_7, rfl, c0, c1, c2, q0, q1⟩ hm; exact ⟨A_7, c_7, cs_7, g_7, rfl, c0, c1, c2, (q0.modb hm (by omega)), (q1.ask hm)⟩), none, some 8⟩,
      ⟨fun zv zw => ∃ (A_8 : Option Addr) (cap_8 : Nat) (Av_8 : Option Addr) (cv_8 : Nat) (cs_8 : List ChoR), zv = .slice A_8 (ys.length + 1) cap_8 ∧ cs_8.length ≤ 10 ∧ (∀ x ∈ cs_8, ChoB x) ∧ CcB zw b base A_8 cap_8 (ys ++ [⟨x.id, Av_8, cv_8, cs_8⟩]), (by rintro zv zw zx ⟨A_8, cap_8, Av_8, cv_8, cs_8, rfl, c0, c1, q0⟩ hm; exact ⟨A_8, cap_8, Av_8, cv_8, cs_8, rfl, c0, c1, (q0.ask hm)⟩), none, none⟩,
      ⟨fun zv zw => ∃ (A_9 : Option Addr) (cap_9 : Nat) (Av_9 : Option Addr) (cv_9 : Nat) (cs_9 : List ChoR), zv = .slice A_9 (ys.length + 1) cap_9 ∧ cs_9.length ≤ 10 ∧ (∀ x ∈ cs_9, ChoB x) ∧ CcB zw b base A_9 cap_9 (ys ++ [⟨x.id, Av_9, cv_9, cs_9⟩]), (by rintro zv zw zx ⟨A_9, cap_9, Av_9, cv_9, cs_9, rfl, c0, c1, q0⟩ hm; exact ⟨A_9, cap_9, Av_9, cv_9, cs_9, rfl, c0, c1, (q0.ask hm)⟩), none, none⟩]
      (GB w (· = b) w3.heap.size b (N + 401 * k + 1) (fun D => 400 * (D 5).toNat) (fun D zq => (D 8 = false → (fun Z => CcB Z b base Ao cap ys) zq) ∧ (fun Z => Blk Z gl 63 #[.slice A n c, .slice A3 n3 c3] ∧ Blk Z g9 83 #[.string ⟨x.id.toArray⟩, .string ⟨x.cust.toArray⟩, .int .i64 x.kind, .string ⟨x.name.toArray⟩, .int .i64 x.tm, .string ⟨x.par.toArray⟩, .string ⟨x.text.toArray⟩]) zq))) (InvF.start (GB.start (hS3.more (by omega)) HM3.out (Nat.le_refl _) (⟨fun _ => HC3.out.pure (Mod.refl _ _).drew, ⟨HB3.out.drew, HX3.out.drew⟩⟩))) ?_ ?_
    ·refine .cons ?_ (.cons ?_ (.cons ?_ (.cons ?_ (.cons ?_ (.cons ?_ (.cons ?_ (.cons ?_ (.cons ?_ (.cons ?_ .nil)))))))))
     ·intro D V zw1 a hR hI K hK;obtain ⟨hS1, hM1, hB1, hG1⟩ := hI.1;obtain ⟨hGK, hG1⟩ := hG1;have ze7 := hR.frame.undone (t := 7) (j := 9) (by kernel_rfl) (hR.later 9 rfl (by kernel_rfl)) rfl;rw [if_pos (by rfl)];go_simp;exact hK (.slice Ao ys.length cap) _ (hI.next hR (by kernel_rfl) (Mod.refl _ _) (GB.quiet hI.1 (Mod.refl _ _) (by have hn := hR.not; simp [upd, hn] <;> omega) (HGs.out D 0 zw1 zw1 (by omega) (hI.1).g (Mod.refl _ _))) (upd_same V 0 _))
     ·intro D V zw1 a hR hI K hK;obtain ⟨hS1, hM1, hB1, hG1⟩ := hI.1;obtain ⟨hGK, hG1⟩ := hG1;have ze9 := hR.frame.other (t := 9) (by kernel_rfl) rfl;rw [if_pos (by rfl)];go_simp;exact hK (.pointer (some ⟨g9, 0, none⟩)) _ (hI.next hR (by kernel_rfl) (Mod.refl _ _) (GB.quiet hI.1 (Mod.refl _ _) (by have hn := hR.not; simp [upd, hn] <;> omega) (HGs.out D 1 zw1 zw1 (by omega) (hI.1).g (Mod.refl _ _))) (upd_same V 1 _))
     ·intro D V zw1 a hR hI K hK;obtain ⟨hS1, hM1, hB1, hG1⟩ := hI.1;obtain ⟨hGK, hG1⟩ := hG1;have zd1 := hR.pred 1 (by kernel_rfl);have zf1 : V 1 = .pointer (some ⟨g9, 0, none⟩) := hI.2 1 zd1 rfl;have ze19 := hR.frame.done (t := 19) (j := 1) (by kernel_rfl) hR.ok zd1;have zx0 := hG1.2.cell 0; have zx1 := hG1.2.cell 1; have zx2 := hG1.2.cell 2; have zx3 := hG1.2.cell 3; have zx4 := hG1.2.cell 4; have zx5 := hG1.2.cell 5; have zx6 := hG1.2.cell 6;simp at zx0 zx1 zx2 zx3 zx4 zx5 zx6;rw [if_pos (by rfl)];go_simp;exact hK (.string ⟨x.id.toArray⟩) _ (hI.next hR (by kernel_rfl) (Mod.refl _ _) (GB.quiet hI.1 (Mod.refl _ _) (by have hn := hR.not; simp [upd, hn] <;> omega) (HGs.out D 2 zw1 zw1 (by omega) (hI.1).g (Mod.refl _ _))) (upd_same V 2 _))
     ·intro D V zw1 a hR hI K hK;obtain ⟨hS1, hM1, hB1, hG1⟩ := hI.1;obtain ⟨hGK, hG1⟩ := hG1;have ze0 := hR.frame.other (t := 0) (by kernel_rfl) rfl;rw [if_pos (by rfl)];go_simp;exact hK (.pointer (some ⟨b, 0, none⟩)) _ (hI.next hR (by kernel_rfl) (Mod.refl _ _) (GB.quiet hI.1 (Mod.refl _ _) (by have hn := hR.not; simp [upd, hn] <;> omega) (HGs.out D 3 zw1 zw1 (by omega) (hI.1).g (Mod.refl _ _))) (upd_same V 3 _))
     ·intro D V zw1 a hR hI K hK;obtain ⟨hS1, hM1, hB1, hG1⟩ := hI.1;obtain ⟨hGK, hG1⟩ := hG1;have ze4 := hR.frame.other (t := 4) (by kernel_rfl) rfl;have zx0 := hG1.1.cell 0; have zx1 := hG1.1.cell 1;simp at zx0 zx1;rw [if_pos (by rfl)];go_simp;exact hK (.agg #[.slice A n c, .slice A3 n3 c3]) _ (hI.next hR (by kernel_rfl) (Mod.refl _ _) (GB.quiet hI.1 (Mod.refl _ _) (by have hn := hR.not; simp [upd, hn] <;> omega) (HGs.out D 4 zw1 zw1 (by omega) (hI.1).g (Mod.refl _ _))) (upd_same V 4 _))
     ·intro D V zw1 a hR hI K hK;obtain ⟨hS1, hM1, hB1, hG1⟩ := hI.1;obtain ⟨hGK, hG1⟩ := hG1;have zd3 := hR.pred 3 (by kernel_rfl);have zf3 : V 3 = .pointer (some ⟨b, 0, none⟩) := hI.2 3 zd3 rfl;have zd4 := hR.pred 4 (by kernel_rfl);have zf4 : V 4 = .agg #[.slice A n c, .slice A3 n3 c3] := hI.2 4 zd4 rfl;have ze21 := hR.frame.done (t := 21) (j := 3) (by kernel_rfl) hR.ok zd3;have ze22 := hR.frame.done (t := 22) (j := 4) (by kernel_rfl) hR.ok zd4;rw [if_pos (by rfl)];have := Bool.toNat_le (D 5)
      have hNB : N + 401 * k + 1 + (400 * (D 5).toNat) ≤ 1000000000 := by omega
      skip
      go_simp;refine (values_calls _ b _ _ L hS1 (by omega) (HLV.out _ hM1) hla HAB.out).mono ?_;rintro e zw2 ⟨A_0, n2, c_0, cs_0, rfl, hV, hcl, hcz, hS2, hm2⟩;have hvn := hV.len;subst hvn;exact hK (.slice A_0 cs_0.length c_0) _ (hI.next hR (by kernel_rfl) hm2 (GB.asks hI.1 (fun _ h _ => h) hS2 hm2 (by have hn := hR.not; simp [upd, hn] <;> omega) (HGs.out D 5 _ _ (by omega) (hI.1).g hm2)) (⟨A_0, c_0, cs_0, upd_same V 5 _, hcl, hcz, VlsB.of hV hS2⟩))
     ·intro D V zw1 a hR hI K hK;obtain ⟨hS1, hM1, hB1, hG1⟩ := hI.1;obtain ⟨hGK, hG1⟩ := hG1;have zd2 := hR.pred 2 (by kernel_rfl);have zf2 : V 2 = .string ⟨x.id.toArray⟩ := hI.2 2 zd2 rfl;have zd5 := hR.pred 5 (by kernel_rfl);have zF5 : ∃ (A_5 : Option Addr) (c_5 : Nat) (cs_5 : List ChoR), V 5 = .slice A_5 cs_5.length c_5 ∧ cs_5.length ≤ 10 ∧ (∀ x ∈ cs_5, ChoB x) ∧ VlsB zw1 b (.slice A_5 cs_5.length c_5) cs_5 := hI.2 5 zd5 (by show (!D 6) = true; rw [hR.not]; rfl);obtain ⟨A_5, c_5, cs_5, zf5, c5_0, c5_1, b5_0⟩ := zF5;have ze20 := hR.frame.done (t := 20) (j := 2) (by kernel_rfl) hR.ok zd2;have ze23 := hR.frame.done (t := 23) (j := 5) (by kernel_rfl) hR.ok zd5;rw [if_pos (by rfl)];go_simp;exact hK (_) _ (hI.next hR (by kernel_rfl) (Mod.refl _ _) (GB.quiet hI.1 (Mod.refl _ _) (by have hn := hR.not; simp [upd, hn] <;> omega) (HGs.out D 6 zw1 zw1 (by omega) (hI.1).g (Mod.refl _ _))) (⟨A_5, c_5, cs_5, upd_same V 6 _, (by first | assumption | omega), (by first | assumption | omega), b5_0⟩))
     ·intro D V zw1 a hR hI K hK;obtain ⟨hS1, hM1, hB1, hG1⟩ := hI.1;obtain ⟨hGK, hG1⟩ := hG1;have zd6 := hR.pred 6 (by kernel_rfl);have zF6 : ∃ (A_6 : Option Addr) (c_6 : Nat) (cs_6 : List ChoR), V 6 = .agg #[.string ⟨x.id.toArray⟩, .slice A_6 cs_6.length c_6] ∧ cs_6.length ≤ 10 ∧ (∀ x ∈ cs_6, ChoB x) ∧ VlsB zw1 b (.slice A_6 cs_6.length c_6) cs_6 := hI.2 6 zd6 (by show (!D 7) = true; rw [hR.not]; rfl);obtain ⟨A_6, c_6, cs_6, zf6, c6_0, c6_1, b6_0⟩ := zF6;have ze24 := hR.frame.done (t := 24) (j := 6) (by kernel_rfl) hR.ok zd6;rw [if_pos (by rfl)];go_simp;exact hK (_) _ (hI.next hR (by kernel_rfl) ((Mod.refl _ _).alloc _) (GB.quiet hI.1 (pure_alloc _ _) (by have hn := hR.not; simp [upd, hn] <;> omega) (HGs.out D 7 _ _ (by omega) (hI.1).g ((Mod.refl _ _).alloc _))) (⟨A_6, c_6, cs_6, _, upd_same V 7 _, (by first | assumption | omega), (by first | assumption | omega), (by omega), (Blk.new _ _ _), (b6_0.ask ((Mod.refl _ _).alloc _))⟩))
     ·intro D V zw1 a hR hI K hK;obtain ⟨hS1, hM1, hB1, hG1⟩ := hI.1;obtain ⟨hGK, hG1⟩ := hG1;have zd0 := hR.pred 0 (by kernel_rfl);have zf0 : V 0 = .slice Ao ys.length cap := hI.2 0 zd0 rfl;have zd7 := hR.pred 7 (by kernel_rfl);have zF7 : ∃ (A_7 : Option Addr) (c_7 : Nat) (cs_7 : List ChoR) (g_7 : Nat), V 7 = .slice (some ⟨g_7, 0, none⟩) 1 1 ∧ cs_7.length ≤ 10 ∧ (∀ x ∈ cs_7, ChoB x) ∧ w3.heap.size ≤ g_7 ∧ Blk zw1 g_7 76 #[.string ⟨x.id.toArray⟩, .slice A_7 cs_7.length c_7] ∧ VlsB zw1 b (.slice A_7 cs_7.length c_7) cs_7 := hI.2 7 zd7 (by show (!D 8) = true; rw [hR.not]; rfl);obtain ⟨A_7, c_7, cs_7, g_7, zf7, c7_0, c7_1, c7_2, b7_0, b7_1⟩ := zF7;have ze18 := hR.frame.done (t := 18) (j := 0) (by kernel_rfl) hR.ok zd0;have ze25 := hR.frame.done (t := 25) (j := 7) (by kernel_rfl) hR.ok zd7;rw [if_pos (by rfl)];have hown := (hGK hR.not).2.1;refine wp_append_lies _ (.tmp 18) (.tmp 25) 65 (by rfl) base 76 i0 _ 2 40 Tryz.underlying65 hi0 hz0 hz1 hz2 (by rfl) (by omega) (.slice Ao ys.length cap) (ys.length) (cdV ys) ?_ hown ⟨g_7, 0, none⟩ 1 1 [.string ⟨x.id.toArray⟩, .slice A_7 cs_7.length c_7] ?_ (by rfl) (World.news_of_block (cs := #[.string ⟨x.id.toArray⟩, .slice A_7 cs_7.length c_7]) (t := 76) (fr := (0, 0)) b7_0) (by simp [Value.oneCell']) (by omega) (by simp [maxLen]; omega) (by omega) (by omega) zw1.heap.size rfl ?_
      ·show a.tmps.getD 18 undef = _; simp [ze18, zf0]
      ·show a.tmps.getD 25 undef = _; simp [ze25, zf7]
      intro g5 cap5 zw2 hown5 hgrow hat hlt5;have hT := mod_grown hgrow;have hTb : ∀ j, (.slice Ao ys.length cap : Value).ownBlock = some j → base ≤ j := own_block hown
      have hTl : ∀ j, (.slice Ao ys.length cap : Value).ownBlock = some j → j < w3.heap.size := fun j hj => by have := HLT.out j hj; omega
      refine hK _ _ (InvF.last (GB.writes hI.1 (fun j hj => by have := hTb j hj; omega) (fun j hj hl => by have := hTb j hj; omega) hT (by have hn := hR.not; simp [upd, hn] <;> omega) ⟨fun hs => absurd hs (by rw [upd_same]; decide), ⟨hG1.1.mod hT (fun hj => by have := hTb _ hj; omega), hG1.2.mod hT (fun hj => by have := HLT.out _ hj; omega)⟩⟩) ⟨_, _, A_7, c_7, cs_7, upd_same V 8 _, c7_0, c7_1, ((hGK hR.not).app (x := ⟨x.id, A_7, c_7, cs_7⟩) b7_1 hT rfl hown5)⟩ ?_);intro k hk hDk hlv;have hkl := hR.lt k hDk;have hv := hI.2 k hDk (liveB_of hlv)
      match k, hk, hDk, hlv, hkl, hv with
      | 0, _, _, _, _, hv => exact hv
      | 1, _, _, _, _, hv => exact hv
      | 2, _, _, _, _, hv => exact hv
      | 3, _, _, _, _, hv => exact hv
      | 4, _, _, _, _, hv => exact hv
      | 5, _, _, hlv, _, _ => exact absurd hlv (by show ¬ (!upd D 8 true 6) = true; rw [upd_ne _ _ (by omega), hR.closed 7 _ 6 rfl (by kernel_rfl) (hR.pred 7 (by kernel_rfl))]; decide)
      | 6, _, _, hlv, _, _ => exact absurd hlv (by show ¬ (!upd D 8 true 7) = true; rw [upd_ne _ _ (by omega), hR.pred 7 (by kernel_rfl)]; decide)
      | 7, _, _, hlv, _, _ => exact absurd hlv (by show ¬ (!upd D 8 true 8) = true; rw [upd_same]; decide)
      | 8, hk, _, _, _, _ => exact absurd rfl hk
      | 9, _, hDk, _, _, _ => exact absurd hDk (by rw [hR.later 9 rfl (by kernel_rfl)]; decide)
      | k + 10, _, _, _, hkl, _ => exact absurd hkl (by simp)
     ·intro D V zw1 a hR hI K hK;obtain ⟨hS1, hM1, hB1, hG1⟩ := hI.1;obtain ⟨hGK, hG1⟩ := hG1;have zd8 := hR.pred 8 (by kernel_rfl);have zF8 : ∃ (A_8 : Option Addr) (cap_8 : Nat) (Av_8 : Option Addr) (cv_8 : Nat) (cs_8 : List ChoR), V 8 = .slice A_8 (ys.length + 1) cap_8 ∧ cs_8.length ≤ 10 ∧ (∀ x ∈ cs_8, ChoB x) ∧ CcB zw1 b base A_8 cap_8 (ys ++ [⟨x.id, Av_8, cv_8, cs_8⟩]) := hI.2 8 zd8 rfl;obtain ⟨A_8, cap_8, Av_8, cv_8, cs_8, zf8, c8_0, c8_1, b8_0⟩ := zF8;have ze26 := hR.frame.done (t := 26) (j := 8) (by kernel_rfl) hR.ok zd8;rw [if_pos (by rfl)];go_simp;exact hK (.slice A_8 (ys.length + 1) cap_8) _ (hI.next hR (by kernel_rfl) (Mod.refl _ _) (GB.quiet hI.1 (Mod.refl _ _) (by have hn := hR.not; simp [upd, hn] <;> omega) (HGs.out D 9 zw1 zw1 (by omega) (hI.1).g (Mod.refl _ _))) (⟨A_8, cap_8, Av_8, cv_8, cs_8, upd_same V 9 _, (by first | assumption | omega), (by first | assumption | omega), b8_0⟩))
    ·intro D V w4 hD hI;obtain ⟨hS1, hM1, hB1, hG1⟩ := hI.1;have hSx : Strm w4 b (N + 401 * k + 1 + 400) := hS1.more (by show _ ≤ _; have := Bool.toNat_le (D 5); omega);clear hS1;have hMx := hM1;clear hM1;have hBx := hB1;clear hB1;have hGx := hG1.2;clear hG1;have zf0 : V 0 = .slice Ao ys.length cap := hI.2 0 (hD 0 (by decide)) rfl;have zf1 : V 1 = .pointer (some ⟨g9, 0, none⟩) := hI.2 1 (hD 1 (by decide)) rfl;have zf2 : V 2 = .string ⟨x.id.toArray⟩ := hI.2 2 (hD 2 (by decide)) rfl;have zf3 : V 3 = .pointer (some ⟨b, 0, none⟩) := hI.2 3 (hD 3 (by decide)) rfl;have zf4 : V 4 = .agg #[.slice A n c, .slice A3 n3 c3] := hI.2 4 (hD 4 (by decide)) rfl;have zF8 : ∃ (A_8 : Option Addr) (cap_8 : Nat) (Av_8 : Option Addr) (cv_8 : Nat) (cs_8 : List ChoR), V 8 = .slice A_8 (ys.length + 1) cap_8 ∧ cs_8.length ≤ 10 ∧ (∀ x ∈ cs_8, ChoB x) ∧ CcB w4 b base A_8 cap_8 (ys ++ [⟨x.id, Av_8, cv_8, cs_8⟩]) := hI.2 8 (hD 8 (by decide)) rfl;obtain ⟨A_8, cap_8, Av_8, cv_8, cs_8, zf8, c8_0, c8_1, b8_0⟩ := zF8;have zF9 : ∃ (A_9 : Option Addr) (cap_9 : Nat) (Av_9 : Option Addr) (cv_9 : Nat) (cs_9 : List ChoR), V 9 = .slice A_9 (ys.length + 1) cap_9 ∧ cs_9.length ≤ 10 ∧ (∀ x ∈ cs_9, ChoB x) ∧ CcB w4 b base A_9 cap_9 (ys ++ [⟨x.id, Av_9, cv_9, cs_9⟩]) := hI.2 9 (hD 9 (by decide)) rfl;obtain ⟨A_9, cap_9, Av_9, cv_9, cs_9, zf9, c9_0, c9_1, b9_0⟩ := zF9;clear hI hD HGs;simp only [frAll, Act.put, List.setIfInBounds_toArray, List.set_cons_zero, List.set_cons_succ, Nat.zero_add, Nat.reduceAdd, zf0, zf1, zf2, zf3, zf4, zf8, zf9];clear zf0 zf1 zf2 zf3 zf4 zf8 zf9;generalize V 5 = u5;generalize V 6 = u6;generalize V 7 = u7;clear V D;have HC4 := Lib.hid b9_0;have HM4 := Lib.hid hMx;have HB4 := Lib.hid hGx.1
     have HZ4 : Hid (∀ y ∈ ys ++ [⟨x.id, Av_9, cv_9, cs_9⟩], CodB y) := Lib.hid (fun y hy => by
      rcases List.mem_append.1 hy with h | h
      ·exact HYZ.out y h
      ·rw [List.mem_singleton.1 h]; exact ⟨by show x.id.length ≤ 1000; omega, by show cs_9.length ≤ 1000; omega, c9_1⟩)
     have hle : (ys ++ [(⟨x.id, Av_9, cv_9, cs_9⟩ : CodR)]).length ≤ k + 1 := by simp; omega
     clear b8_0 b9_0 c8_0 c8_1 c9_0 c9_1 hMx hBx hGx hS3 HB3 HX3 HC3 HM3
     go_wp2_with fail
     go_roundg (its.length - (k + 1))
     case measure => omega
     case rel => exact ⟨k + 1, cap_9, A_9, ys ++ [⟨x.id, Av_9, cv_9, cs_9⟩], rfl, by omega, by simp, by simp, hle, HZ4.out, HC4.out, HB4.out, hSx.more (by omega), HM4.out⟩
  ·obtain rfl : its.length = k := by omega
   have HC3 := Lib.hid hcc;have HB3 := Lib.hid hB;have HM3 := Lib.hid hm;have HYZ := Lib.hid hyz;clear hcc hB hm hyz
   go_wp2_with fail
   refine (flip_calls wr b _ 10 hSt (by omega) (by omega) (by omega)).mono ?_;rintro e w3 ⟨kf, rfl, hS3, hm3⟩;replace HB3 := Lib.hid (HB3.out.modb hm3 (by omega));replace HC3 := Lib.hid (HC3.out.ask hm3);replace HM3 := Lib.hid (HM3.out.trans hm3);have hw3 := hm3.size;clear hm3 hSt
   cases kf
   ·go_wp2_with fail
    refine bodyPost_ret (v := .slice Ao ys.length cap) (by simp [results, Tryz.results27, go_sem]) rfl ?_;exact ⟨base, cap, Ao, ys, rfl, by omega, HC3.out, by omega, HYZ.out, hS3.more (by omega), HM3.out⟩
   ·have HLT : Hid (∀ j, (Value.slice Ao ys.length cap).ownBlock = some j → j < w3.heap.size) := Lib.hid (fun j hj => own_ltC HC3.out.2.1 hj)
    go_upto_region 9 with (fail)
    have HGs := Lib.hid (show ∀ (D : Nat → Bool) (zzi : Nat) (zq zq' : World), zzi ≠ 9 → (fun D zq => (D 9 = false → (fun Z => CcB Z b base Ao cap ys) zq) ∧ (fun Z => Blk Z gl 63 #[.slice A n c, .slice A3 n3 c3]) zq) D zq → Mod (· = b) zq zq' → (fun D zq => (D 9 = false → (fun Z => CcB Z b base Ao cap ys) zq) ∧ (fun Z => Blk Z gl 63 #[.slice A n c, .slice A3 n3 c3]) zq) (upd D zzi true) zq' from by intro D zzi zq zq' hi hh hm; refine ⟨fun hs => ?_, ?_⟩; (rw [upd_ne _ _ (Ne.symm hi)] at hs; have h := hh.1 hs; (exact h.ask hm)); (have h := hh.2; (exact h.modb hm (by omega))))
    refine wp_region_inv (by kernel_rfl) (by kernel_rfl) (InvF (R := Mod (· = b)) [.is (.slice Ao ys.length cap),
      .is (.pointer (some ⟨b, 0, none⟩)),
      ⟨fun zv zw => ∃ (g_2 : Nat), zv = .slice (some ⟨g_2, 0, none⟩) 4 4 ∧ w3.heap.size ≤ g_2 ∧ Blk zw g_2 9 #[(.string { data := #[105, 122, 122] }), (.string { data := #[] }), (.string { data := #[105, 97] }), (.string { data := #[65] })], (by rintro zv zw zx ⟨g_2, rfl, c0, q0⟩ hm; exact ⟨g_2, rfl, c0, (q0.modb hm (by omega))⟩), none, some 3⟩,
      .val (fun zv => ∃ (s_3 : Str), zv = .string ⟨s_3.toArray⟩ ∧ s_3.length ≤ 100),
      .is (.pointer (some ⟨b, 0, none⟩)),
      .is (.agg #[.slice A n c, .slice A3 n3 c3]),
      ⟨fun zv zw => ∃ (A_6 : Option Addr) (c_6 : Nat) (cs_6 : List ChoR), zv = .slice A_6 cs_6.length c_6 ∧ cs_6.length ≤ 10 ∧ (∀ x ∈ cs_6, ChoB x) ∧ VlsB zw b (.slice A_6 cs_6.length c_6) cs_6, (by rintro zv zw zx ⟨A_6, c_6, cs_6, rfl, c0, c1, q0⟩ hm; exact ⟨A_6, c_6, cs_6, rfl, c0, c1, (q0.ask hm)⟩), none, some 7⟩,
      ⟨fun zv zw => ∃ (s_7 : Str) (A_7 : Option Addr) (c_7 : Nat) (cs_7 : List ChoR), zv = .agg #[.string ⟨s_7.toArray⟩, .slice A_7 cs_7.length c_7] ∧ s_7.length ≤ 100 ∧ cs_7.length ≤ 10 ∧ (∀ x ∈ cs_7, ChoB x) ∧ VlsB zw b (.slice A_7 cs_7.length c_7) cs_7, (by rintro zv zw zx ⟨s_7, A_7, c_7, cs_7, rfl, c0, c1, c2, q0⟩ hm; exact ⟨s_7, A_7, c_7, cs_7, rfl, c0, c1, c2, (q0.ask hm)⟩), none, some 8⟩,
      ⟨fun zv zw => ∃ (s_8 : Str) (A_8 : Option Addr) (c_8 : Nat) (cs_8 : List ChoR) (g_8 : Nat), zv = .slice (some ⟨g_8, 0, none⟩) 1 1 ∧ s_8.length ≤ 100 ∧ cs_8.length ≤ 10 ∧ (∀ x ∈ cs_8, ChoB x) ∧ w3.heap.size ≤ g_8 ∧ Blk zw g_8 76 #[.string ⟨s_8.toArray⟩, .slice A_8 cs_8.length c_8] ∧ VlsB zw b (.slice A_8 cs_8.length c_8) cs_8, (by rintro zv zw zx ⟨s_8, A_8, c_8, cs_8, g_8, rfl, c0, c1, c2, c3, q0, q1⟩ hm; exact ⟨s_8, A_8, c_8, cs_8, g_8, rfl, c0, c1, c2, c3, (q0.modb hm (by omega)), (q1.ask hm)⟩), none, some 9⟩,
      ⟨fun zv zw => ∃ (A_9 : Option Addr) (cap_9 : Nat) (s_9 : Str) (Av_9 : Option Addr) (cv_9 : Nat) (cs_9 : List ChoR), zv = .slice A_9 (ys.length + 1) cap_9 ∧ s_9.length ≤ 100 ∧ cs_9.length ≤ 10 ∧ (∀ x ∈ cs_9, ChoB x) ∧ CcB zw b base A_9 cap_9 (ys ++ [⟨s_9, Av_9, cv_9, cs_9⟩]), (by rintro zv zw zx ⟨A_9, cap_9, s_9, Av_9, cv_9, cs_9, rfl, c0, c1, c2, q0⟩ hm; exact ⟨A_9, cap_9, s_9, Av_9, cv_9, cs_9, rfl, c0, c1, c2, (q0.ask hm)⟩), none, none⟩,
      ⟨fun zv zw => ∃ (A_10 : Option Addr) (cap_10 : Nat) (s_10 : Str) (Av_10 : Option Addr) (cv_10 : Nat) (cs_10 : List ChoR), zv = .slice A_10 (ys.length + 1) cap_10 ∧ s_10.length ≤ 100 ∧ cs_10.length ≤ 10 ∧ (∀ x ∈ cs_10, ChoB x) ∧ CcB zw b base A_10 cap_10 (ys ++ [⟨s_10, Av_10, cv_10, cs_10⟩]), (by rintro zv zw zx ⟨A_10, cap_10, s_10, Av_10, cv_10, cs_10, rfl, c0, c1, c2, q0⟩ hm; exact ⟨A_10, cap_10, s_10, Av_10, cv_10, cs_10, rfl, c0, c1, c2, (q0.ask hm)⟩), none, none⟩]
      (GB w (· = b) w3.heap.size b (N + 401 * its.length + 1) (fun D => (D 3).toNat + 400 * (D 6).toNat) (fun D zq => (D 9 = false → (fun Z => CcB Z b base Ao cap ys) zq) ∧ (fun Z => Blk Z gl 63 #[.slice A n c, .slice A3 n3 c3]) zq))) (InvF.start (GB.start (hS3.more (by omega)) HM3.out (Nat.le_refl _) (⟨fun _ => HC3.out.pure (Mod.refl _ _).drew, HB3.out.drew⟩))) ?_ ?_
    ·refine .cons ?_ (.cons ?_ (.cons ?_ (.cons ?_ (.cons ?_ (.cons ?_ (.cons ?_ (.cons ?_ (.cons ?_ (.cons ?_ (.cons ?_ .nil))))))))))
     ·intro D V zw1 a hR hI K hK;obtain ⟨hS1, hM1, hB1, hG1⟩ := hI.1;obtain ⟨hGK, hG1⟩ := hG1;have ze7 := hR.frame.undone (t := 7) (j := 10) (by kernel_rfl) (hR.later 10 rfl (by kernel_rfl)) rfl;rw [if_pos (by rfl)];go_simp;exact hK (.slice Ao ys.length cap) _ (hI.next hR (by kernel_rfl) (Mod.refl _ _) (GB.quiet hI.1 (Mod.refl _ _) (by have hn := hR.not; simp [upd, hn] <;> omega) (HGs.out D 0 zw1 zw1 (by omega) (hI.1).g (Mod.refl _ _))) (upd_same V 0 _))
     ·intro D V zw1 a hR hI K hK;obtain ⟨hS1, hM1, hB1, hG1⟩ := hI.1;obtain ⟨hGK, hG1⟩ := hG1;have ze0 := hR.frame.other (t := 0) (by kernel_rfl) rfl;rw [if_pos (by rfl)];go_simp;exact hK (.pointer (some ⟨b, 0, none⟩)) _ (hI.next hR (by kernel_rfl) (Mod.refl _ _) (GB.quiet hI.1 (Mod.refl _ _) (by have hn := hR.not; simp [upd, hn] <;> omega) (HGs.out D 1 zw1 zw1 (by omega) (hI.1).g (Mod.refl _ _))) (upd_same V 1 _))
     ·intro D V zw1 a hR hI K hK;obtain ⟨hS1, hM1, hB1, hG1⟩ := hI.1;obtain ⟨hGK, hG1⟩ := hG1;rw [if_pos (by rfl)];go_simp;exact hK (_) _ (hI.next hR (by kernel_rfl) ((Mod.refl _ _).alloc _) (GB.quiet hI.1 (pure_alloc _ _) (by have hn := hR.not; simp [upd, hn] <;> omega) (HGs.out D 2 _ _ (by omega) (hI.1).g ((Mod.refl _ _).alloc _))) (⟨_, upd_same V 2 _, (by omega), (Blk.new _ _ _)⟩))
     ·intro D V zw1 a hR hI K hK;obtain ⟨hS1, hM1, hB1, hG1⟩ := hI.1;obtain ⟨hGK, hG1⟩ := hG1;have zd1 := hR.pred 1 (by kernel_rfl);have zf1 : V 1 = .pointer (some ⟨b, 0, none⟩) := hI.2 1 zd1 rfl;have zd2 := hR.pred 2 (by kernel_rfl);have zF2 : ∃ (g_2 : Nat), V 2 = .slice (some ⟨g_2, 0, none⟩) 4 4 ∧ w3.heap.size ≤ g_2 ∧ Blk zw1 g_2 9 #[(.string { data := #[105, 122, 122] }), (.string { data := #[] }), (.string { data := #[105, 97] }), (.string { data := #[65] })] := hI.2 2 zd2 (by show (!D 3) = true; rw [hR.not]; rfl);obtain ⟨g_2, zf2, c2_0, b2_0⟩ := zF2;have ze31 := hR.frame.done (t := 31) (j := 1) (by kernel_rfl) hR.ok zd1;have ze32 := hR.frame.done (t := 32) (j := 2) (by kernel_rfl) hR.ok zd2;rw [if_pos (by rfl)];have := Bool.toNat_le (D 3);have := Bool.toNat_le (D 6)
      have hNB : N + 401 * its.length + 1 + ((D 3).toNat + 400 * (D 6).toNat) ≤ 1000000000 := by omega
      skip
      go_simp;refine (somec_calls _ b _ _ _ _ [[105, 122, 122], [], [105, 97], [65]] 100 rfl (by decide) hS1 hNB b2_0 (by omega) (by decide) (by decide)).mono ?_;rintro e zw2 ⟨s_0, hs, rfl, hS2, hm2⟩;exact hK (.string ⟨s_0.toArray⟩) _ (hI.next hR (by kernel_rfl) hm2 (GB.asks hI.1 (fun _ h _ => h) hS2 hm2 (by have hn := hR.not; simp [upd, hn] <;> omega) (HGs.out D 3 _ _ (by omega) (hI.1).g hm2)) (⟨s_0, upd_same V 3 _, hs⟩))
     ·intro D V zw1 a hR hI K hK;obtain ⟨hS1, hM1, hB1, hG1⟩ := hI.1;obtain ⟨hGK, hG1⟩ := hG1;have ze0 := hR.frame.other (t := 0) (by kernel_rfl) rfl;rw [if_pos (by rfl)];go_simp;exact hK (.pointer (some ⟨b, 0, none⟩)) _ (hI.next hR (by kernel_rfl) (Mod.refl _ _) (GB.quiet hI.1 (Mod.refl _ _) (by have hn := hR.not; simp [upd, hn] <;> omega) (HGs.out D 4 zw1 zw1 (by omega) (hI.1).g (Mod.refl _ _))) (upd_same V 4 _))
     ·intro D V zw1 a hR hI K hK;obtain ⟨hS1, hM1, hB1, hG1⟩ := hI.1;obtain ⟨hGK, hG1⟩ := hG1;have ze4 := hR.frame.other (t := 4) (by kernel_rfl) rfl;have zx0 := hG1.cell 0; have zx1 := hG1.cell 1;simp at zx0 zx1;rw [if_pos (by rfl)];go_simp;exact hK (.agg #[.slice A n c, .slice A3 n3 c3]) _ (hI.next hR (by kernel_rfl) (Mod.refl _ _) (GB.quiet hI.1 (Mod.refl _ _) (by have hn := hR.not; simp [upd, hn] <;> omega) (HGs.out D 5 zw1 zw1 (by omega) (hI.1).g (Mod.refl _ _))) (upd_same V 5 _))
     ·intro D V zw1 a hR hI K hK;obtain ⟨hS1, hM1, hB1, hG1⟩ := hI.1;obtain ⟨hGK, hG1⟩ := hG1;have zd4 := hR.pred 4 (by kernel_rfl);have zf4 : V 4 = .pointer (some ⟨b, 0, none⟩) := hI.2 4 zd4 rfl;have zd5 := hR.pred 5 (by kernel_rfl);have zf5 : V 5 = .agg #[.slice A n c, .slice A3 n3 c3] := hI.2 5 zd5 rfl;have ze34 := hR.frame.done (t := 34) (j := 4) (by kernel_rfl) hR.ok zd4;have ze35 := hR.frame.done (t := 35) (j := 5) (by kernel_rfl) hR.ok zd5;rw [if_pos (by rfl)];have := Bool.toNat_le (D 3);have := Bool.toNat_le (D 6)
      have hNB : N + 401 * its.length + 1 + ((D 3).toNat + 400 * (D 6).toNat) ≤ 1000000000 := by omega
      skip
      go_simp;refine (values_calls _ b _ _ L hS1 (by omega) (HLV.out _ hM1) hla HAB.out).mono ?_;rintro e zw2 ⟨A_0, n2, c_0, cs_0, rfl, hV, hcl, hcz, hS2, hm2⟩;have hvn := hV.len;subst hvn;exact hK (.slice A_0 cs_0.length c_0) _ (hI.next hR (by kernel_rfl) hm2 (GB.asks hI.1 (fun _ h _ => h) hS2 hm2 (by have hn := hR.not; simp [upd, hn] <;> omega) (HGs.out D 6 _ _ (by omega) (hI.1).g hm2)) (⟨A_0, c_0, cs_0, upd_same V 6 _, hcl, hcz, VlsB.of hV hS2⟩))
     ·intro D V zw1 a hR hI K hK;obtain ⟨hS1, hM1, hB1, hG1⟩ := hI.1;obtain ⟨hGK, hG1⟩ := hG1;have zd3 := hR.pred 3 (by kernel_rfl);have zF3 : ∃ (s_3 : Str), V 3 = .string ⟨s_3.toArray⟩ ∧ s_3.length ≤ 100 := hI.2 3 zd3 rfl;obtain ⟨s_3, zf3, c3_0⟩ := zF3;have zd6 := hR.pred 6 (by kernel_rfl);have zF6 : ∃ (A_6 : Option Addr) (c_6 : Nat) (cs_6 : List ChoR), V 6 = .slice A_6 cs_6.length c_6 ∧ cs_6.length ≤ 10 ∧ (∀ x ∈ cs_6, ChoB x) ∧ VlsB zw1 b (.slice A_6 cs_6.length c_6) cs_6 := hI.2 6 zd6 (by show (!D 7) = true; rw [hR.not]; rfl);obtain ⟨A_6, c_6, cs_6, zf6, c6_0, c6_1, b6_0⟩ := zF6;have ze33 := hR.frame.done (t := 33) (j := 3) (by kernel_rfl) hR.ok zd3;have ze36 := hR.frame.done (t := 36) (j := 6) (by kernel_rfl) hR.ok zd6;rw [if_pos (by rfl)];go_simp;exact hK (_) _ (hI.next hR (by kernel_rfl) (Mod.refl _ _) (GB.quiet hI.1 (Mod.refl _ _) (by have hn := hR.not; simp [upd, hn] <;> omega) (HGs.out D 7 zw1 zw1 (by omega) (hI.1).g (Mod.refl _ _))) (⟨s_3, A_6, c_6, cs_6, upd_same V 7 _, (by first | assumption | omega), (by first | assumption | omega), (by first | assumption | omega), b6_0⟩))
     ·intro D V zw1 a hR hI K hK;obtain ⟨hS1, hM1, hB1, hG1⟩ := hI.1;obtain ⟨hGK, hG1⟩ := hG1;have zd7 := hR.pred 7 (by kernel_rfl);have zF7 : ∃ (s_7 : Str) (A_7 : Option Addr) (c_7 : Nat) (cs_7 : List ChoR), V 7 = .agg #[.string ⟨s_7.toArray⟩, .slice A_7 cs_7.length c_7] ∧ s_7.length ≤ 100 ∧ cs_7.length ≤ 10 ∧ (∀ x ∈ cs_7, ChoB x) ∧ VlsB zw1 b (.slice A_7 cs_7.length c_7) cs_7 := hI.2 7 zd7 (by show (!D 8) = true; rw [hR.not]; rfl);obtain ⟨s_7, A_7, c_7, cs_7, zf7, c7_0, c7_1, c7_2, b7_0⟩ := zF7;have ze37 := hR.frame.done (t := 37) (j := 7) (by kernel_rfl) hR.ok zd7;rw [if_pos (by rfl)];go_simp;exact hK (_) _ (hI.next hR (by kernel_rfl) ((Mod.refl _ _).alloc _) (GB.quiet hI.1 (pure_alloc _ _) (by have hn := hR.not; simp [upd, hn] <;> omega) (HGs.out D 8 _ _ (by omega) (hI.1).g ((Mod.refl _ _).alloc _))) (⟨s_7, A_7, c_7, cs_7, _, upd_same V 8 _, (by first | assumption | omega), (by first | assumption | omega), (by first | assumption | omega), (by omega), (Blk.new _ _ _), (b7_0.ask ((Mod.refl _ _).alloc _))⟩))
     ·intro D V zw1 a hR hI K hK;obtain ⟨hS1, hM1, hB1, hG1⟩ := hI.1;obtain ⟨hGK, hG1⟩ := hG1;have zd0 := hR.pred 0 (by kernel_rfl);have zf0 : V 0 = .slice Ao ys.length cap := hI.2 0 zd0 rfl;have zd8 := hR.pred 8 (by kernel_rfl);have zF8 : ∃ (s_8 : Str) (A_8 : Option Addr) (c_8 : Nat) (cs_8 : List ChoR) (g_8 : Nat), V 8 = .slice (some ⟨g_8, 0, none⟩) 1 1 ∧ s_8.length ≤ 100 ∧ cs_8.length ≤ 10 ∧ (∀ x ∈ cs_8, ChoB x) ∧ w3.heap.size ≤ g_8 ∧ Blk zw1 g_8 76 #[.string ⟨s_8.toArray⟩, .slice A_8 cs_8.length c_8] ∧ VlsB zw1 b (.slice A_8 cs_8.length c_8) cs_8 := hI.2 8 zd8 (by show (!D 9) = true; rw [hR.not]; rfl);obtain ⟨s_8, A_8, c_8, cs_8, g_8, zf8, c8_0, c8_1, c8_2, c8_3, b8_0, b8_1⟩ := zF8;have ze30 := hR.frame.done (t := 30) (j := 0) (by kernel_rfl) hR.ok zd0;have ze38 := hR.frame.done (t := 38) (j := 8) (by kernel_rfl) hR.ok zd8;rw [if_pos (by rfl)];have hown := (hGK hR.not).2.1;refine wp_append_lies _ (.tmp 30) (.tmp 38) 65 (by rfl) base 76 i0 _ 2 40 Tryz.underlying65 hi0 hz0 hz1 hz2 (by rfl) (by omega) (.slice Ao ys.length cap) (ys.length) (cdV ys) ?_ hown ⟨g_8, 0, none⟩ 1 1 [.string ⟨s_8.toArray⟩, .slice A_8 cs_8.length c_8] ?_ (by rfl) (World.news_of_block (cs := #[.string ⟨s_8.toArray⟩, .slice A_8 cs_8.length c_8]) (t := 76) (fr := (0, 0)) b8_0) (by simp [Value.oneCell']) (by omega) (by simp [maxLen]; omega) (by omega) (by omega) zw1.heap.size rfl ?_
      ·show a.tmps.getD 30 undef = _; simp [ze30, zf0]
      ·show a.tmps.getD 38 undef = _; simp [ze38, zf8]
      intro g5 cap5 zw2 hown5 hgrow hat hlt5;have hT := mod_grown hgrow;have hTb : ∀ j, (.slice Ao ys.length cap : Value).ownBlock = some j → base ≤ j := own_block hown
      have hTl : ∀ j, (.slice Ao ys.length cap : Value).ownBlock = some j → j < w3.heap.size := fun j hj => by have := HLT.out j hj; omega
      refine hK _ _ (InvF.last (GB.writes hI.1 (fun j hj => by have := hTb j hj; omega) (fun j hj hl => by have := hTb j hj; omega) hT (by have hn := hR.not; simp [upd, hn] <;> omega) ⟨fun hs => absurd hs (by rw [upd_same]; decide), hG1.mod hT (fun hj => by have := hTb _ hj; omega)⟩) ⟨_, _, s_8, A_8, c_8, cs_8, upd_same V 9 _, c8_0, c8_1, c8_2, ((hGK hR.not).app (x := ⟨s_8, A_8, c_8, cs_8⟩) b8_1 hT rfl hown5)⟩ ?_);intro k hk hDk hlv;have hkl := hR.lt k hDk;have hv := hI.2 k hDk (liveB_of hlv)
      match k, hk, hDk, hlv, hkl, hv with
      | 0, _, _, _, _, hv => exact hv
      | 1, _, _, _, _, hv => exact hv
      | 2, _, _, hlv, _, _ => exact absurd hlv (by show ¬ (!upd D 9 true 3) = true; rw [upd_ne _ _ (by omega), hR.closed 6 _ 3 rfl (by kernel_rfl) (hR.pred 6 (by kernel_rfl))]; decide)
      | 3, _, _, _, _, hv => exact hv
      | 4, _, _, _, _, hv => exact hv
      | 5, _, _, _, _, hv => exact hv
      | 6, _, _, hlv, _, _ => exact absurd hlv (by show ¬ (!upd D 9 true 7) = true; rw [upd_ne _ _ (by omega), hR.closed 8 _ 7 rfl (by kernel_rfl) (hR.pred 8 (by kernel_rfl))]; decide)
      | 7, _, _, hlv, _, _ => exact absurd hlv (by show ¬ (!upd D 9 true 8) = true; rw [upd_ne _ _ (by omega), hR.pred 8 (by kernel_rfl)]; decide)
      | 8, _, _, hlv, _, _ => exact absurd hlv (by show ¬ (!upd D 9 true 9) = true; rw [upd_same]; decide)
      | 9, hk, _, _, _, _ => exact absurd rfl hk
      | 10, _, hDk, _, _, _ => exact absurd hDk (by rw [hR.later 10 rfl (by kernel_rfl)]; decide)
      | k + 11, _, _, _, hkl, _ => exact absurd hkl (by simp)
     ·intro D V zw1 a hR hI K hK;obtain ⟨hS1, hM1, hB1, hG1⟩ := hI.1;obtain ⟨hGK, hG1⟩ := hG1;have zd9 := hR.pred 9 (by kernel_rfl);have zF9 : ∃ (A_9 : Option Addr) (cap_9 : Nat) (s_9 : Str) (Av_9 : Option Addr) (cv_9 : Nat) (cs_9 : List ChoR), V 9 = .slice A_9 (ys.length + 1) cap_9 ∧ s_9.length ≤ 100 ∧ cs_9.length ≤ 10 ∧ (∀ x ∈ cs_9, ChoB x) ∧ CcB zw1 b base A_9 cap_9 (ys ++ [⟨s_9, Av_9, cv_9, cs_9⟩]) := hI.2 9 zd9 rfl;obtain ⟨A_9, cap_9, s_9, Av_9, cv_9, cs_9, zf9, c9_0, c9_1, c9_2, b9_0⟩ := zF9;have ze39 := hR.frame.done (t := 39) (j := 9) (by kernel_rfl) hR.ok zd9;rw [if_pos (by rfl)];go_simp;exact hK (.slice A_9 (ys.length + 1) cap_9) _ (hI.next hR (by kernel_rfl) (Mod.refl _ _) (GB.quiet hI.1 (Mod.refl _ _) (by have hn := hR.not; simp [upd, hn] <;> omega) (HGs.out D 10 zw1 zw1 (by omega) (hI.1).g (Mod.refl _ _))) (⟨A_9, cap_9, s_9, Av_9, cv_9, cs_9, upd_same V 10 _, (by first | assumption | omega), (by first | assumption | omega), (by first | assumption | omega), b9_0⟩))
    ·intro D V w4 hD hI;obtain ⟨hS1, hM1, hB1, hG1⟩ := hI.1;have hSx : Strm w4 b (N + 401 * its.length + 1 + 401) := hS1.more (by show _ ≤ _; have := Bool.toNat_le (D 3); have := Bool.toNat_le (D 6); omega);clear hS1;have hMx := hM1;clear hM1;have hBx := hB1;clear hB1;have hGx := hG1.2;clear hG1;have zf0 : V 0 = .slice Ao ys.length cap := hI.2 0 (hD 0 (by decide)) rfl;have zf1 : V 1 = .pointer (some ⟨b, 0, none⟩) := hI.2 1 (hD 1 (by decide)) rfl;have zF3 : ∃ (s_3 : Str), V 3 = .string ⟨s_3.toArray⟩ ∧ s_3.length ≤ 100 := hI.2 3 (hD 3 (by decide)) rfl;obtain ⟨s_3, zf3, c3_0⟩ := zF3;have zf4 : V 4 = .pointer (some ⟨b, 0, none⟩) := hI.2 4 (hD 4 (by decide)) rfl;have zf5 : V 5 = .agg #[.slice A n c, .slice A3 n3 c3] := hI.2 5 (hD 5 (by decide)) rfl;have zF9 : ∃ (A_9 : Option Addr) (cap_9 : Nat) (s_9 : Str) (Av_9 : Option Addr) (cv_9 : Nat) (cs_9 : List ChoR), V 9 = .slice A_9 (ys.length + 1) cap_9 ∧ s_9.length ≤ 100 ∧ cs_9.length ≤ 10 ∧ (∀ x ∈ cs_9, ChoB x) ∧ CcB w4 b base A_9 cap_9 (ys ++ [⟨s_9, Av_9, cv_9, cs_9⟩]) := hI.2 9 (hD 9 (by decide)) rfl;obtain ⟨A_9, cap_9, s_9, Av_9, cv_9, cs_9, zf9, c9_0, c9_1, c9_2, b9_0⟩ := zF9;have zF10 : ∃ (A_10 : Option Addr) (cap_10 : Nat) (s_10 : Str) (Av_10 : Option Addr) (cv_10 : Nat) (cs_10 : List ChoR), V 10 = .slice A_10 (ys.length + 1) cap_10 ∧ s_10.length ≤ 100 ∧ cs_10.length ≤ 10 ∧ (∀ x ∈ cs_10, ChoB x) ∧ CcB w4 b base A_10 cap_10 (ys ++ [⟨s_10, Av_10, cv_10, cs_10⟩]) := hI.2 10 (hD 10 (by decide)) rfl;obtain ⟨A_10, cap_10, s_10, Av_10, cv_10, cs_10, zf10, c10_0, c10_1, c10_2, b10_0⟩ := zF10;clear hI hD HGs;simp only [frAll, Act.put, List.setIfInBounds_toArray, List.set_cons_zero, List.set_cons_succ, Nat.zero_add, Nat.reduceAdd, zf0, zf1, zf3, zf4, zf5, zf9, zf10];clear zf0 zf1 zf3 zf4 zf5 zf9 zf10;generalize V 2 = u2;generalize V 6 = u6;generalize V 7 = u7;generalize V 8 = u8;clear V D;have HC4 := Lib.hid b10_0;have HM4 := Lib.hid hMx
     have HZ4 : Hid (∀ y ∈ ys ++ [⟨s_10, Av_10, cv_10, cs_10⟩], CodB y) := Lib.hid (fun y hy => by
      rcases List.mem_append.1 hy with h | h
      ·exact HYZ.out y h
      ·rw [List.mem_singleton.1 h]; exact ⟨by show s_10.length ≤ 1000; omega, by show cs_10.length ≤ 1000; omega, c10_2⟩)
     have hle : (ys ++ [(⟨s_10, Av_10, cv_10, cs_10⟩ : CodR)]).length ≤ its.length + 1 := by simp; omega
     have hln : (ys ++ [(⟨s_10, Av_10, cv_10, cs_10⟩ : CodR)]).length = ys.length + 1 := by simp
     have HLN := Lib.hid hln;clear b9_0 b10_0 c9_0 c9_1 c9_2 c10_0 c10_1 c10_2 hMx hBx hGx hS3 HB3 HC3 HM3 hln
     go_wp2_with fail
     refine bodyPost_ret (v := .slice A_10 (ys.length + 1) cap_10) (by simp [results, Tryz.results27, go_sem]) rfl ?_;exact ⟨base, cap_10, A_10, ys ++ [⟨s_10, Av_10, cv_10, cs_10⟩], by rw [HLN.out], by omega, HC4.out, hle, HZ4.out, hSx.more (by omega), HM4.out⟩

end Go.Proofs.YtpinlcapgoljfaaGreatDoor

/- The generators of items: itemId, ItemText, Item. -/
namespace Go.Proofs.YtpinlcapgoljfaaGreatDoor
open Go.RowKit

/-- The strings of an item are not too long: of what the generators make. -/
def ItG (x : Itm) : Prop := x.id.length ≤ 100 ∧ x.cust.length ≤ 30000 ∧ x.name.length ≤ 30000 ∧ x.par.length ≤ 30000 ∧ x.text.length ≤ 29000
theorem ItG.b {x : Itm} (h : ItG x) : ItB x := ⟨h.1, h.2.1, h.2.2.1, h.2.2.2.1, by have := h.2.2.2.2; omega⟩
def StrB (w : World) (b N M : Nat) (e : Ending) (w' : World) : Prop := ∃ s : Str, s.length ≤ M ∧ e = .returned (.string ⟨s.toArray⟩) ∧ Strm w' b N ∧ Mod (· = b) w w'
theorem someb_calls (w : World) (b N g c n : Nat) (ss : List Str) (M : Nat) (hn : n = ss.length) (hM : ∀ s ∈ ss, s.length ≤ M) (hS : Strm w b N) (hN : N ≤ 1000000000) (hx : Blk w g 9 (strsV ss).toArray) (hgb : g ≠ b) (h0 : 0 < ss.length) (hl : ss.length ≤ 1000) :
  Calls Tryz.prog 38 #[.pointer (some ⟨b, 0, none⟩), .slice (some ⟨g, 0, none⟩) n c] w (StrB w b (N + 1) M) := by
 subst hn;refine (some_calls w b N g c ss hS hN hx hgb h0 hl).mono ?_;rintro e w' ⟨s, hs, rfl, h1, h2⟩;exact ⟨s, hM s hs, rfl, h1, h2⟩
theorem le_cons {M : Nat} {s : Str} {ss : List Str} (h : s.length ≤ M) (hs : ∀ s ∈ ss, s.length ≤ M) : ∀ t ∈ s :: ss, t.length ≤ M := fun t ht => by
 rcases List.mem_cons.1 ht with rfl | ht
 ·exact h
 ·exact hs t ht
theorem le_nil {M : Nat} : ∀ t ∈ ([] : List Str), t.length ≤ M := fun t ht => absurd ht (by simp)

theorem repeatA_calls (w : World) (n : Nat) (h2 : 2 ≤ n) (hn : n ≤ 100000) : Calls Tryz.prog 81 #[.string ⟨#[97]⟩, .int .i64 (n : Int)] w (fun e w' => ∃ s : Str, s.length = n ∧ e = .returned (.string ⟨s.toArray⟩) ∧ Pure w w') := by
 refine (Any.strings_Repeat_main Tryz.lays105 bldExtra5 ⟨#[97]⟩ n w h2 (by omega) (by simp [ByteArray.size]; omega) (by simp [ByteArray.size])).mono ?_;rintro e w' ⟨rfl, hb⟩;refine ⟨Lib.repeatL [97] n, by rw [Lib.repeatL_length]; simp, rfl, Mod.of_below hb⟩

/-- The id of number i. -/
def itS (i : Nat) : Str := [105, 97, 97 + UInt8.ofNat i]
set_option maxRecDepth 100000 in
set_option maxHeartbeats 1000000 in
theorem itemId_calls (w : World) (i : Nat) (hi : i < 26) : Calls Tryz.prog 39 #[.int .i64 (i : Int)] w (fun e w' => e = .returned (.string ⟨(itS i).toArray⟩) ∧ Pure w w') := by
 have e1 : Utf8.encode 97 = ⟨#[97]⟩ := enc_ascii 97 (by omega)
 have e2 : Utf8.encode (97 + (i : Int)) = ⟨#[UInt8.ofNat (97 + i)]⟩ := by
  have := enc_ascii (97 + i) (by omega)
  rwa [Int.natCast_add] at this
 have h1 : (i : Int).tdiv 26 = 0 := by
  rw [Int.tdiv_eq_ediv_of_nonneg (by omega)]
  omega
 have h1' : (i : Int) / 26 = 0 := by omega
 have h2 : (i : Int).tmod 26 = (i : Int) := by
  rw [Int.tmod_eq_emod_of_nonneg (by omega)]
  omega
 have h2' : (i : Int) % 26 = (i : Int) := by omega
 have hw : IntKind.i32.wrap (97 + (i : Int)) = 97 + (i : Int) := by simp [IntKind.wrap, IntKind.bits, IntKind.signed]; omega
 have hw1 : IntKind.i32.wrap 97 = 97 := by decide
 go_enter Tryz.func39, Tryz.ntmps39
 go_wp2_with fail
 go_ret;refine ⟨?_, Mod.refl _ _⟩;have h0 := bytes_app [105] [97];have h := bytes_app ([105] ++ [97]) [97 + UInt8.ofNat i];rw [← h0] at h;exact congrArg (fun x => Ending.returned (Value.string x)) h

def itWords : List Str := [[100, 101, 97, 108], [68, 101, 97, 108], [115, 105, 103, 110], [115, 105, 103, 110, 101, 100], [116, 104, 101], [102, 114, 105, 100, 97, 121], [99, 111, 110, 116, 114, 97, 99, 116], [120, 49], [99, 97, 102, 195, 169], [97, 110, 100]]
def itSeps : List Str := [[32], [32], [32], [44, 32], [45]]
def It1 (w : World) (b N m gk : Nat) (x i : Value) (wr : World) : Prop :=
 ∃ (j : Nat) (a : ByteArray), m - j = gk ∧ j ≤ m ∧ x = .string a ∧ i = .int .i64 (j : Int) ∧ a.size ≤ 100 * j ∧ Strm wr b (N + 1 + 20 * j) ∧ Mod (· = b) w wr
def It2 (w : World) (b N j m gk : Nat) (x i : Value) (wr : World) : Prop :=
 ∃ (k : Nat) (a : ByteArray), m - k = gk ∧ k ≤ m ∧ x = .string a ∧ i = .int .i64 (k : Int) ∧ a.size ≤ 100 * j + 10 * k ∧ Strm wr b (N + 1 + 20 * j + 1 + 2 * k) ∧ Mod (· = b) w wr

set_option maxRecDepth 100000 in
set_option maxHeartbeats 4000000 in
theorem itemText_calls (w : World) (b N : Nat) (hS : Strm w b N) (hN : N ≤ 900000000) : Calls Tryz.prog 80 #[.pointer (some ⟨b, 0, none⟩)] w (StrB w b (N + 61) 300) := by
 have hbl := hS.lt
 go_enter Tryz.func80, Tryz.ntmps80
 go_wp2_with fail
 refine (pickv_calls _ b _ w.heap.size _ _ #[.int .i64 0, .int .i64 1, .int .i64 1, .int .i64 2, .int .i64 3] (hS.alloc _) (Blk.new _ _ _) (by omega) (by omega) rfl (by decide) (by decide) rfl).mono ?_;rintro e w1 ⟨m, hmem, rfl, hS1, hM1⟩
 have hm02 : 0 ≤ m ∧ m ≤ 3 := by
  have : m = 0 ∨ m = 1 ∨ m = 1 ∨ m = 2 ∨ m = 3 := by simpa [intsOf, Go.RowKit.intOf] using hmem
  omega
 obtain ⟨hm0, hm2⟩ := hm02;obtain ⟨m, rfl⟩ := Int.eq_ofNat_of_zero_le hm0
 have hm2' : m ≤ 3 := by omega
 have m1 : Mod (· = b) w w1 := ((Mod.refl _ _).alloc _).trans hM1;clear hmem hS hM1 hm0 hm2 hbl
 go_wp2_with fail
 go_loopg [3, 8] m (fun gk x i wr => It1 w b N m gk x i wr)
 case atStart => exact ⟨0, ⟨#[]⟩, rfl, by omega, rfl, rfl, by simp [ByteArray.size], hS1.more (by omega), m1⟩
 case round =>
  clear hS1 m1;obtain ⟨j, a, rfl, hj, rfl, rfl, ha, hS1, hM1⟩ := hrel
  by_cases hlt : j < m
  ·go_wp2_with fail
   refine (range_calls _ b _ _ _ hS1 (by omega) (by omega) (by omega) (by omega)).mono ?_;rintro e w2 ⟨r, hr0, hr1, rfl, hS2, hM2⟩;obtain ⟨r, rfl⟩ := Int.eq_ofNat_of_zero_le hr0
   have hr6 : r ≤ 6 := by omega
   have m2 := hM1.trans hM2;clear hS1 hM1 hM2 hr0 hr1
   go_wp2_with fail
   go_loopg [3, 12] r (fun gk x i wr => It2 w b N j r gk x i wr)
   case atStart => exact ⟨0, a, rfl, by omega, rfl, rfl, by omega, hS2.more (by omega), m2⟩
   case round =>
    clear hS2 m2 ha;obtain ⟨k, a, rfl, hk, rfl, rfl, ha, hS2, m2⟩ := hrel;have hbl := hS2.lt
    by_cases hlk : k < r
    ·by_cases hk0 : k = 0
     ·subst hk0
      go_wp2_with fail
      refine (someb_calls _ b _ _ _ _ itWords 8 rfl (by decide) (hS2.alloc _) (by omega) (Blk.new _ _ _) (by omega) (by decide) (by decide)).mono ?_;rintro e w3 ⟨s, hs, rfl, hS3, hM3⟩;have m3 := (m2.alloc _).trans hM3
      have hz : (⟨s.toArray⟩ : ByteArray).size ≤ 8 := by simpa [ByteArray.size] using hs
      generalize (⟨s.toArray⟩ : ByteArray) = z at *;clear hS2 hM3 m2 hs
      go_wp2_with fail
      go_roundg (r - (0 + 1))
      case measure => omega
      case rel => exact ⟨0 + 1, _, rfl, by omega, rfl, by simp, by rw [ByteArray.size_append]; omega, hS3.more (by omega), m3⟩
     ·have hk1 : (0 : Int) < (k : Int) := by omega
      go_wp2_with fail
      refine (someb_calls _ b _ _ _ _ itSeps 2 rfl (by decide) (hS2.alloc _) (by omega) (Blk.new _ _ _) (by omega) (by decide) (by decide)).mono ?_;rintro e w3 ⟨s, hs, rfl, hS3, hM3⟩;have m3 := (m2.alloc _).trans hM3
      have hz : (⟨s.toArray⟩ : ByteArray).size ≤ 2 := by simpa [ByteArray.size] using hs
      generalize (⟨s.toArray⟩ : ByteArray) = z at *;have hbl3 := hS3.lt
      have hza : (a ++ z).size ≤ 100 * j + 10 * k + 2 := by rw [ByteArray.size_append]; omega
      clear hS2 hM3 m2 hs hbl
      go_wp2_with fail
      refine (someb_calls _ b _ _ _ _ itWords 8 rfl (by decide) (hS3.alloc _) (by omega) (Blk.new _ _ _) (by omega) (by decide) (by decide)).mono ?_;rintro e w4 ⟨s, hs, rfl, hS4, hM4⟩;have m4 := (m3.alloc _).trans hM4
      have hz2 : (⟨s.toArray⟩ : ByteArray).size ≤ 8 := by simpa [ByteArray.size] using hs
      generalize (⟨s.toArray⟩ : ByteArray) = z2 at *;generalize a ++ z = az at *;clear hS3 hM4 m3 hs hz ha
      go_wp2_with fail
      go_roundg (r - (k + 1))
      case measure => omega
      case rel => exact ⟨k + 1, _, rfl, by omega, rfl, by simp, by rw [ByteArray.size_append]; omega, hS4.more (by omega), m4⟩
    ·obtain rfl : k = r := by omega
     have hz1 : (⟨#[10]⟩ : ByteArray).size = 1 := rfl
     go_wp2_with fail
     go_roundg (m - (j + 1))
     case measure => omega
     case rel => exact ⟨j + 1, _, rfl, by omega, rfl, by simp, by rw [ByteArray.size_append]; omega, hS2.more (by omega), m2⟩
  ·obtain rfl : j = m := by omega
   go_wp2_with fail
   go_ret;exact ⟨a.data.toList, by simp; omega, by simp, hS1.more (by omega), hM1⟩

def someA : List Str := [[97, 110, 110], [98, 111, 98], [99, 105, 100]]
def someB : List Str := [[], [109, 101, 109, 111], [84, 104, 101, 32, 100, 101, 97, 108], [120, 45, 49, 46, 116, 120, 116]]
/-- An item with bounded strings is returned. -/
def ItemPostG (w : World) (b N : Nat) (e : Ending) (w' : World) : Prop := ∃ x : Itm, ItG x ∧ e = .returned (itA x) ∧ Strm w' b N ∧ Mod (· = b) w w'
def ItCut (w : World) (b N gr gx : Nat) (wx : World) : Prop :=
 ∃ x : Itm, ItG x ∧ Blk wx gx 83 (itQ x) ∧ Blk wx gr 83 itZc ∧ Strm wx b N ∧ Mod (· = b) w wx

set_option maxRecDepth 100000 in
set_option maxHeartbeats 8000000 in
theorem item_callsG (w : World) (b N : Nat) (id : Str) (hS : Strm w b N) (hN : N ≤ 800000000) (hid : id.length ≤ 100) : Calls Tryz.prog 40 #[.pointer (some ⟨b, 0, none⟩), .string ⟨id.toArray⟩] w (ItemPostG w b (N + 140)) := by
 have hbl := hS.lt;have HR0 := Lib.hid (Blk.new w 83 itZc);unfold itZc at HR0
 go_enter Tryz.func40, Tryz.ntmps40
 go_wp2_with fail
 refine (someb_calls _ b _ _ _ _ someA 3 rfl (by decide) ((hS.alloc _).alloc _) (by omega) (Blk.snd _ _ _ _) (by omega) (by decide) (by decide)).mono ?_;rintro e w1 ⟨s1, hs1, rfl, hS1, hM1⟩;have R1 := (HR0.out.alloc _).mod hM1 (by omega);have m1 : Mod (· = b) w w1 := (((Mod.refl _ _).alloc _).alloc _).trans hM1;obtain ⟨gr, hgr⟩ : ∃ gr, gr = w.heap.size := ⟨_, rfl⟩;rw [← hgr] at R1 ⊢;have hgr1 := Nat.le_of_eq hgr;have hgr2 := Nat.le_of_eq hgr.symm
 have hbr : b < gr := by omega
 clear hgr HR0 hM1 hS;have hl1 := hS1.lt
 go_wp2_with fail
 refine (pickv_calls _ b _ w1.heap.size _ _ #[.int .i64 1, .int .i64 1, .int .i64 1, .int .i64 2, .int .i64 3, .int .i64 3, .int .i64 4] (hS1.alloc _) (Blk.new _ _ _) (by omega) (by omega) rfl (by decide) (by decide) rfl).mono ?_;rintro e w2 ⟨kd, _, rfl, hS2, hM2⟩;have R2 := (R1.alloc _).mod hM2 (by omega);have m2 := (m1.alloc _).trans hM2;clear R1 m1 hS1 hM2 hl1;have hl2 := hS2.lt
 go_wp2_with fail
 refine (someb_calls _ b _ _ _ _ someB 8 rfl (by decide) (hS2.alloc _) (by omega) (Blk.new _ _ _) (by omega) (by decide) (by decide)).mono ?_;rintro e w3 ⟨s3, hs3, rfl, hS3, hM3⟩;have R3 := (R2.alloc _).mod hM3 (by omega);have m3 := (m2.alloc _).trans hM3;clear R2 m2 hS2 hM3 hl2;have hl3 := hS3.lt
 go_wp2_with fail
 refine (pickv_calls _ b _ w3.heap.size _ _ #[.int .i64 0, .int .i64 10, .int .i64 100, .int .i64 1439, .int .i64 1440, .int .i64 5000, .int .i64 20000] (hS3.alloc _) (Blk.new _ _ _) (by omega) (by omega) rfl (by decide) (by decide) rfl).mono ?_;rintro e w4 ⟨tm, _, rfl, hS4, hM4⟩;have R4 := (R3.alloc _).mod hM4 (by omega);have m4 := (m3.alloc _).trans hM4;clear R3 m3 hS3 hM4 hl3
 go_wp2_with fail
 refine (itemText_calls _ b _ hS4 (by omega)).mono ?_;rintro e w5 ⟨s5, hs5, rfl, hS5, hM5⟩;have R5 := R4.mod hM5 (by omega);have m5 := m4.trans hM5;clear R4 m4 hS4 hM5
 go_wp2_with fail
 refine (itemText_calls _ b _ hS5 (by omega)).mono ?_;rintro e w6 ⟨s6, hs6, rfl, hS6, hM6⟩;have R6 := R5.mod hM6 (by omega);have m6 := m5.trans hM6;clear R5 m5 hS5 hM6;have hl6 := hS6.lt
 go_wp2_with fail
 refine (someb_calls _ b _ _ _ _ [[], [111, 110, 101, 10], [111, 110, 101, 10, 116, 119, 111, 10], s5, s6] 300 rfl (le_cons (by decide) (le_cons (by decide) (le_cons (by decide) (le_cons hs5 (le_cons hs6 le_nil))))) (hS6.alloc _) (by omega) (Blk.new _ _ _) (by omega) (by simp) (by simp)).mono ?_;rintro e w7 ⟨s7, hs7, rfl, hS7, hM7⟩;have R7 := (R6.alloc _).mod hM7 (by omega);have m7 := (m6.alloc _).trans hM7;clear R6 m6 hS6 hM7 hl6 hs5 hs6;have HB := Lib.hid (Blk.new w7 83 (itQ ⟨id, s1, kd, s3, tm, [], s7⟩));have R8 := R7.alloc (.cells (itQ ⟨id, s1, kd, s3, tm, [], s7⟩) 83);have m8 := m7.alloc (.cells (itQ ⟨id, s1, kd, s3, tm, [], s7⟩) 83);have hS8 := hS7.alloc (.cells (itQ ⟨id, s1, kd, s3, tm, [], s7⟩) 83);have hrl := R7.lt;have hl7 := hS7.lt;unfold itQ at HB R8 m8 hS8;simp only at HB R8 m8 hS8;have HR8 := Lib.hid R8;have Hm8 := Lib.hid m8;have HS8 := Lib.hid hS8;clear R7 m7 hS7 R8 m8 hS8
 go_wp2_with fail
 refine (flip_calls _ b _ _ HS8.out (by omega) (by omega) (by omega)).mono ?_;rintro e w9 ⟨fl, rfl, hS9, hM9⟩;have B9 := HB.out.mod hM9 (by omega);have R9 := HR8.out.mod hM9 (by omega);have m9 := Hm8.out.trans hM9;generalize w7.heap.size = gx at *;clear HB HR8 Hm8 HS8 hM9
 go_upto_if 28 with (fail)
 go_cut [] (fun wx => ItCut w b (N + 140) gr gx wx)
 case first =>
  cases fl
  ·go_wp2_with fail
   go_meet;exact ⟨⟨id, s1, kd, s3, tm, [], s7⟩, ⟨by show id.length ≤ _; omega, by show s1.length ≤ _; omega, by show s3.length ≤ _; omega, by simp, by show s7.length ≤ _; omega⟩, B9, R9, hS9.more (by omega), m9⟩
  go_wp2_with fail
  refine (next_calls _ b _ _ hS9 (by omega) (by omega) (by omega)).mono ?_;rintro e w10 ⟨k, hk0, hk1, rfl, hS10, hM10⟩;have B10 := B9.mod hM10 (by omega);have R10 := R9.mod hM10 (by omega);have m10 := m9.trans hM10;have hl10 := hS10.lt;clear B9 R9 m9 hS9 hM10
  have HST : Hid (∀ (W : World) (j : Nat) (u : Value), b < gx → Strm W b (N + 140) → Mod (· = b) w W → Blk W gr 83 itZc → Strm (W.setCell ⟨gx, j, none⟩ u) b (N + 140) ∧ Mod (· = b) w (W.setCell ⟨gx, j, none⟩ u) ∧ Blk (W.setCell ⟨gx, j, none⟩ u) gr 83 itZc) :=
   Lib.hid (fun W j u h1 h2 h3 h4 => ⟨h2.setCell h1 _, h3.setCell (p := ⟨gx, j, none⟩) (.inr (by show _ ≤ gx; omega)) _, h4.far (p := ⟨gx, j, none⟩) (by show gr ≠ gx; omega) _⟩)
  by_cases k0 : k = 0
  ·subst k0
   go_wp2_with fail
   refine (someb_calls _ b _ _ _ _ [[], [65], id] 100 rfl (le_cons (by decide) (le_cons (by decide) (le_cons hid le_nil))) (hS10.alloc _) (by omega) (Blk.new _ _ _) (by omega) (by simp) (by simp)).mono ?_;rintro e w11 ⟨t1, ht1, rfl, hS11, hM11⟩;have B11 := (B10.alloc _).mod hM11 (by omega);have R11 := (R10.alloc _).mod hM11 (by omega);have m11 := (m10.alloc _).trans hM11;have hl11 := hS11.lt;clear B10 R10 m10 hS10 hM11
   go_wp2_with fail
   refine (someb_calls _ b _ _ _ _ [[], [65, 110, 110], [97, 110, 110]] 3 rfl (by decide) (hS11.alloc _) (by omega) (Blk.new _ _ _) (by omega) (by simp) (by simp)).mono ?_;rintro e w12 ⟨t2, ht2, rfl, hS12, hM12⟩;have B12 := (B11.alloc _).mod hM12 (by omega);have R12 := (R11.alloc _).mod hM12 (by omega);have m12 := (m11.alloc _).trans hM12;clear B11 R11 m11 hS11 hM12;have HB := Lib.hid B12;have c0 := B12.cell 0; have cf0 := B12.frozen 0; have c1 := B12.cell 1; have cf1 := B12.frozen 1; have c2 := B12.cell 2; have cf2 := B12.frozen 2; have c3 := B12.cell 3; have cf3 := B12.frozen 3; have c4 := B12.cell 4; have cf4 := B12.frozen 4; have c5 := B12.cell 5; have cf5 := B12.frozen 5; have c6 := B12.cell 6; have cf6 := B12.frozen 6; simp at c0 c1 c2 c3 c4 c5 c6;clear B12
   go_wp2_with fail
   go_meet;obtain ⟨a1, a2, a3⟩ := HST.out _ 0 (.string ⟨t1.toArray⟩) (by omega) (hS12.more (by omega)) m12 R12;obtain ⟨d1, d2, d3⟩ := HST.out _ 1 (.string ⟨t2.toArray⟩) (by omega) a1 a2 a3;exact ⟨⟨t1, t2, kd, s3, tm, [], s7⟩, ⟨by show t1.length ≤ _; omega, by show t2.length ≤ _; omega, by show s3.length ≤ _; omega, by simp, by show s7.length ≤ _; omega⟩, by have := (HB.out.set 0 (.string ⟨t1.toArray⟩)).set 1 (.string ⟨t2.toArray⟩); simpa [itQ] using this, d3, d1, d2⟩
  have k0' : (k == 0) = false := by simpa using k0
  by_cases k1 : k = 1
  ·subst k1
   go_wp2_with fail
   refine (odd_calls _ b _ _ _ hS10 (by omega) (by omega) (by omega) (by omega)).mono ?_;rintro e w11 ⟨z, _, _, rfl, hS11, hM11⟩;have B11 := B10.mod hM11 (by omega);have R11 := R10.mod hM11 (by omega);have m11 := m10.trans hM11;clear B10 R10 m10 hS10 hM11;have HB := Lib.hid B11;have c0 := B11.cell 0; have cf0 := B11.frozen 0; have c1 := B11.cell 1; have cf1 := B11.frozen 1; have c2 := B11.cell 2; have cf2 := B11.frozen 2; have c3 := B11.cell 3; have cf3 := B11.frozen 3; have c4 := B11.cell 4; have cf4 := B11.frozen 4; have c5 := B11.cell 5; have cf5 := B11.frozen 5; have c6 := B11.cell 6; have cf6 := B11.frozen 6; simp at c0 c1 c2 c3 c4 c5 c6;clear B11
   go_wp2_with fail
   go_meet;obtain ⟨a1, a2, a3⟩ := HST.out _ 2 (.int .i64 z) (by omega) (hS11.more (by omega)) m11 R11;exact ⟨⟨id, s1, z, s3, tm, [], s7⟩, ⟨by show id.length ≤ _; omega, by show s1.length ≤ _; omega, by show s3.length ≤ _; omega, by simp, by show s7.length ≤ _; omega⟩, by have := HB.out.set 2 (.int .i64 z); simpa [itQ] using this, a3, a1, a2⟩
  have k1' : (k == 1) = false := by simpa using k1
  by_cases k2 : k = 2
  ·subst k2
   go_wp2_with fail
   refine (pickv_calls _ b _ w10.heap.size _ _ #[.int .i64 120, .int .i64 121] (hS10.alloc _) (Blk.new _ _ _) (by omega) (by omega) rfl (by decide) (by decide) rfl).mono ?_;rintro e w11 ⟨z, hz, rfl, hS11, hM11⟩
   have hz2 : 2 ≤ z ∧ z ≤ 200 := by
    have : z = 120 ∨ z = 121 := by simpa [intsOf, Go.RowKit.intOf] using hz
    omega
   obtain ⟨z, rfl⟩ := Int.eq_ofNat_of_zero_le (by omega : 0 ≤ z);have B11 := (B10.alloc _).mod hM11 (by omega);have R11 := (R10.alloc _).mod hM11 (by omega);have m11 := (m10.alloc _).trans hM11;clear B10 R10 m10 hS10 hM11 hz
   go_wp2_with fail
   refine (repeatA_calls _ z (by omega) (by omega)).mono ?_;rintro e w12 ⟨t1, ht1, rfl, hM12⟩;have B12 := B11.mod hM12 _root_.id;have R12 := R11.mod hM12 _root_.id;have m12 := m11.transp hM12;have hS12 := hS11.pure hM12;have hl12 := hS12.lt
   have ht1' : t1.length ≤ 200 := by omega
   clear B11 R11 m11 hS11 hM12 ht1 hz2
   go_wp2_with fail
   refine (someb_calls _ b _ _ _ _ [[32, 97], [97, 32, 32, 98], [97, 10], [255], t1] 200 rfl (le_cons (by decide) (le_cons (by decide) (le_cons (by decide) (le_cons (by decide) (le_cons ht1' le_nil))))) (hS12.alloc _) (by omega) (Blk.new _ _ _) (by omega) (by simp) (by simp)).mono ?_;rintro e w13 ⟨t2, ht2, rfl, hS13, hM13⟩;have B13 := (B12.alloc _).mod hM13 (by omega);have R13 := (R12.alloc _).mod hM13 (by omega);have m13 := (m12.alloc _).trans hM13;clear B12 R12 m12 hS12 hM13;have HB := Lib.hid B13;have c0 := B13.cell 0; have cf0 := B13.frozen 0; have c1 := B13.cell 1; have cf1 := B13.frozen 1; have c2 := B13.cell 2; have cf2 := B13.frozen 2; have c3 := B13.cell 3; have cf3 := B13.frozen 3; have c4 := B13.cell 4; have cf4 := B13.frozen 4; have c5 := B13.cell 5; have cf5 := B13.frozen 5; have c6 := B13.cell 6; have cf6 := B13.frozen 6; simp at c0 c1 c2 c3 c4 c5 c6;clear B13
   go_wp2_with fail
   go_meet;obtain ⟨a1, a2, a3⟩ := HST.out _ 3 (.string ⟨t2.toArray⟩) (by omega) (hS13.more (by omega)) m13 R13;exact ⟨⟨id, s1, kd, t2, tm, [], s7⟩, ⟨by show id.length ≤ _; omega, by show s1.length ≤ _; omega, by show t2.length ≤ _; omega, by simp, by show s7.length ≤ _; omega⟩, by have := HB.out.set 3 (.string ⟨t2.toArray⟩); simpa [itQ] using this, a3, a1, a2⟩
  have k2' : (k == 2) = false := by simpa using k2
  by_cases k3 : k = 3
  ·subst k3
   go_wp2_with fail
   refine (odd_calls _ b _ _ _ hS10 (by omega) (by omega) (by omega) (by omega)).mono ?_;rintro e w11 ⟨z, _, _, rfl, hS11, hM11⟩;have B11 := B10.mod hM11 (by omega);have R11 := R10.mod hM11 (by omega);have m11 := m10.trans hM11;clear B10 R10 m10 hS10 hM11;have HB := Lib.hid B11;have c0 := B11.cell 0; have cf0 := B11.frozen 0; have c1 := B11.cell 1; have cf1 := B11.frozen 1; have c2 := B11.cell 2; have cf2 := B11.frozen 2; have c3 := B11.cell 3; have cf3 := B11.frozen 3; have c4 := B11.cell 4; have cf4 := B11.frozen 4; have c5 := B11.cell 5; have cf5 := B11.frozen 5; have c6 := B11.cell 6; have cf6 := B11.frozen 6; simp at c0 c1 c2 c3 c4 c5 c6;clear B11
   go_wp2_with fail
   go_meet;obtain ⟨a1, a2, a3⟩ := HST.out _ 4 (.int .i64 z) (by omega) (hS11.more (by omega)) m11 R11;exact ⟨⟨id, s1, kd, s3, z, [], s7⟩, ⟨by show id.length ≤ _; omega, by show s1.length ≤ _; omega, by show s3.length ≤ _; omega, by simp, by show s7.length ≤ _; omega⟩, by have := HB.out.set 4 (.int .i64 z); simpa [itQ] using this, a3, a1, a2⟩
  have k3' : (k == 3) = false := by simpa using k3
  by_cases k4 : k = 4
  ·subst k4
   go_wp2_with fail
   refine (someb_calls _ b _ _ _ _ [[65], id, [57]] 100 rfl (le_cons (by decide) (le_cons hid (le_cons (by decide) le_nil))) (hS10.alloc _) (by omega) (Blk.new _ _ _) (by omega) (by simp) (by simp)).mono ?_;rintro e w11 ⟨t1, ht1, rfl, hS11, hM11⟩;have B11 := (B10.alloc _).mod hM11 (by omega);have R11 := (R10.alloc _).mod hM11 (by omega);have m11 := (m10.alloc _).trans hM11;clear B10 R10 m10 hS10 hM11;have HB := Lib.hid B11;have c0 := B11.cell 0; have cf0 := B11.frozen 0; have c1 := B11.cell 1; have cf1 := B11.frozen 1; have c2 := B11.cell 2; have cf2 := B11.frozen 2; have c3 := B11.cell 3; have cf3 := B11.frozen 3; have c4 := B11.cell 4; have cf4 := B11.frozen 4; have c5 := B11.cell 5; have cf5 := B11.frozen 5; have c6 := B11.cell 6; have cf6 := B11.frozen 6; simp at c0 c1 c2 c3 c4 c5 c6;clear B11
   go_wp2_with fail
   go_meet;obtain ⟨a1, a2, a3⟩ := HST.out _ 5 (.string ⟨t1.toArray⟩) (by omega) (hS11.more (by omega)) m11 R11;exact ⟨⟨id, s1, kd, s3, tm, t1, s7⟩, ⟨by show id.length ≤ _; omega, by show s1.length ≤ _; omega, by show s3.length ≤ _; omega, by show t1.length ≤ _; omega, by show s7.length ≤ _; omega⟩, by have := HB.out.set 5 (.string ⟨t1.toArray⟩); simpa [itQ] using this, a3, a1, a2⟩
  have k4' : (k == 4) = false := by simpa using k4
  go_wp2_with fail
  refine (pickv_calls _ b _ w10.heap.size _ _ #[.int .i64 19999, .int .i64 20000] (hS10.alloc _) (Blk.new _ _ _) (by omega) (by omega) rfl (by decide) (by decide) rfl).mono ?_;rintro e w11 ⟨z, hz, rfl, hS11, hM11⟩
  have hz2 : 2 ≤ z ∧ z ≤ 20000 := by
   have : z = 19999 ∨ z = 20000 := by simpa [intsOf, Go.RowKit.intOf] using hz
   omega
  obtain ⟨z, rfl⟩ := Int.eq_ofNat_of_zero_le (by omega : 0 ≤ z);have B11 := (B10.alloc _).mod hM11 (by omega);have R11 := (R10.alloc _).mod hM11 (by omega);have m11 := (m10.alloc _).trans hM11;clear B10 R10 m10 hS10 hM11 hz
  go_wp2_with fail
  refine (repeatA_calls _ z (by omega) (by omega)).mono ?_;rintro e w12 ⟨t1, ht1, rfl, hM12⟩;have B12 := B11.mod hM12 _root_.id;have R12 := R11.mod hM12 _root_.id;have m12 := m11.transp hM12;have hS12 := hS11.pure hM12;have hl12 := hS12.lt
  have ht1' : (t1 ++ [10]).length ≤ 20001 := by simp; omega
  have hap := bytes_app t1 [10]
  have hsz : (⟨t1.toArray⟩ : ByteArray).size ≤ 20000 := by simp [ByteArray.size]; omega
  have HAP : Hid ((⟨t1.toArray⟩ : ByteArray) ++ ⟨#[10]⟩ = ⟨(t1 ++ [10]).toArray⟩) := Lib.hid hap;clear B11 R11 m11 hS11 hM12 ht1 hz2 hap;generalize t1 ++ [10] = t3 at *;generalize (⟨t1.toArray⟩ : ByteArray) = z1 at *
  go_wp2_with fail
  rw [HAP.out];refine (someb_calls _ b _ _ _ _ [[110, 111, 32, 101, 110, 100], [1, 10], [127, 10], [255, 10], t3] 20001 rfl (le_cons (by decide) (le_cons (by decide) (le_cons (by decide) (le_cons (by decide) (le_cons ht1' le_nil))))) (hS12.alloc _) (by omega) (Blk.new _ _ _) (by omega) (by simp) (by simp)).mono ?_;rintro e w13 ⟨t2, ht2, rfl, hS13, hM13⟩;have B13 := (B12.alloc _).mod hM13 (by omega);have R13 := (R12.alloc _).mod hM13 (by omega);have m13 := (m12.alloc _).trans hM13;clear B12 R12 m12 hS12 hM13;have HB := Lib.hid B13;have c0 := B13.cell 0; have cf0 := B13.frozen 0; have c1 := B13.cell 1; have cf1 := B13.frozen 1; have c2 := B13.cell 2; have cf2 := B13.frozen 2; have c3 := B13.cell 3; have cf3 := B13.frozen 3; have c4 := B13.cell 4; have cf4 := B13.frozen 4; have c5 := B13.cell 5; have cf5 := B13.frozen 5; have c6 := B13.cell 6; have cf6 := B13.frozen 6; simp at c0 c1 c2 c3 c4 c5 c6;clear B13
  go_wp2_with fail
  go_meet;obtain ⟨a1, a2, a3⟩ := HST.out _ 6 (.string ⟨t2.toArray⟩) (by omega) (hS13.more (by omega)) m13 R13;exact ⟨⟨id, s1, kd, s3, tm, [], t2⟩, ⟨by show id.length ≤ _; omega, by show s1.length ≤ _; omega, by show s3.length ≤ _; omega, by simp, by show t2.length ≤ _; omega⟩, by have := HB.out.set 6 (.string ⟨t2.toArray⟩); simpa [itQ] using this, a3, a1, a2⟩
 case rest =>
  clear B9 R9 m9 hS9;obtain ⟨⟨y0, y1, y2, y3, y4, y5, y6⟩, hy, B, R, hS, hm⟩ := hcut;unfold itQ at B;unfold itZc at R;simp only at B;have HR := Lib.hid R;have c0 := B.cell 0; have c1 := B.cell 1; have c2 := B.cell 2; have c3 := B.cell 3; have c4 := B.cell 4; have c5 := B.cell 5; have c6 := B.cell 6; simp at c0 c1 c2 c3 c4 c5 c6;have d0 := R.cell 0; have df0 := R.frozen 0; have d1 := R.cell 1; have df1 := R.frozen 1; have d2 := R.cell 2; have df2 := R.frozen 2; have d3 := R.cell 3; have df3 := R.frozen 3; have d4 := R.cell 4; have df4 := R.frozen 4; have d5 := R.cell 5; have df5 := R.frozen 5; have d6 := R.cell 6; have df6 := R.frozen 6; simp at d0 d1 d2 d3 d4 d5 d6;clear B R
  go_wp2_with fail
  have q := HR.out.set7 (x0 := .string ⟨y0.toArray⟩) (x1 := .string ⟨y1.toArray⟩) (x2 := .int .i64 y2) (x3 := .string ⟨y3.toArray⟩) (x4 := .int .i64 y4) (x5 := .string ⟨y5.toArray⟩) (x6 := .string ⟨y6.toArray⟩);have hm7 := Mod.set7 wc gr (.string ⟨y0.toArray⟩) (.string ⟨y1.toArray⟩) (.int .i64 y2) (.string ⟨y3.toArray⟩) (.int .i64 y4) (.string ⟨y5.toArray⟩) (.string ⟨y6.toArray⟩);have r0 := q.cell 0; have r1 := q.cell 1; have r2 := q.cell 2; have r3 := q.cell 3; have r4 := q.cell 4; have r5 := q.cell 5; have r6 := q.cell 6; simp at r0 r1 r2 r3 r4 r5 r6;refine bodyPost_ret (v := itA ⟨y0, y1, y2, y3, y4, y5, y6⟩) (by simp [results, Tryz.results40, go_sem, itA, r0, r1, r2, r3, r4, r5, r6]) rfl ?_;exact ⟨_, hy, rfl, hS.mod hm7 (fun i hi => by omega), hm.trans' hm7 (fun i hi hlt => by omega)⟩

end Go.Proofs.YtpinlcapgoljfaaGreatDoor

/- Items of the reference: returns, treeFault, ItemsFault. -/
namespace Go.Proofs.YtpinlcapgoljfaaGreatDoor
open Go.RowKit


set_option maxRecDepth 100000 in
set_option maxHeartbeats 1000000 in
theorem indexN_calls (w : World) (v : Value) (xs : List Nat) (y : Nat) (hv : Sl w 3 1 v (natsV xs)) : Calls Tryz.prog 177 #[v, .int .i64 (y : Int)] w (IntPost w (idxQ (fun x => y == x) xs 0)) := by
 obtain ⟨A, n, c, rfl, hc1, hc2, hl, hr⟩ := hv
 have hln : xs.length = n := by rw [natsV_len] at hl; omega
 subst hln;have HR := Lib.hid hr;clear hl hr
 go_enter Tryz.func177, Tryz.ntmps177
 go_wp2_with fail
 go_loopg [8] xs.length (fun gk i wr => ∃ k : Nat, xs.length - k = gk ∧ k ≤ xs.length ∧ i = .int .i64 (k : Int) ∧ idxQ (fun x => y == x) xs 0 = idxQ (fun x => y == x) (xs.drop k) (k : Int) ∧ w = wr)
 case atStart => exact ⟨0, by omega, by omega, rfl, rfl, rfl⟩
 case round =>
  obtain ⟨k, rfl, hk, rfl, hix, rfl⟩ := hrel;have HIX := Lib.hid hix;clear hix
  by_cases hlt : k < xs.length
  ·obtain ⟨g, off, rfl, hrow⟩ := HR.out (by omega);have hq := hrow.cell (natsV_get xs k hlt);have hd : xs.drop k = xs[k] :: xs.drop (k + 1) := List.drop_eq_getElem_cons hlt
   have hi2 : idxQ (fun x => y == x) xs 0 = if (fun x => y == x) xs[k] then (k : Int) else idxQ (fun x => y == x) (xs.drop (k + 1)) ((k : Int) + 1) := by rw [HIX.out, hd]; rfl
   have HI2 := Lib.hid hi2;clear hd hi2 hrow HIX;generalize xs[k] = x at *
   have heq : ((y : Int) == (x : Int)) = (y == x) := by first | rfl | (exact Bool.eq_iff_iff.2 (by simp; try omega))
   cases hp : (y == x)
   ·have hp2 := heq.trans hp;have HP := Lib.hid hp;clear hp heq
    go_wp2_with fail
    go_roundg (xs.length - (k + 1))
    case measure => omega
    case rel => exact ⟨k + 1, rfl, hlt, by simp, by rw [HI2.out]; simp only [HP.out]; simp, rfl⟩
   ·have hp2 := heq.trans hp;have HP := Lib.hid hp;clear hp heq
    go_wp2_with fail
    go_ret;exact IntPost.of (by rw [HI2.out]; simp only [HP.out]; simp) (Mod.refl _ _)
  ·have hke : k = xs.length := by omega
   subst hke
   go_wp2_with fail
   go_ret;exact IntPost.of (by rw [HIX.out, List.drop_of_length_le (Nat.le_refl _)]; rfl) (Mod.refl _ _)


set_option maxRecDepth 100000 in
set_option maxHeartbeats 1000000 in
theorem containsN_calls (w : World) (v : Value) (xs : List Nat) (y : Nat) (hv : Sl w 3 1 v (natsV xs)) : Calls Tryz.prog 144 #[v, .int .i64 (y : Int)] w (BoolPost w (xs.any (fun x => y == x))) := by
 have HC := Lib.hid (indexN_calls w v xs y hv);have HI := Lib.hid (idxQ_any (fun x => y == x) xs 0 (by omega));obtain ⟨A, n, c, rfl⟩ := hv.form;clear hv
 go_enter Tryz.func144, Tryz.ntmps144
 go_wp2_with fail
 refine HC.out.mono ?_;rintro e w1 ⟨rfl, hm1⟩;generalize idxQ (fun x => y == x) xs 0 = r at *
 go_wp2_with fail
 go_ret;exact BoolPost.of HI.out.symm hm1


theorem any_contains (l : List Nat) (i : Nat) : (l.any fun x => i == x) = l.contains i := by
 rw [List.contains_eq_any_beq]

set_option maxRecDepth 100000 in
set_option maxHeartbeats 1000000 in
theorem returns_calls (w : World) (v : Value) (l : List Itm) (x : Itm) (i : Nat) (hx : l[i]? = some x) (hv : Its w v l) (hl : l.length ≤ 100000) : Calls Tryz.prog 118 #[v, .int .i64 (i : Int)] w (BoolPost w (lpB l i)) := by
 have HA := Lib.hid (rabove_calls w v l x i hx hv hl);have HL : Hid (((chn l (l.length + 1) i).any fun x => i == x) = lpB l i) := Lib.hid ((any_contains _ _).trans (lpB_more l i));obtain ⟨A, n, c, rfl⟩ := Sl.form hv;clear hv hx
 go_enter Tryz.func118, Tryz.ntmps118
 go_wp2_with fail
 refine HA.out.mono ?_;rintro e w1 ⟨A1, cap, bl, rfl, hown, hm⟩;have HC := Lib.hid (containsN_calls w1 _ _ i (Sl.of_own hown));rw [HL.out] at HC;clear hown HA HL;generalize (chn l (l.length + 1) i).length = k at *
 go_wp2_with fail
 refine HC.out.mono ?_;rintro e w2 ⟨rfl, m2⟩
 go_wp2_with fail
 go_ret;exact BoolPost.of rfl (hm.trans m2)

def Tr1 (w : World) (xs : List Itm) (gk : Nat) (i : Value) (wr : World) : Prop := ∃ k : Nat, xs.length - k = gk ∧ k ≤ xs.length ∧ i = .int .i64 (k : Int) ∧ (∀ j, j < k → lpB xs j = false) ∧ Pure w wr
def Tr2 (w : World) (xs : List Itm) (gk : Nat) (i : Value) (wr : World) : Prop := ∃ k : Nat, xs.length - k = gk ∧ k ≤ xs.length ∧ i = .int .i64 (k : Int) ∧ firstE (depE xs) k (xs.length - k) = firstE (depE xs) 0 xs.length ∧ Pure w wr

set_option maxRecDepth 100000 in
set_option maxHeartbeats 4000000 in
theorem treeFault_calls (w : World) (v : Value) (xs : List Itm) (hv : Its w v xs) (hl : xs.length ≤ 100000) : Calls Tryz.prog 73 #[v] w (IntPost w (treeE xs)) := by
 obtain ⟨A, n, c, rfl, hc1, hc2, hl2, hr⟩ := hv
 have hln : xs.length = n := by rw [itV_len] at hl2; omega
 subst hln;have HRET := Lib.hid (fun W (h : Pure w W) i x hx => returns_calls W (.slice A xs.length c) xs x i hx (Its.pure ⟨A, xs.length, c, rfl, hc1, hc2, hl2, hr⟩ h) hl);have HAB := Lib.hid (fun W (h : Pure w W) i x hx => rabove_calls W (.slice A xs.length c) xs x i hx (Its.pure ⟨A, xs.length, c, rfl, hc1, hc2, hl2, hr⟩ h) hl);have HPL := Lib.hid (fun W (h : Pure w W) s => place_calls W (.slice A xs.length c) xs s (Its.pure ⟨A, xs.length, c, rfl, hc1, hc2, hl2, hr⟩ h));have HR := Lib.hid hr;have m0 : Pure w w := Mod.refl _ _;clear hl2 hr
 go_enter Tryz.func73, Tryz.ntmps73
 go_wp2_with fail
 go_loopg [10] xs.length (fun gk i wr => Tr1 w xs gk i wr)
 case atStart => exact ⟨0, by omega, by omega, rfl, fun j h => absurd h (by omega), m0⟩
 case round =>
  clear m0;obtain ⟨k, rfl, hk, rfl, hno, hm⟩ := hrel
  by_cases hlt : k < xs.length
  ·have HNO := Lib.hid hno;have HC := Lib.hid (HRET.out wr hm k xs[k] (List.getElem?_eq_getElem hlt))
   have HAT : Hid (lpB xs k = true → treeE xs = 14) := Lib.hid (fun h => by
    unfold treeE
    rw [if_pos (List.any_eq_true.2 ⟨k, List.mem_range.2 hlt, h⟩)])
   clear hno
   cases hlp : lpB xs k
   ·rw [hlp] at HC
    have HN : Hid (∀ j, j < k + 1 → lpB xs j = false) := Lib.hid (fun j hj => by
     rcases Nat.lt_or_ge j k with h | h
     ·exact HNO.out j h
     ·obtain rfl : j = k := by omega
      exact hlp)
    clear HAT HNO hlp
    go_wp2_with fail
    refine HC.out.mono ?_;rintro e w1 ⟨rfl, m1⟩
    go_wp2_with fail
    go_roundg (xs.length - (k + 1))
    case measure => omega
    case rel => exact ⟨k + 1, rfl, by omega, by simp, HN.out, hm.trans m1⟩
   ·rw [hlp] at HC;have HF := Lib.hid (HAT.out hlp);clear HAT HNO hlp
    go_wp2_with fail
    refine HC.out.mono ?_;rintro e w1 ⟨rfl, m1⟩
    go_wp2_with fail
    go_ret;exact IntPost.of HF.out (hm.trans m1)
  ·obtain rfl : k = xs.length := by omega
   have HIE : Hid (treeE xs = firstE (depE xs) 0 xs.length) := Lib.hid (by
    unfold treeE;rw [if_neg];intro h;rw [List.any_eq_true] at h;obtain ⟨j, hj, h⟩ := h;rw [hno j (List.mem_range.1 hj)] at h
    cases h)
   have HNO := Lib.hid hno;clear hno hlt hk HRET
   go_wp2_with fail
   go_loopg [19] xs.length (fun gk i wr => Tr2 w xs gk i wr)
   case atStart => exact ⟨0, by omega, by omega, rfl, rfl, hm⟩
   case round =>
    clear hm;obtain ⟨k, rfl, hk, rfl, hfe, hm⟩ := hrel
    by_cases hlt : k < xs.length
    ·obtain ⟨g, off, rfl, hrow⟩ := HR.out (by omega);have HROW := Lib.hid hrow;have q5 := (item_cells (hrow.mod hm id) hlt).2.2.2.2.2.1;have HX : Hid (xs[k]? = some xs[k]) := Lib.hid (List.getElem?_eq_getElem hlt);have HQ5 := Lib.hid (fun W (h : Pure w W) => (item_cells (hrow.mod h id) hlt).2.2.2.2.2.1);have HCH := Lib.hid (chn_noloop xs HNO.out k hlt);have HDE : Hid (depE xs k = if ruleB xs xs[k] then 16 else if 4 < (chn xs xs.length k).length then 2 else 0) := Lib.hid (by unfold depE; rw [HX.out]);rw [firstE_step _ hlt] at hfe;have HFE := Lib.hid hfe
     have HRU : Hid (ruleB xs xs[k] = (decide (xs[k].par ≠ []) && match plc xs xs[k].par with
      | none => false
      | some k => match xs[k]? with
       | none => false
       | some p => decide (p.kind ≠ 1) && decide (p.kind ≠ 3))) := Lib.hid rfl
     have HPK := Lib.hid (HPL.out wr hm xs[k].par);have HABK := Lib.hid (fun W h => HAB.out W h k xs[k] HX.out)
     have i1 : (0 : Int) ≤ (k : Int) := by omega
     have i2 : (k : Int) < (xs.length : Int) := by omega
     clear hrow hfe;generalize hxk : xs[k] = x at *;clear hxk;generalize hrb : ruleB xs x = rb at *;clear hrb;rw [show decide (x.par ≠ []) = !x.par.isEmpty by cases x.par <;> simp] at HRU
     -- the part behind the rule
     have FIN : Hid (∀ n : Nat, n = (chn xs (xs.length + 1) k).length → rb = false → depE xs k = if 4 < n then 2 else 0) := Lib.hid (fun n hn h => by rw [HDE.out, h, hn, HCH.out]; rfl);have FIN2 : Hid (rb = true → depE xs k = 16) := Lib.hid (fun h => by rw [HDE.out, h]; rfl);clear HDE HCH HX;generalize depE xs k = de at *;obtain ⟨z, hzz⟩ : ∃ z, plcZ xs x.par = z := ⟨_, rfl⟩;rw [hzz] at HPK;have HZZ := Lib.hid hzz;clear hzz
     go_wp2_with fail
     refine HPK.out.mono ?_;rintro e w1 ⟨rfl, m1⟩;have m1 := hm.trans m1;have q5 := HQ5.out w1 m1;clear hm HPK HPL
     go_upto_region 11 with (fail)
     go_cut [54] (fun p wx => p = .bool rb ∧ w1 = wx)
     case first =>
      clear HABK FIN FIN2 HFE HIE HNO
      cases he : x.par.isEmpty
      ·rw [he] at HRU
       cases hp : plc xs x.par with
       | none =>
        have hrb : rb = false := by rw [HRU.out, hp]; rfl
        have hz : z = -1 := by rw [← HZZ.out]; unfold plcZ; rw [hp]
        have HRB := Lib.hid hrb;clear hrb hp HRU HZZ;subst hz
        go_wp2_with fail
        go_meet;exact ⟨by rw [HRB.out], rfl⟩
       | some j =>
        have hjl := (plc_lt _ _ _ hp).1
        have hz : z = (j : Int) := by rw [← HZZ.out]; unfold plcZ; rw [hp]
        have q2 := (item_cells (HROW.out.mod m1 id) hjl).2.2.1
        have hrb : rb = (decide (xs[j].kind ≠ 1) && decide (xs[j].kind ≠ 3)) := by
         rw [HRU.out, hp];simp only [List.getElem?_eq_getElem hjl]
         rfl
        have j1 : (0 : Int) ≤ (j : Int) := by omega
        have j2 : (j : Int) < (xs.length : Int) := by omega
        clear hp HRU HZZ;subst hz;generalize xs[j].kind = kd at *
        by_cases h1 : kd = 1
        ·have h1' : (kd != 1) = false := by simpa using h1
         have hrb2 : rb = false := by rw [hrb, h1]; rfl
         have HRB := Lib.hid hrb2;clear hrb hrb2 h1
         go_wp2_with fail
         go_meet;exact ⟨by rw [HRB.out], rfl⟩
        ·have h1' : (kd != 1) = true := by simpa using h1
         by_cases h3 : kd = 3
         ·have h3' : (kd != 3) = false := by simpa using h3
          have hrb2 : rb = false := by rw [hrb, h3]; rfl
          have HRB := Lib.hid hrb2;clear hrb hrb2 h1 h3
          go_wp2_with fail
          go_meet;exact ⟨by rw [HRB.out], rfl⟩
         ·have h3' : (kd != 3) = true := by simpa using h3
          have hrb2 : rb = true := by rw [hrb]; simp [h1, h3]
          have HRB := Lib.hid hrb2;clear hrb hrb2 h1 h3
          go_wp2_with fail
          go_meet;exact ⟨by rw [HRB.out], rfl⟩
      ·have hrb : rb = false := by rw [HRU.out, he]; rfl
       have HRB := Lib.hid hrb;clear hrb HRU
       go_wp2_with fail
       go_meet;exact ⟨by rw [HRB.out], rfl⟩
     case rest =>
      obtain ⟨rfl, rfl⟩ := hcut;clear HRU q5 HQ5 HROW
      cases rb
      ·have HAW := Lib.hid (HABK.out _ m1);clear FIN2 HABK
       go_wp2_with fail
       refine HAW.out.mono ?_;rintro e w2 ⟨A1, cap, bl, rfl, _, m2⟩;have m3 := m1.trans m2;have HFN := Lib.hid (FIN.out _ rfl (by simp));clear HAW FIN m1 m2;generalize (chn xs (xs.length + 1) k).length = n at *
       by_cases h4 : 4 < n
       ·have h4' : (4 : Int) < (n : Int) := by omega
        have hd : de = 2 := by rw [HFN.out, if_pos h4]
        have HF : Hid (treeE xs = 2) := Lib.hid (by
         rw [HIE.out, ← HFE.out, hd]
         rfl)
        clear HFE HFN hd h4
        go_wp2_with fail
        go_ret;exact IntPost.of HF.out m3
       ·have h4' : ¬ ((4 : Int) < (n : Int)) := by omega
        have hd : de = 0 := by rw [HFN.out, if_neg h4]
        have HN : Hid (firstE (depE xs) (k + 1) (xs.length - (k + 1)) = firstE (depE xs) 0 xs.length) := Lib.hid (by
         have := HFE.out
         rwa [if_neg (by simpa using hd)] at this)
        clear HFE HFN hd h4
        go_wp2_with fail
        go_roundg (xs.length - (k + 1))
        case measure => omega
        case rel => exact ⟨k + 1, rfl, by omega, by simp, HN.out, m3⟩
      ·have hd : de = 16 := FIN2.out (by simp)
       have HF : Hid (treeE xs = 16) := Lib.hid (by
        rw [HIE.out, ← HFE.out, hd]
        rfl)
       clear HFE FIN FIN2 HABK hd
       go_wp2_with fail
       go_ret;exact IntPost.of HF.out m1
    ·obtain rfl : k = xs.length := by omega
     have HF : Hid (treeE xs = 0) := Lib.hid (by rw [HIE.out, ← hfe, Nat.sub_self]; rfl);clear hfe
     go_wp2_with fail
     go_ret;exact IntPost.of HF.out hm

end Go.Proofs.YtpinlcapgoljfaaGreatDoor

/- Items of the reference: ItemsFault. -/
namespace Go.Proofs.YtpinlcapgoljfaaGreatDoor
open Go.RowKit

def Jf1 (w : World) (xs : List Itm) (gk : Nat) (lv i : Value) (wr : World) : Prop := ∃ k : Nat, xs.length - k = gk ∧ k ≤ xs.length ∧ lv = .string ⟨(pid xs k).toArray⟩ ∧ i = .int .i64 (k : Int) ∧ ordE itemE (pid xs k) (xs.drop k) = ordE itemE [] xs ∧ Pure w wr
def Jf2 (w : World) (xs : List Itm) (gk : Nat) (i : Value) (wr : World) : Prop := ∃ k : Nat, xs.length - k = gk ∧ k ≤ xs.length ∧ i = .int .i64 (k : Int) ∧ (xs.take k).any (missB xs) = false ∧ Pure w wr
theorem missB_plcZ (l : List Itm) (x : Itm) : missB l x = (!x.par.isEmpty && decide (plcZ l x.par < 0)) := by
 unfold missB plcZ;rw [show decide (x.par ≠ []) = !x.par.isEmpty by cases x.par <;> simp]
 cases plc l x.par with
 | none => rfl
 | some k =>
  rw [show decide (((k : Nat) : Int) < 0) = false by simp]
  rfl

set_option maxRecDepth 100000 in
set_option maxHeartbeats 8000000 in
theorem itemsFault_calls (w : World) (v : Value) (xs : List Itm) (hv : Its w v xs) (hz : ∀ x ∈ xs, ItB x) (hl : xs.length ≤ 2000) (hE : Env w) : Calls Tryz.prog 31 #[v] w (IntPost w (itsE itemE xs)) := by
 obtain ⟨A, n, c, rfl, hc1, hc2, hl2, hr⟩ := hv
 have hln : xs.length = n := by rw [itV_len] at hl2; omega
 subst hln;have HTF := Lib.hid (fun W (h : Pure w W) => treeFault_calls W (.slice A xs.length c) xs (Its.pure ⟨A, xs.length, c, rfl, hc1, hc2, hl2, hr⟩ h) (by omega));have HPL := Lib.hid (fun W (h : Pure w W) s => place_calls W (.slice A xs.length c) xs s (Its.pure ⟨A, xs.length, c, rfl, hc1, hc2, hl2, hr⟩ h));have HR := Lib.hid hr;have HZ := Lib.hid hz;have HE := Lib.hid hE;have HIE : Hid (itsE itemE xs = if ordE itemE [] xs ≠ 0 then ordE itemE [] xs else if xs.any (missB xs) then 8 else treeE xs) := Lib.hid (by unfold itsE; rw [if_neg (by omega)])
 have n1 : ¬ ((2000 : Int) < (xs.length : Int)) := by omega
 have m0 : Pure w w := Mod.refl _ _;clear hl2 hr hz hE
 go_enter Tryz.func31, Tryz.ntmps31
 go_wp2_with fail
 go_loopg [3, 14] xs.length (fun gk lv i wr => Jf1 w xs gk lv i wr)
 case atStart => exact ⟨0, by omega, by omega, rfl, rfl, rfl, m0⟩
 case round =>
  clear m0;obtain ⟨k, rfl, hk, rfl, rfl, hord, hm⟩ := hrel
  by_cases hlt : k < xs.length
  ·obtain ⟨g, off, rfl, hrow⟩ := HR.out (by omega);obtain ⟨q0, q1, q2, q3, q4, q5, q6⟩ := item_cells (hrow.mod hm id) hlt;have HST := Lib.hid (ordE_step (E := itemE) hlt (pid xs k));rw [hord] at HST;have HPI := Lib.hid (pid_succ hlt);have HIF := Lib.hid (itemFault_calls (wr.alloc (.cells (itQ xs[k]) 83)) xs[k] (HZ.out _ (List.getElem_mem hlt)) (HE.out.pure (hm.alloc _)));have HB0 := Lib.hid (Blk.new wr 83 (itQ xs[k]));have Hm0 := Lib.hid (hm.alloc (.cells (itQ xs[k]) 83));obtain ⟨p, hp⟩ : ∃ p, pid xs k = p := ⟨_, rfl⟩;rw [hp] at HST ⊢;clear hrow hord hm hp;generalize xs[k] = x at *;obtain ⟨e1, he1⟩ : ∃ e1, itemE x = e1 := ⟨_, rfl⟩;rw [he1] at HST HIF;clear he1;unfold itA at HIF;unfold itQ at HIF HB0 Hm0
   go_wp2_with fail
   refine HIF.out.mono ?_;rintro e w1 ⟨rfl, m1⟩;have B1 := HB0.out.mod m1 id;have m2 := Hm0.out.trans m1;clear HIF HB0 Hm0 m1 q0 q1 q2 q3 q4 q5 q6;generalize wr.heap.size = gs at *
   by_cases he0 : e1 = 0
   ·subst he0;have c0 := B1.cell 0; have c1 := B1.cell 1; have c2 := B1.cell 2; have c3 := B1.cell 3; have c4 := B1.cell 4; have c5 := B1.cell 5; have c6 := B1.cell 6; simp at c0 c1 c2 c3 c4 c5 c6;clear B1
    cases hle : leS x.id p
    ·have hle2 : (Op.bytesLess x.id p || x.id == p) = false := hle
     have HS1 : Hid (ordE itemE [] xs = ordE itemE x.id (xs.drop (k + 1))) := Lib.hid (by
      rw [HST.out, if_neg (by simp), if_neg];intro h;rw [leS_iff.2 h] at hle
      cases hle)
     clear HST hle
     go_wp2_with fail
     go_roundg (xs.length - (k + 1))
     case measure => omega
     case rel => exact ⟨k + 1, rfl, by omega, by rw [HPI.out], by simp, by rw [HPI.out, HS1.out], m2⟩
    ·have hle2 : (Op.bytesLess x.id p || x.id == p) = true := hle
     have HF : Hid (itsE itemE xs = 7) := Lib.hid (by
      have : ordE itemE [] xs = 7 := by rw [HST.out, if_neg (by simp), if_pos (leS_iff.1 hle)]
      rw [HIE.out, this]
      rfl)
     clear HST hle HIE
     go_wp2_with fail
     go_ret;exact IntPost.of HF.out m2
   ·have he0' : (e1 != 0) = true := by simpa using he0
    have HF : Hid (itsE itemE xs = e1) := Lib.hid (by
     have : ordE itemE [] xs = e1 := by rw [HST.out, if_pos he0]
     rw [HIE.out, this, if_pos he0])
    clear HST HIE B1
    go_wp2_with fail
    go_ret;exact IntPost.of HF.out m2
  ·have hke : k = xs.length := by omega
   have ho : ordE itemE [] xs = 0 := by
    rw [← hord, hke, List.drop_of_length_le (Nat.le_refl _)]
    rfl
   have HIE2 : Hid (itsE itemE xs = if xs.any (missB xs) then 8 else treeE xs) := Lib.hid (by rw [HIE.out, ho]; rfl);clear ho HIE hord hke
   go_wp2_with fail
   go_loopg [32] xs.length (fun gk i wr => Jf2 w xs gk i wr)
   case atStart => exact ⟨0, by omega, by omega, rfl, rfl, hm⟩
   case round =>
    clear hm hlt hk;obtain ⟨k, rfl, hk, rfl, hno, hm⟩ := hrel
    by_cases hlt : k < xs.length
    ·obtain ⟨g, off, rfl, hrow⟩ := HR.out (by omega);obtain ⟨q0, q1, q2, q3, q4, q5, q6⟩ := item_cells (hrow.mod hm id) hlt;have HTK := Lib.hid (any_take_snoc (missB xs) xs k hlt);rw [hno] at HTK;have HAT := Lib.hid (fun h => any_of_at (p := missB xs) hlt h);have HMF := Lib.hid (missB_plcZ xs xs[k]);have HPK := Lib.hid (HPL.out (wr.alloc (.cells (itQ xs[k]) 83)) (hm.alloc _) xs[k].par);have Hm0 := Lib.hid (hm.alloc (.cells (itQ xs[k]) 83));clear hrow hno hm;generalize xs[k] = x at *;obtain ⟨z, hz⟩ : ∃ z, plcZ xs x.par = z := ⟨_, rfl⟩;rw [hz] at HMF HPK;clear hz;unfold itQ at HPK Hm0
     cases he : x.par.isEmpty
     ·rw [he] at HMF
      by_cases hz0 : z < 0
      ·have HF : Hid (itsE itemE xs = 8) := Lib.hid (by rw [HIE2.out, HAT.out (by rw [HMF.out, decide_eq_true hz0]; rfl)]; rfl);clear HTK HAT HMF
       go_wp2_with fail
       refine HPK.out.mono ?_;rintro e w1 ⟨rfl, m1⟩;have m2 := Hm0.out.trans m1;clear HPK
       go_wp2_with fail
       go_ret;exact IntPost.of HF.out m2
      ·have HN : Hid ((xs.take (k + 1)).any (missB xs) = false) := Lib.hid (by rw [HTK.out, HMF.out, decide_eq_false hz0]; rfl);clear HTK HAT HMF
       go_wp2_with fail
       refine HPK.out.mono ?_;rintro e w1 ⟨rfl, m1⟩;have m2 := Hm0.out.trans m1;clear HPK
       go_wp2_with fail
       go_roundg (xs.length - (k + 1))
       case measure => omega
       case rel => exact ⟨k + 1, rfl, by omega, by simp, HN.out, m2⟩
     ·rw [he] at HMF;have HN : Hid ((xs.take (k + 1)).any (missB xs) = false) := Lib.hid (by rw [HTK.out, HMF.out]; rfl);clear HTK HAT HMF HPK
      go_wp2_with fail
      go_roundg (xs.length - (k + 1))
      case measure => omega
      case rel => exact ⟨k + 1, rfl, by omega, by simp, HN.out, Hm0.out⟩
    ·obtain rfl : k = xs.length := by omega
     rw [List.take_length] at hno;have HF : Hid (itsE itemE xs = treeE xs) := Lib.hid (by rw [HIE2.out, hno]; rfl);have HT := Lib.hid (HTF.out _ hm);rw [← HF.out] at HT;clear HIE2 hno HTF HPL
     go_wp2_with fail
     refine HT.out.mono ?_;rintro e w1 ⟨rfl, m1⟩
     go_wp2_with fail
     go_ret;exact IntPost.of rfl (hm.trans m1)

end Go.Proofs.YtpinlcapgoljfaaGreatDoor

/- The generators of items: RightItems. -/
namespace Go.Proofs.YtpinlcapgoljfaaGreatDoor
open Go.RowKit

theorem own_form7 {w : World} {base n size : Nat} {e : TypeId} {v : Value} {xs : List Value} (h : w.ownsRow base e size v n xs) (hn : 0 < n) : ∃ g cap, v = .slice (some ⟨g, 0, none⟩) n cap ∧ base ≤ g ∧ g < w.heap.size ∧ n ≤ cap ∧ cap ≤ 9223372036854775807 := by
 rcases h.2 with ⟨rfl, h0⟩ | ⟨g, cap, cur, rfl, hg, hh, hc, hcm, _⟩
 ·omega
 ·exact ⟨g, cap, rfl, hg, lt_of_heap hh, hc, by simpa [maxLen] using hcm⟩
theorem info_item7 : (Tryz.prog.info? 83).map (fun i => (i.zero, i.size, i.bytes)) = some (some itZ, 7, 96) := by kernel_rfl
/-- A row of items that the call has made. -/
def OwnI (w : World) (base g n cap : Nat) (xs : List Itm) : Prop := w.ownsRow base 83 7 (.slice (some ⟨g, 0, none⟩) n cap) n (itV xs)
theorem OwnI.len {w : World} {base g n cap : Nat} {xs : List Itm} (h : OwnI w base g n cap xs) : xs.length = n := by
 have := h.1;rw [itV_len] at this
 omega
theorem OwnI.its {w : World} {base g n cap : Nat} {xs : List Itm} (h : OwnI w base g n cap xs) : Its w (.slice (some ⟨g, 0, none⟩) n cap) xs := Sl.of_own h
theorem OwnI.mod {w w' : World} {base g n cap : Nat} {xs : List Itm} {S : Nat → Prop} (h : OwnI w base g n cap xs) (hm : Mod S w w') (hs : ¬ S g) : OwnI w' base g n cap xs := own_mod h hm (fun k hk => by injection hk with hk; rw [← hk]; exact hs)
theorem OwnI.ge {w : World} {base g n cap : Nat} {xs : List Itm} (h : OwnI w base g n cap xs) : base ≤ g ∧ g < w.heap.size := World.ownsRow.lt h g rfl
/-- The cells of item k. -/
theorem OwnI.cells {w : World} {base g n cap k : Nat} {xs : List Itm} (h : OwnI w base g n cap xs) (hk : k < xs.length) :
  w.cell? ⟨g, k * 7, none⟩ = some (.string ⟨xs[k].id.toArray⟩) ∧ w.cell? ⟨g, k * 7 + 1, none⟩ = some (.string ⟨xs[k].cust.toArray⟩) ∧ w.cell? ⟨g, k * 7 + 2, none⟩ = some (.int .i64 xs[k].kind) ∧
  w.cell? ⟨g, k * 7 + 3, none⟩ = some (.string ⟨xs[k].name.toArray⟩) ∧ w.cell? ⟨g, k * 7 + 4, none⟩ = some (.int .i64 xs[k].tm) ∧ w.cell? ⟨g, k * 7 + 5, none⟩ = some (.string ⟨xs[k].par.toArray⟩) ∧ w.cell? ⟨g, k * 7 + 6, none⟩ = some (.string ⟨xs[k].text.toArray⟩) := by
 have hn := h.len;obtain ⟨h0, h1, h2, h3, h4, h5, h6⟩ := itV_get xs k hk;exact ⟨(World.ownsRow.cellAt h _ (by omega)).trans h0, (World.ownsRow.cellAt h _ (by omega)).trans h1, (World.ownsRow.cellAt h _ (by omega)).trans h2, (World.ownsRow.cellAt h _ (by omega)).trans h3, (World.ownsRow.cellAt h _ (by omega)).trans h4, (World.ownsRow.cellAt h _ (by omega)).trans h5, (World.ownsRow.cellAt h _ (by omega)).trans h6⟩
theorem OwnI.frozen {w : World} {base g n cap : Nat} {xs : List Itm} (h : OwnI w base g n cap xs) (j : Nat) : w.frozen? ⟨g, j, none⟩ = false := World.ownsRow.frozenAt h j
theorem itV_set : ∀ (xs : List Itm) (k : Nat) (y : Itm) (d : Nat) (u : Value), k < xs.length → d < 7 → (itC (xs.getD k y)).set d u = itC y → (itV xs).set (k * 7 + d) u = itV (xs.set k y)
 | [], k, y, d, u, hk, _, _ => absurd hk (by simp)
 | x :: xs, 0, y, d, u, _, hd, h => by
  have hl : (itC x).length = 7 := rfl;simp only [List.getD_cons_zero] at h;simp only [itV, List.flatMap_cons, Nat.zero_mul, Nat.zero_add, List.set_cons_zero];rw [List.set_append, if_pos (by rw [hl]; exact hd), h]
 | x :: xs, k + 1, y, d, u, hk, hd, h => by
  have hl : (itC x).length = 7 := rfl;have := itV_set xs k y d u (by simpa using hk) hd (by simpa using h);simp only [itV, List.flatMap_cons, List.set_cons_succ] at this ⊢;rw [List.set_append, if_neg (by rw [hl]; omega), hl, show (k + 1) * 7 + d - 7 = k * 7 + d by omega, this]
/-- A store of a parent. -/
theorem OwnI.setPar {w : World} {base g n cap k : Nat} {xs : List Itm} (h : OwnI w base g n cap xs) (hk : k < xs.length) (s : Str) : OwnI (w.setCell ⟨g, k * 7 + 5, none⟩ (.string ⟨s.toArray⟩)) base g n cap (xs.set k { xs[k] with par := s }) := by
 have h1 := (World.ownsRow.stored h (k * 7 + 5) (.string ⟨s.toArray⟩)).1;rw [itV_set xs k { xs[k] with par := s } 5 _ hk (by omega) (by simp [List.getD, hk, itC])] at h1;exact h1
theorem OwnI.setKind {w : World} {base g n cap k : Nat} {xs : List Itm} (h : OwnI w base g n cap xs) (hk : k < xs.length) (z : Int) : OwnI (w.setCell ⟨g, k * 7 + 2, none⟩ (.int .i64 z)) base g n cap (xs.set k { xs[k] with kind := z }) := by
 have h1 := (World.ownsRow.stored h (k * 7 + 2) (.int .i64 z)).1;rw [itV_set xs k { xs[k] with kind := z } 2 _ hk (by omega) (by simp [List.getD, hk, itC])] at h1;exact h1
theorem set_all {xs : List Itm} {k : Nat} {y : Itm} (h : ∀ x ∈ xs, ItG x) (hy : ItG y) : ∀ x ∈ xs.set k y, ItG x := fun x hx => by
 rcases List.mem_or_eq_of_mem_set hx with hx | rfl
 ·exact h x hx
 ·exact hy
theorem ItG.par {x : Itm} (h : ItG x) {s : Str} (hs : s.length ≤ 30000) : ItG { x with par := s } := ⟨h.1, h.2.1, h.2.2.1, hs, h.2.2.2.2⟩
theorem ItG.kind {x : Itm} (h : ItG x) (z : Int) : ItG { x with kind := z } := ⟨h.1, h.2.1, h.2.2.1, h.2.2.2.1, h.2.2.2.2⟩

theorem ItB.par {x : Itm} (h : ItB x) {s : Str} (hs : s.length ≤ 30000) : ItB { x with par := s } := ⟨h.1, h.2.1, h.2.2.1, hs, h.2.2.2.2⟩
theorem ItB.kind {x : Itm} (h : ItB x) (z : Int) : ItB { x with kind := z } := ⟨h.1, h.2.1, h.2.2.1, h.2.2.2.1, h.2.2.2.2⟩

theorem le_nilI : ∀ x ∈ ([] : List Itm), ItG x := fun x hx => absurd hx (by simp)
def ItemsPostG (w : World) (b N m : Nat) (e : Ending) (w' : World) : Prop :=
 ∃ (v : Value) (xs : List Itm), e = .returned v ∧ xs.length ≤ m ∧ (∀ x ∈ xs, ItG x) ∧ w'.ownsRow w.heap.size 83 7 v xs.length (itV xs) ∧ Strm w' b N ∧ Mod (· = b) w w'
def Ri1 (w : World) (b N m gk : Nat) (ov i : Value) (wr : World) : Prop :=
 ∃ (j : Nat) (xs : List Itm) (A : Option Addr) (cap : Nat), m - j = gk ∧ j ≤ m ∧ ov = .slice A xs.length cap ∧ i = .int .i64 (j : Int) ∧ xs.length ≤ j ∧ (∀ x ∈ xs, ItG x) ∧ wr.ownsRow w.heap.size 83 7 (.slice A xs.length cap) xs.length (itV xs) ∧ Strm wr b (N + 140 * j) ∧ Mod (· = b) w wr ∧ w.heap.size ≤ wr.heap.size
def Ri2 (w : World) (b N base g n cap gk : Nat) (i : Value) (wr : World) : Prop :=
 ∃ (j : Nat) (xs : List Itm), n - j = gk ∧ j ≤ n ∧ i = .int .i64 (j : Int) ∧ (∀ x ∈ xs, ItG x) ∧ OwnI wr base g n cap xs ∧ Strm wr b (N + 2 * j) ∧ Mod (· = b) w wr

set_option maxRecDepth 100000 in
set_option maxHeartbeats 8000000 in
theorem rightItems_callsG (w : World) (b N m : Nat) (hS : Strm w b N) (hN : N ≤ 700000000) (hm : m ≤ 20) (hE : ∀ W, Mod (· = b) w W → Env W) : Calls Tryz.prog 36 #[.pointer (some ⟨b, 0, none⟩), .int .i64 (m : Int)] w (ItemsPostG w b (N + 142 * m) m) := by
 obtain ⟨i0, hi0, hz0, hz1, hz2⟩ := info_parts info_item7;have HE := Lib.hid hE;have hbl := hS.lt;clear hE;have m0 : Mod (· = b) w w := Mod.refl _ _
 go_enter Tryz.func36, Tryz.ntmps36
 go_wp2_with fail
 go_loopg [5, 12] m (fun gk ov i wr => Ri1 w b N m gk ov i wr)
 case atStart => exact ⟨0, [], none, 0, rfl, by omega, rfl, rfl, by simp, le_nilI, ⟨rfl, .inl ⟨rfl, rfl⟩⟩, hS.more (by omega), m0, Nat.le_refl _⟩
 case round =>
  clear hS m0;obtain ⟨j, xs, A, cap, rfl, hj, rfl, rfl, hxj, hxz, hown, hS, hmm, hsz⟩ := hrel
  by_cases hlt : j < m
  ·have HXZ := Lib.hid hxz;clear hxz
   go_wp2_with fail
   refine (itemId_calls _ j (by omega)).mono ?_;rintro e w1 ⟨rfl, hm1⟩;have hS1 := hS.pure hm1;have m1 := hmm.transp hm1;have own1 := own_pure hown hm1;have hsz1 := hm1.size;clear hS hmm hown hm1
   go_wp2_with fail
   refine (item_callsG _ b _ (itS j) hS1 (by omega) (by simp [itS])).mono ?_;rintro e w2 ⟨x, hx, rfl, hS2, hM2⟩;have hb2 := own_block own1;have own2 := own_mod own1 hM2 (fun k hk => by have := hb2 k hk; omega);have m2 := m1.trans hM2;have hsz2 := hM2.size;clear hS1 m1 own1 hM2 hb2;have HB0 := Lib.hid (Blk.new w2 83 (itQ x));have Hm0 := Lib.hid (pure_alloc w2 (.cells (itQ x) 83));obtain ⟨bo, hbo⟩ : ∃ bo, (x.id == itS j) = bo := ⟨_, rfl⟩;have HBO := Lib.hid hbo;obtain ⟨e1, he1⟩ : ∃ e1, itemE x = e1 := ⟨_, rfl⟩;have HIF := Lib.hid (fun W (h : Mod (· = b) w W) => itemFault_calls W x hx.b (HE.out W h));rw [he1] at HIF;have HX := Lib.hid hx;clear hbo he1 hx;have HID := Lib.hid (fun W => itemId_calls W j (by omega));generalize itS j = ij at *;unfold itA at HIF ⊢;unfold itQ at HB0 Hm0
   go_upto_region 6 with (fail)
   generalize (w2.alloc (.cells #[.string ⟨x.id.toArray⟩, .string ⟨x.cust.toArray⟩, .int .i64 x.kind, .string ⟨x.name.toArray⟩, .int .i64 x.tm, .string ⟨x.par.toArray⟩, .string ⟨x.text.toArray⟩] 83)) = WS at *;generalize hgs : w2.heap.size = gs at *;have hgs1 := Nat.le_of_eq hgs;have hgs2 := Nat.le_of_eq hgs.symm;clear hgs;obtain ⟨bad, hbad⟩ : ∃ bad, bad = (!bo || (!x.par.isEmpty || (e1 != 0))) := ⟨_, rfl⟩;have HBAD := Lib.hid hbad;clear hbad
   go_cut [33] (fun p wx => p = .bool bad ∧ Blk wx gs 83 #[.string ⟨x.id.toArray⟩, .string ⟨x.cust.toArray⟩, .int .i64 x.kind, .string ⟨x.name.toArray⟩, .int .i64 x.tm, .string ⟨x.par.toArray⟩, .string ⟨x.text.toArray⟩] ∧ Pure w2 wx)
   case first =>
    cases bo
    ·obtain rfl : bad = true := by rw [HBAD.out]; rfl
     have HGs := Lib.hid (show ∀ (D : Nat → Bool) (zzi : Nat) (zq zq' : World), (fun _ zq => (fun Z => Blk Z gs 83 #[.string ⟨x.id.toArray⟩, .string ⟨x.cust.toArray⟩, .int .i64 x.kind, .string ⟨x.name.toArray⟩, .int .i64 x.tm, .string ⟨x.par.toArray⟩, .string ⟨x.text.toArray⟩]) zq) D zq → Mod (fun _ => False) zq zq' → (fun _ zq => (fun Z => Blk Z gs 83 #[.string ⟨x.id.toArray⟩, .string ⟨x.cust.toArray⟩, .int .i64 x.kind, .string ⟨x.name.toArray⟩, .int .i64 x.tm, .string ⟨x.par.toArray⟩, .string ⟨x.text.toArray⟩]) zq) (upd D zzi true) zq' from by intro D zzi zq zq' h hm; (exact h.modp hm))
     refine wp_region_inv (by kernel_rfl) (by kernel_rfl) (InvF (R := Mod (fun _ => False)) [.is (.pointer (some ⟨gs, 0, none⟩)),
       .is (.string ⟨x.id.toArray⟩),
       .is (.int .i64 (j : Int)),
       .is (.string ⟨ij.toArray⟩),
       .is (.bool true),
       .is (.bool true),
       .is (undef),
       .is (undef),
       .is (undef),
       .is (.bool true),
       .is (.bool true),
       .is (undef),
       .is (undef),
       .is (undef),
       .is (.bool true)]
       (PB w2 (fun _ => False) WS.heap.size (fun _ zq => (fun Z => Blk Z gs 83 #[.string ⟨x.id.toArray⟩, .string ⟨x.cust.toArray⟩, .int .i64 x.kind, .string ⟨x.name.toArray⟩, .int .i64 x.tm, .string ⟨x.par.toArray⟩, .string ⟨x.text.toArray⟩]) zq))) (InvF.start (PB.start Hm0.out (Nat.le_refl _) (HB0.out.drew))) ?_ ?_
     ·refine .cons ?_ (.cons ?_ (.cons ?_ (.cons ?_ (.cons ?_ (.cons ?_ (.cons ?_ (.cons ?_ (.cons ?_ (.cons ?_ (.cons ?_ (.cons ?_ (.cons ?_ (.cons ?_ (.cons ?_ .nil))))))))))))))
      ·intro D V zw1 a hR hI K hK;obtain ⟨hM1, hB1, hG1⟩ := hI.1;have ze7 := hR.frame.other (t := 7) (by kernel_rfl) rfl;rw [if_pos (by rfl)];go_simp;exact hK (.pointer (some ⟨gs, 0, none⟩)) _ (hI.next hR (by kernel_rfl) (Mod.refl _ _) (PB.quiet hI.1 (Mod.refl _ _) (HGs.out D 0 zw1 zw1 (hI.1).g (Mod.refl _ _))) (upd_same V 0 _))
      ·intro D V zw1 a hR hI K hK;obtain ⟨hM1, hB1, hG1⟩ := hI.1;have zd0 := hR.pred 0 (by kernel_rfl);have zf0 : V 0 = .pointer (some ⟨gs, 0, none⟩) := hI.2 0 zd0 rfl;have ze19 := hR.frame.done (t := 19) (j := 0) (by kernel_rfl) hR.ok zd0;have zx0 := hG1.cell 0; have zx1 := hG1.cell 1; have zx2 := hG1.cell 2; have zx3 := hG1.cell 3; have zx4 := hG1.cell 4; have zx5 := hG1.cell 5; have zx6 := hG1.cell 6;simp at zx0 zx1 zx2 zx3 zx4 zx5 zx6;rw [if_pos (by rfl)];go_simp;exact hK (.string ⟨x.id.toArray⟩) _ (hI.next hR (by kernel_rfl) (Mod.refl _ _) (PB.quiet hI.1 (Mod.refl _ _) (HGs.out D 1 zw1 zw1 (hI.1).g (Mod.refl _ _))) (upd_same V 1 _))
      ·intro D V zw1 a hR hI K hK;obtain ⟨hM1, hB1, hG1⟩ := hI.1;have ze6 := hR.frame.other (t := 6) (by kernel_rfl) rfl;rw [if_pos (by rfl)];go_simp;exact hK (.int .i64 (j : Int)) _ (hI.next hR (by kernel_rfl) (Mod.refl _ _) (PB.quiet hI.1 (Mod.refl _ _) (HGs.out D 2 zw1 zw1 (hI.1).g (Mod.refl _ _))) (upd_same V 2 _))
      ·intro D V zw1 a hR hI K hK;obtain ⟨hM1, hB1, hG1⟩ := hI.1;have zd2 := hR.pred 2 (by kernel_rfl);have zf2 : V 2 = .int .i64 (j : Int) := hI.2 2 zd2 rfl;have ze21 := hR.frame.done (t := 21) (j := 2) (by kernel_rfl) hR.ok zd2;rw [if_pos (by rfl)];go_simp;refine (HID.out _).mono ?_;rintro e zw2 ⟨rfl, hm2⟩;exact hK (.string ⟨ij.toArray⟩) _ (hI.next hR (by kernel_rfl) hm2 (PB.quiet hI.1 hm2 (HGs.out D 3 _ _ (hI.1).g hm2)) (upd_same V 3 _))
      ·intro D V zw1 a hR hI K hK;obtain ⟨hM1, hB1, hG1⟩ := hI.1;have zd1 := hR.pred 1 (by kernel_rfl);have zf1 : V 1 = .string ⟨x.id.toArray⟩ := hI.2 1 zd1 rfl;have zd3 := hR.pred 3 (by kernel_rfl);have zf3 : V 3 = .string ⟨ij.toArray⟩ := hI.2 3 zd3 rfl;have ze20 := hR.frame.done (t := 20) (j := 1) (by kernel_rfl) hR.ok zd1;have ze22 := hR.frame.done (t := 22) (j := 3) (by kernel_rfl) hR.ok zd3;have hbo := HBO.out;rw [if_pos (by rfl)];go_simp;exact hK (.bool true) _ (hI.next hR (by kernel_rfl) (Mod.refl _ _) (PB.quiet hI.1 (Mod.refl _ _) (HGs.out D 4 zw1 zw1 (hI.1).g (Mod.refl _ _))) (upd_same V 4 _))
      ·intro D V zw1 a hR hI K hK;obtain ⟨hM1, hB1, hG1⟩ := hI.1;have zd4 := hR.pred 4 (by kernel_rfl);have zf4 : V 4 = .bool true := hI.2 4 zd4 rfl;have ze23 := hR.frame.done (t := 23) (j := 4) (by kernel_rfl) hR.ok zd4;rw [if_pos (by rfl)];go_simp;exact hK (.bool true) _ (hI.next hR (by kernel_rfl) (Mod.refl _ _) (PB.quiet hI.1 (Mod.refl _ _) (HGs.out D 5 zw1 zw1 (hI.1).g (Mod.refl _ _))) (upd_same V 5 _))
      ·intro D V zw1 a hR hI K hK;obtain ⟨hM1, hB1, hG1⟩ := hI.1;have zd5 := hR.pred 5 (by kernel_rfl);have zf5 : V 5 = .bool true := hI.2 5 zd5 rfl;have ze24 := hR.frame.done (t := 24) (j := 5) (by kernel_rfl) hR.ok zd5;rw [if_neg (by simp [Region.wanted, yielded, ze24, zf5])];exact hK undef _ (hI.next hR (by kernel_rfl) (Mod.refl _ _) (PB.quiet hI.1 (Mod.refl _ _) (HGs.out D 6 zw1 zw1 (hI.1).g (Mod.refl _ _))) (upd_same V 6 _))
      ·intro D V zw1 a hR hI K hK;obtain ⟨hM1, hB1, hG1⟩ := hI.1;have zd5 := hR.pred 5 (by kernel_rfl);have zf5 : V 5 = .bool true := hI.2 5 zd5 rfl;have ze24 := hR.frame.done (t := 24) (j := 5) (by kernel_rfl) hR.ok zd5;rw [if_neg (by simp [Region.wanted, yielded, ze24, zf5])];exact hK undef _ (hI.next hR (by kernel_rfl) (Mod.refl _ _) (PB.quiet hI.1 (Mod.refl _ _) (HGs.out D 7 zw1 zw1 (hI.1).g (Mod.refl _ _))) (upd_same V 7 _))
      ·intro D V zw1 a hR hI K hK;obtain ⟨hM1, hB1, hG1⟩ := hI.1;have zd5 := hR.pred 5 (by kernel_rfl);have zf5 : V 5 = .bool true := hI.2 5 zd5 rfl;have ze24 := hR.frame.done (t := 24) (j := 5) (by kernel_rfl) hR.ok zd5;rw [if_neg (by simp [Region.wanted, yielded, ze24, zf5])];exact hK undef _ (hI.next hR (by kernel_rfl) (Mod.refl _ _) (PB.quiet hI.1 (Mod.refl _ _) (HGs.out D 8 zw1 zw1 (hI.1).g (Mod.refl _ _))) (upd_same V 8 _))
      ·intro D V zw1 a hR hI K hK;obtain ⟨hM1, hB1, hG1⟩ := hI.1;have zd5 := hR.pred 5 (by kernel_rfl);have zf5 : V 5 = .bool true := hI.2 5 zd5 rfl;have zd8 := hR.pred 8 (by kernel_rfl);have zf8 : V 8 = undef := hI.2 8 zd8 rfl;have ze24 := hR.frame.done (t := 24) (j := 5) (by kernel_rfl) hR.ok zd5;have ze27 := hR.frame.done (t := 27) (j := 8) (by kernel_rfl) hR.ok zd8;rw [if_pos (by rfl)];go_simp;exact hK (.bool true) _ (hI.next hR (by kernel_rfl) (Mod.refl _ _) (PB.quiet hI.1 (Mod.refl _ _) (HGs.out D 9 zw1 zw1 (hI.1).g (Mod.refl _ _))) (upd_same V 9 _))
      ·intro D V zw1 a hR hI K hK;obtain ⟨hM1, hB1, hG1⟩ := hI.1;have zd9 := hR.pred 9 (by kernel_rfl);have zf9 : V 9 = .bool true := hI.2 9 zd9 rfl;have ze28 := hR.frame.done (t := 28) (j := 9) (by kernel_rfl) hR.ok zd9;rw [if_pos (by rfl)];go_simp;exact hK (.bool true) _ (hI.next hR (by kernel_rfl) (Mod.refl _ _) (PB.quiet hI.1 (Mod.refl _ _) (HGs.out D 10 zw1 zw1 (hI.1).g (Mod.refl _ _))) (upd_same V 10 _))
      ·intro D V zw1 a hR hI K hK;obtain ⟨hM1, hB1, hG1⟩ := hI.1;have zd10 := hR.pred 10 (by kernel_rfl);have zf10 : V 10 = .bool true := hI.2 10 zd10 rfl;have ze29 := hR.frame.done (t := 29) (j := 10) (by kernel_rfl) hR.ok zd10;rw [if_neg (by simp [Region.wanted, yielded, ze29, zf10])];exact hK undef _ (hI.next hR (by kernel_rfl) (Mod.refl _ _) (PB.quiet hI.1 (Mod.refl _ _) (HGs.out D 11 zw1 zw1 (hI.1).g (Mod.refl _ _))) (upd_same V 11 _))
      ·intro D V zw1 a hR hI K hK;obtain ⟨hM1, hB1, hG1⟩ := hI.1;have zd10 := hR.pred 10 (by kernel_rfl);have zf10 : V 10 = .bool true := hI.2 10 zd10 rfl;have ze29 := hR.frame.done (t := 29) (j := 10) (by kernel_rfl) hR.ok zd10;rw [if_neg (by simp [Region.wanted, yielded, ze29, zf10])];exact hK undef _ (hI.next hR (by kernel_rfl) (Mod.refl _ _) (PB.quiet hI.1 (Mod.refl _ _) (HGs.out D 12 zw1 zw1 (hI.1).g (Mod.refl _ _))) (upd_same V 12 _))
      ·intro D V zw1 a hR hI K hK;obtain ⟨hM1, hB1, hG1⟩ := hI.1;have zd10 := hR.pred 10 (by kernel_rfl);have zf10 : V 10 = .bool true := hI.2 10 zd10 rfl;have ze29 := hR.frame.done (t := 29) (j := 10) (by kernel_rfl) hR.ok zd10;rw [if_neg (by simp [Region.wanted, yielded, ze29, zf10])];exact hK undef _ (hI.next hR (by kernel_rfl) (Mod.refl _ _) (PB.quiet hI.1 (Mod.refl _ _) (HGs.out D 13 zw1 zw1 (hI.1).g (Mod.refl _ _))) (upd_same V 13 _))
      ·intro D V zw1 a hR hI K hK;obtain ⟨hM1, hB1, hG1⟩ := hI.1;have zd10 := hR.pred 10 (by kernel_rfl);have zf10 : V 10 = .bool true := hI.2 10 zd10 rfl;have zd13 := hR.pred 13 (by kernel_rfl);have zf13 : V 13 = undef := hI.2 13 zd13 rfl;have ze29 := hR.frame.done (t := 29) (j := 10) (by kernel_rfl) hR.ok zd10;have ze32 := hR.frame.done (t := 32) (j := 13) (by kernel_rfl) hR.ok zd13;rw [if_pos (by rfl)];go_simp;exact hK (.bool true) _ (hI.next hR (by kernel_rfl) (Mod.refl _ _) (PB.quiet hI.1 (Mod.refl _ _) (HGs.out D 14 zw1 zw1 (hI.1).g (Mod.refl _ _))) (upd_same V 14 _))
     ·intro D V w3 hD hI;obtain ⟨hM1, hB1, hG1⟩ := hI.1;have hMx := hM1;clear hM1;have hBx := hB1;clear hB1;have hGx := hG1;clear hG1;have zf0 : V 0 = .pointer (some ⟨gs, 0, none⟩) := hI.2 0 (hD 0 (by decide)) rfl;have zf1 : V 1 = .string ⟨x.id.toArray⟩ := hI.2 1 (hD 1 (by decide)) rfl;have zf2 : V 2 = .int .i64 (j : Int) := hI.2 2 (hD 2 (by decide)) rfl;have zf3 : V 3 = .string ⟨ij.toArray⟩ := hI.2 3 (hD 3 (by decide)) rfl;have zf4 : V 4 = .bool true := hI.2 4 (hD 4 (by decide)) rfl;have zf5 : V 5 = .bool true := hI.2 5 (hD 5 (by decide)) rfl;have zf6 : V 6 = undef := hI.2 6 (hD 6 (by decide)) rfl;have zf7 : V 7 = undef := hI.2 7 (hD 7 (by decide)) rfl;have zf8 : V 8 = undef := hI.2 8 (hD 8 (by decide)) rfl;have zf9 : V 9 = .bool true := hI.2 9 (hD 9 (by decide)) rfl;have zf10 : V 10 = .bool true := hI.2 10 (hD 10 (by decide)) rfl;have zf11 : V 11 = undef := hI.2 11 (hD 11 (by decide)) rfl;have zf12 : V 12 = undef := hI.2 12 (hD 12 (by decide)) rfl;have zf13 : V 13 = undef := hI.2 13 (hD 13 (by decide)) rfl;have zf14 : V 14 = .bool true := hI.2 14 (hD 14 (by decide)) rfl;clear hI hD HGs;simp only [frAll, Act.put, List.setIfInBounds_toArray, List.set_cons_zero, List.set_cons_succ, Nat.zero_add, Nat.reduceAdd, zf0, zf1, zf2, zf3, zf4, zf5, zf6, zf7, zf8, zf9, zf10, zf11, zf12, zf13, zf14];clear zf0 zf1 zf2 zf3 zf4 zf5 zf6 zf7 zf8 zf9 zf10 zf11 zf12 zf13 zf14;clear V D
      go_wp2_with fail
      go_meet;exact ⟨rfl, hGx, hMx⟩
    ·cases hpe : x.par.isEmpty
     ·obtain rfl : bad = true := by rw [HBAD.out, hpe]; rfl
      have HGs := Lib.hid (show ∀ (D : Nat → Bool) (zzi : Nat) (zq zq' : World), (fun _ zq => (fun Z => Blk Z gs 83 #[.string ⟨x.id.toArray⟩, .string ⟨x.cust.toArray⟩, .int .i64 x.kind, .string ⟨x.name.toArray⟩, .int .i64 x.tm, .string ⟨x.par.toArray⟩, .string ⟨x.text.toArray⟩]) zq) D zq → Mod (fun _ => False) zq zq' → (fun _ zq => (fun Z => Blk Z gs 83 #[.string ⟨x.id.toArray⟩, .string ⟨x.cust.toArray⟩, .int .i64 x.kind, .string ⟨x.name.toArray⟩, .int .i64 x.tm, .string ⟨x.par.toArray⟩, .string ⟨x.text.toArray⟩]) zq) (upd D zzi true) zq' from by intro D zzi zq zq' h hm; (exact h.modp hm))
      refine wp_region_inv (by kernel_rfl) (by kernel_rfl) (InvF (R := Mod (fun _ => False)) [.is (.pointer (some ⟨gs, 0, none⟩)),
        .is (.string ⟨x.id.toArray⟩),
        .is (.int .i64 (j : Int)),
        .is (.string ⟨ij.toArray⟩),
        .is (.bool false),
        .is (.bool false),
        .is (.pointer (some ⟨gs, 5, none⟩)),
        .is (.string ⟨x.par.toArray⟩),
        .is (.bool true),
        .is (.bool true),
        .is (.bool true),
        .is (undef),
        .is (undef),
        .is (undef),
        .is (.bool true)]
        (PB w2 (fun _ => False) WS.heap.size (fun _ zq => (fun Z => Blk Z gs 83 #[.string ⟨x.id.toArray⟩, .string ⟨x.cust.toArray⟩, .int .i64 x.kind, .string ⟨x.name.toArray⟩, .int .i64 x.tm, .string ⟨x.par.toArray⟩, .string ⟨x.text.toArray⟩]) zq))) (InvF.start (PB.start Hm0.out (Nat.le_refl _) (HB0.out.drew))) ?_ ?_
      ·refine .cons ?_ (.cons ?_ (.cons ?_ (.cons ?_ (.cons ?_ (.cons ?_ (.cons ?_ (.cons ?_ (.cons ?_ (.cons ?_ (.cons ?_ (.cons ?_ (.cons ?_ (.cons ?_ (.cons ?_ .nil))))))))))))))
       ·intro D V zw1 a hR hI K hK;obtain ⟨hM1, hB1, hG1⟩ := hI.1;have ze7 := hR.frame.other (t := 7) (by kernel_rfl) rfl;rw [if_pos (by rfl)];go_simp;exact hK (.pointer (some ⟨gs, 0, none⟩)) _ (hI.next hR (by kernel_rfl) (Mod.refl _ _) (PB.quiet hI.1 (Mod.refl _ _) (HGs.out D 0 zw1 zw1 (hI.1).g (Mod.refl _ _))) (upd_same V 0 _))
       ·intro D V zw1 a hR hI K hK;obtain ⟨hM1, hB1, hG1⟩ := hI.1;have zd0 := hR.pred 0 (by kernel_rfl);have zf0 : V 0 = .pointer (some ⟨gs, 0, none⟩) := hI.2 0 zd0 rfl;have ze19 := hR.frame.done (t := 19) (j := 0) (by kernel_rfl) hR.ok zd0;have zx0 := hG1.cell 0; have zx1 := hG1.cell 1; have zx2 := hG1.cell 2; have zx3 := hG1.cell 3; have zx4 := hG1.cell 4; have zx5 := hG1.cell 5; have zx6 := hG1.cell 6;simp at zx0 zx1 zx2 zx3 zx4 zx5 zx6;rw [if_pos (by rfl)];go_simp;exact hK (.string ⟨x.id.toArray⟩) _ (hI.next hR (by kernel_rfl) (Mod.refl _ _) (PB.quiet hI.1 (Mod.refl _ _) (HGs.out D 1 zw1 zw1 (hI.1).g (Mod.refl _ _))) (upd_same V 1 _))
       ·intro D V zw1 a hR hI K hK;obtain ⟨hM1, hB1, hG1⟩ := hI.1;have ze6 := hR.frame.other (t := 6) (by kernel_rfl) rfl;rw [if_pos (by rfl)];go_simp;exact hK (.int .i64 (j : Int)) _ (hI.next hR (by kernel_rfl) (Mod.refl _ _) (PB.quiet hI.1 (Mod.refl _ _) (HGs.out D 2 zw1 zw1 (hI.1).g (Mod.refl _ _))) (upd_same V 2 _))
       ·intro D V zw1 a hR hI K hK;obtain ⟨hM1, hB1, hG1⟩ := hI.1;have zd2 := hR.pred 2 (by kernel_rfl);have zf2 : V 2 = .int .i64 (j : Int) := hI.2 2 zd2 rfl;have ze21 := hR.frame.done (t := 21) (j := 2) (by kernel_rfl) hR.ok zd2;rw [if_pos (by rfl)];go_simp;refine (HID.out _).mono ?_;rintro e zw2 ⟨rfl, hm2⟩;exact hK (.string ⟨ij.toArray⟩) _ (hI.next hR (by kernel_rfl) hm2 (PB.quiet hI.1 hm2 (HGs.out D 3 _ _ (hI.1).g hm2)) (upd_same V 3 _))
       ·intro D V zw1 a hR hI K hK;obtain ⟨hM1, hB1, hG1⟩ := hI.1;have zd1 := hR.pred 1 (by kernel_rfl);have zf1 : V 1 = .string ⟨x.id.toArray⟩ := hI.2 1 zd1 rfl;have zd3 := hR.pred 3 (by kernel_rfl);have zf3 : V 3 = .string ⟨ij.toArray⟩ := hI.2 3 zd3 rfl;have ze20 := hR.frame.done (t := 20) (j := 1) (by kernel_rfl) hR.ok zd1;have ze22 := hR.frame.done (t := 22) (j := 3) (by kernel_rfl) hR.ok zd3;have hbo := HBO.out;rw [if_pos (by rfl)];go_simp;exact hK (.bool false) _ (hI.next hR (by kernel_rfl) (Mod.refl _ _) (PB.quiet hI.1 (Mod.refl _ _) (HGs.out D 4 zw1 zw1 (hI.1).g (Mod.refl _ _))) (upd_same V 4 _))
       ·intro D V zw1 a hR hI K hK;obtain ⟨hM1, hB1, hG1⟩ := hI.1;have zd4 := hR.pred 4 (by kernel_rfl);have zf4 : V 4 = .bool false := hI.2 4 zd4 rfl;have ze23 := hR.frame.done (t := 23) (j := 4) (by kernel_rfl) hR.ok zd4;rw [if_pos (by rfl)];go_simp;exact hK (.bool false) _ (hI.next hR (by kernel_rfl) (Mod.refl _ _) (PB.quiet hI.1 (Mod.refl _ _) (HGs.out D 5 zw1 zw1 (hI.1).g (Mod.refl _ _))) (upd_same V 5 _))
       ·intro D V zw1 a hR hI K hK;obtain ⟨hM1, hB1, hG1⟩ := hI.1;have zd5 := hR.pred 5 (by kernel_rfl);have zf5 : V 5 = .bool false := hI.2 5 zd5 rfl;have ze7 := hR.frame.other (t := 7) (by kernel_rfl) rfl;have ze24 := hR.frame.done (t := 24) (j := 5) (by kernel_rfl) hR.ok zd5;rw [if_pos (by simp [Region.wanted, yielded, ze24, zf5])];go_simp;exact hK (.pointer (some ⟨gs, 5, none⟩)) _ (hI.next hR (by kernel_rfl) (Mod.refl _ _) (PB.quiet hI.1 (Mod.refl _ _) (HGs.out D 6 zw1 zw1 (hI.1).g (Mod.refl _ _))) (upd_same V 6 _))
       ·intro D V zw1 a hR hI K hK;obtain ⟨hM1, hB1, hG1⟩ := hI.1;have zd6 := hR.pred 6 (by kernel_rfl);have zf6 : V 6 = .pointer (some ⟨gs, 5, none⟩) := hI.2 6 zd6 rfl;have zd5 := hR.pred 5 (by kernel_rfl);have zf5 : V 5 = .bool false := hI.2 5 zd5 rfl;have ze25 := hR.frame.done (t := 25) (j := 6) (by kernel_rfl) hR.ok zd6;have zx0 := hG1.cell 0; have zx1 := hG1.cell 1; have zx2 := hG1.cell 2; have zx3 := hG1.cell 3; have zx4 := hG1.cell 4; have zx5 := hG1.cell 5; have zx6 := hG1.cell 6;simp at zx0 zx1 zx2 zx3 zx4 zx5 zx6;have ze24 := hR.frame.done (t := 24) (j := 5) (by kernel_rfl) hR.ok zd5;rw [if_pos (by simp [Region.wanted, yielded, ze24, zf5])];go_simp;exact hK (.string ⟨x.par.toArray⟩) _ (hI.next hR (by kernel_rfl) (Mod.refl _ _) (PB.quiet hI.1 (Mod.refl _ _) (HGs.out D 7 zw1 zw1 (hI.1).g (Mod.refl _ _))) (upd_same V 7 _))
       ·intro D V zw1 a hR hI K hK;obtain ⟨hM1, hB1, hG1⟩ := hI.1;have zd7 := hR.pred 7 (by kernel_rfl);have zf7 : V 7 = .string ⟨x.par.toArray⟩ := hI.2 7 zd7 rfl;have zd5 := hR.pred 5 (by kernel_rfl);have zf5 : V 5 = .bool false := hI.2 5 zd5 rfl;have ze26 := hR.frame.done (t := 26) (j := 7) (by kernel_rfl) hR.ok zd7;have ze24 := hR.frame.done (t := 24) (j := 5) (by kernel_rfl) hR.ok zd5;rw [if_pos (by simp [Region.wanted, yielded, ze24, zf5])];go_simp;exact hK (.bool true) _ (hI.next hR (by kernel_rfl) (Mod.refl _ _) (PB.quiet hI.1 (Mod.refl _ _) (HGs.out D 8 zw1 zw1 (hI.1).g (Mod.refl _ _))) (upd_same V 8 _))
       ·intro D V zw1 a hR hI K hK;obtain ⟨hM1, hB1, hG1⟩ := hI.1;have zd5 := hR.pred 5 (by kernel_rfl);have zf5 : V 5 = .bool false := hI.2 5 zd5 rfl;have zd8 := hR.pred 8 (by kernel_rfl);have zf8 : V 8 = .bool true := hI.2 8 zd8 rfl;have ze24 := hR.frame.done (t := 24) (j := 5) (by kernel_rfl) hR.ok zd5;have ze27 := hR.frame.done (t := 27) (j := 8) (by kernel_rfl) hR.ok zd8;rw [if_pos (by rfl)];go_simp;exact hK (.bool true) _ (hI.next hR (by kernel_rfl) (Mod.refl _ _) (PB.quiet hI.1 (Mod.refl _ _) (HGs.out D 9 zw1 zw1 (hI.1).g (Mod.refl _ _))) (upd_same V 9 _))
       ·intro D V zw1 a hR hI K hK;obtain ⟨hM1, hB1, hG1⟩ := hI.1;have zd9 := hR.pred 9 (by kernel_rfl);have zf9 : V 9 = .bool true := hI.2 9 zd9 rfl;have ze28 := hR.frame.done (t := 28) (j := 9) (by kernel_rfl) hR.ok zd9;rw [if_pos (by rfl)];go_simp;exact hK (.bool true) _ (hI.next hR (by kernel_rfl) (Mod.refl _ _) (PB.quiet hI.1 (Mod.refl _ _) (HGs.out D 10 zw1 zw1 (hI.1).g (Mod.refl _ _))) (upd_same V 10 _))
       ·intro D V zw1 a hR hI K hK;obtain ⟨hM1, hB1, hG1⟩ := hI.1;have zd10 := hR.pred 10 (by kernel_rfl);have zf10 : V 10 = .bool true := hI.2 10 zd10 rfl;have ze29 := hR.frame.done (t := 29) (j := 10) (by kernel_rfl) hR.ok zd10;rw [if_neg (by simp [Region.wanted, yielded, ze29, zf10])];exact hK undef _ (hI.next hR (by kernel_rfl) (Mod.refl _ _) (PB.quiet hI.1 (Mod.refl _ _) (HGs.out D 11 zw1 zw1 (hI.1).g (Mod.refl _ _))) (upd_same V 11 _))
       ·intro D V zw1 a hR hI K hK;obtain ⟨hM1, hB1, hG1⟩ := hI.1;have zd10 := hR.pred 10 (by kernel_rfl);have zf10 : V 10 = .bool true := hI.2 10 zd10 rfl;have ze29 := hR.frame.done (t := 29) (j := 10) (by kernel_rfl) hR.ok zd10;rw [if_neg (by simp [Region.wanted, yielded, ze29, zf10])];exact hK undef _ (hI.next hR (by kernel_rfl) (Mod.refl _ _) (PB.quiet hI.1 (Mod.refl _ _) (HGs.out D 12 zw1 zw1 (hI.1).g (Mod.refl _ _))) (upd_same V 12 _))
       ·intro D V zw1 a hR hI K hK;obtain ⟨hM1, hB1, hG1⟩ := hI.1;have zd10 := hR.pred 10 (by kernel_rfl);have zf10 : V 10 = .bool true := hI.2 10 zd10 rfl;have ze29 := hR.frame.done (t := 29) (j := 10) (by kernel_rfl) hR.ok zd10;rw [if_neg (by simp [Region.wanted, yielded, ze29, zf10])];exact hK undef _ (hI.next hR (by kernel_rfl) (Mod.refl _ _) (PB.quiet hI.1 (Mod.refl _ _) (HGs.out D 13 zw1 zw1 (hI.1).g (Mod.refl _ _))) (upd_same V 13 _))
       ·intro D V zw1 a hR hI K hK;obtain ⟨hM1, hB1, hG1⟩ := hI.1;have zd10 := hR.pred 10 (by kernel_rfl);have zf10 : V 10 = .bool true := hI.2 10 zd10 rfl;have zd13 := hR.pred 13 (by kernel_rfl);have zf13 : V 13 = undef := hI.2 13 zd13 rfl;have ze29 := hR.frame.done (t := 29) (j := 10) (by kernel_rfl) hR.ok zd10;have ze32 := hR.frame.done (t := 32) (j := 13) (by kernel_rfl) hR.ok zd13;rw [if_pos (by rfl)];go_simp;exact hK (.bool true) _ (hI.next hR (by kernel_rfl) (Mod.refl _ _) (PB.quiet hI.1 (Mod.refl _ _) (HGs.out D 14 zw1 zw1 (hI.1).g (Mod.refl _ _))) (upd_same V 14 _))
      ·intro D V w3 hD hI;obtain ⟨hM1, hB1, hG1⟩ := hI.1;have hMx := hM1;clear hM1;have hBx := hB1;clear hB1;have hGx := hG1;clear hG1;have zf0 : V 0 = .pointer (some ⟨gs, 0, none⟩) := hI.2 0 (hD 0 (by decide)) rfl;have zf1 : V 1 = .string ⟨x.id.toArray⟩ := hI.2 1 (hD 1 (by decide)) rfl;have zf2 : V 2 = .int .i64 (j : Int) := hI.2 2 (hD 2 (by decide)) rfl;have zf3 : V 3 = .string ⟨ij.toArray⟩ := hI.2 3 (hD 3 (by decide)) rfl;have zf4 : V 4 = .bool false := hI.2 4 (hD 4 (by decide)) rfl;have zf5 : V 5 = .bool false := hI.2 5 (hD 5 (by decide)) rfl;have zf6 : V 6 = .pointer (some ⟨gs, 5, none⟩) := hI.2 6 (hD 6 (by decide)) rfl;have zf7 : V 7 = .string ⟨x.par.toArray⟩ := hI.2 7 (hD 7 (by decide)) rfl;have zf8 : V 8 = .bool true := hI.2 8 (hD 8 (by decide)) rfl;have zf9 : V 9 = .bool true := hI.2 9 (hD 9 (by decide)) rfl;have zf10 : V 10 = .bool true := hI.2 10 (hD 10 (by decide)) rfl;have zf11 : V 11 = undef := hI.2 11 (hD 11 (by decide)) rfl;have zf12 : V 12 = undef := hI.2 12 (hD 12 (by decide)) rfl;have zf13 : V 13 = undef := hI.2 13 (hD 13 (by decide)) rfl;have zf14 : V 14 = .bool true := hI.2 14 (hD 14 (by decide)) rfl;clear hI hD HGs;simp only [frAll, Act.put, List.setIfInBounds_toArray, List.set_cons_zero, List.set_cons_succ, Nat.zero_add, Nat.reduceAdd, zf0, zf1, zf2, zf3, zf4, zf5, zf6, zf7, zf8, zf9, zf10, zf11, zf12, zf13, zf14];clear zf0 zf1 zf2 zf3 zf4 zf5 zf6 zf7 zf8 zf9 zf10 zf11 zf12 zf13 zf14;clear V D
       go_wp2_with fail
       go_meet;exact ⟨rfl, hGx, hMx⟩
     ·obtain ⟨be, hbe⟩ : ∃ be, (e1 != 0) = be := ⟨_, rfl⟩
      obtain rfl : bad = be := by rw [HBAD.out, hpe, ← hbe]; rfl
      have HGs := Lib.hid (show ∀ (D : Nat → Bool) (zzi : Nat) (zq zq' : World), (fun _ zq => (fun Z => Blk Z gs 83 #[.string ⟨x.id.toArray⟩, .string ⟨x.cust.toArray⟩, .int .i64 x.kind, .string ⟨x.name.toArray⟩, .int .i64 x.tm, .string ⟨x.par.toArray⟩, .string ⟨x.text.toArray⟩]) zq) D zq → Mod (fun _ => False) zq zq' → (fun _ zq => (fun Z => Blk Z gs 83 #[.string ⟨x.id.toArray⟩, .string ⟨x.cust.toArray⟩, .int .i64 x.kind, .string ⟨x.name.toArray⟩, .int .i64 x.tm, .string ⟨x.par.toArray⟩, .string ⟨x.text.toArray⟩]) zq) (upd D zzi true) zq' from by intro D zzi zq zq' h hm; (exact h.modp hm))
      refine wp_region_inv (by kernel_rfl) (by kernel_rfl) (InvF (R := Mod (fun _ => False)) [.is (.pointer (some ⟨gs, 0, none⟩)),
        .is (.string ⟨x.id.toArray⟩),
        .is (.int .i64 (j : Int)),
        .is (.string ⟨ij.toArray⟩),
        .is (.bool false),
        .is (.bool false),
        .is (.pointer (some ⟨gs, 5, none⟩)),
        .is (.string ⟨x.par.toArray⟩),
        .is (.bool false),
        .is (.bool false),
        .is (.bool false),
        .is (.agg #[.string ⟨x.id.toArray⟩, .string ⟨x.cust.toArray⟩, .int .i64 x.kind, .string ⟨x.name.toArray⟩, .int .i64 x.tm, .string ⟨x.par.toArray⟩, .string ⟨x.text.toArray⟩]),
        .is (.int .i64 e1),
        .is (.bool bad),
        .is (.bool bad)]
        (PB w2 (fun _ => False) WS.heap.size (fun _ zq => (fun Z => Blk Z gs 83 #[.string ⟨x.id.toArray⟩, .string ⟨x.cust.toArray⟩, .int .i64 x.kind, .string ⟨x.name.toArray⟩, .int .i64 x.tm, .string ⟨x.par.toArray⟩, .string ⟨x.text.toArray⟩]) zq))) (InvF.start (PB.start Hm0.out (Nat.le_refl _) (HB0.out.drew))) ?_ ?_
      ·refine .cons ?_ (.cons ?_ (.cons ?_ (.cons ?_ (.cons ?_ (.cons ?_ (.cons ?_ (.cons ?_ (.cons ?_ (.cons ?_ (.cons ?_ (.cons ?_ (.cons ?_ (.cons ?_ (.cons ?_ .nil))))))))))))))
       ·intro D V zw1 a hR hI K hK;obtain ⟨hM1, hB1, hG1⟩ := hI.1;have ze7 := hR.frame.other (t := 7) (by kernel_rfl) rfl;rw [if_pos (by rfl)];go_simp;exact hK (.pointer (some ⟨gs, 0, none⟩)) _ (hI.next hR (by kernel_rfl) (Mod.refl _ _) (PB.quiet hI.1 (Mod.refl _ _) (HGs.out D 0 zw1 zw1 (hI.1).g (Mod.refl _ _))) (upd_same V 0 _))
       ·intro D V zw1 a hR hI K hK;obtain ⟨hM1, hB1, hG1⟩ := hI.1;have zd0 := hR.pred 0 (by kernel_rfl);have zf0 : V 0 = .pointer (some ⟨gs, 0, none⟩) := hI.2 0 zd0 rfl;have ze19 := hR.frame.done (t := 19) (j := 0) (by kernel_rfl) hR.ok zd0;have zx0 := hG1.cell 0; have zx1 := hG1.cell 1; have zx2 := hG1.cell 2; have zx3 := hG1.cell 3; have zx4 := hG1.cell 4; have zx5 := hG1.cell 5; have zx6 := hG1.cell 6;simp at zx0 zx1 zx2 zx3 zx4 zx5 zx6;rw [if_pos (by rfl)];go_simp;exact hK (.string ⟨x.id.toArray⟩) _ (hI.next hR (by kernel_rfl) (Mod.refl _ _) (PB.quiet hI.1 (Mod.refl _ _) (HGs.out D 1 zw1 zw1 (hI.1).g (Mod.refl _ _))) (upd_same V 1 _))
       ·intro D V zw1 a hR hI K hK;obtain ⟨hM1, hB1, hG1⟩ := hI.1;have ze6 := hR.frame.other (t := 6) (by kernel_rfl) rfl;rw [if_pos (by rfl)];go_simp;exact hK (.int .i64 (j : Int)) _ (hI.next hR (by kernel_rfl) (Mod.refl _ _) (PB.quiet hI.1 (Mod.refl _ _) (HGs.out D 2 zw1 zw1 (hI.1).g (Mod.refl _ _))) (upd_same V 2 _))
       ·intro D V zw1 a hR hI K hK;obtain ⟨hM1, hB1, hG1⟩ := hI.1;have zd2 := hR.pred 2 (by kernel_rfl);have zf2 : V 2 = .int .i64 (j : Int) := hI.2 2 zd2 rfl;have ze21 := hR.frame.done (t := 21) (j := 2) (by kernel_rfl) hR.ok zd2;rw [if_pos (by rfl)];go_simp;refine (HID.out _).mono ?_;rintro e zw2 ⟨rfl, hm2⟩;exact hK (.string ⟨ij.toArray⟩) _ (hI.next hR (by kernel_rfl) hm2 (PB.quiet hI.1 hm2 (HGs.out D 3 _ _ (hI.1).g hm2)) (upd_same V 3 _))
       ·intro D V zw1 a hR hI K hK;obtain ⟨hM1, hB1, hG1⟩ := hI.1;have zd1 := hR.pred 1 (by kernel_rfl);have zf1 : V 1 = .string ⟨x.id.toArray⟩ := hI.2 1 zd1 rfl;have zd3 := hR.pred 3 (by kernel_rfl);have zf3 : V 3 = .string ⟨ij.toArray⟩ := hI.2 3 zd3 rfl;have ze20 := hR.frame.done (t := 20) (j := 1) (by kernel_rfl) hR.ok zd1;have ze22 := hR.frame.done (t := 22) (j := 3) (by kernel_rfl) hR.ok zd3;have hbo := HBO.out;rw [if_pos (by rfl)];go_simp;exact hK (.bool false) _ (hI.next hR (by kernel_rfl) (Mod.refl _ _) (PB.quiet hI.1 (Mod.refl _ _) (HGs.out D 4 zw1 zw1 (hI.1).g (Mod.refl _ _))) (upd_same V 4 _))
       ·intro D V zw1 a hR hI K hK;obtain ⟨hM1, hB1, hG1⟩ := hI.1;have zd4 := hR.pred 4 (by kernel_rfl);have zf4 : V 4 = .bool false := hI.2 4 zd4 rfl;have ze23 := hR.frame.done (t := 23) (j := 4) (by kernel_rfl) hR.ok zd4;rw [if_pos (by rfl)];go_simp;exact hK (.bool false) _ (hI.next hR (by kernel_rfl) (Mod.refl _ _) (PB.quiet hI.1 (Mod.refl _ _) (HGs.out D 5 zw1 zw1 (hI.1).g (Mod.refl _ _))) (upd_same V 5 _))
       ·intro D V zw1 a hR hI K hK;obtain ⟨hM1, hB1, hG1⟩ := hI.1;have zd5 := hR.pred 5 (by kernel_rfl);have zf5 : V 5 = .bool false := hI.2 5 zd5 rfl;have ze7 := hR.frame.other (t := 7) (by kernel_rfl) rfl;have ze24 := hR.frame.done (t := 24) (j := 5) (by kernel_rfl) hR.ok zd5;rw [if_pos (by simp [Region.wanted, yielded, ze24, zf5])];go_simp;exact hK (.pointer (some ⟨gs, 5, none⟩)) _ (hI.next hR (by kernel_rfl) (Mod.refl _ _) (PB.quiet hI.1 (Mod.refl _ _) (HGs.out D 6 zw1 zw1 (hI.1).g (Mod.refl _ _))) (upd_same V 6 _))
       ·intro D V zw1 a hR hI K hK;obtain ⟨hM1, hB1, hG1⟩ := hI.1;have zd6 := hR.pred 6 (by kernel_rfl);have zf6 : V 6 = .pointer (some ⟨gs, 5, none⟩) := hI.2 6 zd6 rfl;have zd5 := hR.pred 5 (by kernel_rfl);have zf5 : V 5 = .bool false := hI.2 5 zd5 rfl;have ze25 := hR.frame.done (t := 25) (j := 6) (by kernel_rfl) hR.ok zd6;have zx0 := hG1.cell 0; have zx1 := hG1.cell 1; have zx2 := hG1.cell 2; have zx3 := hG1.cell 3; have zx4 := hG1.cell 4; have zx5 := hG1.cell 5; have zx6 := hG1.cell 6;simp at zx0 zx1 zx2 zx3 zx4 zx5 zx6;have ze24 := hR.frame.done (t := 24) (j := 5) (by kernel_rfl) hR.ok zd5;rw [if_pos (by simp [Region.wanted, yielded, ze24, zf5])];go_simp;exact hK (.string ⟨x.par.toArray⟩) _ (hI.next hR (by kernel_rfl) (Mod.refl _ _) (PB.quiet hI.1 (Mod.refl _ _) (HGs.out D 7 zw1 zw1 (hI.1).g (Mod.refl _ _))) (upd_same V 7 _))
       ·intro D V zw1 a hR hI K hK;obtain ⟨hM1, hB1, hG1⟩ := hI.1;have zd7 := hR.pred 7 (by kernel_rfl);have zf7 : V 7 = .string ⟨x.par.toArray⟩ := hI.2 7 zd7 rfl;have zd5 := hR.pred 5 (by kernel_rfl);have zf5 : V 5 = .bool false := hI.2 5 zd5 rfl;have ze26 := hR.frame.done (t := 26) (j := 7) (by kernel_rfl) hR.ok zd7;have ze24 := hR.frame.done (t := 24) (j := 5) (by kernel_rfl) hR.ok zd5;rw [if_pos (by simp [Region.wanted, yielded, ze24, zf5])];go_simp;exact hK (.bool false) _ (hI.next hR (by kernel_rfl) (Mod.refl _ _) (PB.quiet hI.1 (Mod.refl _ _) (HGs.out D 8 zw1 zw1 (hI.1).g (Mod.refl _ _))) (upd_same V 8 _))
       ·intro D V zw1 a hR hI K hK;obtain ⟨hM1, hB1, hG1⟩ := hI.1;have zd5 := hR.pred 5 (by kernel_rfl);have zf5 : V 5 = .bool false := hI.2 5 zd5 rfl;have zd8 := hR.pred 8 (by kernel_rfl);have zf8 : V 8 = .bool false := hI.2 8 zd8 rfl;have ze24 := hR.frame.done (t := 24) (j := 5) (by kernel_rfl) hR.ok zd5;have ze27 := hR.frame.done (t := 27) (j := 8) (by kernel_rfl) hR.ok zd8;rw [if_pos (by rfl)];go_simp;exact hK (.bool false) _ (hI.next hR (by kernel_rfl) (Mod.refl _ _) (PB.quiet hI.1 (Mod.refl _ _) (HGs.out D 9 zw1 zw1 (hI.1).g (Mod.refl _ _))) (upd_same V 9 _))
       ·intro D V zw1 a hR hI K hK;obtain ⟨hM1, hB1, hG1⟩ := hI.1;have zd9 := hR.pred 9 (by kernel_rfl);have zf9 : V 9 = .bool false := hI.2 9 zd9 rfl;have ze28 := hR.frame.done (t := 28) (j := 9) (by kernel_rfl) hR.ok zd9;rw [if_pos (by rfl)];go_simp;exact hK (.bool false) _ (hI.next hR (by kernel_rfl) (Mod.refl _ _) (PB.quiet hI.1 (Mod.refl _ _) (HGs.out D 10 zw1 zw1 (hI.1).g (Mod.refl _ _))) (upd_same V 10 _))
       ·intro D V zw1 a hR hI K hK;obtain ⟨hM1, hB1, hG1⟩ := hI.1;have zd10 := hR.pred 10 (by kernel_rfl);have zf10 : V 10 = .bool false := hI.2 10 zd10 rfl;have ze7 := hR.frame.other (t := 7) (by kernel_rfl) rfl;have zx0 := hG1.cell 0; have zx1 := hG1.cell 1; have zx2 := hG1.cell 2; have zx3 := hG1.cell 3; have zx4 := hG1.cell 4; have zx5 := hG1.cell 5; have zx6 := hG1.cell 6;simp at zx0 zx1 zx2 zx3 zx4 zx5 zx6;have ze29 := hR.frame.done (t := 29) (j := 10) (by kernel_rfl) hR.ok zd10;rw [if_pos (by simp [Region.wanted, yielded, ze29, zf10])];go_simp;exact hK (.agg #[.string ⟨x.id.toArray⟩, .string ⟨x.cust.toArray⟩, .int .i64 x.kind, .string ⟨x.name.toArray⟩, .int .i64 x.tm, .string ⟨x.par.toArray⟩, .string ⟨x.text.toArray⟩]) _ (hI.next hR (by kernel_rfl) (Mod.refl _ _) (PB.quiet hI.1 (Mod.refl _ _) (HGs.out D 11 zw1 zw1 (hI.1).g (Mod.refl _ _))) (upd_same V 11 _))
       ·intro D V zw1 a hR hI K hK;obtain ⟨hM1, hB1, hG1⟩ := hI.1;have zd11 := hR.pred 11 (by kernel_rfl);have zf11 : V 11 = .agg #[.string ⟨x.id.toArray⟩, .string ⟨x.cust.toArray⟩, .int .i64 x.kind, .string ⟨x.name.toArray⟩, .int .i64 x.tm, .string ⟨x.par.toArray⟩, .string ⟨x.text.toArray⟩] := hI.2 11 zd11 rfl;have zd10 := hR.pred 10 (by kernel_rfl);have zf10 : V 10 = .bool false := hI.2 10 zd10 rfl;have ze30 := hR.frame.done (t := 30) (j := 11) (by kernel_rfl) hR.ok zd11;have ze29 := hR.frame.done (t := 29) (j := 10) (by kernel_rfl) hR.ok zd10;rw [if_pos (by simp [Region.wanted, yielded, ze29, zf10])];go_simp;refine (HIF.out _ (m2.transp hM1)).mono ?_;rintro e zw2 ⟨rfl, hm2⟩;exact hK (.int .i64 e1) _ (hI.next hR (by kernel_rfl) hm2 (PB.quiet hI.1 hm2 (HGs.out D 12 _ _ (hI.1).g hm2)) (upd_same V 12 _))
       ·intro D V zw1 a hR hI K hK;obtain ⟨hM1, hB1, hG1⟩ := hI.1;have zd12 := hR.pred 12 (by kernel_rfl);have zf12 : V 12 = .int .i64 e1 := hI.2 12 zd12 rfl;have zd10 := hR.pred 10 (by kernel_rfl);have zf10 : V 10 = .bool false := hI.2 10 zd10 rfl;have ze31 := hR.frame.done (t := 31) (j := 12) (by kernel_rfl) hR.ok zd12;have hbe2 := hbe;have ze29 := hR.frame.done (t := 29) (j := 10) (by kernel_rfl) hR.ok zd10;rw [if_pos (by simp [Region.wanted, yielded, ze29, zf10])];go_simp;exact hK (.bool bad) _ (hI.next hR (by kernel_rfl) (Mod.refl _ _) (PB.quiet hI.1 (Mod.refl _ _) (HGs.out D 13 zw1 zw1 (hI.1).g (Mod.refl _ _))) (upd_same V 13 _))
       ·intro D V zw1 a hR hI K hK;obtain ⟨hM1, hB1, hG1⟩ := hI.1;have zd10 := hR.pred 10 (by kernel_rfl);have zf10 : V 10 = .bool false := hI.2 10 zd10 rfl;have zd13 := hR.pred 13 (by kernel_rfl);have zf13 : V 13 = .bool bad := hI.2 13 zd13 rfl;have ze29 := hR.frame.done (t := 29) (j := 10) (by kernel_rfl) hR.ok zd10;have ze32 := hR.frame.done (t := 32) (j := 13) (by kernel_rfl) hR.ok zd13;rw [if_pos (by rfl)];go_simp;exact hK (.bool bad) _ (hI.next hR (by kernel_rfl) (Mod.refl _ _) (PB.quiet hI.1 (Mod.refl _ _) (HGs.out D 14 zw1 zw1 (hI.1).g (Mod.refl _ _))) (upd_same V 14 _))
      ·intro D V w3 hD hI;obtain ⟨hM1, hB1, hG1⟩ := hI.1;have hMx := hM1;clear hM1;have hBx := hB1;clear hB1;have hGx := hG1;clear hG1;have zf0 : V 0 = .pointer (some ⟨gs, 0, none⟩) := hI.2 0 (hD 0 (by decide)) rfl;have zf1 : V 1 = .string ⟨x.id.toArray⟩ := hI.2 1 (hD 1 (by decide)) rfl;have zf2 : V 2 = .int .i64 (j : Int) := hI.2 2 (hD 2 (by decide)) rfl;have zf3 : V 3 = .string ⟨ij.toArray⟩ := hI.2 3 (hD 3 (by decide)) rfl;have zf4 : V 4 = .bool false := hI.2 4 (hD 4 (by decide)) rfl;have zf5 : V 5 = .bool false := hI.2 5 (hD 5 (by decide)) rfl;have zf6 : V 6 = .pointer (some ⟨gs, 5, none⟩) := hI.2 6 (hD 6 (by decide)) rfl;have zf7 : V 7 = .string ⟨x.par.toArray⟩ := hI.2 7 (hD 7 (by decide)) rfl;have zf8 : V 8 = .bool false := hI.2 8 (hD 8 (by decide)) rfl;have zf9 : V 9 = .bool false := hI.2 9 (hD 9 (by decide)) rfl;have zf10 : V 10 = .bool false := hI.2 10 (hD 10 (by decide)) rfl;have zf11 : V 11 = .agg #[.string ⟨x.id.toArray⟩, .string ⟨x.cust.toArray⟩, .int .i64 x.kind, .string ⟨x.name.toArray⟩, .int .i64 x.tm, .string ⟨x.par.toArray⟩, .string ⟨x.text.toArray⟩] := hI.2 11 (hD 11 (by decide)) rfl;have zf12 : V 12 = .int .i64 e1 := hI.2 12 (hD 12 (by decide)) rfl;have zf13 : V 13 = .bool bad := hI.2 13 (hD 13 (by decide)) rfl;have zf14 : V 14 = .bool bad := hI.2 14 (hD 14 (by decide)) rfl;clear hI hD HGs;simp only [frAll, Act.put, List.setIfInBounds_toArray, List.set_cons_zero, List.set_cons_succ, Nat.zero_add, Nat.reduceAdd, zf0, zf1, zf2, zf3, zf4, zf5, zf6, zf7, zf8, zf9, zf10, zf11, zf12, zf13, zf14];clear zf0 zf1 zf2 zf3 zf4 zf5 zf6 zf7 zf8 zf9 zf10 zf11 zf12 zf13 zf14;clear V D
       go_wp2_with fail
       go_meet;exact ⟨rfl, hGx, hMx⟩
   case rest =>
    obtain ⟨rfl, B3, m3⟩ := hcut;have own3 := own_pure own2 m3;have hS3 := hS2.pure m3;have mm3 := m2.transp m3;have hsz3 := m3.size
    have HXZ2 : Hid (∀ y ∈ xs ++ [x], ItG y) := Lib.hid (fun y hy => by
     rcases List.mem_append.1 hy with hy | hy
     ·exact HXZ.out y hy
     ·rw [List.mem_singleton.1 hy]; exact HX.out)
    have HXV : Hid (itV (xs ++ [x]) = itV xs ++ [.string ⟨x.id.toArray⟩, .string ⟨x.cust.toArray⟩, .int .i64 x.kind, .string ⟨x.name.toArray⟩, .int .i64 x.tm, .string ⟨x.par.toArray⟩, .string ⟨x.text.toArray⟩]) := Lib.hid (itV_snoc xs x);clear HIF HX HBAD HBO HB0 Hm0 WS hS2 m2 own2 m3 HID
    cases bad
    ·have c0 := B3.cell 0; have c1 := B3.cell 1; have c2 := B3.cell 2; have c3 := B3.cell 3; have c4 := B3.cell 4; have c5 := B3.cell 5; have c6 := B3.cell 6; simp at c0 c1 c2 c3 c4 c5 c6;clear B3
     go_wp2_with (at_builtin; refine wpList_append_lies _ rfl _ _ _ rfl w.heap.size 83 i0 _ 7 96 Tryz.underlying26 hi0 hz0 hz1 hz2 rfl (by omega) (.slice A xs.length cap) xs.length (itV xs) rfl (own3.alloc _) ⟨wc.heap.size, 0, none⟩ 1 1 [.string ⟨x.id.toArray⟩, .string ⟨x.cust.toArray⟩, .int .i64 x.kind, .string ⟨x.name.toArray⟩, .int .i64 x.tm, .string ⟨x.par.toArray⟩, .string ⟨x.text.toArray⟩] rfl rfl (World.news_of_block (cs := #[.string ⟨x.id.toArray⟩, .string ⟨x.cust.toArray⟩, .int .i64 x.kind, .string ⟨x.name.toArray⟩, .int .i64 x.tm, .string ⟨x.par.toArray⟩, .string ⟨x.text.toArray⟩]) (t := 83) (fr := (0, 0)) (heap_alloc_new wc _)) (by simp [Value.oneCell']) (by omega) (by simp [maxLen]; omega) (by omega) (by have := mm3.size; simp; omega) (wc.heap.size + 1) (by simp) ?_; intro g5 cap5 w5 hown5 hgrow hat hlt5)
     go_roundg (m - (j + 1))
     case measure => omega
     case rel =>
      have hz5 := hgrow.size;simp at hz5;refine ⟨j + 1, xs ++ [x], some ⟨g5, 0, none⟩, cap5, rfl, by omega, by simp, by simp, by simp; omega, HXZ2.out, ?_, (hS3.alloc _ |>.mod (S := fun k => (Value.slice A xs.length cap).ownBlock = some k) ⟨hgrow.os, hgrow.tape, hgrow.output, hgrow.size, fun k hk hs => hgrow.block k hk (fun x => hs x.symm)⟩ (fun i hi hk => by have := own_block own3 i hk; omega)).more (by omega), (mm3.alloc _).grown hgrow (fun k hk => .inr (by have := own_block own3 k hk; omega)), by omega⟩;rw [HXV.out]
      simpa using hown5
    ·go_wp2_with fail
     go_roundg (m - (j + 1))
     case measure => omega
     case rel => exact ⟨j + 1, xs, A, cap, rfl, by omega, rfl, by simp, by omega, HXZ.out, own3, hS3.more (by omega), mm3, by omega⟩
  ·obtain rfl : j = m := by omega
   by_cases h0 : xs.length = 0
   ·have e0 : xs = [] := List.eq_nil_of_length_eq_zero h0;subst e0;have d0 : decide ((0 : Int) < 0) = false := rfl
    go_wp2_with fail
    go_loopg [41] 0 (fun gk i wx => i = .int .i64 0 ∧ gk = 0 ∧ wr = wx)
    case atStart => exact ⟨rfl, rfl, rfl⟩
    case round =>
     obtain ⟨rfl, rfl, rfl⟩ := hrel
     go_wp2_with fail
     go_ret;exact ⟨.slice A 0 cap, [], rfl, by simp, le_nilI, hown, hS.more (by omega), hmm⟩
   ·obtain ⟨g, cap', hform, hg1, hg2, hcap, hcap2⟩ := own_form7 hown (by omega)
    injection hform with hA _ hC
    subst hA hC;have hownI : OwnI wr w.heap.size g xs.length cap xs := hown
    have hl20 : xs.length ≤ 20 := by omega
    have hxn := hxj;clear hown hlt;generalize hn : xs.length = n at *;clear hn;obtain ⟨base, hbase⟩ : ∃ base, base = w.heap.size := ⟨_, rfl⟩;rw [← hbase] at hownI hg1;have hba1 := Nat.le_of_eq hbase;have hba2 := Nat.le_of_eq hbase.symm;have HBA := Lib.hid hbase;clear hbase
    go_wp2_with fail
    go_loopg [41] n (fun gk i wr => Ri2 w b (N + 140 * j) base g n cap gk i wr)
    case atStart => exact ⟨0, xs, rfl, by omega, rfl, hxz, hownI, hS.more (by omega), hmm⟩
    case round =>
     clear hxz hownI hS hmm hxj;obtain ⟨k, ys, rfl, hk, rfl, hyz, hown, hS, hmm⟩ := hrel;have hyl := hown.len;have hgl := hown.ge;have hbs := hS.lt
     by_cases hlt : k < n
     ·have HYZ := Lib.hid hyz;clear hyz
      go_wp2_with fail
      refine (flip_calls _ b _ _ hS (by omega) (by omega) (by omega)).mono ?_;rintro e w1 ⟨fl, rfl, hS1, hM1⟩;have own1 := hown.mod hM1 (by omega);have m1 := hmm.trans hM1;clear hS hown hmm hM1
      cases fl
      ·go_wp2_with fail
       refine (next_calls _ b _ _ hS1 (by omega) (by omega) (by omega)).mono ?_;rintro e w2 ⟨q, hq0, hq1, rfl, hS2, hM2⟩;obtain ⟨q, rfl⟩ := Int.eq_ofNat_of_zero_le hq0;have own2 := own1.mod hM2 (by omega);have m2 := m1.trans hM2
       have hqn : q < n := by omega
       have hqy : q < ys.length := by omega
       have hky : k < ys.length := by omega
       have HI0 := Lib.hid (own2.cells hqy).1;have HP0 := Lib.hid (own2.cells hky).2.2.2.2.2.1;have HF0 := Lib.hid (own2.frozen (k * 7 + 5));have HO1 := Lib.hid (own2.setPar hky ys[q].id);have HZ1 : Hid (∀ x ∈ ys.set k { ys[k] with par := ys[q].id }, ItG x) := Lib.hid (set_all HYZ.out ((HYZ.out _ (List.getElem_mem hky)).par (by have := (HYZ.out _ (List.getElem_mem hqy)).1; omega)));have HZK := Lib.hid (HYZ.out _ (List.getElem_mem hky))
       have hsk : k < (ys.set k { ys[k] with par := ys[q].id }).length := by simpa using hky
       have HO2 := Lib.hid (fun (W : World) (h : OwnI W base g n cap (ys.set k { ys[k] with par := ys[q].id })) => h.setPar hsk ys[k].par);have HZ2 : Hid (∀ x ∈ (ys.set k { ys[k] with par := ys[q].id }).set k { (ys.set k { ys[k] with par := ys[q].id })[k] with par := ys[k].par }, ItG x) := Lib.hid (set_all HZ1.out ((HZ1.out _ (List.getElem_mem hsk)).par (by have := HZK.out.2.2.2.1; omega)));generalize (ys.set k { ys[k] with par := ys[q].id }).set k { (ys.set k { ys[k] with par := ys[q].id })[k] with par := ys[k].par } = y2 at *;generalize ys.set k { ys[k] with par := ys[q].id } = y1 at *;generalize ys[q].id = qid at *;generalize ys[k].par = kpar at *;clear hS1 m1 own1 hM2 own2 hq0 hq1 hqy hky hsk HZK HYZ hyl
       have j1 : (0 : Int) ≤ (k : Int) := by omega
       have j2 : (k : Int) < (n : Int) := by omega
       have j3 : (0 : Int) ≤ (q : Int) := by omega
       have j4 : (q : Int) < (n : Int) := by omega
       have c0 := HI0.out;have c1 := HP0.out;have c2 := HF0.out;have HM2 := Lib.hid (m2.setCell (p := ⟨g, k * 7 + 5, none⟩) (.inr (by show _ ≤ g; omega)) (.string ⟨qid.toArray⟩));have HS2 := Lib.hid (hS2.setCell (p := ⟨g, k * 7 + 5, none⟩) (by show _ < g; omega) (.string ⟨qid.toArray⟩));have hown1 := HO1.out;have hy1 := hown1.len;have c3 := hown1.frozen (k * 7 + 5)
       have hky1 : k < y1.length := by omega
       have HIF := Lib.hid (fun W (h : Mod (· = b) w W) (h2 : OwnI W base g n cap y1) => itemsFault_calls W _ y1 h2.its (fun z h => (HZ1.out z h).b) (by omega) (HE.out W h));obtain ⟨e1, he1⟩ : ∃ e1, itsE itemE y1 = e1 := ⟨_, rfl⟩;rw [he1] at HIF;have HOW := Lib.hid hown1;clear he1 HI0 HP0 HF0 HO1 hown1 hS2 m2;have HC4 := Lib.hid (fun W (h : OwnI W base g n cap y1) => (h.cells hky1).2.2.2.2.2.1);have HG : Hid (b < g ∧ w.heap.size ≤ g) := Lib.hid ⟨by omega, by omega⟩
       have FIN : Hid (∀ W, Strm W b (N + 140 * j + 2 * k + 1 + 1) → Mod (· = b) w W → OwnI W base g n cap y1 → Strm (W.setCell ⟨g, k * 7 + 5, none⟩ (.string ⟨kpar.toArray⟩)) b (N + 140 * j + 2 * (k + 1)) ∧ Mod (· = b) w (W.setCell ⟨g, k * 7 + 5, none⟩ (.string ⟨kpar.toArray⟩)) ∧ OwnI (W.setCell ⟨g, k * 7 + 5, none⟩ (.string ⟨kpar.toArray⟩)) base g n cap y2) :=
        Lib.hid (fun W h1 h2 h3 => ⟨(h1.setCell (p := ⟨g, k * 7 + 5, none⟩) HG.out.1 _).more (by omega), h2.setCell (p := ⟨g, k * 7 + 5, none⟩) (.inr HG.out.2) _, HO2.out W h3⟩)
       by_cases hqk : q = k
       ·have hqk' : ((q : Int) == (k : Int)) = true := by rw [hqk]; simp
        clear hqk HIF HC4
        go_wp2_with fail
        obtain ⟨f1, f2, f3⟩ := FIN.out _ HS2.out HM2.out HOW.out
        go_roundg (n - (k + 1))
        case measure => omega
        case rel => exact ⟨k + 1, y2, rfl, by omega, by simp, HZ2.out, f3, f1, f2⟩
       ·have hqk' : ((q : Int) == (k : Int)) = false := by simp; omega
        clear hqk
        go_wp2_with fail
        refine (HIF.out _ HM2.out HOW.out).mono ?_;rintro e w3 ⟨rfl, hm3⟩;have m3 := HM2.out.transp hm3;have hS3 := HS2.out.pure hm3;have own3 := HOW.out.mod hm3 id;have c5 := own3.frozen (k * 7 + 5);have H3 := Lib.hid own3;clear HIF HM2 HS2 HOW own3 c0 c1 c2 c3 hm3
        by_cases he : e1 = 0
        ·subst he
         go_wp2_with fail
         go_roundg (n - (k + 1))
         case measure => omega
         case rel => exact ⟨k + 1, y1, rfl, by omega, by simp, HZ1.out, H3.out, hS3.more (by omega), m3⟩
        ·have he' : (e1 != 0) = true := by simpa using he
         clear he;have hc4 := HC4.out _ H3.out
         go_wp2_with fail
         obtain ⟨f1, f2, f3⟩ := FIN.out _ hS3 m3 H3.out
         go_roundg (n - (k + 1))
         case measure => omega
         case rel => exact ⟨k + 1, y2, rfl, by omega, by simp, HZ2.out, f3, f1, f2⟩
      ·go_wp2_with fail
       go_roundg (n - (k + 1))
       case measure => omega
       case rel => exact ⟨k + 1, ys, rfl, by omega, by simp, HYZ.out, own1, hS1.more (by omega), m1⟩
     ·obtain rfl : k = n := by omega
      go_wp2_with fail
      go_ret;exact ⟨.slice (some ⟨g, 0, none⟩) k cap, ys, rfl, by omega, hyz, by rw [hyl, ← HBA.out]; exact hown, hS.more (by omega), hmm⟩

def ItemsPost (w : World) (b N m : Nat) (e : Ending) (w' : World) : Prop :=
 ∃ (v : Value) (xs : List Itm), e = .returned v ∧ xs.length ≤ m ∧ (∀ x ∈ xs, ItB x) ∧ w'.ownsRow w.heap.size 83 7 v xs.length (itV xs) ∧ Strm w' b N ∧ Mod (· = b) w w'
theorem ItemsPostG.b {w : World} {b N m : Nat} {e : Ending} {w' : World} (h : ItemsPostG w b N m e w') : ItemsPost w b N m e w' := by
 obtain ⟨v, xs, h1, h2, h3, h4⟩ := h;exact ⟨v, xs, h1, h2, fun x hx => (h3 x hx).b, h4⟩
end Go.Proofs.YtpinlcapgoljfaaGreatDoor

/- The generators of items: Items. -/
namespace Go.Proofs.YtpinlcapgoljfaaGreatDoor
open Go.RowKit

theorem OwnI.setFld {w : World} {base g n cap k : Nat} {xs : List Itm} (h : OwnI w base g n cap xs) (hk : k < xs.length) (d : Nat) (hd : d < 7) (u : Value) (x' : Itm) (hx : (itC xs[k]).set d u = itC x') : OwnI (w.setCell ⟨g, k * 7 + d, none⟩ u) base g n cap (xs.set k x') := by
 have h1 := (World.ownsRow.stored h (k * 7 + d) u).1;rw [itV_set xs k x' d _ hk hd (by simpa [List.getD, hk] using hx)] at h1;exact h1
/-- A store of a whole item. -/
theorem OwnI.setItem {w : World} {base g n cap k : Nat} {xs : List Itm} (h : OwnI w base g n cap xs) (hk : k < xs.length) (y : Itm) :
  OwnI (((((((w.setCell ⟨g, k * 7, none⟩ (.string ⟨y.id.toArray⟩)).setCell ⟨g, k * 7 + 1, none⟩ (.string ⟨y.cust.toArray⟩)).setCell ⟨g, k * 7 + 2, none⟩ (.int .i64 y.kind)).setCell ⟨g, k * 7 + 3, none⟩ (.string ⟨y.name.toArray⟩)).setCell ⟨g, k * 7 + 4, none⟩ (.int .i64 y.tm)).setCell ⟨g, k * 7 + 5, none⟩ (.string ⟨y.par.toArray⟩)).setCell ⟨g, k * 7 + 6, none⟩ (.string ⟨y.text.toArray⟩)) base g n cap (xs.set k y) := by
 obtain ⟨y0, y1, y2, y3, y4, y5, y6⟩ := y;have h0 := h.setFld hk 0 (by omega) (.string ⟨y0.toArray⟩) { xs[k] with id := y0 } rfl;have h1 := h0.setFld (by simpa using hk) 1 (by omega) (.string ⟨y1.toArray⟩) { xs[k] with id := y0, cust := y1 } (by simp [itC]);have h2 := h1.setFld (by simpa using hk) 2 (by omega) (.int .i64 y2) { xs[k] with id := y0, cust := y1, kind := y2 } (by simp [itC]);have h3 := h2.setFld (by simpa using hk) 3 (by omega) (.string ⟨y3.toArray⟩) { xs[k] with id := y0, cust := y1, kind := y2, name := y3 } (by simp [itC]);have h4 := h3.setFld (by simpa using hk) 4 (by omega) (.int .i64 y4) { xs[k] with id := y0, cust := y1, kind := y2, name := y3, tm := y4 } (by simp [itC]);have h5 := h4.setFld (by simpa using hk) 5 (by omega) (.string ⟨y5.toArray⟩) { xs[k] with id := y0, cust := y1, kind := y2, name := y3, tm := y4, par := y5 } (by simp [itC]);have h6 := h5.setFld (by simpa using hk) 6 (by omega) (.string ⟨y6.toArray⟩) ⟨y0, y1, y2, y3, y4, y5, y6⟩ (by simp [itC])
 simpa using h6
theorem Mod.setR {w W : World} {b g : Nat} (h : Mod (· = b) w W) (hg : w.heap.size ≤ g) (j : Nat) (u : Value) : Mod (· = b) w (W.setCell ⟨g, j, none⟩ u) := h.setCell (p := ⟨g, j, none⟩) (.inr hg) u
theorem Strm.setR {W : World} {b N g : Nat} (h : Strm W b N) (hg : b < g) (j : Nat) (u : Value) : Strm (W.setCell ⟨g, j, none⟩ u) b N := h.setCell (p := ⟨g, j, none⟩) hg u
theorem itemIdZ_calls (w : World) (k : Int) (h0 : 0 ≤ k) (hk : k < 26) : Calls Tryz.prog 39 #[.int .i64 k] w (fun e w' => ∃ s : Str, s.length ≤ 100 ∧ e = .returned (.string ⟨s.toArray⟩) ∧ Pure w w') := by
 obtain ⟨i, rfl⟩ := Int.eq_ofNat_of_zero_le h0;refine (itemId_calls w i (by omega)).mono ?_;rintro e w' ⟨rfl, h⟩;exact ⟨itS i, by simp [itS], rfl, h⟩
def Im4 (w : World) (b N base g n cap gk : Nat) (i : Value) (wr : World) : Prop :=
 ∃ (j : Nat) (xs : List Itm), 4 - j = gk ∧ j ≤ 4 ∧ i = .int .i64 (j : Int) ∧ (∀ x ∈ xs, ItG x) ∧ OwnI wr base g n cap xs ∧ Strm wr b (N + 2 * j) ∧ Mod (· = b) w wr

set_option maxRecDepth 100000 in
set_option maxHeartbeats 8000000 in
theorem items_callsG (w : World) (b N m : Nat) (mI : Int) (hmI : mI = (m : Int)) (hS : Strm w b N) (hN : N ≤ 600000000) (hm : m ≤ 20) (hE : ∀ W, Mod (· = b) w W → Env W) : Calls Tryz.prog 5 #[.pointer (some ⟨b, 0, none⟩), .int .i64 mI] w (ItemsPostG w b (N + 142 * m + 160) (m + 1)) := by
 obtain ⟨i0, hi0, hz0, hz1, hz2⟩ := info_parts info_item7;have HRI := Lib.hid (rightItems_callsG w b N m hS (by omega) hm hE);rw [← hmI] at HRI;have HMI := Lib.hid hmI;clear hmI;have hbl := hS.lt;clear hE hS
 go_enter Tryz.func5, Tryz.ntmps5
 go_wp2_with fail
 refine HRI.out.mono ?_;rintro e w1 ⟨v, xs, rfl, hxm, hxz, hown, hS1, m1⟩;clear HRI;have HXZ := Lib.hid hxz;clear hxz
 by_cases h0 : xs.length = 0
 ·have hform : ∃ A cap, v = .slice A 0 cap := by
   rw [h0] at hown
   rcases hown.2 with ⟨rfl, _⟩ | ⟨g, cap, cur, rfl, _⟩
   ·exact ⟨_, _, rfl⟩
   ·exact ⟨_, _, rfl⟩
  obtain ⟨A, cap, rfl⟩ := hform;have HOW := Lib.hid hown;clear hown h0
  go_wp2_with fail
  go_ret;exact ⟨_, xs, rfl, by omega, HXZ.out, HOW.out, hS1.more (by omega), m1⟩
 obtain ⟨g, cap, rfl, hg1, hg2, hcap, hcap2⟩ := own_form7 hown (by omega);have hownI : OwnI w1 w.heap.size g xs.length cap xs := hown;clear hown;obtain ⟨n, hn⟩ : ∃ n, xs.length = n := ⟨_, rfl⟩;rw [hn] at hownI hcap h0 hxm ⊢;have hn1 := Nat.le_of_eq hn;have hn2 := Nat.le_of_eq hn.symm
 have hn0 : (0 : Int) < (n : Int) := by omega
 clear hn h0
 go_wp2_with fail
 refine (flip_calls _ b _ _ hS1 (by omega) (by omega) (by omega)).mono ?_;rintro e w2 ⟨fl, rfl, hS2, hM2⟩;have own2 := hownI.mod hM2 (by omega);have m2 := m1.trans hM2
 have DONE : Hid (∀ (W : World) (zs : List Itm), (∀ x ∈ zs, ItG x) → OwnI W w.heap.size g n cap zs → Strm W b (N + 142 * m + 160) → Mod (· = b) w W → ItemsPostG w b (N + 142 * m + 160) (m + 1) (.returned (.slice (some ⟨g, 0, none⟩) n cap)) W) := Lib.hid (fun W zs h1 h2 h3 h4 => by
  have := h2.len
  exact ⟨_, zs, rfl, by omega, h1, by rw [this]; exact h2, h3, h4⟩)
 clear hS1 hownI m1 hM2
 cases fl
 ·go_wp2_with fail
  go_ret;exact DONE.out _ xs HXZ.out own2 (hS2.more (by omega)) m2
 go_wp2_with fail
 refine (next_calls _ b _ _ hS2 (by omega) (by omega) (by omega)).mono ?_;rintro e w3 ⟨kk, hk0, hk1, rfl, hS3, hM3⟩;obtain ⟨kk, rfl⟩ := Int.eq_ofNat_of_zero_le hk0;have own3 := own2.mod hM3 (by omega);have m3 := m2.trans hM3
 have hkn : kk < n := by omega
 have hkx : kk < xs.length := by omega
 clear hS2 own2 m2 hM3 hk0 hk1
 go_wp2_with fail
 refine (next_calls _ b _ _ hS3 (by omega) (by omega) (by omega)).mono ?_;rintro e w4 ⟨sw, hs0, hs1, rfl, hS4, hM4⟩;have own4 := own3.mod hM4 (by omega);have m4 := m3.trans hM4;clear hS3 own3 m3 hM4
 have i3 : (0 : Int) ≤ (kk : Int) := by omega
 have i4 : (kk : Int) < (n : Int) := by omega
 have hbg : b < g := by omega
 have hmg : w.heap.size ≤ g := by omega
 by_cases s0 : sw = 0
 ·subst s0
  have hmi1 : 1 ≤ mI := by have := HMI.out; omega
  have hmi2 : mI ≤ 20 := by have := HMI.out; omega
  clear HMI
  go_upto_region 11 with (fail)
  obtain ⟨N1, hN1⟩ : ∃ N1, N1 = N + 142 * m + 1 + 1 + 1 := ⟨_, rfl⟩;rw [← hN1] at hS4;have hN1a := Nat.le_of_eq hN1;have hN1b := Nat.le_of_eq hN1.symm;clear hN1;have hb4 := hS4.lt;have HGs := Lib.hid (show ∀ (D : Nat → Bool) (zzi : Nat) (zq zq' : World), (fun _ zq => (fun Z => ∃ zs : List Itm, zs.length = n ∧ (∀ x ∈ zs, ItG x) ∧ OwnI Z w.heap.size g n cap zs) zq) D zq → Mod (· = b) zq zq' → (fun _ zq => (fun Z => ∃ zs : List Itm, zs.length = n ∧ (∀ x ∈ zs, ItG x) ∧ OwnI Z w.heap.size g n cap zs) zq) (upd D zzi true) zq' from by intro D zzi zq zq' h hm; (obtain ⟨zs, h1, h2, h3⟩ := h; exact ⟨zs, h1, h2, h3.mod hm (by omega)⟩))
  refine wp_region_inv (by kernel_rfl) (by kernel_rfl) (InvF (R := Mod (· = b)) [.is (.slice (some ⟨g, 0, none⟩) n cap),
    .is (.int .i64 (kk : Int)),
    .is (.pointer (some ⟨b, 0, none⟩)),
    .is (.pointer (some ⟨b, 0, none⟩)),
    .is (.int .i64 mI),
    .val (fun zv => ∃ (k_5 : Int), zv = .int .i64 k_5 ∧ 0 ≤ k_5 ∧ k_5 < mI),
    .val (fun zv => ∃ (s_6 : Str), zv = .string ⟨s_6.toArray⟩ ∧ s_6.length ≤ 100),
    .is (.slice (some ⟨g, 0, none⟩) n cap),
    .is (.int .i64 (kk : Int)),
    .is (.pointer (some ⟨g, kk * 7, none⟩)),
    .is (.pointer (some ⟨g, kk * 7, none⟩)),
    .val (fun zv => ∃ (s_11 : Str), zv = .string ⟨s_11.toArray⟩ ∧ s_11.length ≤ 100),
    ⟨fun zv zw => ∃ (s_12 : Str) (sa_12 : Str) (g_12 : Nat), zv = .slice (some ⟨g_12, 0, none⟩) 3 3 ∧ s_12.length ≤ 100 ∧ sa_12.length ≤ 100 ∧ w4.heap.size ≤ g_12 ∧ Blk zw g_12 9 #[(.string { data := #[105, 122, 122] }), .string ⟨s_12.toArray⟩, .string ⟨sa_12.toArray⟩], (by rintro zv zw zx ⟨s_12, sa_12, g_12, rfl, c0, c1, c2, q0⟩ hm; exact ⟨s_12, sa_12, g_12, rfl, c0, c1, c2, (q0.modb hm (by omega))⟩), none, some 13⟩,
    .val (fun zv => ∃ (s_13 : Str), zv = .string ⟨s_13.toArray⟩ ∧ s_13.length ≤ 100),
    .is (.pointer (some ⟨g, kk * 7, none⟩)),
    .is (.pointer (some ⟨g, kk * 7 + 5, none⟩)),
    .any]
    (GB w (· = b) w4.heap.size b (N1) (fun D => (D 5).toNat + (D 13).toNat) (fun _ zq => (fun Z => ∃ zs : List Itm, zs.length = n ∧ (∀ x ∈ zs, ItG x) ∧ OwnI Z w.heap.size g n cap zs) zq))) (InvF.start (GB.start hS4 m4 (Nat.le_refl _) (⟨xs, by omega, HXZ.out, own4⟩))) ?_ ?_
  ·refine .cons ?_ (.cons ?_ (.cons ?_ (.cons ?_ (.cons ?_ (.cons ?_ (.cons ?_ (.cons ?_ (.cons ?_ (.cons ?_ (.cons ?_ (.cons ?_ (.cons ?_ (.cons ?_ (.cons ?_ (.cons ?_ (.cons ?_ .nil))))))))))))))))
   ·intro D V zw1 a hR hI K hK;obtain ⟨hS1, hM1, hB1, hG1⟩ := hI.1;obtain ⟨zs, hG1a, hG1b, hG1d⟩ := hG1;have ze5 := hR.frame.other (t := 5) (by kernel_rfl) rfl;rw [if_pos (by rfl)];go_simp;exact hK (.slice (some ⟨g, 0, none⟩) n cap) _ (hI.next hR (by kernel_rfl) (Mod.refl _ _) (GB.quiet hI.1 (Mod.refl _ _) (by have hn := hR.not; simp [upd, hn] <;> omega) (HGs.out D 0 zw1 zw1 (hI.1).g (Mod.refl _ _))) (upd_same V 0 _))
   ·intro D V zw1 a hR hI K hK;obtain ⟨hS1, hM1, hB1, hG1⟩ := hI.1;obtain ⟨zs, hG1a, hG1b, hG1d⟩ := hG1;have ze6 := hR.frame.other (t := 6) (by kernel_rfl) rfl;rw [if_pos (by rfl)];go_simp;exact hK (.int .i64 (kk : Int)) _ (hI.next hR (by kernel_rfl) (Mod.refl _ _) (GB.quiet hI.1 (Mod.refl _ _) (by have hn := hR.not; simp [upd, hn] <;> omega) (HGs.out D 1 zw1 zw1 (hI.1).g (Mod.refl _ _))) (upd_same V 1 _))
   ·intro D V zw1 a hR hI K hK;obtain ⟨hS1, hM1, hB1, hG1⟩ := hI.1;obtain ⟨zs, hG1a, hG1b, hG1d⟩ := hG1;have ze0 := hR.frame.other (t := 0) (by kernel_rfl) rfl;rw [if_pos (by rfl)];go_simp;exact hK (.pointer (some ⟨b, 0, none⟩)) _ (hI.next hR (by kernel_rfl) (Mod.refl _ _) (GB.quiet hI.1 (Mod.refl _ _) (by have hn := hR.not; simp [upd, hn] <;> omega) (HGs.out D 2 zw1 zw1 (hI.1).g (Mod.refl _ _))) (upd_same V 2 _))
   ·intro D V zw1 a hR hI K hK;obtain ⟨hS1, hM1, hB1, hG1⟩ := hI.1;obtain ⟨zs, hG1a, hG1b, hG1d⟩ := hG1;have ze0 := hR.frame.other (t := 0) (by kernel_rfl) rfl;rw [if_pos (by rfl)];go_simp;exact hK (.pointer (some ⟨b, 0, none⟩)) _ (hI.next hR (by kernel_rfl) (Mod.refl _ _) (GB.quiet hI.1 (Mod.refl _ _) (by have hn := hR.not; simp [upd, hn] <;> omega) (HGs.out D 3 zw1 zw1 (hI.1).g (Mod.refl _ _))) (upd_same V 3 _))
   ·intro D V zw1 a hR hI K hK;obtain ⟨hS1, hM1, hB1, hG1⟩ := hI.1;obtain ⟨zs, hG1a, hG1b, hG1d⟩ := hG1;have ze1 := hR.frame.other (t := 1) (by kernel_rfl) rfl;rw [if_pos (by rfl)];go_simp;exact hK (.int .i64 mI) _ (hI.next hR (by kernel_rfl) (Mod.refl _ _) (GB.quiet hI.1 (Mod.refl _ _) (by have hn := hR.not; simp [upd, hn] <;> omega) (HGs.out D 4 zw1 zw1 (hI.1).g (Mod.refl _ _))) (upd_same V 4 _))
   ·intro D V zw1 a hR hI K hK;obtain ⟨hS1, hM1, hB1, hG1⟩ := hI.1;obtain ⟨zs, hG1a, hG1b, hG1d⟩ := hG1;have zd3 := hR.pred 3 (by kernel_rfl);have zf3 : V 3 = .pointer (some ⟨b, 0, none⟩) := hI.2 3 zd3 rfl;have zd4 := hR.pred 4 (by kernel_rfl);have zf4 : V 4 = .int .i64 mI := hI.2 4 zd4 rfl;have ze48 := hR.frame.done (t := 48) (j := 3) (by kernel_rfl) hR.ok zd3;have ze49 := hR.frame.done (t := 49) (j := 4) (by kernel_rfl) hR.ok zd4;rw [if_pos (by rfl)];have := Bool.toNat_le (D 5);have := Bool.toNat_le (D 13)
    have hNB : N1 + ((D 5).toNat + (D 13).toNat) ≤ 1000000000 := by omega
    skip
    go_simp;refine (next_calls _ _ _ _ hS1 hNB (by omega) (by omega)).mono ?_;rintro e zw2 ⟨k_0, hk1, hk2, rfl, hS2, hm2⟩;exact hK (.int .i64 k_0) _ (hI.next hR (by kernel_rfl) hm2 (GB.asks hI.1 (fun _ h _ => h) hS2 hm2 (by have hn := hR.not; simp [upd, hn] <;> omega) (HGs.out D 5 _ _ (hI.1).g hm2)) (⟨k_0, upd_same V 5 _, hk1, hk2⟩))
   ·intro D V zw1 a hR hI K hK;obtain ⟨hS1, hM1, hB1, hG1⟩ := hI.1;obtain ⟨zs, hG1a, hG1b, hG1d⟩ := hG1;have zd5 := hR.pred 5 (by kernel_rfl);have zF5 : ∃ (k_5 : Int), V 5 = .int .i64 k_5 ∧ 0 ≤ k_5 ∧ k_5 < mI := hI.2 5 zd5 rfl;obtain ⟨k_5, zf5, c5_0, c5_1⟩ := zF5;have ze50 := hR.frame.done (t := 50) (j := 5) (by kernel_rfl) hR.ok zd5;rw [if_pos (by rfl)];have := Bool.toNat_le (D 5);have := Bool.toNat_le (D 13)
    have hNB : N1 + ((D 5).toNat + (D 13).toNat) ≤ 1000000000 := by omega
    skip
    go_simp;refine (itemIdZ_calls _ k_5 c5_0 (by omega)).mono ?_;rintro e zw2 ⟨s_0, hs, rfl, hm2⟩;exact hK (.string ⟨s_0.toArray⟩) _ (hI.next hR (by kernel_rfl) (Mod.of_pure hm2) (GB.quiet hI.1 hm2 (by have hn := hR.not; simp [upd, hn] <;> omega) (HGs.out D 6 _ _ (hI.1).g (Mod.of_pure hm2))) (⟨s_0, upd_same V 6 _, hs⟩))
   ·intro D V zw1 a hR hI K hK;obtain ⟨hS1, hM1, hB1, hG1⟩ := hI.1;obtain ⟨zs, hG1a, hG1b, hG1d⟩ := hG1;have ze5 := hR.frame.other (t := 5) (by kernel_rfl) rfl;rw [if_pos (by rfl)];go_simp;exact hK (.slice (some ⟨g, 0, none⟩) n cap) _ (hI.next hR (by kernel_rfl) (Mod.refl _ _) (GB.quiet hI.1 (Mod.refl _ _) (by have hn := hR.not; simp [upd, hn] <;> omega) (HGs.out D 7 zw1 zw1 (hI.1).g (Mod.refl _ _))) (upd_same V 7 _))
   ·intro D V zw1 a hR hI K hK;obtain ⟨hS1, hM1, hB1, hG1⟩ := hI.1;obtain ⟨zs, hG1a, hG1b, hG1d⟩ := hG1;have ze6 := hR.frame.other (t := 6) (by kernel_rfl) rfl;rw [if_pos (by rfl)];go_simp;exact hK (.int .i64 (kk : Int)) _ (hI.next hR (by kernel_rfl) (Mod.refl _ _) (GB.quiet hI.1 (Mod.refl _ _) (by have hn := hR.not; simp [upd, hn] <;> omega) (HGs.out D 8 zw1 zw1 (hI.1).g (Mod.refl _ _))) (upd_same V 8 _))
   ·intro D V zw1 a hR hI K hK;obtain ⟨hS1, hM1, hB1, hG1⟩ := hI.1;obtain ⟨zs, hG1a, hG1b, hG1d⟩ := hG1;have zd7 := hR.pred 7 (by kernel_rfl);have zf7 : V 7 = .slice (some ⟨g, 0, none⟩) n cap := hI.2 7 zd7 rfl;have zd8 := hR.pred 8 (by kernel_rfl);have zf8 : V 8 = .int .i64 (kk : Int) := hI.2 8 zd8 rfl;have ze52 := hR.frame.done (t := 52) (j := 7) (by kernel_rfl) hR.ok zd7;have ze53 := hR.frame.done (t := 53) (j := 8) (by kernel_rfl) hR.ok zd8;rw [if_pos (by rfl)];go_simp;exact hK (.pointer (some ⟨g, kk * 7, none⟩)) _ (hI.next hR (by kernel_rfl) (Mod.refl _ _) (GB.quiet hI.1 (Mod.refl _ _) (by have hn := hR.not; simp [upd, hn] <;> omega) (HGs.out D 9 zw1 zw1 (hI.1).g (Mod.refl _ _))) (upd_same V 9 _))
   ·intro D V zw1 a hR hI K hK;obtain ⟨hS1, hM1, hB1, hG1⟩ := hI.1;obtain ⟨zs, hG1a, hG1b, hG1d⟩ := hG1;have zd9 := hR.pred 9 (by kernel_rfl);have zf9 : V 9 = .pointer (some ⟨g, kk * 7, none⟩) := hI.2 9 zd9 rfl;have ze54 := hR.frame.done (t := 54) (j := 9) (by kernel_rfl) hR.ok zd9;rw [if_pos (by rfl)];go_simp;exact hK (.pointer (some ⟨g, kk * 7, none⟩)) _ (hI.next hR (by kernel_rfl) (Mod.refl _ _) (GB.quiet hI.1 (Mod.refl _ _) (by have hn := hR.not; simp [upd, hn] <;> omega) (HGs.out D 10 zw1 zw1 (hI.1).g (Mod.refl _ _))) (upd_same V 10 _))
   ·intro D V zw1 a hR hI K hK;obtain ⟨hS1, hM1, hB1, hG1⟩ := hI.1;obtain ⟨zs, hG1a, hG1b, hG1d⟩ := hG1;have zd10 := hR.pred 10 (by kernel_rfl);have zf10 : V 10 = .pointer (some ⟨g, kk * 7, none⟩) := hI.2 10 zd10 rfl;have ze55 := hR.frame.done (t := 55) (j := 10) (by kernel_rfl) hR.ok zd10
    have hkz : kk < zs.length := by omega
    have hcc := (hG1d.cells hkz).1;rw [if_pos (by rfl)];go_simp;exact hK (_) _ (hI.next hR (by kernel_rfl) (Mod.refl _ _) (GB.quiet hI.1 (Mod.refl _ _) (by have hn := hR.not; simp [upd, hn] <;> omega) (HGs.out D 11 zw1 zw1 (hI.1).g (Mod.refl _ _))) (⟨zs[kk].id, upd_same V 11 _, (hG1b _ (List.getElem_mem hkz)).1⟩))
   ·intro D V zw1 a hR hI K hK;obtain ⟨hS1, hM1, hB1, hG1⟩ := hI.1;obtain ⟨zs, hG1a, hG1b, hG1d⟩ := hG1;have zd6 := hR.pred 6 (by kernel_rfl);have zF6 : ∃ (s_6 : Str), V 6 = .string ⟨s_6.toArray⟩ ∧ s_6.length ≤ 100 := hI.2 6 zd6 rfl;obtain ⟨s_6, zf6, c6_0⟩ := zF6;have zd11 := hR.pred 11 (by kernel_rfl);have zF11 : ∃ (s_11 : Str), V 11 = .string ⟨s_11.toArray⟩ ∧ s_11.length ≤ 100 := hI.2 11 zd11 rfl;obtain ⟨s_11, zf11, c11_0⟩ := zF11;have ze51 := hR.frame.done (t := 51) (j := 6) (by kernel_rfl) hR.ok zd6;have ze56 := hR.frame.done (t := 56) (j := 11) (by kernel_rfl) hR.ok zd11;rw [if_pos (by rfl)];go_simp;exact hK (_) _ (hI.next hR (by kernel_rfl) ((Mod.refl _ _).alloc _) (GB.quiet hI.1 (pure_alloc _ _) (by have hn := hR.not; simp [upd, hn] <;> omega) (HGs.out D 12 _ _ (hI.1).g ((Mod.refl _ _).alloc _))) (⟨s_6, s_11, _, upd_same V 12 _, (by first | assumption | omega), (by first | assumption | omega), (by omega), (Blk.new _ _ _)⟩))
   ·intro D V zw1 a hR hI K hK;obtain ⟨hS1, hM1, hB1, hG1⟩ := hI.1;obtain ⟨zs, hG1a, hG1b, hG1d⟩ := hG1;have zd2 := hR.pred 2 (by kernel_rfl);have zf2 : V 2 = .pointer (some ⟨b, 0, none⟩) := hI.2 2 zd2 rfl;have zd12 := hR.pred 12 (by kernel_rfl);have zF12 : ∃ (s_12 : Str) (sa_12 : Str) (g_12 : Nat), V 12 = .slice (some ⟨g_12, 0, none⟩) 3 3 ∧ s_12.length ≤ 100 ∧ sa_12.length ≤ 100 ∧ w4.heap.size ≤ g_12 ∧ Blk zw1 g_12 9 #[(.string { data := #[105, 122, 122] }), .string ⟨s_12.toArray⟩, .string ⟨sa_12.toArray⟩] := hI.2 12 zd12 (by show (!D 13) = true; rw [hR.not]; rfl);obtain ⟨s_12, sa_12, g_12, zf12, c12_0, c12_1, c12_2, b12_0⟩ := zF12;have ze47 := hR.frame.done (t := 47) (j := 2) (by kernel_rfl) hR.ok zd2;have ze57 := hR.frame.done (t := 57) (j := 12) (by kernel_rfl) hR.ok zd12;rw [if_pos (by rfl)];have := Bool.toNat_le (D 5);have := Bool.toNat_le (D 13)
    have hNB : N1 + ((D 5).toNat + (D 13).toNat) ≤ 1000000000 := by omega
    skip
    go_simp;refine (someb_calls _ b _ _ _ _ [[105, 122, 122], s_12, sa_12] 100 rfl (le_cons (by decide) (le_cons c12_0 (le_cons c12_1 le_nil))) hS1 hNB b12_0 (by omega) (by simp) (by simp)).mono ?_;rintro e zw2 ⟨s_0, hs, rfl, hS2, hm2⟩;exact hK (.string ⟨s_0.toArray⟩) _ (hI.next hR (by kernel_rfl) hm2 (GB.asks hI.1 (fun _ h _ => h) hS2 hm2 (by have hn := hR.not; simp [upd, hn] <;> omega) (HGs.out D 13 _ _ (hI.1).g hm2)) (⟨s_0, upd_same V 13 _, hs⟩))
   ·intro D V zw1 a hR hI K hK;obtain ⟨hS1, hM1, hB1, hG1⟩ := hI.1;obtain ⟨zs, hG1a, hG1b, hG1d⟩ := hG1;have zd0 := hR.pred 0 (by kernel_rfl);have zf0 : V 0 = .slice (some ⟨g, 0, none⟩) n cap := hI.2 0 zd0 rfl;have zd1 := hR.pred 1 (by kernel_rfl);have zf1 : V 1 = .int .i64 (kk : Int) := hI.2 1 zd1 rfl;have ze45 := hR.frame.done (t := 45) (j := 0) (by kernel_rfl) hR.ok zd0;have ze46 := hR.frame.done (t := 46) (j := 1) (by kernel_rfl) hR.ok zd1;rw [if_pos (by rfl)];go_simp;exact hK (.pointer (some ⟨g, kk * 7, none⟩)) _ (hI.next hR (by kernel_rfl) (Mod.refl _ _) (GB.quiet hI.1 (Mod.refl _ _) (by have hn := hR.not; simp [upd, hn] <;> omega) (HGs.out D 14 zw1 zw1 (hI.1).g (Mod.refl _ _))) (upd_same V 14 _))
   ·intro D V zw1 a hR hI K hK;obtain ⟨hS1, hM1, hB1, hG1⟩ := hI.1;obtain ⟨zs, hG1a, hG1b, hG1d⟩ := hG1;have zd14 := hR.pred 14 (by kernel_rfl);have zf14 : V 14 = .pointer (some ⟨g, kk * 7, none⟩) := hI.2 14 zd14 rfl;have ze59 := hR.frame.done (t := 59) (j := 14) (by kernel_rfl) hR.ok zd14;rw [if_pos (by rfl)];go_simp;exact hK (.pointer (some ⟨g, kk * 7 + 5, none⟩)) _ (hI.next hR (by kernel_rfl) (Mod.refl _ _) (GB.quiet hI.1 (Mod.refl _ _) (by have hn := hR.not; simp [upd, hn] <;> omega) (HGs.out D 15 zw1 zw1 (hI.1).g (Mod.refl _ _))) (upd_same V 15 _))
   ·intro D V zw1 a hR hI K hK;obtain ⟨hS1, hM1, hB1, hG1⟩ := hI.1;obtain ⟨zs, hG1a, hG1b, hG1d⟩ := hG1;have zd15 := hR.pred 15 (by kernel_rfl);have zf15 : V 15 = .pointer (some ⟨g, kk * 7 + 5, none⟩) := hI.2 15 zd15 rfl;have zd13 := hR.pred 13 (by kernel_rfl);have zF13 : ∃ (s_13 : Str), V 13 = .string ⟨s_13.toArray⟩ ∧ s_13.length ≤ 100 := hI.2 13 zd13 rfl;obtain ⟨s_13, zf13, c13_0⟩ := zF13;have ze60 := hR.frame.done (t := 60) (j := 15) (by kernel_rfl) hR.ok zd15;have ze58 := hR.frame.done (t := 58) (j := 13) (by kernel_rfl) hR.ok zd13;rw [if_pos (by rfl)]
    have hkz : kk < zs.length := by omega
    have zy0 := hG1d.frozen (kk * 7 + 5);have zx0 := (hG1d.cells hkz).2.2.2.2.2.1;go_simp;refine hK undef _ (InvF.last ⟨(hS1.setR (by omega) _ _).more (by have hn := hR.not; simp [upd, hn] <;> omega), hM1.setR (by omega) _ _, (by simpa using hB1), ⟨_, (by simpa using hG1a), set_all hG1b ((hG1b _ (List.getElem_mem hkz)).par (s := s_13) (by omega)), hG1d.setPar hkz s_13⟩⟩ trivial ?_);intro k hk hDk hlv;have hkl := hR.lt k hDk;have hv := hI.2 k hDk (liveB_of hlv)
    match k, hk, hDk, hlv, hkl, hv with
    | 0, _, _, _, _, hv => exact hv
    | 1, _, _, _, _, hv => exact hv
    | 2, _, _, _, _, hv => exact hv
    | 3, _, _, _, _, hv => exact hv
    | 4, _, _, _, _, hv => exact hv
    | 5, _, _, _, _, hv => exact hv
    | 6, _, _, _, _, hv => exact hv
    | 7, _, _, _, _, hv => exact hv
    | 8, _, _, _, _, hv => exact hv
    | 9, _, _, _, _, hv => exact hv
    | 10, _, _, _, _, hv => exact hv
    | 11, _, _, _, _, hv => exact hv
    | 12, _, _, hlv, _, _ => exact absurd hlv (by show ¬ (!upd D 16 true 13) = true; rw [upd_ne _ _ (by omega), hR.pred 13 (by kernel_rfl)]; decide)
    | 13, _, _, _, _, hv => exact hv
    | 14, _, _, _, _, hv => exact hv
    | 15, _, _, _, _, hv => exact hv
    | 16, hk, _, _, _, _ => exact absurd rfl hk
    | k + 17, _, _, _, hkl, _ => exact absurd hkl (by simp)
  ·intro D V w5 hD hI;obtain ⟨hS1, hM1, hB1, hG1⟩ := hI.1;have hSx : Strm w5 b (N1 + 2) := hS1.more (by show _ ≤ _; have := Bool.toNat_le (D 5); have := Bool.toNat_le (D 13); omega);clear hS1;have hMx := hM1;clear hM1;have hBx := hB1;clear hB1;have hGx := hG1;clear hG1;have zf0 : V 0 = .slice (some ⟨g, 0, none⟩) n cap := hI.2 0 (hD 0 (by decide)) rfl;have zf1 : V 1 = .int .i64 (kk : Int) := hI.2 1 (hD 1 (by decide)) rfl;have zf2 : V 2 = .pointer (some ⟨b, 0, none⟩) := hI.2 2 (hD 2 (by decide)) rfl;have zf3 : V 3 = .pointer (some ⟨b, 0, none⟩) := hI.2 3 (hD 3 (by decide)) rfl;have zf4 : V 4 = .int .i64 mI := hI.2 4 (hD 4 (by decide)) rfl;have zF5 : ∃ (k_5 : Int), V 5 = .int .i64 k_5 ∧ 0 ≤ k_5 ∧ k_5 < mI := hI.2 5 (hD 5 (by decide)) rfl;obtain ⟨k_5, zf5, c5_0, c5_1⟩ := zF5;have zF6 : ∃ (s_6 : Str), V 6 = .string ⟨s_6.toArray⟩ ∧ s_6.length ≤ 100 := hI.2 6 (hD 6 (by decide)) rfl;obtain ⟨s_6, zf6, c6_0⟩ := zF6;have zf7 : V 7 = .slice (some ⟨g, 0, none⟩) n cap := hI.2 7 (hD 7 (by decide)) rfl;have zf8 : V 8 = .int .i64 (kk : Int) := hI.2 8 (hD 8 (by decide)) rfl;have zf9 : V 9 = .pointer (some ⟨g, kk * 7, none⟩) := hI.2 9 (hD 9 (by decide)) rfl;have zf10 : V 10 = .pointer (some ⟨g, kk * 7, none⟩) := hI.2 10 (hD 10 (by decide)) rfl;have zF11 : ∃ (s_11 : Str), V 11 = .string ⟨s_11.toArray⟩ ∧ s_11.length ≤ 100 := hI.2 11 (hD 11 (by decide)) rfl;obtain ⟨s_11, zf11, c11_0⟩ := zF11;have zF13 : ∃ (s_13 : Str), V 13 = .string ⟨s_13.toArray⟩ ∧ s_13.length ≤ 100 := hI.2 13 (hD 13 (by decide)) rfl;obtain ⟨s_13, zf13, c13_0⟩ := zF13;have zf14 : V 14 = .pointer (some ⟨g, kk * 7, none⟩) := hI.2 14 (hD 14 (by decide)) rfl;have zf15 : V 15 = .pointer (some ⟨g, kk * 7 + 5, none⟩) := hI.2 15 (hD 15 (by decide)) rfl;clear hI hD HGs;simp only [frAll, Act.put, List.setIfInBounds_toArray, List.set_cons_zero, List.set_cons_succ, Nat.zero_add, Nat.reduceAdd, zf0, zf1, zf2, zf3, zf4, zf5, zf6, zf7, zf8, zf9, zf10, zf11, zf13, zf14, zf15];clear zf0 zf1 zf2 zf3 zf4 zf5 zf6 zf7 zf8 zf9 zf10 zf11 zf13 zf14 zf15;generalize V 12 = u12;clear V D;obtain ⟨zs, _, hz, hz3⟩ := hGx;have HZ := Lib.hid hz;clear hz
   go_wp2_with fail
   go_ret;exact DONE.out _ zs HZ.out hz3 (hSx.more (by omega)) hMx
 have s0' : (sw == 0) = false := by simpa using s0
 by_cases s1 : sw = 1
 ·subst s1;obtain ⟨c0, c1, c2, c3, c4, c5, c6⟩ := own4.cells hkx;have HSI := Lib.hid (fun (W : World) (h : OwnI W w.heap.size g n cap xs) y => h.setItem hkx y);have HIZ := Lib.hid (HXZ.out _ (List.getElem_mem hkx)).1;have HIC := Lib.hid (fun W => item_callsG W b (N + 142 * m + 1 + 1 + 1) xs[kk].id);have HCC := Lib.hid (fun (W : World) (h : OwnI W w.heap.size g n cap xs) => h.cells hkx);have hidl := HIZ.out;generalize xs[kk].id = kid at *
  go_wp2_with fail
  refine (HIC.out _ hS4 (by omega) (by omega)).mono ?_;rintro e w5 ⟨z, hz, rfl, hS5, hM5⟩;have own5 := own4.mod hM5 (by omega);have m5 := m4.trans hM5;clear hS4 own4 m4 hM5 c0 c1 c2 c3 c4 c5 c6;obtain ⟨d0, d1, d2, d3, d4, d5, d6⟩ := HCC.out _ own5;have f0 := own5.frozen (kk * 7);have f1 := own5.frozen (kk * 7 + 1);have f2 := own5.frozen (kk * 7 + 2);have f3 := own5.frozen (kk * 7 + 3);have f4 := own5.frozen (kk * 7 + 4);have f5 := own5.frozen (kk * 7 + 5);have f6 := own5.frozen (kk * 7 + 6);have HO := Lib.hid (HSI.out _ own5 z);have HZ : Hid (∀ x ∈ xs.set kk z, ItG x) := Lib.hid (set_all HXZ.out hz);clear own5 HSI HIC HCC hz hidl HIZ;unfold itA
  go_wp2_with fail
  go_ret;exact DONE.out _ _ HZ.out HO.out ((((((((hS5.setR hbg _ _).setR hbg _ _).setR hbg _ _).setR hbg _ _).setR hbg _ _).setR hbg _ _).setR hbg _ _).more (by omega)) (((((((m5.setR hmg _ _).setR hmg _ _).setR hmg _ _).setR hmg _ _).setR hmg _ _).setR hmg _ _).setR hmg _ _)
 have s1' : (sw == 1) = false := by simpa using s1
 by_cases s2 : sw = 2
 ·subst s2
  have h0x : 0 < xs.length := by omega
  obtain ⟨c0, c1, c2, c3, c4, c5, c6⟩ := own4.cells h0x;simp only [Nat.zero_mul, Nat.zero_add] at c0 c1 c2 c3 c4 c5 c6
  have HZ : Hid (∀ x ∈ xs ++ [xs[0]], ItG x) := Lib.hid (fun y hy => by
   rcases List.mem_append.1 hy with hy | hy
   ·exact HXZ.out y hy
   ·rw [List.mem_singleton.1 hy]; exact HXZ.out _ (List.getElem_mem h0x))
  have HXV := Lib.hid (itV_snoc xs xs[0]);have HLN : Hid ((xs ++ [xs[0]]).length = n + 1) := Lib.hid (by simp; omega);unfold itC at HXV;generalize xs[0] = z at *
  have j0 : (0 : Int) < (n : Int) := by omega
  have own4' : w4.ownsRow w.heap.size 83 7 (.slice (some ⟨g, 0, none⟩) n cap) n (itV xs) := own4
  go_wp2_with (at_builtin; refine wpList_append_lies _ rfl _ _ _ rfl w.heap.size 83 i0 _ 7 96 Tryz.underlying26 hi0 hz0 hz1 hz2 rfl (by omega) (.slice (some ⟨g, 0, none⟩) n cap) n (itV xs) rfl (own4'.alloc _) ⟨w4.heap.size, 0, none⟩ 1 1 [.string ⟨z.id.toArray⟩, .string ⟨z.cust.toArray⟩, .int .i64 z.kind, .string ⟨z.name.toArray⟩, .int .i64 z.tm, .string ⟨z.par.toArray⟩, .string ⟨z.text.toArray⟩] rfl rfl (World.news_of_block (cs := #[.string ⟨z.id.toArray⟩, .string ⟨z.cust.toArray⟩, .int .i64 z.kind, .string ⟨z.name.toArray⟩, .int .i64 z.tm, .string ⟨z.par.toArray⟩, .string ⟨z.text.toArray⟩]) (t := 83) (fr := (0, 0)) (heap_alloc_new w4 _)) (by simp [Value.oneCell']) (by omega) (by simp [maxLen]; omega) (by omega) (by have := m4.size; simp; omega) (w4.heap.size + 1) (by simp) ?_; intro g5 cap5 w5 hown5 hgrow hat hlt5)
  go_ret;refine ⟨_, xs ++ [z], rfl, by rw [HLN.out]; omega, HZ.out, ?_, (hS4.alloc _ |>.mod (S := fun k => (Value.slice (some ⟨g, 0, none⟩) n cap).ownBlock = some k) ⟨hgrow.os, hgrow.tape, hgrow.output, hgrow.size, fun k hk hs => hgrow.block k hk (fun x => hs x.symm)⟩ (fun i hi hk => by have := own_block own4' i hk; omega)).more (by omega), (m4.alloc _).grown hgrow (fun k hk => .inr (by have := own_block own4' k hk; omega))⟩;rw [HXV.out, HLN.out]
  simpa using hown5
 have s2' : (sw == 2) = false := by simpa using s2
 by_cases s3 : sw = 3
 ·subst s3;have c2 := (own4.cells hkx).2.2.1;have HSI := Lib.hid (fun (W : World) (h : OwnI W w.heap.size g n cap xs) z => h.setKind hkx z);have HZ : Hid (∀ z, ∀ x ∈ xs.set kk { xs[kk] with kind := z }, ItG x) := Lib.hid (fun z => set_all HXZ.out ((HXZ.out _ (List.getElem_mem hkx)).kind z));have HCC := Lib.hid (fun (W : World) (h : OwnI W w.heap.size g n cap xs) => (h.cells hkx).2.2.1)
  go_wp2_with fail
  refine (odd_calls _ b _ _ _ hS4 (by omega) (by omega) (by omega) (by omega)).mono ?_;rintro e w5 ⟨z, _, _, rfl, hS5, hM5⟩;have own5 := own4.mod hM5 (by omega);have m5 := m4.trans hM5;have d2 := HCC.out _ own5;have f2 := own5.frozen (kk * 7 + 2);have HO := Lib.hid (HSI.out _ own5 z);have HZ2 := Lib.hid (HZ.out z);clear hS4 own4 m4 hM5 own5 HSI HCC HZ c2;generalize xs.set kk { xs[kk] with kind := z } = ys at *
  go_wp2_with fail
  go_ret;exact DONE.out _ _ HZ2.out HO.out ((hS5.setR hbg _ _).more (by omega)) (m5.setR hmg _ _)
 have s3' : (sw == 3) = false := by simpa using s3
 clear s0 s1 s2 s3 hkx hkn i3 i4;obtain ⟨base, hbase⟩ : ∃ base, base = w.heap.size := ⟨_, rfl⟩;rw [← hbase] at own4 DONE;clear hbase
 go_wp2_with fail
 go_loopg [24] 4 (fun gk i wr => Im4 w b (N + 142 * m + 3) base g n cap gk i wr)
 case atStart => exact ⟨0, xs, rfl, by omega, rfl, HXZ.out, own4, hS4.more (by omega), m4⟩
 case round =>
  clear HXZ own4 hS4 m4 hn1 hn2;obtain ⟨j, ys, rfl, hj, rfl, hyz, hown, hS, hmm⟩ := hrel;have hyl := hown.len
  by_cases hlt : j < 4
  ·have HYZ := Lib.hid hyz;clear hyz
   go_wp2_with fail
   refine (next_calls _ b _ _ hS (by omega) (by omega) (by omega)).mono ?_;rintro e w5 ⟨p, hp0, hp1, rfl, hS5, hM5⟩;obtain ⟨p, rfl⟩ := Int.eq_ofNat_of_zero_le hp0;have own5 := hown.mod hM5 (by omega);have m5 := hmm.trans hM5;clear hS hown hmm hM5
   go_wp2_with fail
   refine (next_calls _ b _ _ hS5 (by omega) (by omega) (by omega)).mono ?_;rintro e w6 ⟨q, hq0, hq1, rfl, hS6, hM6⟩;obtain ⟨q, rfl⟩ := Int.eq_ofNat_of_zero_le hq0;have own6 := own5.mod hM6 (by omega);have m6 := m5.trans hM6
   have hpy : p < ys.length := by omega
   have hqy : q < ys.length := by omega
   have c0 := (own6.cells hqy).1;have c1 := (own6.cells hpy).2.2.2.2.2.1;have c2 := own6.frozen (p * 7 + 5);have HO := Lib.hid (own6.setPar hpy ys[q].id);have HZ1 : Hid (∀ x ∈ ys.set p { ys[p] with par := ys[q].id }, ItG x) := Lib.hid (set_all HYZ.out ((HYZ.out _ (List.getElem_mem hpy)).par (by have := (HYZ.out _ (List.getElem_mem hqy)).1; omega)));clear hS5 own5 m5 hM6 own6 hp0 hq0 hyl HYZ;generalize ys.set p { ys[p] with par := ys[q].id } = y1 at *;generalize ys[q].id = qid at *;generalize ys[p].par = ppar at *
   have j1 : (0 : Int) ≤ (p : Int) := by omega
   have j3 : (0 : Int) ≤ (q : Int) := by omega
   go_wp2_with fail
   go_roundg (4 - (j + 1))
   case measure => omega
   case rel => exact ⟨j + 1, y1, rfl, by omega, by simp, HZ1.out, HO.out, (hS6.setR hbg _ _).more (by omega), m6.setR hmg _ _⟩
  ·obtain rfl : j = 4 := by omega
   have HYZ := Lib.hid hyz;clear hyz
   go_wp2_with fail
   go_ret;exact DONE.out _ ys HYZ.out hown (hS.more (by omega)) hmm

end Go.Proofs.YtpinlcapgoljfaaGreatDoor

/- Words that the laws of reviews share. -/
namespace Go.Proofs.YtpinlcapgoljfaaGreatDoor
open Go.RowKit

section
variable {w w' : World} {b base c N : Nat} {A : Option Addr} {ds : List DecR}
end


end Go.Proofs.YtpinlcapgoljfaaGreatDoor

/-
 DERIVED: THE SHELF's CONTRACTS AT THIS DUMP, IN PLAIN WORDS (tools/lay-plain.mjs out of 'YtpinlcapgoljfaaGreatDoorLayFie.lean', which tools/lay-shelf.mjs wrote): THE SAME DECLARATIONS UNDER THE SAME NAMES: 'import', 'namespace', 'open', 'def', 'theorem' AND NOTHING ELSE: no command of the shelf's: FOR A HAND-IN. Each laying: the table of numbers ('.._ren') and one theorem, a field a fact of the dump's own or the kernel's comparison; each contract: ONE APPLICATION.
-/
namespace Go.Proofs
open Go.Shelf
def Tryz.lays157_ren : Go.Shelf.Ren := ⟨fun | 157 => 152 | 229 => 183 | 199 => 184 | 261 => 199 | 311 => 212 | 312 => 213 | n => n, fun | 9 => 9 | 31 => 29 | 3 => 3 | 5 => 5 | 4 => 4 | 119 => 226 | 0 => 0 | 40 => 236 | 152 => 248 | 21 => 21 | 154 => 250 | 51 => 198 | 141 => 252 | 196 => 264 | 193 => 261 | 198 => 267 | 49 => 265 | 194 => 262 | 201 => 270 | 226 => 275 | 46 => 175 | 227 => 276 | n => n, fun | 0 => 2 | 6 => 4 | n => n⟩
theorem Tryz.lays157 : Go.Proofs.Lays.n157 Tryz.prog Tryz.lays157_ren := {
 mixed := by kernel_rfl
 f157 := Tryz.func152.trans (congrArg some (by kernel_rfl))
 f199 := Tryz.func184.trans (congrArg some (by kernel_rfl))
 f229 := Tryz.func183.trans (congrArg some (by kernel_rfl))
 f261 := Tryz.func199.trans (congrArg some (by kernel_rfl))
 f311 := Tryz.func212.trans (congrArg some (by kernel_rfl))
 f312 := Tryz.func213.trans (congrArg some (by kernel_rfl))
 t0 := Tryz.underlying0
 a0 := Tryz.isAgg0
 z0 := Tryz.sizeOf0
 v0 := Tryz.zeroValue0
 t3 := Tryz.underlying3
 a3 := Tryz.isAgg3
 z3 := Tryz.sizeOf3
 v3 := Tryz.zeroValue3
 t4 := Tryz.underlying4
 a4 := Tryz.isAgg4
 z4 := Tryz.sizeOf4
 v4 := Tryz.zeroValue4
 t5 := Tryz.underlying5
 a5 := Tryz.isAgg5
 z5 := Tryz.sizeOf5
 v5 := Tryz.zeroValue5
 t9 := Tryz.underlying9
 a9 := Tryz.isAgg9
 z9 := Tryz.sizeOf9
 v9 := Tryz.zeroValue9
 t21 := Tryz.underlying21
 a21 := Tryz.isAgg21
 z21 := Tryz.sizeOf21
 v21 := Tryz.zeroValue21
 t31 := Tryz.underlying29
 a31 := Tryz.isAgg29
 z31 := Tryz.sizeOf29
 v31 := Tryz.zeroValue29
 t40 := Tryz.underlying236
 a40 := Tryz.isAgg236
 z40 := Tryz.sizeOf236
 v40 := Tryz.zeroValue236
 t46 := Tryz.underlying175
 a46 := Tryz.isAgg175
 z46 := Tryz.sizeOf175
 v46 := Tryz.zeroValue175
 t49 := Tryz.underlying265
 a49 := Tryz.isAgg265
 z49 := Tryz.sizeOf265
 v49 := Tryz.zeroValue265
 t51 := Tryz.underlying198
 a51 := Tryz.isAgg198
 z51 := Tryz.sizeOf198
 v51 := Tryz.zeroValue198
 t119 := Tryz.underlying226
 a119 := Tryz.isAgg226
 z119 := Tryz.sizeOf226
 t141 := Tryz.underlying252
 a141 := Tryz.isAgg252
 z141 := Tryz.sizeOf252
 v141 := Tryz.zeroValue252
 t152 := Tryz.underlying248
 a152 := Tryz.isAgg248
 z152 := Tryz.sizeOf248
 v152 := Tryz.zeroValue248
 t154 := Tryz.underlying250
 a154 := Tryz.isAgg250
 z154 := Tryz.sizeOf250
 v154 := Tryz.zeroValue250
 t193 := Tryz.underlying261
 a193 := Tryz.isAgg261
 z193 := Tryz.sizeOf261
 v193 := Tryz.zeroValue261
 t194 := Tryz.underlying262
 a194 := Tryz.isAgg262
 z194 := Tryz.sizeOf262
 v194 := Tryz.zeroValue262
 t196 := Tryz.underlying264
 a196 := Tryz.isAgg264
 z196 := Tryz.sizeOf264
 v196 := Tryz.zeroValue264
 t198 := Tryz.underlying267
 a198 := Tryz.isAgg267
 z198 := Tryz.sizeOf267
 v198 := Tryz.zeroValue267
 t201 := Tryz.underlying270
 a201 := Tryz.isAgg270
 z201 := Tryz.sizeOf270
 v201 := Tryz.zeroValue270
 t226 := Tryz.underlying275
 a226 := Tryz.isAgg275
 z226 := Tryz.sizeOf275
 v226 := Tryz.zeroValue275
 t227 := Tryz.underlying276
 a227 := Tryz.isAgg276
 z227 := Tryz.sizeOf276
 v227 := Tryz.zeroValue276
 g0 := by kernel_rfl
 g6 := by kernel_rfl }
end Go.Proofs

/- The one line that the laws of reviews have read: its words, its field. -/
namespace Go.Proofs.YtpinlcapgoljfaaGreatDoor
open Go.RowKit

/-- The library's table of blanks is as it is laid. -/
def Asc (w : World) : Prop := Lib.TabIs Tryz.prog w "strings.asciiSpace" .u8 Lib.asciiSpaceTab
theorem asc_g : Tryz.prog.globalNamed "strings.asciiSpace" = some 2 := by kernel_rfl
theorem Asc.mod {w w' : World} {S : Nat → Prop} (h : Asc w) (hm : Mod S w w') (hs : ¬ S 2) : Asc w' := by
 unfold Asc Lib.TabIs World.var? at h ⊢;rw [asc_g] at h ⊢;simp only [Option.bind_some] at h ⊢
 cases hh : w.heap[2]? with
 | none => rw [hh] at h; cases h
 | some o =>
  rw [hm.block _ (lt_of_heap hh) hs];exact h
theorem Asc.pure {w w' : World} (h : Asc w) (hm : Pure w w') : Asc w' := h.mod hm id
def ws5 : List Str := [[97, 115, 107], [97], [111, 110, 101], [110, 111, 110, 101], [98]]
def sp3 : List Str := [wNone, wSame, wFamily]
set_option maxRecDepth 100000 in
theorem spreads_calls (w : World) (hA : Asc w) : Calls Tryz.prog 131 #[] w (fun e w' => e = .returned (.slice (some ⟨w.heap.size, 0, none⟩) 3 3) ∧ w' = w.alloc (.cells (strsV sp3).toArray 9)) := by
 have hall : ∀ b ∈ ([110, 111, 110, 101, 32, 115, 97, 109, 101, 32, 102, 97, 109, 105, 108, 121] : List UInt8), b.toNat < 128 := by decide
 have hf := Any.strings_Fields Tryz.lays157 info_strS asc_g ⟨#[110, 111, 110, 101, 32, 115, 97, 109, 101, 32, 102, 97, 109, 105, 108, 121]⟩ w (by decide) (fun j b hj => hall b (List.mem_of_getElem? hj)) hA
 have e1 : Lib.fields (⟨#[110, 111, 110, 101, 32, 115, 97, 109, 101, 32, 102, 97, 109, 105, 108, 121]⟩ : ByteArray).data.toList = sp3 := by decide +kernel
 rw [e1] at hf;have HF := Lib.hid hf;clear hf hA hall
 go_enter Tryz.func131, Tryz.ntmps131
 go_wp2_with fail
 refine HF.out.mono ?_;rintro e w1 ⟨rfl, rfl⟩
 go_wp2_with fail
 go_ret;exact ⟨rfl, rfl⟩

theorem blkSl3 {W : World} {g : Nat} {ss : List Str} (h : Blk W g 9 (strsV ss).toArray) (hl : ss.length ≤ 1000 := by decide) : Sl W 9 1 (.slice (some ⟨g, 0, none⟩) ss.length ss.length) (strsV ss) :=
 ⟨_, _, _, rfl, Nat.le_refl _, by omega, by simp [strsV], fun _ => ⟨g, 0, rfl, h.row0⟩⟩
def SlPost (w : World) (n : Nat) (ss : List Str) (e : Ending) (w' : World) : Prop := ∃ (A : Option Addr) (c : Nat), e = .returned (.slice A n c) ∧ Sl w' 9 1 (.slice A n c) (strsV ss) ∧ Pure w w'
theorem spreadsP_calls (w : World) (hA : Asc w) : Calls Tryz.prog 131 #[] w (SlPost w 3 sp3) := by
 refine (spreads_calls w hA).mono ?_;rintro e w' ⟨rfl, rfl⟩;exact ⟨_, _, rfl, blkSl3 (Blk.new _ _ _), (Mod.refl _ _).alloc _⟩
theorem spIndex_calls (w : World) (v : Value) (h : Sl w 9 1 v (strsV sp3)) : Calls Tryz.prog 84 #[v, .string ⟨#[110, 111, 110, 101]⟩] w (IntPost w 0) := by
 have := indexQs_calls w v sp3 wNone h;rw [show idxQ (fun x => wNone == x) sp3 0 = 0 by decide] at this;exact this
theorem cloneP_calls (w : World) (v : Value) (h : Sl w 9 1 v (strsV [[98]])) : Calls Tryz.prog 56 #[v] w (SlPost w 1 [[98]]) := by
 refine (cloneC_calls w v [[98]] h (by simp)).mono ?_;rintro e w' ⟨v', rfl, hown, hm⟩;have hs := Sl.of_own hown
 rcases hown.2 with ⟨_, h1⟩ | ⟨g', cap', cur, hv, _⟩
 ·cases h1
 ·subst hv;exact ⟨_, _, rfl, hs, hm⟩
theorem slTail {W : World} {g off c : Nat} (h : RowAt W 9 g off (strsV ws5)) (h1 : 5 ≤ c) (h2 : c ≤ 1000) : Sl W 9 1 (.slice (some ⟨g, off + 4, none⟩) 1 (c - 4)) (strsV [[98]]) := by
 obtain ⟨arr, fr, e1, e2⟩ := h;refine ⟨_, _, _, rfl, by omega, by omega, rfl, fun _ => ⟨g, off + 4, rfl, arr, fr, e1, fun i u hi => ?_⟩⟩
 have h0 : i = 0 := by
  rcases Nat.eq_zero_or_pos i with h | h
  ·exact h
  ·rw [List.getElem?_eq_none (by simp [strsV]; omega)] at hi
   cases hi
 subst h0;have h5 := e2 4 u hi
 simpa using h5
theorem blk_tyR {W : World} {g k : Nat} {t t' : TypeId} {cs arr : Array Value} {fr : Nat × Nat} (h : Blk W g t cs) (hk : W.heap[k]? = some (.cells arr t' fr)) (hne : t ≠ t') : ¬ k = g := fun e => by
 subst e;unfold Blk at h;rw [h] at hk
 injection hk with hk
 injection hk with _ h2 _
 exact hne h2
def AskLn (w : World) (e : Ending) (w' : World) : Prop := ∃ (A : Option Addr) (c : Nat), e = .returned (.tuple #[.agg #[.string ⟨#[97]⟩, .slice A 1 c, .bool false, .int .i64 0], .bool true]) ∧ Sl w' 9 1 (.slice A 1 c) (strsV [[98]]) ∧ Pure w w'
set_option maxRecDepth 100000 in
set_option maxHeartbeats 8000000 in
theorem askLine_calls (w : World) (g off c : Nat) (hr : RowAt w 9 g off (strsV ws5)) (h1 : 5 ≤ c) (h2 : c ≤ 1000) (hA : Asc w) : Calls Tryz.prog 89 #[.slice (some ⟨g, off, none⟩) 5 c] w (AskLn w) := by
 have HG := Lib.hid (Blk.new w 113 #[.string ⟨#[]⟩, .slice none 0 0, .bool false, .int .i64 0]);have hp := pure_alloc w (.cells #[.string ⟨#[]⟩, .slice none 0 0, .bool false, .int .i64 0] 113);have HP := Lib.hid hp;have hgrw : w.heap.size ≤ w.heap.size := Nat.le_refl _
 have hz1 : (w.alloc (.cells #[.string ⟨#[]⟩, .slice none 0 0, .bool false, .int .i64 0] 113)).heap.size = w.heap.size + 1 := by simp
 have HR := Lib.hid (hr.mod hp id);have HAS : Hid (∀ W, Pure (w.alloc (.cells #[.string ⟨#[]⟩, .slice none 0 0, .bool false, .int .i64 0] 113)) W → Asc W) := Lib.hid (fun W h => hA.pure (hp.trans h));have d0 := HR.out.cell (i := 0) (u := .string ⟨#[97, 115, 107]⟩) rfl;have d2 := HR.out.cell (i := 2) (u := .string ⟨#[111, 110, 101]⟩) rfl;rw [Nat.add_zero] at d0;clear hp hr hA
 go_enter Tryz.func89, Tryz.ntmps89
 go_upto_region 1 with (fail)
 generalize (w.alloc (.cells #[.string ⟨#[]⟩, .slice none 0 0, .bool false, .int .i64 0] 113)) = w1 at *;generalize hgr : w.heap.size = gr at *;have hgr2 := Nat.le_of_eq hgr;clear hgr
 go_upto_region 3 with (fail)
 have hn5 : (5 : Int) ≤ (c : Int) := by omega
 have HGs := Lib.hid (show ∀ (D : Nat → Bool) (zzi : Nat) (zq zq' : World), (fun _ zq => (fun Z => RowAt Z 9 g off (strsV ws5) ∧ Blk Z gr 113 #[.string ⟨#[]⟩, .slice none 0 0, .bool false, .int .i64 0]) zq) D zq → Mod (fun _ => False) zq zq' → (fun _ zq => (fun Z => RowAt Z 9 g off (strsV ws5) ∧ Blk Z gr 113 #[.string ⟨#[]⟩, .slice none 0 0, .bool false, .int .i64 0]) zq) (upd D zzi true) zq' from by intro D zzi zq zq' h hm; (exact ⟨h.1.mod hm _root_.id, h.2.modp hm⟩))
 refine wp_region_inv (by kernel_rfl) (by kernel_rfl) (InvF (R := Mod (fun _ => False)) [.is (.slice (some ⟨g, off, none⟩) 5 c),
   .is (.pointer (some ⟨g, off + 1, none⟩)),
   .is (.string ⟨#[97]⟩),
   .is (.slice (some ⟨g, off, none⟩) 5 c),
   .is (.pointer (some ⟨g, off + 2, none⟩)),
   .is (.string ⟨#[111, 110, 101]⟩),
   .is (.bool false),
   ⟨fun zv zw => ∃ (A_7 : Option Addr) (c_7 : Nat), zv = .slice A_7 3 c_7 ∧ Sl zw 9 1 (.slice A_7 3 c_7) (strsV sp3), (by rintro zv zw zx ⟨A_7, c_7, rfl, q0⟩ hm; exact ⟨A_7, c_7, rfl, (q0.pure hm)⟩), none, some 11⟩,
   .is (.slice (some ⟨g, off, none⟩) 5 c),
   .is (.pointer (some ⟨g, off + 3, none⟩)),
   .is (.string ⟨#[110, 111, 110, 101]⟩),
   .is (.int .i64 0),
   .is (.slice (some ⟨g, off, none⟩) 5 c),
   .is (.slice (some ⟨g, off + 4, none⟩) 1 (c - 4)),
   ⟨fun zv zw => ∃ (A_14 : Option Addr) (c_14 : Nat), zv = .slice A_14 1 c_14 ∧ Sl zw 9 1 (.slice A_14 1 c_14) (strsV [[98]]), (by rintro zv zw zx ⟨A_14, c_14, rfl, q0⟩ hm; exact ⟨A_14, c_14, rfl, (q0.pure hm)⟩), none, some 15⟩,
   ⟨fun zv zw => ∃ (A_15 : Option Addr) (c_15 : Nat), zv = .agg #[.string ⟨#[97]⟩, .slice A_15 1 c_15, .bool false, .int .i64 0] ∧ Sl zw 9 1 (.slice A_15 1 c_15) (strsV [[98]]), (by rintro zv zw zx ⟨A_15, c_15, rfl, q0⟩ hm; exact ⟨A_15, c_15, rfl, (q0.pure hm)⟩), none, some 17⟩,
   ⟨fun zv zw => ∃ (g_16 : Nat), zv = .pointer (some ⟨g_16, 0, none⟩) ∧ w1.heap.size ≤ g_16 ∧ Blk zw g_16 113 #[.string ⟨#[]⟩, .slice none 0 0, .bool false, .int .i64 0], (by rintro zv zw zx ⟨g_16, rfl, c0, q0⟩ hm; exact ⟨g_16, rfl, c0, (q0.modp hm)⟩), none, some 17⟩,
   ⟨fun zv zw => ∃ (g_17 : Nat) (A_17 : Option Addr) (c_17 : Nat), zv = .pointer (some ⟨g_17, 0, none⟩) ∧ w1.heap.size ≤ g_17 ∧ Blk zw g_17 113 #[.string ⟨#[97]⟩, .slice A_17 1 c_17, .bool false, .int .i64 0] ∧ Sl zw 9 1 (.slice A_17 1 c_17) (strsV [[98]]), (by rintro zv zw zx ⟨g_17, A_17, c_17, rfl, c0, q0, q1⟩ hm; exact ⟨g_17, A_17, c_17, rfl, c0, (q0.modp hm), (q1.pure hm)⟩), some 16, none⟩]
   (PB w1 (fun _ => False) w1.heap.size (fun _ zq => (fun Z => RowAt Z 9 g off (strsV ws5) ∧ Blk Z gr 113 #[.string ⟨#[]⟩, .slice none 0 0, .bool false, .int .i64 0]) zq))) (InvF.start (PB.start (Mod.refl _ _) (Nat.le_refl _) (⟨HR.out.mod ((Mod.refl (fun _ => False) _).drew) _root_.id, HG.out.drew⟩))) ?_ ?_
 ·refine .cons ?_ (.cons ?_ (.cons ?_ (.cons ?_ (.cons ?_ (.cons ?_ (.cons ?_ (.cons ?_ (.cons ?_ (.cons ?_ (.cons ?_ (.cons ?_ (.cons ?_ (.cons ?_ (.cons ?_ (.cons ?_ (.cons ?_ (.cons ?_ .nil)))))))))))))))))
  ·intro D V zw1 a hR hI K hK;obtain ⟨hM1, hB1, hG1⟩ := hI.1;have ze0 := hR.frame.other (t := 0) (by kernel_rfl) rfl;rw [if_pos (by rfl)];go_simp;exact hK (.slice (some ⟨g, off, none⟩) 5 c) _ (hI.next hR (by kernel_rfl) (Mod.refl _ _) (PB.quiet hI.1 (Mod.refl _ _) (HGs.out D 0 zw1 zw1 (hI.1).g (Mod.refl _ _))) (upd_same V 0 _))
  ·intro D V zw1 a hR hI K hK;obtain ⟨hM1, hB1, hG1⟩ := hI.1;have zd0 := hR.pred 0 (by kernel_rfl);have zf0 : V 0 = .slice (some ⟨g, off, none⟩) 5 c := hI.2 0 zd0 rfl;have ze27 := hR.frame.done (t := 27) (j := 0) (by kernel_rfl) hR.ok zd0;rw [if_pos (by rfl)];go_simp;exact hK (.pointer (some ⟨g, off + 1, none⟩)) _ (hI.next hR (by kernel_rfl) (Mod.refl _ _) (PB.quiet hI.1 (Mod.refl _ _) (HGs.out D 1 zw1 zw1 (hI.1).g (Mod.refl _ _))) (upd_same V 1 _))
  ·intro D V zw1 a hR hI K hK;obtain ⟨hM1, hB1, hG1⟩ := hI.1;have zd1 := hR.pred 1 (by kernel_rfl);have zf1 : V 1 = .pointer (some ⟨g, off + 1, none⟩) := hI.2 1 zd1 rfl;have ze28 := hR.frame.done (t := 28) (j := 1) (by kernel_rfl) hR.ok zd1;have zx0 := hG1.1.cell (i := 1) (u := .string ⟨#[97]⟩) rfl;rw [if_pos (by rfl)];go_simp;exact hK (.string ⟨#[97]⟩) _ (hI.next hR (by kernel_rfl) (Mod.refl _ _) (PB.quiet hI.1 (Mod.refl _ _) (HGs.out D 2 zw1 zw1 (hI.1).g (Mod.refl _ _))) (upd_same V 2 _))
  ·intro D V zw1 a hR hI K hK;obtain ⟨hM1, hB1, hG1⟩ := hI.1;have ze0 := hR.frame.other (t := 0) (by kernel_rfl) rfl;rw [if_pos (by rfl)];go_simp;exact hK (.slice (some ⟨g, off, none⟩) 5 c) _ (hI.next hR (by kernel_rfl) (Mod.refl _ _) (PB.quiet hI.1 (Mod.refl _ _) (HGs.out D 3 zw1 zw1 (hI.1).g (Mod.refl _ _))) (upd_same V 3 _))
  ·intro D V zw1 a hR hI K hK;obtain ⟨hM1, hB1, hG1⟩ := hI.1;have zd3 := hR.pred 3 (by kernel_rfl);have zf3 : V 3 = .slice (some ⟨g, off, none⟩) 5 c := hI.2 3 zd3 rfl;have ze30 := hR.frame.done (t := 30) (j := 3) (by kernel_rfl) hR.ok zd3;rw [if_pos (by rfl)];go_simp;exact hK (.pointer (some ⟨g, off + 2, none⟩)) _ (hI.next hR (by kernel_rfl) (Mod.refl _ _) (PB.quiet hI.1 (Mod.refl _ _) (HGs.out D 4 zw1 zw1 (hI.1).g (Mod.refl _ _))) (upd_same V 4 _))
  ·intro D V zw1 a hR hI K hK;obtain ⟨hM1, hB1, hG1⟩ := hI.1;have zd4 := hR.pred 4 (by kernel_rfl);have zf4 : V 4 = .pointer (some ⟨g, off + 2, none⟩) := hI.2 4 zd4 rfl;have ze31 := hR.frame.done (t := 31) (j := 4) (by kernel_rfl) hR.ok zd4;have zx0 := hG1.1.cell (i := 2) (u := .string ⟨#[111, 110, 101]⟩) rfl;rw [if_pos (by rfl)];go_simp;exact hK (.string ⟨#[111, 110, 101]⟩) _ (hI.next hR (by kernel_rfl) (Mod.refl _ _) (PB.quiet hI.1 (Mod.refl _ _) (HGs.out D 5 zw1 zw1 (hI.1).g (Mod.refl _ _))) (upd_same V 5 _))
  ·intro D V zw1 a hR hI K hK;obtain ⟨hM1, hB1, hG1⟩ := hI.1;have zd5 := hR.pred 5 (by kernel_rfl);have zf5 : V 5 = .string ⟨#[111, 110, 101]⟩ := hI.2 5 zd5 rfl;have ze32 := hR.frame.done (t := 32) (j := 5) (by kernel_rfl) hR.ok zd5;rw [if_pos (by rfl)];go_simp;exact hK (.bool false) _ (hI.next hR (by kernel_rfl) (Mod.refl _ _) (PB.quiet hI.1 (Mod.refl _ _) (HGs.out D 6 zw1 zw1 (hI.1).g (Mod.refl _ _))) (upd_same V 6 _))
  ·intro D V zw1 a hR hI K hK;obtain ⟨hM1, hB1, hG1⟩ := hI.1;rw [if_pos (by rfl)];go_simp;refine (spreadsP_calls _ (HAS.out _ hM1)).mono ?_;rintro e zw2 ⟨A_0, c_0, rfl, hsl, hm2⟩;exact hK (.slice A_0 3 c_0) _ (hI.next hR (by kernel_rfl) hm2 (PB.quiet hI.1 hm2 (HGs.out D 7 _ _ (hI.1).g hm2)) (⟨A_0, c_0, upd_same V 7 _, hsl⟩))
  ·intro D V zw1 a hR hI K hK;obtain ⟨hM1, hB1, hG1⟩ := hI.1;have ze0 := hR.frame.other (t := 0) (by kernel_rfl) rfl;rw [if_pos (by rfl)];go_simp;exact hK (.slice (some ⟨g, off, none⟩) 5 c) _ (hI.next hR (by kernel_rfl) (Mod.refl _ _) (PB.quiet hI.1 (Mod.refl _ _) (HGs.out D 8 zw1 zw1 (hI.1).g (Mod.refl _ _))) (upd_same V 8 _))
  ·intro D V zw1 a hR hI K hK;obtain ⟨hM1, hB1, hG1⟩ := hI.1;have zd8 := hR.pred 8 (by kernel_rfl);have zf8 : V 8 = .slice (some ⟨g, off, none⟩) 5 c := hI.2 8 zd8 rfl;have ze35 := hR.frame.done (t := 35) (j := 8) (by kernel_rfl) hR.ok zd8;rw [if_pos (by rfl)];go_simp;exact hK (.pointer (some ⟨g, off + 3, none⟩)) _ (hI.next hR (by kernel_rfl) (Mod.refl _ _) (PB.quiet hI.1 (Mod.refl _ _) (HGs.out D 9 zw1 zw1 (hI.1).g (Mod.refl _ _))) (upd_same V 9 _))
  ·intro D V zw1 a hR hI K hK;obtain ⟨hM1, hB1, hG1⟩ := hI.1;have zd9 := hR.pred 9 (by kernel_rfl);have zf9 : V 9 = .pointer (some ⟨g, off + 3, none⟩) := hI.2 9 zd9 rfl;have ze36 := hR.frame.done (t := 36) (j := 9) (by kernel_rfl) hR.ok zd9;have zx0 := hG1.1.cell (i := 3) (u := .string ⟨#[110, 111, 110, 101]⟩) rfl;rw [if_pos (by rfl)];go_simp;exact hK (.string ⟨#[110, 111, 110, 101]⟩) _ (hI.next hR (by kernel_rfl) (Mod.refl _ _) (PB.quiet hI.1 (Mod.refl _ _) (HGs.out D 10 zw1 zw1 (hI.1).g (Mod.refl _ _))) (upd_same V 10 _))
  ·intro D V zw1 a hR hI K hK;obtain ⟨hM1, hB1, hG1⟩ := hI.1;have zd7 := hR.pred 7 (by kernel_rfl);have zF7 : ∃ (A_7 : Option Addr) (c_7 : Nat), V 7 = .slice A_7 3 c_7 ∧ Sl zw1 9 1 (.slice A_7 3 c_7) (strsV sp3) := hI.2 7 zd7 (by show (!D 11) = true; rw [hR.not]; rfl);obtain ⟨A_7, c_7, zf7, b7_0⟩ := zF7;have zd10 := hR.pred 10 (by kernel_rfl);have zf10 : V 10 = .string ⟨#[110, 111, 110, 101]⟩ := hI.2 10 zd10 rfl;have ze34 := hR.frame.done (t := 34) (j := 7) (by kernel_rfl) hR.ok zd7;have ze37 := hR.frame.done (t := 37) (j := 10) (by kernel_rfl) hR.ok zd10;rw [if_pos (by rfl)];go_simp;refine (spIndex_calls _ _ b7_0).mono ?_;rintro e zw2 ⟨rfl, hm2⟩;exact hK (.int .i64 0) _ (hI.next hR (by kernel_rfl) hm2 (PB.quiet hI.1 hm2 (HGs.out D 11 _ _ (hI.1).g hm2)) (upd_same V 11 _))
  ·intro D V zw1 a hR hI K hK;obtain ⟨hM1, hB1, hG1⟩ := hI.1;have ze0 := hR.frame.other (t := 0) (by kernel_rfl) rfl;rw [if_pos (by rfl)];go_simp;exact hK (.slice (some ⟨g, off, none⟩) 5 c) _ (hI.next hR (by kernel_rfl) (Mod.refl _ _) (PB.quiet hI.1 (Mod.refl _ _) (HGs.out D 12 zw1 zw1 (hI.1).g (Mod.refl _ _))) (upd_same V 12 _))
  ·intro D V zw1 a hR hI K hK;obtain ⟨hM1, hB1, hG1⟩ := hI.1;have zd12 := hR.pred 12 (by kernel_rfl);have zf12 : V 12 = .slice (some ⟨g, off, none⟩) 5 c := hI.2 12 zd12 rfl;have ze39 := hR.frame.done (t := 39) (j := 12) (by kernel_rfl) hR.ok zd12
   have zc4 : ¬ c = 4 := by omega
   rw [if_pos (by rfl)];go_simp;exact hK (.slice (some ⟨g, off + 4, none⟩) 1 (c - 4)) _ (hI.next hR (by kernel_rfl) (Mod.refl _ _) (PB.quiet hI.1 (Mod.refl _ _) (HGs.out D 13 zw1 zw1 (hI.1).g (Mod.refl _ _))) (upd_same V 13 _))
  ·intro D V zw1 a hR hI K hK;obtain ⟨hM1, hB1, hG1⟩ := hI.1;have zd13 := hR.pred 13 (by kernel_rfl);have zf13 : V 13 = .slice (some ⟨g, off + 4, none⟩) 1 (c - 4) := hI.2 13 zd13 rfl;have ze40 := hR.frame.done (t := 40) (j := 13) (by kernel_rfl) hR.ok zd13;rw [if_pos (by rfl)];go_simp;refine (cloneP_calls _ _ (slTail hG1.1 h1 h2)).mono ?_;rintro e zw2 ⟨A_0, c_0, rfl, hsl, hm2⟩;exact hK (.slice A_0 1 c_0) _ (hI.next hR (by kernel_rfl) hm2 (PB.quiet hI.1 hm2 (HGs.out D 14 _ _ (hI.1).g hm2)) (⟨A_0, c_0, upd_same V 14 _, hsl⟩))
  ·intro D V zw1 a hR hI K hK;obtain ⟨hM1, hB1, hG1⟩ := hI.1;have zd2 := hR.pred 2 (by kernel_rfl);have zf2 : V 2 = .string ⟨#[97]⟩ := hI.2 2 zd2 rfl;have zd6 := hR.pred 6 (by kernel_rfl);have zf6 : V 6 = .bool false := hI.2 6 zd6 rfl;have zd11 := hR.pred 11 (by kernel_rfl);have zf11 : V 11 = .int .i64 0 := hI.2 11 zd11 rfl;have zd14 := hR.pred 14 (by kernel_rfl);have zF14 : ∃ (A_14 : Option Addr) (c_14 : Nat), V 14 = .slice A_14 1 c_14 ∧ Sl zw1 9 1 (.slice A_14 1 c_14) (strsV [[98]]) := hI.2 14 zd14 (by show (!D 15) = true; rw [hR.not]; rfl);obtain ⟨A_14, c_14, zf14, b14_0⟩ := zF14;have ze29 := hR.frame.done (t := 29) (j := 2) (by kernel_rfl) hR.ok zd2;have ze33 := hR.frame.done (t := 33) (j := 6) (by kernel_rfl) hR.ok zd6;have ze38 := hR.frame.done (t := 38) (j := 11) (by kernel_rfl) hR.ok zd11;have ze41 := hR.frame.done (t := 41) (j := 14) (by kernel_rfl) hR.ok zd14;rw [if_pos (by rfl)];go_simp;exact hK (_) _ (hI.next hR (by kernel_rfl) (Mod.refl _ _) (PB.quiet hI.1 (Mod.refl _ _) (HGs.out D 15 zw1 zw1 (hI.1).g (Mod.refl _ _))) (⟨A_14, c_14, upd_same V 15 _, b14_0⟩))
  ·intro D V zw1 a hR hI K hK;obtain ⟨hM1, hB1, hG1⟩ := hI.1;rw [if_pos (by rfl)];go_simp;exact hK (_) _ (hI.next hR (by kernel_rfl) ((Mod.refl _ _).alloc _) (PB.quiet hI.1 (pure_alloc _ _) (HGs.out D 16 _ _ (hI.1).g ((Mod.refl _ _).alloc _))) (⟨_, upd_same V 16 _, (by omega), (Blk.new _ _ _)⟩))
  ·intro D V zw1 a hR hI K hK;obtain ⟨hM1, hB1, hG1⟩ := hI.1;have zd16 := hR.pred 16 (by kernel_rfl);have zF16 : ∃ (g_16 : Nat), V 16 = .pointer (some ⟨g_16, 0, none⟩) ∧ w1.heap.size ≤ g_16 ∧ Blk zw1 g_16 113 #[.string ⟨#[]⟩, .slice none 0 0, .bool false, .int .i64 0] := hI.2 16 zd16 (by show (!D 17) = true; rw [hR.not]; rfl);obtain ⟨g_16, zf16, c16_0, b16_0⟩ := zF16;have zd15 := hR.pred 15 (by kernel_rfl);have zF15 : ∃ (A_15 : Option Addr) (c_15 : Nat), V 15 = .agg #[.string ⟨#[97]⟩, .slice A_15 1 c_15, .bool false, .int .i64 0] ∧ Sl zw1 9 1 (.slice A_15 1 c_15) (strsV [[98]]) := hI.2 15 zd15 (by show (!D 17) = true; rw [hR.not]; rfl);obtain ⟨A_15, c_15, zf15, b15_0⟩ := zF15;have ze4 := hR.frame.done (t := 4) (j := 16) (by kernel_rfl) hR.ok zd16;have ze42 := hR.frame.done (t := 42) (j := 15) (by kernel_rfl) hR.ok zd15;rw [if_pos (by rfl)];have zx0 := b16_0.cell 0; have zx1 := b16_0.cell 1; have zx2 := b16_0.cell 2; have zx3 := b16_0.cell 3;have zy0 := b16_0.frozen 0; have zy1 := b16_0.frozen 1; have zy2 := b16_0.frozen 2; have zy3 := b16_0.frozen 3;simp at zx0 zx1 zx2 zx3;have hB5 := (((b16_0.set 0 (.string ⟨#[97]⟩)).set 1 (.slice A_15 1 c_15)).set 2 (.bool false)).set 3 (.int .i64 0)
   have hgl : g < g_16 := by have := HR.out.lt; omega
   have hgrl : gr < g_16 := by have := HG.out.lt; omega
   have hmm : Mod (· = g_16) zw1 ((((zw1.setCell ⟨g_16, 0, none⟩ (.string ⟨#[97]⟩)).setCell ⟨g_16, 1, none⟩ (.slice A_15 1 c_15)).setCell ⟨g_16, 2, none⟩ (.bool false)).setCell ⟨g_16, 3, none⟩ (.int .i64 0)) := ((((Mod.refl (· = g_16) zw1).setCell (.inl rfl) _).setCell (.inl rfl) _).setCell (.inl rfl) _).setCell (.inl rfl) _;have hS5 := b15_0.mod hmm (fun k arr fr hk => blk_tyR b16_0 hk (by decide));go_simp;refine hK undef _ (InvF.last ⟨hM1.trans' hmm (fun i hi hlt => by omega), (by simpa using hB1), ⟨hG1.1.mod hmm (by omega), hG1.2.mod hmm (by omega)⟩⟩ ⟨g_16, A_15, c_15, (upd_ne V (i := 17) (k := 16) undef (by omega)).trans zf16, (by omega), (by simpa using hB5), hS5⟩ ?_);intro k hk hDk hlv;have hkl := hR.lt k hDk;have hv := hI.2 k hDk (liveB_of hlv)
   match k, hk, hDk, hlv, hkl, hv with
   | 0, _, _, _, _, hv => exact hv
   | 1, _, _, _, _, hv => exact hv
   | 2, _, _, _, _, hv => exact hv
   | 3, _, _, _, _, hv => exact hv
   | 4, _, _, _, _, hv => exact hv
   | 5, _, _, _, _, hv => exact hv
   | 6, _, _, _, _, hv => exact hv
   | 7, _, _, hlv, _, _ => exact absurd hlv (by show ¬ (!upd D 17 true 11) = true; rw [upd_ne _ _ (by omega), hR.pred 11 (by kernel_rfl)]; decide)
   | 8, _, _, _, _, hv => exact hv
   | 9, _, _, _, _, hv => exact hv
   | 10, _, _, _, _, hv => exact hv
   | 11, _, _, _, _, hv => exact hv
   | 12, _, _, _, _, hv => exact hv
   | 13, _, _, _, _, hv => exact hv
   | 14, _, _, hlv, _, _ => exact absurd hlv (by show ¬ (!upd D 17 true 15) = true; rw [upd_ne _ _ (by omega), hR.pred 15 (by kernel_rfl)]; decide)
   | 15, _, _, hlv, _, _ => exact absurd hlv (by show ¬ (!upd D 17 true 17) = true; rw [upd_same]; decide)
   | 16, _, _, hlv, _, _ => exact absurd hlv (by show ¬ (!upd D 17 true 17) = true; rw [upd_same]; decide)
   | 17, hk, _, _, _, _ => exact absurd rfl hk
   | k + 18, _, _, _, hkl, _ => exact absurd hkl (by simp)
 ·intro D V w2 hD hI;obtain ⟨hM1, hB1, hG1⟩ := hI.1;have hMx := hM1;clear hM1;have hBx := hB1;clear hB1;have hGx := hG1;clear hG1;have zf0 : V 0 = .slice (some ⟨g, off, none⟩) 5 c := hI.2 0 (hD 0 (by decide)) rfl;have zf1 : V 1 = .pointer (some ⟨g, off + 1, none⟩) := hI.2 1 (hD 1 (by decide)) rfl;have zf2 : V 2 = .string ⟨#[97]⟩ := hI.2 2 (hD 2 (by decide)) rfl;have zf3 : V 3 = .slice (some ⟨g, off, none⟩) 5 c := hI.2 3 (hD 3 (by decide)) rfl;have zf4 : V 4 = .pointer (some ⟨g, off + 2, none⟩) := hI.2 4 (hD 4 (by decide)) rfl;have zf5 : V 5 = .string ⟨#[111, 110, 101]⟩ := hI.2 5 (hD 5 (by decide)) rfl;have zf6 : V 6 = .bool false := hI.2 6 (hD 6 (by decide)) rfl;have zf8 : V 8 = .slice (some ⟨g, off, none⟩) 5 c := hI.2 8 (hD 8 (by decide)) rfl;have zf9 : V 9 = .pointer (some ⟨g, off + 3, none⟩) := hI.2 9 (hD 9 (by decide)) rfl;have zf10 : V 10 = .string ⟨#[110, 111, 110, 101]⟩ := hI.2 10 (hD 10 (by decide)) rfl;have zf11 : V 11 = .int .i64 0 := hI.2 11 (hD 11 (by decide)) rfl;have zf12 : V 12 = .slice (some ⟨g, off, none⟩) 5 c := hI.2 12 (hD 12 (by decide)) rfl;have zf13 : V 13 = .slice (some ⟨g, off + 4, none⟩) 1 (c - 4) := hI.2 13 (hD 13 (by decide)) rfl;have zF17 : ∃ (g_17 : Nat) (A_17 : Option Addr) (c_17 : Nat), V 16 = .pointer (some ⟨g_17, 0, none⟩) ∧ w1.heap.size ≤ g_17 ∧ Blk w2 g_17 113 #[.string ⟨#[97]⟩, .slice A_17 1 c_17, .bool false, .int .i64 0] ∧ Sl w2 9 1 (.slice A_17 1 c_17) (strsV [[98]]) := hI.2 17 (hD 17 (by decide)) rfl;obtain ⟨g_17, A_17, c_17, zf17, c17_0, b17_0, b17_1⟩ := zF17;clear hI hD HGs;simp only [frAll, Act.put, List.setIfInBounds_toArray, List.set_cons_zero, List.set_cons_succ, Nat.zero_add, Nat.reduceAdd, zf0, zf1, zf2, zf3, zf4, zf5, zf6, zf8, zf9, zf10, zf11, zf12, zf13, zf17];clear zf0 zf1 zf2 zf3 zf4 zf5 zf6 zf8 zf9 zf10 zf11 zf12 zf13 zf17;generalize V 7 = u7;generalize V 14 = u14;generalize V 15 = u15;clear V D
  have hg4r : gr ≠ g_17 := by omega
  have HW2 := Lib.hid hMx;have hgr9 := hGx.2;generalize g_17 = g4 at *;generalize A_17 = A4 at *;generalize c_17 = c4 at *;clear hMx
  go_upto_region 4 with (fail)
  have HGs := Lib.hid (show ∀ (D : Nat → Bool) (zzi : Nat) (zq zq' : World), zzi ≠ 4 → (fun D zq => (D 4 = false → (fun Z => Blk Z gr 113 #[.string ⟨#[]⟩, .slice none 0 0, .bool false, .int .i64 0]) zq) ∧ (fun Z => Blk Z g4 113 #[.string ⟨#[97]⟩, .slice A4 1 c4, .bool false, .int .i64 0] ∧ Sl Z 9 1 (.slice A4 1 c4) (strsV [[98]])) zq) D zq → Mod (fun _ => False) zq zq' → (fun D zq => (D 4 = false → (fun Z => Blk Z gr 113 #[.string ⟨#[]⟩, .slice none 0 0, .bool false, .int .i64 0]) zq) ∧ (fun Z => Blk Z g4 113 #[.string ⟨#[97]⟩, .slice A4 1 c4, .bool false, .int .i64 0] ∧ Sl Z 9 1 (.slice A4 1 c4) (strsV [[98]])) zq) (upd D zzi true) zq' from by intro D zzi zq zq' hi hh hm; refine ⟨fun hs => ?_, ?_⟩; (rw [upd_ne _ _ (Ne.symm hi)] at hs; have h := hh.1 hs; (exact h.modp hm)); (have h := hh.2; (exact ⟨h.1.modp hm, h.2.pure hm⟩)))
  refine wp_region_inv (by kernel_rfl) (by kernel_rfl) (InvF (R := Mod (fun _ => False)) [.is (.agg #[.string ⟨#[97]⟩, .slice A4 1 c4, .bool false, .int .i64 0]),
    .is (.pointer (some ⟨g4, 3, none⟩)),
    .is (.int .i64 0),
    .is (.bool true),
    ⟨fun zv zw => zv = undef ∧ Blk zw gr 113 #[.string ⟨#[97]⟩, .slice A4 1 c4, .bool false, .int .i64 0], (by rintro zv zw zx ⟨rfl, q0⟩ hm; exact ⟨rfl, (q0.modp hm)⟩), none, none⟩,
    .is (.bool true)]
    (PB w2 (· = gr) w2.heap.size (fun D zq => (D 4 = false → (fun Z => Blk Z gr 113 #[.string ⟨#[]⟩, .slice none 0 0, .bool false, .int .i64 0]) zq) ∧ (fun Z => Blk Z g4 113 #[.string ⟨#[97]⟩, .slice A4 1 c4, .bool false, .int .i64 0] ∧ Sl Z 9 1 (.slice A4 1 c4) (strsV [[98]])) zq))) (InvF.start (PB.start (Mod.refl _ _) (Nat.le_refl _) (⟨fun _ => hgr9.drew, ⟨b17_0.drew, b17_1.pure ((Mod.refl _ _).drew)⟩⟩))) ?_ ?_
  ·refine .cons ?_ (.cons ?_ (.cons ?_ (.cons ?_ (.cons ?_ (.cons ?_ .nil)))))
   ·intro D V zw1 a hR hI K hK;obtain ⟨hM1, hB1, hG1⟩ := hI.1;obtain ⟨hGK, hG1⟩ := hG1;have ze4 := hR.frame.other (t := 4) (by kernel_rfl) rfl;have zx0 := hG1.1.cell 0; have zx1 := hG1.1.cell 1; have zx2 := hG1.1.cell 2; have zx3 := hG1.1.cell 3;simp at zx0 zx1 zx2 zx3;rw [if_pos (by rfl)];go_simp;exact hK (.agg #[.string ⟨#[97]⟩, .slice A4 1 c4, .bool false, .int .i64 0]) _ (hI.next hR (by kernel_rfl) (Mod.refl _ _) (PB.quiet hI.1 (Mod.refl _ _) (HGs.out D 0 zw1 zw1 (by omega) (hI.1).g (Mod.refl _ _))) (upd_same V 0 _))
   ·intro D V zw1 a hR hI K hK;obtain ⟨hM1, hB1, hG1⟩ := hI.1;obtain ⟨hGK, hG1⟩ := hG1;have ze4 := hR.frame.other (t := 4) (by kernel_rfl) rfl;rw [if_pos (by rfl)];go_simp;exact hK (.pointer (some ⟨g4, 3, none⟩)) _ (hI.next hR (by kernel_rfl) (Mod.refl _ _) (PB.quiet hI.1 (Mod.refl _ _) (HGs.out D 1 zw1 zw1 (by omega) (hI.1).g (Mod.refl _ _))) (upd_same V 1 _))
   ·intro D V zw1 a hR hI K hK;obtain ⟨hM1, hB1, hG1⟩ := hI.1;obtain ⟨hGK, hG1⟩ := hG1;have zd1 := hR.pred 1 (by kernel_rfl);have zf1 : V 1 = .pointer (some ⟨g4, 3, none⟩) := hI.2 1 zd1 rfl;have ze44 := hR.frame.done (t := 44) (j := 1) (by kernel_rfl) hR.ok zd1;have zx0 := hG1.1.cell 0; have zx1 := hG1.1.cell 1; have zx2 := hG1.1.cell 2; have zx3 := hG1.1.cell 3;simp at zx0 zx1 zx2 zx3;rw [if_pos (by rfl)];go_simp;exact hK (.int .i64 0) _ (hI.next hR (by kernel_rfl) (Mod.refl _ _) (PB.quiet hI.1 (Mod.refl _ _) (HGs.out D 2 zw1 zw1 (by omega) (hI.1).g (Mod.refl _ _))) (upd_same V 2 _))
   ·intro D V zw1 a hR hI K hK;obtain ⟨hM1, hB1, hG1⟩ := hI.1;obtain ⟨hGK, hG1⟩ := hG1;have zd2 := hR.pred 2 (by kernel_rfl);have zf2 : V 2 = .int .i64 0 := hI.2 2 zd2 rfl;have ze45 := hR.frame.done (t := 45) (j := 2) (by kernel_rfl) hR.ok zd2;rw [if_pos (by rfl)];go_simp;exact hK (.bool true) _ (hI.next hR (by kernel_rfl) (Mod.refl _ _) (PB.quiet hI.1 (Mod.refl _ _) (HGs.out D 3 zw1 zw1 (by omega) (hI.1).g (Mod.refl _ _))) (upd_same V 3 _))
   ·intro D V zw1 a hR hI K hK;obtain ⟨hM1, hB1, hG1⟩ := hI.1;obtain ⟨hGK, hG1⟩ := hG1;have zd0 := hR.pred 0 (by kernel_rfl);have zf0 : V 0 = .agg #[.string ⟨#[97]⟩, .slice A4 1 c4, .bool false, .int .i64 0] := hI.2 0 zd0 rfl;have ze2 := hR.frame.other (t := 2) (by kernel_rfl) rfl;have ze43 := hR.frame.done (t := 43) (j := 0) (by kernel_rfl) hR.ok zd0;rw [if_pos (by rfl)];have hZ := hGK hR.not;have zx0 := hZ.cell 0; have zx1 := hZ.cell 1; have zx2 := hZ.cell 2; have zx3 := hZ.cell 3;have zy0 := hZ.frozen 0; have zy1 := hZ.frozen 1; have zy2 := hZ.frozen 2; have zy3 := hZ.frozen 3;simp at zx0 zx1 zx2 zx3;have hB5 := (((hZ.set 0 (.string ⟨#[97]⟩)).set 1 (.slice A4 1 c4)).set 2 (.bool false)).set 3 (.int .i64 0);have hmm : Mod (· = gr) zw1 ((((zw1.setCell ⟨gr, 0, none⟩ (.string ⟨#[97]⟩)).setCell ⟨gr, 1, none⟩ (.slice A4 1 c4)).setCell ⟨gr, 2, none⟩ (.bool false)).setCell ⟨gr, 3, none⟩ (.int .i64 0)) := ((((Mod.refl (· = gr) zw1).setCell (.inl rfl) _).setCell (.inl rfl) _).setCell (.inl rfl) _).setCell (.inl rfl) _;go_simp;refine hK undef _ (InvF.last ⟨hM1.trans hmm, (by simpa using hB1), ⟨fun hs => absurd hs (by rw [upd_same]; decide), ⟨hG1.1.mod hmm (by omega), hG1.2.mod hmm (fun k arr fr hk => blk_tyR hZ hk (by decide))⟩⟩⟩ ⟨upd_same _ 4 _, (by simpa using hB5)⟩ ?_);intro k hk hDk hlv;have hkl := hR.lt k hDk;have hv := hI.2 k hDk (liveB_of hlv)
    match k, hk, hDk, hlv, hkl, hv with
    | 0, _, _, _, _, hv => exact hv
    | 1, _, _, _, _, hv => exact hv
    | 2, _, _, _, _, hv => exact hv
    | 3, _, _, _, _, hv => exact hv
    | 4, hk, _, _, _, _ => exact absurd rfl hk
    | 5, _, _, _, _, hv => exact hv
    | k + 6, _, _, _, hkl, _ => exact absurd hkl (by simp)
   ·intro D V zw1 a hR hI K hK;obtain ⟨hM1, hB1, hG1⟩ := hI.1;obtain ⟨hGK, hG1⟩ := hG1;have zd3 := hR.pred 3 (by kernel_rfl);have zf3 : V 3 = .bool true := hI.2 3 zd3 rfl;have ze46 := hR.frame.done (t := 46) (j := 3) (by kernel_rfl) hR.ok zd3;rw [if_pos (by rfl)];go_simp;exact hK (.bool true) _ (hI.next hR (by kernel_rfl) (Mod.refl _ _) (PB.quiet hI.1 (Mod.refl _ _) (HGs.out D 5 zw1 zw1 (by omega) (hI.1).g (Mod.refl _ _))) (upd_same V 5 _))
  ·intro D V w3 hD hI;obtain ⟨hM1, hB1, hG1⟩ := hI.1;have hMx := hM1;clear hM1;have hBx := hB1;clear hB1;have hGx := hG1.2;clear hG1;have zf0 : V 0 = .agg #[.string ⟨#[97]⟩, .slice A4 1 c4, .bool false, .int .i64 0] := hI.2 0 (hD 0 (by decide)) rfl;have zf1 : V 1 = .pointer (some ⟨g4, 3, none⟩) := hI.2 1 (hD 1 (by decide)) rfl;have zf2 : V 2 = .int .i64 0 := hI.2 2 (hD 2 (by decide)) rfl;have zf3 : V 3 = .bool true := hI.2 3 (hD 3 (by decide)) rfl;have zF4 : V 4 = undef ∧ Blk w3 gr 113 #[.string ⟨#[97]⟩, .slice A4 1 c4, .bool false, .int .i64 0] := hI.2 4 (hD 4 (by decide)) rfl;obtain ⟨zf4, b4_0⟩ := zF4;have zf5 : V 5 = .bool true := hI.2 5 (hD 5 (by decide)) rfl;clear hI hD HGs;simp only [frAll, Act.put, List.setIfInBounds_toArray, List.set_cons_zero, List.set_cons_succ, Nat.zero_add, Nat.reduceAdd, zf0, zf1, zf2, zf3, zf4, zf5];clear zf0 zf1 zf2 zf3 zf4 zf5;clear V D;have hX := b4_0;have x0 := hX.cell 0; have x1 := hX.cell 1; have x2 := hX.cell 2; have x3 := hX.cell 3; simp at x0 x1 x2 x3
   go_wp2_with fail
   try simp only [Exit.inBlock, Exit.then]
   refine bodyPost_ret (v := .tuple #[.agg #[.string ⟨#[97]⟩, .slice A4 1 c4, .bool false, .int .i64 0], .bool true]) (by simp [results, Tryz.results89, go_sem, x0, x1, x2, x3]) rfl ?_;exact ⟨A4, c4, rfl, hGx.2, (HP.out.trans HW2.out).trans' hMx (fun i hi hlt => by omega)⟩

end Go.Proofs.YtpinlcapgoljfaaGreatDoor

/- The one line read into a layout: the closure, lines, ReadLayout, decides. -/
namespace Go.Proofs.YtpinlcapgoljfaaGreatDoor
open Go.RowKit

theorem info_ask : (Tryz.prog.info? 113).map (fun i => (i.zero, i.size, i.bytes)) = some (some (.agg #[.string ⟨#[]⟩, .slice none 0 0, .bool false, .int .i64 0]), 4, 56) := by kernel_rfl
def RlcPost (w : World) (gl : Nat) (e : Ending) (w' : World) : Prop := ∃ (A : Option Addr) (c : Nat) (x : AskR), e = .returned (.bool true) ∧ Blk w' gl 63 #[.slice A 1 c, .slice none 0 0] ∧ Asks w' (.slice A 1 c) [x] ∧ x.field = [97] ∧ x.ch = [[98]] ∧ x.many = false ∧ x.spread = 0 ∧ Mod (· = gl) w w'
set_option maxRecDepth 100000 in
set_option maxHeartbeats 8000000 in
theorem rl1_calls (w : World) (g off c gl c0 n0 : Nat) (hn0 : n0 = 0) (A0 : Option Addr) (hr : RowAt w 9 g off (strsV ws5)) (h1 : 5 ≤ c) (h2 : c ≤ 1000) (hA : Asc w) (hB : Blk w gl 63 #[.slice A0 n0 c0, .slice none 0 0]) (ho : w.ownsRow w.heap.size 113 4 (.slice A0 n0 c0) n0 []) :
  Calls Tryz.prog 88 #[.slice (some ⟨g, off, none⟩) 5 c, .pointer (some ⟨gl, 0, none⟩)] w (RlcPost w gl) := by
 obtain ⟨i0, hi0, hz0, hz1, hz2⟩ := info_parts info_ask;have HAL := Lib.hid (askLine_calls w g off c hr h1 h2 hA);have HB := Lib.hid hB;have HO := Lib.hid ho;have hglw := hB.lt;have HN0 := Lib.hid hn0
 have hn1 : n0 ≤ 1 := by omega
 clear hr hA hB ho hn0
 go_enter Tryz.func88, Tryz.ntmps88
 go_wp2_with fail
 refine HAL.out.mono ?_;rintro e w1 ⟨A, cc, rfl, hs, hm⟩;have hz := hm.size;have HB2 := Lib.hid ((HB.out.modp hm).alloc (.cells #[.string ⟨#[97]⟩, .slice A 1 cc, .bool false, .int .i64 0] 113));have HX2 := Lib.hid (Blk.new w1 113 #[.string ⟨#[97]⟩, .slice A 1 cc, .bool false, .int .i64 0]);have HO2 := Lib.hid ((own_pure HO.out hm).alloc (.cells #[.string ⟨#[97]⟩, .slice A 1 cc, .bool false, .int .i64 0] 113));have HS2 := Lib.hid (hs.pure ((Mod.refl _ _).alloc (.cells #[.string ⟨#[97]⟩, .slice A 1 cc, .bool false, .int .i64 0] 113)));have HM2 : Hid (Pure w (w1.alloc (.cells #[.string ⟨#[97]⟩, .slice A 1 cc, .bool false, .int .i64 0] 113))) := Lib.hid (hm.alloc _)
 have hz2' : (w1.alloc (.cells #[.string ⟨#[97]⟩, .slice A 1 cc, .bool false, .int .i64 0] 113)).heap.size = w1.heap.size + 1 := by simp
 clear hs hm HAL HB HO
 go_upto_region 2 with (fail)
 generalize (w1.alloc (.cells #[.string ⟨#[97]⟩, .slice A 1 cc, .bool false, .int .i64 0] 113)) = W at *;generalize w1.heap.size = g4 at *;have hz2a := Nat.le_of_eq hz2';have hz2b := Nat.le_of_eq hz2'.symm;clear hz2';have hB2 := HB2.out;have hX2 := HX2.out;have hownS := HO2.out;have hmS := HM2.out;have x0 := hB2.cell 0; have x1 := hB2.cell 1; simp at x0 x1;have y0 := hX2.cell 0; have y1 := hX2.cell 1; have y2 := hX2.cell 2; have y3 := hX2.cell 3; simp at y0 y1 y2 y3;clear hB2 hX2
 go_wp2_with ((at_builtin; refine wpList_append_lies _ rfl _ _ _ rfl w.heap.size 113 i0 _ 4 56 Tryz.underlying60 hi0 hz0 hz1 hz2 rfl (by omega) (.slice A0 n0 c0) n0 ([]) rfl (hownS.alloc _) ⟨W.heap.size, 0, none⟩ 1 1 [.string ⟨#[97]⟩, .slice A 1 cc, .bool false, .int .i64 0] rfl rfl (World.news_of_block (cs := #[.string ⟨#[97]⟩, .slice A 1 cc, .bool false, .int .i64 0]) (t := 113) (fr := (0, 0)) (heap_alloc_new W _)) (by simp [Value.oneCell']) (by omega) (by simp [maxLen]; omega) (by omega) (by have := hmS.size; simp; omega) (W.heap.size + 1) (by simp) ?_; intro g5 cap5 w5 hown5 hgrow hat hlt5); have hB6 := (HB2.out.alloc (.cells #[.string ⟨#[97]⟩, .slice A 1 cc, .bool false, .int .i64 0] 113)).mod (mod_grown hgrow) (fun hv => by have h2 := HB2.out.alloc (.cells #[.string ⟨#[97]⟩, .slice A 1 cc, .bool false, .int .i64 0] 113); unfold Blk at h2; exact absurd (own_ty (HO2.out.alloc (.cells #[.string ⟨#[97]⟩, .slice A 1 cc, .bool false, .int .i64 0] 113)) hv h2) (by decide)); have q1 := hB6.cell 0; have q2 := hB6.frozen 0; simp at q1)
 go_ret;obtain rfl := HN0.out;have hob := own_block hownS;have hoa := hownS.alloc (.cells #[.string ⟨#[97]⟩, .slice A 1 cc, .bool false, .int .i64 0] 113);have mG := mod_grown hgrow
 have h7 : w5.ownsRow w.heap.size 113 4 (.slice (some ⟨g5, 0, none⟩) 1 cap5) 1 (askV [⟨[97], A, cc, [[98]], false, 0⟩]) := by simpa [askV, askC] using hown5
 have hm8 : Mod (· = gl) w5 (w5.setCell ⟨gl, 0, none⟩ (.slice (some ⟨g5, 0, none⟩) 1 cap5)) := (Mod.refl (· = gl) w5).setCell (.inl rfl) _;refine ⟨some ⟨g5, 0, none⟩, cap5, ⟨[97], A, cc, [[98]], false, 0⟩, rfl, by have h5 := hB6.set 0 (.slice (some ⟨g5, 0, none⟩) 1 cap5); simpa using h5, ⟨(Sl.of_own h7).mod hm8 (fun k arr fr hk => blk_tyR hB6 hk (by decide)), fun x hx => ?_⟩, rfl, rfl, rfl, rfl, ?_⟩
 ·rw [List.mem_singleton.1 hx];exact (((HS2.out.pure (pure_alloc _ _)).mod mG (fun i arr fr hi hv => absurd (own_ty hoa hv hi) (by decide)))).mod hm8 (fun k arr fr hk => blk_tyR hB6 hk (by decide))
 ·have hpm : Mod (· = gl) w w5 := Mod.of_pure ((HM2.out.alloc _).grown hgrow (fun i hi => .inr (hob i hi)));exact hpm.setCell (p := ⟨gl, 0, none⟩) (.inl rfl) _

theorem RlcPost.base {w w1 w' : World} {gl : Nat} {e : Ending} (h : RlcPost w1 gl e w') (hp : Pure w w1) : RlcPost w gl e w' := by
 obtain ⟨A, c, x, h1, h2, h3, h4, h5, h6, h7, h8⟩ := h;exact ⟨A, c, x, h1, h2, h3, h4, h5, h6, h7, (Mod.of_pure hp).trans h8⟩
def decT : Str := [97, 115, 107, 32, 97, 32, 111, 110, 101, 32, 110, 111, 110, 101, 32, 98, 10]
def decL : Str := [97, 115, 107, 32, 97, 32, 111, 110, 101, 32, 110, 111, 110, 101, 32, 98]
theorem decT_lines : linesP decT = [decL] := by decide +kernel
theorem decT_whole : wholeP decT = true := by decide +kernel
theorem decL_words : Lib.split decL [32] = ws5 := by decide +kernel
set_option maxRecDepth 100000 in
set_option maxHeartbeats 8000000 in
theorem rlines_calls (w : World) (gl : Nat) (hM : MlnS w) (hA : Asc w) (hB : Blk w gl 63 #[.slice none 0 0, .slice none 0 0]) :
  Calls Tryz.prog 87 #[.string ⟨decT.toArray⟩, .func (.func 88) #[] #[.pointer (some ⟨gl, 0, none⟩)]] w (fun e w' => e = .returned (.int .i64 (-1)) ∧ ∃ e2, RlcPost w gl e2 w') := by
 have HL := Lib.hid (baseLines_calls w decT hM (by decide));unfold LinesPost at HL;rw [decT_lines, decT_whole] at HL;have HSP := Lib.hid (fun W (h : Pure w W) => split_calls W decL [32] (hM.pure h) (by decide) (by decide));rw [decL_words] at HSP;have HRL := Lib.hid (fun W (h : Pure w W) g c (hr : RowAt W 9 g 0 (strsV ws5)) (hc : 5 ≤ c) (hc2 : c ≤ 1000) => rl1_calls W g 0 c gl 0 0 rfl none hr hc hc2 (hA.pure h) (hB.modp h) ⟨rfl, .inl ⟨rfl, rfl⟩⟩);have HCN := Lib.hid (fun W g (h : Blk W g 9 (strsV ws5).toArray) => containsQs_calls W _ ws5 [] (blkSl3 h));rw [show (ws5.any fun x => ([] : Str) == x) = false by decide] at HCN;generalize hdt : decT = dt at *;clear hM hA hB hdt
 go_enter Tryz.func87, Tryz.ntmps87
 go_wp2_with fail
 refine HL.out.mono ?_;rintro e w1 ⟨AL, cL, rfl, hsl, hm1⟩;obtain ⟨A', n', c', e1, hc1, hc2, hl1, hr1⟩ := hsl
 injection e1 with e1 e2 e3
 have e2' : n' = 1 := e2.symm;subst e1 e2' e3;obtain ⟨gL, oL, rfl, hrow⟩ := hr1 (by omega);have HROW := Lib.hid hrow;have HM1 := Lib.hid hm1;clear hl1 hr1 hrow hm1 HL e2
 go_wp2_with fail
 go_loopg [17] 1 (fun gk i wr => (gk = 1 ∧ i = .int .i64 0 ∧ Pure w1 wr) ∨ (gk = 0 ∧ i = .int .i64 1 ∧ ∃ e2, RlcPost w gl e2 wr))
 case atStart => exact .inl ⟨rfl, rfl, Mod.refl _ _⟩
 case round =>
  rcases hrel with ⟨rfl, rfl, hm⟩ | ⟨rfl, rfl, hR⟩
  ·have hq := (HROW.out.mod hm _root_.id).cell (i := 0) (u := .string ⟨decL.toArray⟩) rfl;rw [Nat.add_zero] at hq;have HM2 := Lib.hid (HM1.out.trans hm);have HS := Lib.hid (HSP.out wr HM2.out);clear hm;generalize decL = dl at *
   go_wp2_with fail
   refine HS.out.mono ?_;rintro e w2 ⟨rfl, rfl⟩;have hB5 := Blk.new wr 9 (strsV ws5).toArray;have HC := Lib.hid (HCN.out _ _ hB5);have HB5 := Lib.hid hB5;have HM3 := Lib.hid (HM2.out.alloc (.cells (strsV ws5).toArray 9));clear hB5 hq HS HCN HSP
   go_wp2_with fail
   refine HC.out.mono ?_;rintro e w3 ⟨rfl, hm3⟩;have HB6 := Lib.hid (HB5.out.modp hm3);have HM6 := Lib.hid (HM3.out.trans hm3);have HR6 := Lib.hid (HRL.out w3 HM6.out wr.heap.size 5 HB6.out.row0 (by omega) (by omega));clear HC hm3 HM3 HB5 HRL
   go_wp2_with fail
   refine HR6.out.mono ?_;rintro e w4 hR4;have HR4 := Lib.hid (hR4.base HM6.out);obtain ⟨A4, c4, x4, rfl, _⟩ := hR4;clear HR6 HB6 HM6
   go_wp2_with fail
   go_roundg 0
   case measure => omega
   case rel => exact .inr ⟨rfl, by simp, _, HR4.out⟩
  ·have HRR := Lib.hid hR;clear hR HSP HCN HRL HROW HM1
   go_wp2_with fail
   go_ret;exact ⟨rfl, HRR.out⟩

theorem layE_x {x : AskR} (h1 : x.field = [97]) (h2 : x.ch = [[98]]) (h3 : x.many = false) (h4 : x.spread = 0) : layE ⟨[x], []⟩ = 0 := by
 obtain ⟨f, A, c, ch, m, s⟩ := x;simp only [] at h1 h2 h3 h4;subst h1 h2 h3 h4
 rfl
def RdPost (w : World) (e : Ending) (w' : World) : Prop := ∃ (A : Option Addr) (c : Nat), e = .returned (.tuple #[.agg #[.slice A 1 c, .slice none 0 0], .int .i64 0, .int .i64 0]) ∧ Pure w w'
set_option maxRecDepth 100000 in
set_option maxHeartbeats 8000000 in
theorem readLayout_calls (w : World) (hM : MlnS w) (hA : Asc w) : Calls Tryz.prog 45 #[.string ⟨decT.toArray⟩] w (RdPost w) := by
 have hp : Pure w ((w.alloc (.cells #[.slice none 0 0, .slice none 0 0] 63)).alloc (.cells #[.slice none 0 0, .slice none 0 0] 63)) := (pure_alloc _ _).trans (pure_alloc _ _);have HP := Lib.hid hp;have HG := Lib.hid ((Blk.new w 63 #[.slice none 0 0, .slice none 0 0]).alloc (.cells #[.slice none 0 0, .slice none 0 0] 63));have HLN := Lib.hid (rlines_calls ((w.alloc (.cells #[.slice none 0 0, .slice none 0 0] 63)).alloc (.cells #[.slice none 0 0, .slice none 0 0] 63)) (w.heap.size + 1) (hM.pure hp) (hA.pure hp) (Blk.snd _ _ _ _));have hdl : ((decT.length : Nat) : Int) = 17 := rfl;have hds : (⟨decT.toArray⟩ : ByteArray).size = 17 := rfl;generalize decT = dt at *;clear hM hA hp
 go_enter Tryz.func45, Tryz.ntmps45
 go_wp2_with fail
 refine HLN.out.mono ?_;rintro e w1 ⟨rfl, e2, A, c, x, _, hB, hAs, hx1, hx2, hx3, hx4, hm⟩;have HM := Lib.hid hm;have HG1 := Lib.hid (HG.out.mod hm (by omega));have HB1 := Lib.hid hB
 have HCL := Lib.hid (checkLayout_calls w1 (.agg #[.slice A 1 c, .slice none 0 0]) ⟨[x], []⟩ ⟨A, 1, c, none, 0, 0, rfl, hAs, Sl.nil_⟩ ⟨by simp, by simp, fun a ha => by
  rw [List.mem_singleton.1 ha]
  exact ⟨by rw [hx1]; simp [StB], by rw [hx2]; simp [StsA], by rw [hx4]; omega, by rw [hx4]; omega⟩, fun r hr => absurd hr (by simp)⟩)
 rw [layE_x hx1 hx2 hx3 hx4] at HCL
 have hz0 : (w.alloc (.cells #[.slice none 0 0, .slice none 0 0] 63)).heap.size = w.heap.size + 1 := by simp
 have hB1 := HB1.out;have x0 := hB1.cell 0; have x1 := hB1.cell 1; simp at x0 x1;clear hm hB hAs hx1 hx2 hx3 hx4 HG HLN hB1;generalize hgr : w.heap.size = gr at *;have hgr2 := Nat.le_of_eq hgr;clear hgr
 go_wp2_with fail
 refine HCL.out.mono ?_;rintro e w2 ⟨rfl, hm2⟩;have hB2 := HB1.out.modp hm2;have hG2 := HG1.out.modp hm2;have HGE := Lib.hid ((hG2.set 0 (.slice A 1 c)).set 1 (.slice none 0 0));have HM2 := Lib.hid hm2;have y0 := hB2.cell 0; have y1 := hB2.cell 1; simp at y0 y1;have z0 := hG2.cell 0; have zf0 := hG2.frozen 0; have z1 := hG2.cell 1; have zf1 := hG2.frozen 1; simp at z0 z1;clear hB2 hG2 HCL x0 x1 hm2
 go_wp2_with fail
 have hGE := HGE.out;have u0 := hGE.cell 0; have u1 := hGE.cell 1; simp at u0 u1
 try simp only [Exit.inBlock, Exit.then]
 refine bodyPost_ret (v := .tuple #[.agg #[.slice A 1 c, .slice none 0 0], .int .i64 0, .int .i64 0]) (by simp [results, Tryz.results45, go_sem, u0, u1]) rfl ?_;refine ⟨A, c, rfl, ?_⟩;have h1 : Pure w w2 := (HP.out.trans' HM.out (fun i hi hlt => by omega)).trans HM2.out;exact (h1.setCell (p := ⟨gr, 0, none⟩) (.inr (by show w.heap.size ≤ gr; omega)) _).setCell (p := ⟨gr, 1, none⟩) (.inr (by show w.heap.size ≤ gr; omega)) _
set_option maxRecDepth 100000 in
set_option maxHeartbeats 4000000 in
theorem decides_calls (w : World) (hM : MlnS w) (hA : Asc w) : Calls Tryz.prog 11 #[] w (BoolPost w true) := by
 have HRD := Lib.hid (readLayout_calls w hM hA);rw [show decT.toArray = #[97, 115, 107, 32, 97, 32, 111, 110, 101, 32, 110, 111, 110, 101, 32, 98, 10] from rfl] at HRD;clear hM hA
 go_enter Tryz.func11, Tryz.ntmps11
 go_wp2_with fail
 refine HRD.out.mono ?_;rintro e w1 ⟨A, c, rfl, hm⟩;have HP := Lib.hid (hm.alloc (.cells #[.slice A 1 c, .slice none 0 0] 63));have hB := Blk.new w1 63 #[.slice A 1 c, .slice none 0 0];have x0 := hB.cell 0; have x1 := hB.cell 1; simp at x0 x1;clear hB hm HRD
 go_wp2_with fail
 go_ret;exact BoolPost.of rfl HP.out

end Go.Proofs.YtpinlcapgoljfaaGreatDoor

/- The law CodingSpreads. -/
namespace Go.Proofs.YtpinlcapgoljfaaGreatDoor
open Go.RowKit

theorem itemE_kindK {x : Itm} (h : itemE x = 0) : 1 ≤ x.kind ∧ x.kind ≤ 4 := by
 unfold itemE at h
 split at h
 ·omega
 split at h
 ·omega
 rename_i h2
 simp at h2;exact inB_true h2

theorem items_kindsK {l : List Itm} (h : itsE itemE l = 0) : ∀ x ∈ l, 1 ≤ x.kind ∧ x.kind ≤ 4 := by
 unfold itsE at h
 split at h
 ·omega
 split at h
 ·rename_i h2; exact absurd h h2
 rename_i h2
 have h2 : ordE itemE [] l = 0 := by simpa using h2
 exact fun x hx => itemE_kindK (ordE_gt h2 x hx).1
/-- Items that do not lie in block b. -/
def ItsB (W : World) (b : Nat) (v : Value) (xs : List Itm) : Prop := Its W v xs ∧ NbS b v
theorem ItsB.ask {w w' : World} {b : Nat} {v : Value} {xs : List Itm} (h : ItsB w b v xs) (hm : Mod (· = b) w w') : ItsB w' b v xs := ⟨h.1.modNb h.2 hm, h.2⟩
theorem own_formI {w : World} {base n : Nat} {e : TypeId} {size : Nat} {v : Value} {xs : List Value} (h : w.ownsRow base e size v n xs) : ∃ A c, v = .slice A n c := by
 rcases h.2 with ⟨h1, h0⟩ | ⟨g, cap, _, h1, _⟩
 ·exact ⟨none, 0, by rw [h1, h0]⟩
 ·exact ⟨_, cap, h1⟩
/-- What Spread gives, in one form. -/
theorem SpPost.one {w w' : World} {L : LayR} {its : List Itm} {cs : List CodR} {e : Ending} (h : SpPost w L its cs e w') : Pure w w' ∧ ∃ (A : Option Addr) (k c : Nat), e = .returned (.tuple #[.slice A k c, .int .i64 (sprE L its cs)]) ∧ (sprE L its cs ≠ 0 → k = 0) ∧
  (sprE L its cs = 0 → ∃ ys : List CodR, Cods w' (.slice A k c) ys ∧ ys.map CodR.key = sprS cs its L.asks its) := by
 obtain ⟨hm, ⟨h1, h2⟩ | ⟨h1, A, c, ys, h2, h3, h4⟩⟩ := h
 ·exact ⟨hm, none, 0, 0, h2, fun _ => rfl, fun h => absurd h h1⟩
 ·exact ⟨hm, A, ys.length, c, by rw [h1]; exact h2, fun h => absurd h1 h, fun _ => ⟨ys, h3, h4⟩⟩

set_option maxRecDepth 100000 in
set_option maxHeartbeats 16000000 in
theorem CodingSpreads_calls (w : World) (A : Option Addr) (n c : Nat) (hA : ArgInts w A n) (hM : MlnS w) (hT : Asc w) (hE : Env w) (hD : Deb w) : Calls Tryz.prog 4 #[.slice A n c] w (BoolPost w true) := by
 have hS0 := strm_new (c := c) hA;have HMT : Hid (∀ w1, Pure w w1 → ((MlnS w1 ∧ Asc w1) ∧ Env w1) ∧ Deb w1) := Lib.hid (fun _ h => ⟨⟨⟨hM.pure h, hT.pure h⟩, hE.pure h⟩, hD.pure h⟩);obtain ⟨b, hb⟩ : ∃ b, b = w.heap.size := ⟨_, rfl⟩;have P0 := pure_alloc w (.cells #[.slice A n c, .int .i64 0] 25);have HPS : Hid (∀ {w1 w' : World}, Pure w w1 → Mod (· = b) w1 w' → Pure w w') := Lib.hid (fun k h => k.trans' h (fun i hi hlt => by omega));rw [← hb] at hS0;have hbw := Nat.le_of_eq hb.symm;clear hM hT hA hE hD
 go_enter Tryz.func4, Tryz.ntmps4
 go_wp2_with fail
 rw [← hb];generalize (w.alloc (.cells #[.slice A n c, .int .i64 0] 25)) = w0 at *;clear hb;refine (layout_calls w0 b _ hS0 (by omega)).mono ?_;rintro e w1 ⟨Aa, Ar, na, ca, nr, cr, L, rfl, hL, hla, hlr, hab, hrb, hS1, hM1⟩;have P1 := HPS.out P0 hM1;have hLB : LayB L := ⟨by omega, by omega, hab, hrb⟩;have HLB := Lib.hid hLB;have hpl := pure_alloc w1 (.cells #[.slice Aa na ca, .slice Ar nr cr] 63);have HG := Lib.hid (Blk.new w1 63 #[.slice Aa na ca, .slice Ar nr cr]);have HP2 := Lib.hid (P1.trans hpl);have hS2 := hS1.alloc (.cells #[.slice Aa na ca, .slice Ar nr cr] 63);have HLV : Hid (∀ W, Mod (· = b) (w1.alloc (.cells #[.slice Aa na ca, .slice Ar nr cr] 63)) W → LayV W L (.agg #[.slice Aa na ca, .slice Ar nr cr])) := Lib.hid (fun W h => (hL.pure hpl).strm hS2 h);have hb1 := hS1.lt;clear hS0 P0 hM1 hL hab hrb hLB P1 hpl hS1
 go_upto_region 3 with (fail)
 generalize (w1.alloc (.cells #[.slice Aa na ca, .slice Ar nr cr] 63)) = w2 at *;generalize w1.heap.size = gl at *;clear w0 w1;have hgl2 := HG.out.lt;have HENV : Hid (∀ W, Mod (· = b) w2 W → Env W) := Lib.hid (fun W h => (HMT.out W (HPS.out HP2.out h)).1.2);have hN2 := hS2.more (Nat.le_refl _)
 go_wp2_with fail
 refine (range_calls _ b _ 0 8 hS2 (by omega) (by omega) (by omega) (by omega)).mono ?_;rintro e w3 ⟨k, hk1, hk2, rfl, hS3, hM3⟩;obtain ⟨q, rfl⟩ := Int.eq_ofNat_of_zero_le hk1;have HM3 := Lib.hid hM3;have HIC := Lib.hid (items_callsG w3 b _ q _ rfl hS3 (by omega) (by omega) (fun W h => HENV.out W (hM3.trans h)));clear hS2 hM3 hN2 hS3 HENV
 go_wp2_with fail
 refine HIC.out.mono ?_;rintro e w4 ⟨v0, its, rfl, hil, hig, hio, hS4, hm4⟩;obtain ⟨Ai, ci, rfl⟩ := own_formI hio;have hIB : ItsB w4 b (.slice Ai its.length ci) its := ⟨Sl.of_own hio, (Sl.of_own hio).nb hS4 (by decide)⟩;have HIB := Lib.hid hIB;have HM4 := Lib.hid (HM3.out.trans hm4);have HIG := Lib.hid hig
 have hi9 : its.length ≤ 9 := by omega
 have HCC := Lib.hid (coded_calls w4 b _ _ L Ai ci its hS4 (by omega) (HLV.out _ HM4.out) hla HLB.out hIB.1 (by omega) (fun x hx => (hig x hx).1));have hX := HG.out.modb HM4.out (by omega);have x0 := hX.cell 0; have x1 := hX.cell 1; simp at x0 x1;clear hX hIB hio hS4 hm4 hig HIC HM3
 go_wp2_with fail
 refine HCC.out.mono ?_;rintro e w5 ⟨base, c5, A5, xs, rfl, hwb, hcc, hxl, hxz, hS5, hm5⟩;have HM5 := Lib.hid (HM4.out.trans hm5);have HIB5 := Lib.hid (HIB.out.ask hm5);have HCB := Lib.hid hcc;have HXZ := Lib.hid hxz;have HP5 := Lib.hid (HPS.out HP2.out HM5.out);have HLW := Lib.hid (HLV.out _ HM5.out);have HG5 := Lib.hid (HG.out.modb HM5.out (by omega));have HZ : Hid (∀ x ∈ its, ItB x) := Lib.hid (fun x hx => (HIG.out x hx).b);clear x0 x1 hcc hxz hS5 hm5 HCC HM4 HIB HG HLV;have HSP := Lib.hid (spread_calls w5 _ L _ its A5 xs.length c5 xs HLW.out HLB.out HIB5.out.1 (by omega) HZ.out HCB.out.cods HXZ.out (by omega) (HMT.out _ HP5.out).1.2 (HMT.out _ HP5.out).2);have HLF := Lib.hid (fun W (h : Pure w5 W) => layoutFault_calls W _ L (HLW.out.pure h) HLB.out);have HIF := Lib.hid (fun W (h : Pure w5 W) => itemsFault_calls W _ its (HIB5.out.1.pure h) HZ.out (by omega) (HMT.out _ (HP5.out.trans h)).1.2);have HCF := Lib.hid (fun W (h : Pure w5 W) => codingsFault_calls W _ L A5 c5 xs (HLW.out.pure h) HLB.out (HCB.out.cods.pure h) HXZ.out (by omega));have HSO := Lib.hid (fun W (h : Pure w5 W) (h0 : itsE itemE its = 0) => spreadOf_calls W _ L _ its A5 xs.length c5 xs (HLW.out.pure h) (by omega) (HIB5.out.1.pure h) (right_items h0) (by omega) HZ.out (items_kindsK h0) (HCB.out.cods.pure h) (fun x hx => by have := (HXZ.out x hx).2.1; omega) (by omega));have HDC := Lib.hid (fun W (h : Pure w5 W) => decides_calls W (HMT.out _ (HP5.out.trans h)).1.1.1 (HMT.out _ (HP5.out.trans h)).1.1.2);have HQ : Hid (sprE L its xs = if layE L ≠ 0 then layE L else if itsE itemE its ≠ 0 then itsE itemE its else codsE L xs) := Lib.hid rfl;have hX := HG5.out;have x0 := hX.cell 0; have x1 := hX.cell 1; simp at x0 x1;clear hX HIG HIB5 HCB HXZ HLW HLB HZ HM5 HP2 HPS
 go_wp2_with fail
 refine HSP.out.mono ?_;rintro e w6 hsp;obtain ⟨hm6, A8, k8, c8, rfl, hk8, hs8⟩ := hsp.one;have HK8 := Lib.hid hk8;have HS8 := Lib.hid hs8;clear hsp hk8 hs8 HSP x0 x1;generalize sprE L its xs = qe at *;generalize layE L = ql at *;generalize itsE itemE its = qi at *;generalize codsE L xs = qc at *;generalize sprS xs its L.asks its = KS at *;have hX := HG5.out.modp hm6;have HP6 := Lib.hid hm6;have x0 := hX.cell 0; have x1 := hX.cell 1; simp at x0 x1;clear hX hm6
 go_wp2_with fail
 refine (HLF.out _ HP6.out).mono ?_;rintro e w7 ⟨rfl, hm⟩;replace HS8 := Lib.hid (fun h => (by obtain ⟨ys, h1, h2⟩ := HS8.out h; exact ⟨ys, h1.pure hm, h2⟩ : ∃ ys : List CodR, Cods w7 (.slice A8 k8 c8) ys ∧ ys.map CodR.key = KS));have HP7 := Lib.hid (HP6.out.trans hm);clear HLF x0 x1 hm HP6
 go_wp2_with fail
 refine (HIF.out _ HP7.out).mono ?_;rintro e w8 ⟨rfl, hm⟩;replace HS8 := Lib.hid (fun h => (by obtain ⟨ys, h1, h2⟩ := HS8.out h; exact ⟨ys, h1.pure hm, h2⟩ : ∃ ys : List CodR, Cods w8 (.slice A8 k8 c8) ys ∧ ys.map CodR.key = KS));have HP8 := Lib.hid (HP7.out.trans hm);clear HIF hm HP7;have hpa := pure_alloc w8 (.cells #[.int .i64 ql, .int .i64 qi] 33);have HWO := Lib.hid (wrongOr_calls _ _ 2 [ql, qi] (Blk.new w8 33 #[.int .i64 ql, .int .i64 qi]).row0 (by simp));rw [show firstErr [ql, qi] = if ql ≠ 0 then ql else qi from (firstErr2 rfl)] at HWO;have HP9 := Lib.hid (HP8.out.trans hpa);replace HS8 := Lib.hid (fun h => (by obtain ⟨ys, h1, h2⟩ := HS8.out h; exact ⟨ys, h1.pure hpa, h2⟩ : ∃ ys : List CodR, Cods (w8.alloc (.cells #[.int .i64 ql, .int .i64 qi] 33)) (.slice A8 k8 c8) ys ∧ ys.map CodR.key = KS));obtain ⟨q1, hq1⟩ : ∃ q1, (if ql ≠ 0 then ql else qi) = q1 := ⟨_, rfl⟩;rw [hq1] at HWO;have HQ1 := Lib.hid hq1;clear hpa HP8 hq1
 go_wp2_with fail
 refine HWO.out.mono ?_;rintro e w10 ⟨rfl, hm⟩;replace HS8 := Lib.hid (fun h => (by obtain ⟨ys, h1, h2⟩ := HS8.out h; exact ⟨ys, h1.pure hm, h2⟩ : ∃ ys : List CodR, Cods w10 (.slice A8 k8 c8) ys ∧ ys.map CodR.key = KS));have HP10 := Lib.hid (HP9.out.trans hm);clear HWO hm HP9
 go_upto_if 37 with (fail)
 go_cut [9] (fun p wx => p = .int .i64 qe ∧ Pure w10 wx)
 case first =>
  by_cases h0 : q1 = 0
  ·subst h0
   have HE := Lib.hid (show qe = qc by
    have h := HQ1.out;rw [HQ.out]
    by_cases h1 : ql = 0
    ·rw [if_neg (by simpa using h1)] at h ⊢;rw [if_neg (by simpa using h)]
    ·rw [if_pos h1] at h; exact absurd h h1)
   have hX := HG5.out.modp HP10.out;have x0 := hX.cell 0; have x1 := hX.cell 1; simp at x0 x1;clear hX
   go_wp2_with fail
   refine (HCF.out _ HP10.out).mono ?_;rintro e w11 ⟨rfl, hm⟩
   go_wp2_with fail
   go_meet;exact ⟨by rw [HE.out], hm⟩
  ·have h0' : (q1 == 0) = false := by simpa using h0
   have HE := Lib.hid (show qe = q1 by
    have h := HQ1.out;rw [HQ.out]
    by_cases h1 : ql = 0
    ·rw [if_neg (by simpa using h1)] at h ⊢;rw [if_pos (by rw [h]; exact h0), h]
    ·rw [if_pos h1] at h ⊢; exact h)
   clear h0
   go_wp2_with fail
   go_meet;exact ⟨by rw [HE.out], Mod.refl _ _⟩
 case rest =>
  obtain ⟨rfl, hm⟩ := hcut;obtain ⟨w11, hw11⟩ : ∃ W, W = wc := ⟨wc, rfl⟩;subst hw11;replace HS8 := Lib.hid (fun h => (by obtain ⟨ys, h1, h2⟩ := HS8.out h; exact ⟨ys, h1.pure hm, h2⟩ : ∃ ys : List CodR, Cods w11 (.slice A8 k8 c8) ys ∧ ys.map CodR.key = KS));have HP11 := Lib.hid (HP10.out.trans hm);clear hm HP10 HCF HQ1
  by_cases h0 : qe = 0
  ·subst h0
   have HI0 := Lib.hid (show qi = 0 by
    have h := HQ.out
    by_cases h1 : ql = 0
    ·rw [if_neg (by simpa using h1)] at h
     by_cases h2 : qi = 0
     ·exact h2
     ·rw [if_pos h2] at h; exact absurd h.symm h2
    ·rw [if_pos h1] at h; exact absurd h.symm h1)
   obtain ⟨ys, hys, hky⟩ := HS8.out rfl;have HYS := Lib.hid hys;have HSC := Lib.hid (HSO.out _ HP11.out HI0.out);have hX := HG5.out.modp HP11.out;have x0 := hX.cell 0; have x1 := hX.cell 1; simp at x0 x1;clear hX hys HS8 HK8 HSO HQ
   go_wp2_with fail
   refine HSC.out.mono ?_;rintro e w12 ⟨A12, c12, zs, rfl, hzs, hkz, hm⟩;have HEF := Lib.hid (equalCod_calls w12 _ _ ys zs (HYS.out.pure hm) hzs);rw [show eqL codEq ys zs = true from likesC_iff.2 (hky.trans hkz.symm)] at HEF;have HP12 := Lib.hid (HP11.out.trans hm);clear hm hzs hkz hky HSC HP11 x0 x1
   go_wp2_with fail
   refine HEF.out.mono ?_;rintro e w13 ⟨rfl, hm⟩;have HP13 := Lib.hid (HP12.out.trans hm);clear hm HEF HP12
   go_wp2_with fail
   refine (HDC.out _ HP13.out).mono ?_;rintro e w14 ⟨rfl, hm⟩;have HPF := Lib.hid ((HP5.out.trans HP13.out).trans hm);clear hm HDC
   go_wp2_with fail
   go_ret;exact BoolPost.of rfl HPF.out
  ·have h0' : (qe != 0) = true := by simpa using h0
   obtain rfl := HK8.out h0;clear HS8 HK8 HSO HQ h0
   go_wp2_with fail
   refine (HDC.out _ HP11.out).mono ?_;rintro e w13 ⟨rfl, hm⟩;have HPF := Lib.hid ((HP5.out.trans HP11.out).trans hm);clear hm HDC
   go_wp2_with fail
   go_ret;exact BoolPost.of rfl HPF.out

end Go.Proofs.YtpinlcapgoljfaaGreatDoor

/-
 DERIVED: THE SHELF's CONTRACTS AT THIS DUMP, IN PLAIN WORDS (tools/lay-plain.mjs out of 'YtpinlcapgoljfaaGreatDoorLayM6.lean', which tools/lay-shelf.mjs wrote): THE SAME DECLARATIONS UNDER THE SAME NAMES: 'import', 'namespace', 'open', 'def', 'theorem' AND NOTHING ELSE: no command of the shelf's: FOR A HAND-IN. Each laying: the table of numbers ('.._ren') and one theorem, a field a fact of the dump's own or the kernel's comparison; each contract: ONE APPLICATION.
-/
namespace Go.Proofs
open Go.Shelf
def Tryz.laysM146_ren : Go.Shelf.Ren := ⟨fun | 146 => 130 | 221 => 151 | 268 => 181 | 138 => 182 | 143 => 176 | 195 => 197 | 197 => 191 | 218 => 198 | 219 => 196 | 260 => 201 | 217 => 208 | 225 => 209 | 224 => 210 | 267 => 211 | 266 => 220 | 314 => 221 | n => n, fun | 9 => 9 | 31 => 29 | 3 => 3 | 4 => 4 | 0 => 0 | 105 => 243 | 21 => 21 | 5 => 5 | 46 => 175 | 119 => 226 | 139 => 229 | 138 => 228 | 146 => 199 | 51 => 198 | n => n, fun | 1 => 3 | 3 => 0 | 4 => 1 | n => n⟩
theorem Tryz.laysM146 : Go.Proofs.LaysM.n146 Tryz.prog Tryz.laysM146_ren := {
 mixed := by kernel_rfl
 f138 := Tryz.func182.trans (congrArg some (by kernel_rfl))
 f143 := Tryz.func176.trans (congrArg some (by kernel_rfl))
 f146 := Tryz.func130.trans (congrArg some (by kernel_rfl))
 f195 := Tryz.func197.trans (congrArg some (by kernel_rfl))
 f197 := Tryz.func191.trans (congrArg some (by kernel_rfl))
 f217 := Tryz.func208.trans (congrArg some (by kernel_rfl))
 f218 := Tryz.func198.trans (congrArg some (by kernel_rfl))
 f219 := Tryz.func196.trans (congrArg some (by kernel_rfl))
 f221 := Tryz.func151.trans (congrArg some (by kernel_rfl))
 f224 := Tryz.func210.trans (congrArg some (by kernel_rfl))
 f225 := Tryz.func209.trans (congrArg some (by kernel_rfl))
 f260 := Tryz.func201.trans (congrArg some (by kernel_rfl))
 f266 := Tryz.func220.trans (congrArg some (by kernel_rfl))
 f267 := Tryz.func211.trans (congrArg some (by kernel_rfl))
 f268 := Tryz.func181.trans (congrArg some (by kernel_rfl))
 f314 := Tryz.func221.trans (congrArg some (by kernel_rfl))
 t0 := Tryz.underlying0
 a0 := Tryz.isAgg0
 z0 := Tryz.sizeOf0
 v0 := Tryz.zeroValue0
 t3 := Tryz.underlying3
 a3 := Tryz.isAgg3
 z3 := Tryz.sizeOf3
 v3 := Tryz.zeroValue3
 t4 := Tryz.underlying4
 a4 := Tryz.isAgg4
 z4 := Tryz.sizeOf4
 v4 := Tryz.zeroValue4
 t5 := Tryz.underlying5
 a5 := Tryz.isAgg5
 z5 := Tryz.sizeOf5
 v5 := Tryz.zeroValue5
 t9 := Tryz.underlying9
 a9 := Tryz.isAgg9
 z9 := Tryz.sizeOf9
 v9 := Tryz.zeroValue9
 t21 := Tryz.underlying21
 a21 := Tryz.isAgg21
 z21 := Tryz.sizeOf21
 v21 := Tryz.zeroValue21
 t31 := Tryz.underlying29
 a31 := Tryz.isAgg29
 z31 := Tryz.sizeOf29
 v31 := Tryz.zeroValue29
 t46 := Tryz.underlying175
 a46 := Tryz.isAgg175
 z46 := Tryz.sizeOf175
 v46 := Tryz.zeroValue175
 t51 := Tryz.underlying198
 a51 := Tryz.isAgg198
 z51 := Tryz.sizeOf198
 v51 := Tryz.zeroValue198
 t105 := Tryz.underlying243
 a105 := Tryz.isAgg243
 z105 := Tryz.sizeOf243
 v105 := Tryz.zeroValue243
 t119 := Tryz.underlying226
 a119 := Tryz.isAgg226
 z119 := Tryz.sizeOf226
 t138 := Tryz.underlying228
 a138 := Tryz.isAgg228
 z138 := Tryz.sizeOf228
 v138 := Tryz.zeroValue228
 t139 := Tryz.underlying229
 a139 := Tryz.isAgg229
 z139 := Tryz.sizeOf229
 v139 := Tryz.zeroValue229
 t146 := Tryz.underlying199
 a146 := Tryz.isAgg199
 z146 := Tryz.sizeOf199
 v146 := Tryz.zeroValue199
 g1 := by kernel_rfl
 g3 := by kernel_rfl
 g4 := by kernel_rfl
 i0 := by kernel_rfl
 i3 := by kernel_rfl
 i4 := by kernel_rfl
 i5 := by kernel_rfl
 i9 := by kernel_rfl
 i21 := by kernel_rfl
 i31 := by kernel_rfl
 i46 := by kernel_rfl
 i51 := by kernel_rfl
 i105 := by kernel_rfl
 i138 := by kernel_rfl
 i139 := by kernel_rfl
 i146 := by kernel_rfl
 m1 := by kernel_rfl
 s1_3 := fun w h => Go.Proofs.cell_of_shapedOpen_int (zero := #[.int .i64 0]) (t := 3) h (of_decide_eq_true (by kernel_rfl)) (by kernel_rfl) rfl (by kernel_rfl) (by kernel_rfl) Tryz.underlying3
 m3 := by kernel_rfl
 m4 := by kernel_rfl }
end Go.Proofs

/- What the listed variables of the review laws hold. -/
namespace Go.Proofs.YtpinlcapgoljfaaGreatDoor
open Go.RowKit

def litZv : DataW Unit → Int
 | .lit (.int _ n) => n
 | _ => 0
def litsZv : DataW Unit → List Int
 | .agg ps => ps.map litZv
 | _ => []
theorem ascZ : litsZv Rows.laid_strings_asciiSpace = Lib.asciiSpaceTab := by kernel_rfl
theorem mlns_of {W : World} (h : W.ShapedOpen Tryz.prog) : MlnS W := Tryz.laysM146.s1_3 W h

end Go.Proofs.YtpinlcapgoljfaaGreatDoor

/-
 DERIVED: THE SHELF's CONTRACTS AT THIS DUMP, IN PLAIN WORDS (tools/lay-plain.mjs out of 'YtpinlcapgoljfaaGreatDoorLayM1.lean', which tools/lay-shelf.mjs wrote): THE SAME DECLARATIONS UNDER THE SAME NAMES: 'import', 'namespace', 'open', 'def', 'theorem' AND NOTHING ELSE: no command of the shelf's: FOR A HAND-IN. Each laying: the table of numbers ('.._ren') and one theorem, a field a fact of the dump's own or the kernel's comparison; each contract: ONE APPLICATION.
-/
namespace Go.Proofs
open Go.Shelf
def Tryz.laysM144_ren : Go.Shelf.Ren := ⟨fun | 144 => 143 | 143 => 176 | 219 => 196 | 217 => 208 | 225 => 209 | 224 => 210 | 267 => 211 | 266 => 220 | 314 => 221 | n => n, fun | 9 => 9 | 4 => 4 | 3 => 3 | 5 => 5 | 46 => 175 | 146 => 199 | 51 => 198 | n => n, fun | 1 => 3 | n => n⟩
theorem Tryz.laysM144 : Go.Proofs.LaysM.n144 Tryz.prog Tryz.laysM144_ren := {
 mixed := by kernel_rfl
 f143 := Tryz.func176.trans (congrArg some (by kernel_rfl))
 f144 := Tryz.func143.trans (congrArg some (by kernel_rfl))
 f217 := Tryz.func208.trans (congrArg some (by kernel_rfl))
 f219 := Tryz.func196.trans (congrArg some (by kernel_rfl))
 f224 := Tryz.func210.trans (congrArg some (by kernel_rfl))
 f225 := Tryz.func209.trans (congrArg some (by kernel_rfl))
 f266 := Tryz.func220.trans (congrArg some (by kernel_rfl))
 f267 := Tryz.func211.trans (congrArg some (by kernel_rfl))
 f314 := Tryz.func221.trans (congrArg some (by kernel_rfl))
 t3 := Tryz.underlying3
 a3 := Tryz.isAgg3
 z3 := Tryz.sizeOf3
 v3 := Tryz.zeroValue3
 t4 := Tryz.underlying4
 a4 := Tryz.isAgg4
 z4 := Tryz.sizeOf4
 v4 := Tryz.zeroValue4
 t5 := Tryz.underlying5
 a5 := Tryz.isAgg5
 z5 := Tryz.sizeOf5
 v5 := Tryz.zeroValue5
 t9 := Tryz.underlying9
 a9 := Tryz.isAgg9
 z9 := Tryz.sizeOf9
 v9 := Tryz.zeroValue9
 t46 := Tryz.underlying175
 a46 := Tryz.isAgg175
 z46 := Tryz.sizeOf175
 v46 := Tryz.zeroValue175
 t51 := Tryz.underlying198
 a51 := Tryz.isAgg198
 z51 := Tryz.sizeOf198
 v51 := Tryz.zeroValue198
 t146 := Tryz.underlying199
 a146 := Tryz.isAgg199
 z146 := Tryz.sizeOf199
 v146 := Tryz.zeroValue199
 g1 := by kernel_rfl
 i3 := by kernel_rfl
 i4 := by kernel_rfl
 i5 := by kernel_rfl
 i9 := by kernel_rfl
 i46 := by kernel_rfl
 i51 := by kernel_rfl
 i146 := by kernel_rfl
 m1 := by kernel_rfl
 s1_3 := fun w h => Go.Proofs.cell_of_shapedOpen_int (zero := #[.int .i64 0]) (t := 3) h (of_decide_eq_true (by kernel_rfl)) (by kernel_rfl) rfl (by kernel_rfl) (by kernel_rfl) Tryz.underlying3 }
end Go.Proofs

/- What the listed variables of CodingSpreads hold. -/
namespace Go.Proofs.YtpinlcapgoljfaaGreatDoor
open Go.RowKit

/-- The list of the row. -/
abbrev laidS : List (String × DataW Unit) := [("math/bits.deBruijn32tab", Rows.laid_math_bits_deBruijn32tab), ("math/bits.deBruijn64tab", Rows.laid_math_bits_deBruijn64tab), ("internal/strconv.uint64pow10", Rows.laid_internal_strconv_uint64pow10), ("unicode/utf8.acceptRanges", Rows.laid_unicode_utf8_acceptRanges), ("unicode.White_Space", Rows.laid_unicode_White_Space), ("strings.asciiSpace", Rows.laid_strings_asciiSpace), ("unicode/utf8.first", Rows.laid_unicode_utf8_first)]
theorem cell_of_varS {W : World} {g : Nat} {name : String} {cs : Array Value} (hg : Tryz.prog.globalNamed name = some g) (h : W.var? Tryz.prog name = some cs) (i : Nat) : W.cell? ⟨g, i, none⟩ = cs[i]? := by
 unfold World.var? at h;rw [hg] at h;simp only [Option.bind_some] at h
 split at h
 ·rename_i hh
  injection h with h
  subst h;exact cell_of_row W g i _ _ _ hh
 ·cases h
set_option maxRecDepth 100000 in
theorem ascS_of {W : World} (hL : laidMet Tryz.prog laidS W) : Asc W := by
 have h1 := Lib.tabIs_of_head (k := .u8) (zs := litsZv Rows.laid_strings_asciiSpace) (g := 2) (name := "strings.asciiSpace") (P := Tryz.prog) (W := W) (n := 256) (t := 226) (e := 5) (by kernel_rfl) (by kernel_rfl) (by kernel_rfl) (by kernel_rfl) (by kernel_rfl) (by kernel_rfl) hL.tail.tail.tail.tail.tail;rw [ascZ] at h1;exact h1
theorem debS_of {W : World} (hL : laidMet Tryz.prog laidS W) : Deb W := by
 have h1 := Lib.tabIs_of_head (k := .u8) (zs := litsZv Rows.laid_math_bits_deBruijn64tab) (g := 7) (name := "math/bits.deBruijn64tab") (P := Tryz.prog) (W := W) (n := 64) (t := 278) (e := 5) (by kernel_rfl) (by kernel_rfl) (by kernel_rfl) (by kernel_rfl) (by kernel_rfl) (by kernel_rfl) hL.tail;exact (cell_of_varS (by kernel_rfl) h1 15).trans (by kernel_rfl)
theorem dFirstS : Rows.laid_unicode_utf8_first = Lib.firstData := by kernel_rfl
theorem dAcceptS : (Rows.laid_unicode_utf8_acceptRanges : DataW Unit) = Lib.acceptData := by kernel_rfl
theorem utfS_of {W : World} (hL : laidMet Tryz.prog laidS W) : Utf W :=
 utf8Tabs_of_readsT (ρ := Tryz.lays196_ren) (U8Types.of196 Tryz.lays196) ⟨by kernel_rfl, by kernel_rfl, by kernel_rfl, by kernel_rfl, by kernel_rfl, by kernel_rfl, by kernel_rfl⟩
  (dFirstS ▸ Lib.laidMet.reads hL (by simp [laidS])) (dAcceptS ▸ Lib.laidMet.reads hL (by simp [laidS]))
theorem envS_of {W : World} (hL : laidMet Tryz.prog laidS W) (h : W.ShapedOpen Tryz.prog) : Env W := ⟨utfS_of hL, Tryz.laysM144.s1_3 W h⟩

end Go.Proofs.YtpinlcapgoljfaaGreatDoor
