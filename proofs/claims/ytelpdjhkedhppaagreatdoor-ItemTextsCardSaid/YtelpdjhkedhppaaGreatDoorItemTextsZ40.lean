/- Texts of the proof of ItemTexts, put together: ItmL, ItmM, EscA, LaySyn, EscB, UnqA, UnqB, QuoS, RngI, ItlP, ItxP, IhdP, LayWra, LayAto, LayIto, NumW. -/
import Derived.Test.YtelpdjhkedhppaaGreatDoorItemTextsZ11
import Derived.Test.YtelpdjhkedhppaaGreatDoorItemTextsZ19
import Derived.Test.YtelpdjhkedhppaaGreatDoorItemTextsZ21
import Derived.Test.YtelpdjhkedhppaaGreatDoorItemTextsZ22
import Derived.Test.YtelpdjhkedhppaaGreatDoorItemTextsZ23
import Derived.Test.YtelpdjhkedhppaaGreatDoorItemTextsZ27
import Derived.Test.YtelpdjhkedhppaaGreatDoorItemTextsZ31
import Derived.Test.YtelpdjhkedhppaaGreatDoorItemTextsZ36
import Derived.Test.YtelpdjhkedhppaaGreatDoorItemTextsZ39
import Derived.Lib.ConvBytes
import Derived.Ground.NamesProg
import Derived.Shelf.Strconv.SyntaxError
import Derived.Shelf.LaysM
import Derived.Test.YtelpdjhkedhppaaGreatDoorProg
import Derived.Shelf.Strings.Prefix
import Derived.Laws.BytesArg
import Derived.Lib.Join
import Derived.Lib.ItoaLen
import Derived.Shelf.Small.Wraps
import Derived.Shelf.Strconv.Atoi
import Derived.Shelf.Strconv.Itoa3
import Derived.Lib.SmallJoins
import Derived.Lib.QuietBelow
set_option linter.unusedVariables false
set_option linter.unusedSimpArgs false
set_option maxRecDepth 100000
/- The generators of items: RightItems. -/
namespace Go.Proofs.YtelpdjhkedhppaaGreatDoor
open Go.RowKit
theorem own_form7 {w : World} {base n size : Nat} {e : TypeId} {v : Value} {xs : List Value} (h : w.ownsRow base e size v n xs) (hn : 0 < n) : ∃ g cap, v = .slice (some ⟨g, 0, none⟩) n cap ∧ base ≤ g ∧ g < w.heap.size ∧ n ≤ cap ∧ cap ≤ 9223372036854775807 := by
 rcases h.2 with ⟨rfl, h0⟩ | ⟨g, cap, cur, rfl, hg, hh, hc, hcm, _⟩
 ·omega
 ·exact ⟨g, cap, rfl, hg, lt_of_heap hh, hc, by simpa [maxLen] using hcm⟩
theorem info_item7 : (Tryz.prog.info? 40).map (fun i => (i.zero, i.size, i.bytes)) = some (some itZ, 7, 96) := by kernel_rfl
def OwnI (w : World) (base g n cap : Nat) (xs : List Itm) : Prop := w.ownsRow base 40 7 (.slice (some ⟨g, 0, none⟩) n cap) n (itV xs)
theorem OwnI.len {w : World} {base g n cap : Nat} {xs : List Itm} (h : OwnI w base g n cap xs) : xs.length = n := by
 have := h.1;rw [itV_len] at this
 omega
theorem OwnI.its {w : World} {base g n cap : Nat} {xs : List Itm} (h : OwnI w base g n cap xs) : Its w (.slice (some ⟨g, 0, none⟩) n cap) xs := Sl.of_own h
theorem OwnI.mod {w w' : World} {base g n cap : Nat} {xs : List Itm} {S : Nat → Prop} (h : OwnI w base g n cap xs) (hm : Mod S w w') (hs : ¬ S g) : OwnI w' base g n cap xs := own_mod h hm (fun k hk => by injection hk with hk; rw [← hk]; exact hs)
theorem OwnI.ge {w : World} {base g n cap : Nat} {xs : List Itm} (h : OwnI w base g n cap xs) : base ≤ g ∧ g < w.heap.size := World.ownsRow.lt h g rfl
theorem OwnI.cells {w : World} {base g n cap k : Nat} {xs : List Itm} (h : OwnI w base g n cap xs) (hk : k < xs.length) :
  w.cell? ⟨g, k * 7, none⟩ = some (.string ⟨xs[k].id.toArray⟩) ∧ w.cell? ⟨g, k * 7 + 1, none⟩ = some (.string ⟨xs[k].cust.toArray⟩) ∧ w.cell? ⟨g, k * 7 + 2, none⟩ = some (.int .i64 xs[k].kind) ∧
  w.cell? ⟨g, k * 7 + 3, none⟩ = some (.string ⟨xs[k].name.toArray⟩) ∧ w.cell? ⟨g, k * 7 + 4, none⟩ = some (.int .i64 xs[k].tm) ∧ w.cell? ⟨g, k * 7 + 5, none⟩ = some (.string ⟨xs[k].par.toArray⟩) ∧ w.cell? ⟨g, k * 7 + 6, none⟩ = some (.string ⟨xs[k].text.toArray⟩) := by
 have hn := h.len;obtain ⟨h0, h1, h2, h3, h4, h5, h6⟩ := itV_get xs k hk;exact ⟨(World.ownsRow.cellAt h _ (by omega)).trans h0, (World.ownsRow.cellAt h _ (by omega)).trans h1, (World.ownsRow.cellAt h _ (by omega)).trans h2, (World.ownsRow.cellAt h _ (by omega)).trans h3, (World.ownsRow.cellAt h _ (by omega)).trans h4, (World.ownsRow.cellAt h _ (by omega)).trans h5, (World.ownsRow.cellAt h _ (by omega)).trans h6⟩
theorem OwnI.frozen {w : World} {base g n cap : Nat} {xs : List Itm} (h : OwnI w base g n cap xs) (j : Nat) : w.frozen? ⟨g, j, none⟩ = false := World.ownsRow.frozenAt h j
theorem itV_set : ∀ (xs : List Itm) (k : Nat) (y : Itm) (d : Nat) (u : Value), k < xs.length → d < 7 → (itC (xs.getD k y)).set d u = itC y → (itV xs).set (k * 7 + d) u = itV (xs.set k y)
 | [], k, y, d, u, hk, _, _ => absurd hk (by simp)
 | x :: xs, 0, y, d, u, _, hd, h => by
  have hl : (itC x).length = 7 := rfl;simp only [List.getD_cons_zero] at h;simp only [itV, List.flatMap_cons, Nat.zero_mul, Nat.zero_add, List.set_cons_zero];rw [List.set_append, if_pos (by rw [hl]; exact hd), h]
 | x :: xs, k + 1, y, d, u, hk, hd, h => by
  have hl : (itC x).length = 7 := rfl;have := itV_set xs k y d u (by simpa using hk) hd (by simpa using h);simp only [itV, List.flatMap_cons, List.set_cons_succ] at this ⊢;rw [List.set_append, if_neg (by rw [hl]; omega), hl, show (k + 1) * 7 + d - 7 = k * 7 + d by omega, this]
theorem OwnI.setPar {w : World} {base g n cap k : Nat} {xs : List Itm} (h : OwnI w base g n cap xs) (hk : k < xs.length) (s : Str) : OwnI (w.setCell ⟨g, k * 7 + 5, none⟩ (.string ⟨s.toArray⟩)) base g n cap (xs.set k { xs[k] with par := s }) := by
 have h1 := (World.ownsRow.stored h (k * 7 + 5) (.string ⟨s.toArray⟩)).1;rw [itV_set xs k { xs[k] with par := s } 5 _ hk (by omega) (by simp [List.getD, hk, itC])] at h1;exact h1
theorem OwnI.setKind {w : World} {base g n cap k : Nat} {xs : List Itm} (h : OwnI w base g n cap xs) (hk : k < xs.length) (z : Int) : OwnI (w.setCell ⟨g, k * 7 + 2, none⟩ (.int .i64 z)) base g n cap (xs.set k { xs[k] with kind := z }) := by
 have h1 := (World.ownsRow.stored h (k * 7 + 2) (.int .i64 z)).1;rw [itV_set xs k { xs[k] with kind := z } 2 _ hk (by omega) (by simp [List.getD, hk, itC])] at h1;exact h1
theorem set_all {xs : List Itm} {k : Nat} {y : Itm} (h : ∀ x ∈ xs, ItG x) (hy : ItG y) : ∀ x ∈ xs.set k y, ItG x := fun x hx => by
 rcases List.mem_or_eq_of_mem_set hx with hx | rfl
 ·exact h x hx
 ·exact hy
theorem ItG.par {x : Itm} (h : ItG x) {s : Str} (hs : s.length ≤ 30000) : ItG { x with par := s } := ⟨h.1, h.2.1, h.2.2.1, hs, h.2.2.2.2⟩
theorem ItG.kind {x : Itm} (h : ItG x) (z : Int) : ItG { x with kind := z } := ⟨h.1, h.2.1, h.2.2.1, h.2.2.2.1, h.2.2.2.2⟩
theorem ItB.par {x : Itm} (h : ItB x) {s : Str} (hs : s.length ≤ 30000) : ItB { x with par := s } := ⟨h.1, h.2.1, h.2.2.1, hs, h.2.2.2.2⟩
theorem ItB.kind {x : Itm} (h : ItB x) (z : Int) : ItB { x with kind := z } := ⟨h.1, h.2.1, h.2.2.1, h.2.2.2.1, h.2.2.2.2⟩
theorem le_nilI : ∀ x ∈ ([] : List Itm), ItG x := fun x hx => absurd hx (by simp)
def ItemsPostG (w : World) (b N m : Nat) (e : Ending) (w' : World) : Prop :=
 ∃ (v : Value) (xs : List Itm), e = .returned v ∧ xs.length ≤ m ∧ (∀ x ∈ xs, ItG x) ∧ w'.ownsRow w.heap.size 40 7 v xs.length (itV xs) ∧ Strm w' b N ∧ Mod (· = b) w w'
def Ri1 (w : World) (b N m gk : Nat) (ov i : Value) (wr : World) : Prop :=
 ∃ (j : Nat) (xs : List Itm) (A : Option Addr) (cap : Nat), m - j = gk ∧ j ≤ m ∧ ov = .slice A xs.length cap ∧ i = .int .i64 (j : Int) ∧ xs.length ≤ j ∧ (∀ x ∈ xs, ItG x) ∧ wr.ownsRow w.heap.size 40 7 (.slice A xs.length cap) xs.length (itV xs) ∧ Strm wr b (N + 140 * j) ∧ Mod (· = b) w wr ∧ w.heap.size ≤ wr.heap.size
def Ri2 (w : World) (b N base g n cap gk : Nat) (i : Value) (wr : World) : Prop :=
 ∃ (j : Nat) (xs : List Itm), n - j = gk ∧ j ≤ n ∧ i = .int .i64 (j : Int) ∧ (∀ x ∈ xs, ItG x) ∧ OwnI wr base g n cap xs ∧ Strm wr b (N + 2 * j) ∧ Mod (· = b) w wr
set_option maxHeartbeats 8000000 in
theorem rightItems_callsG (w : World) (b N m : Nat) (hS : Strm w b N) (hN : N ≤ 700000000) (hm : m ≤ 20) (hE : ∀ W, Mod (· = b) w W → Env W) : Calls Tryz.prog 13 #[.pointer (some ⟨b, 0, none⟩), .int .i64 (m : Int)] w (ItemsPostG w b (N + 142 * m) m) := by
 obtain ⟨i0, hi0, hz0, hz1, hz2⟩ := info_parts info_item7;have HE := Lib.hid hE;have hbl := hS.lt;clear hE;have m0 : Mod (· = b) w w := Mod.refl _ _
 go_enter Tryz.func13, Tryz.ntmps13
 go_wp2_with fail
 go_loopg [5, 12] m (fun gk ov i wr => Ri1 w b N m gk ov i wr)
 case atStart => exact ⟨0, [], none, 0, rfl, by omega, rfl, rfl, by simp, le_nilI, ⟨rfl, .inl ⟨rfl, rfl⟩⟩, hS.more (by omega), m0, Nat.le_refl _⟩
 case round =>
  clear hS m0;obtain ⟨j, xs, A, cap, rfl, hj, rfl, rfl, hxj, hxz, hown, hS, hmm, hsz⟩ := hrel
  by_cases hlt : j < m
  ·have HXZ := Lib.hid hxz;clear hxz
   go_wp2_with fail
   refine (itemId_calls _ j (by omega)).mono ?_;rintro e w1 ⟨rfl, hm1⟩;have hS1 := hS.pure hm1;have m1 := hmm.transp hm1;have own1 := own_pure hown hm1;have hsz1 := hm1.size;clear hS hmm hown hm1
   go_wp2_with fail
   refine (item_callsG _ b _ (itS j) hS1 (by omega) (by simp [itS])).mono ?_;rintro e w2 ⟨x, hx, rfl, hS2, hM2⟩;have hb2 := own_block own1;have own2 := own_mod own1 hM2 (fun k hk => by have := hb2 k hk; omega);have m2 := m1.trans hM2;have hsz2 := hM2.size;clear hS1 m1 own1 hM2 hb2;have HB0 := Lib.hid (Blk.new w2 40 (itQ x));have Hm0 := Lib.hid (pure_alloc w2 (.cells (itQ x) 40));obtain ⟨bo, hbo⟩ : ∃ bo, (x.id == itS j) = bo := ⟨_, rfl⟩;have HBO := Lib.hid hbo;obtain ⟨e1, he1⟩ : ∃ e1, itemE x = e1 := ⟨_, rfl⟩;have HIF := Lib.hid (fun W (h : Mod (· = b) w W) => itemFault_calls W x hx.b (HE.out W h));rw [he1] at HIF;have HX := Lib.hid hx;clear hbo he1 hx;have HID := Lib.hid (fun W => itemId_calls W j (by omega));generalize itS j = ij at *;unfold itA at HIF ⊢;unfold itQ at HB0 Hm0
   go_upto_region 6 with (fail)
   generalize (w2.alloc (.cells #[.string ⟨x.id.toArray⟩, .string ⟨x.cust.toArray⟩, .int .i64 x.kind, .string ⟨x.name.toArray⟩, .int .i64 x.tm, .string ⟨x.par.toArray⟩, .string ⟨x.text.toArray⟩] 40)) = WS at *;generalize hgs : w2.heap.size = gs at *;have hgs1 := Nat.le_of_eq hgs;have hgs2 := Nat.le_of_eq hgs.symm;clear hgs;obtain ⟨bad, hbad⟩ : ∃ bad, bad = (!bo || (!x.par.isEmpty || (e1 != 0))) := ⟨_, rfl⟩;have HBAD := Lib.hid hbad;clear hbad
   go_cut [33] (fun p wx => p = .bool bad ∧ Blk wx gs 40 #[.string ⟨x.id.toArray⟩, .string ⟨x.cust.toArray⟩, .int .i64 x.kind, .string ⟨x.name.toArray⟩, .int .i64 x.tm, .string ⟨x.par.toArray⟩, .string ⟨x.text.toArray⟩] ∧ Pure w2 wx)
   case first =>
    cases bo
    ·obtain rfl : bad = true := by rw [HBAD.out]; rfl
     have HGs := Lib.hid (show ∀ (D : Nat → Bool) (zzi : Nat) (zq zq' : World), (fun _ zq => (fun Z => Blk Z gs 40 #[.string ⟨x.id.toArray⟩, .string ⟨x.cust.toArray⟩, .int .i64 x.kind, .string ⟨x.name.toArray⟩, .int .i64 x.tm, .string ⟨x.par.toArray⟩, .string ⟨x.text.toArray⟩]) zq) D zq → Mod (fun _ => False) zq zq' → (fun _ zq => (fun Z => Blk Z gs 40 #[.string ⟨x.id.toArray⟩, .string ⟨x.cust.toArray⟩, .int .i64 x.kind, .string ⟨x.name.toArray⟩, .int .i64 x.tm, .string ⟨x.par.toArray⟩, .string ⟨x.text.toArray⟩]) zq) (upd D zzi true) zq' from by intro D zzi zq zq' h hm; (exact h.modp hm))
     refine wp_region_inv (by kernel_rfl) (by kernel_rfl) (InvF (R := Mod (fun _ => False)) [.is (.pointer (some ⟨gs, 0, none⟩)),
       .is (.string ⟨x.id.toArray⟩),
       .is (.int .i64 (j : Int)),
       .is (.string ⟨ij.toArray⟩),
       .is (.bool true),
       .is (.bool true),
       .is (undef),
       .is (undef),
       .is (undef),
       .is (.bool true),
       .is (.bool true),
       .is (undef),
       .is (undef),
       .is (undef),
       .is (.bool true)]
       (PB w2 (fun _ => False) WS.heap.size (fun _ zq => (fun Z => Blk Z gs 40 #[.string ⟨x.id.toArray⟩, .string ⟨x.cust.toArray⟩, .int .i64 x.kind, .string ⟨x.name.toArray⟩, .int .i64 x.tm, .string ⟨x.par.toArray⟩, .string ⟨x.text.toArray⟩]) zq))) (InvF.start (PB.start Hm0.out (Nat.le_refl _) (HB0.out.drew))) ?_ ?_
     ·refine .cons ?_ (.cons ?_ (.cons ?_ (.cons ?_ (.cons ?_ (.cons ?_ (.cons ?_ (.cons ?_ (.cons ?_ (.cons ?_ (.cons ?_ (.cons ?_ (.cons ?_ (.cons ?_ (.cons ?_ .nil))))))))))))))
      ·intro D V zw1 a hR hI K hK;obtain ⟨hM1, hB1, hG1⟩ := hI.1;have ze7 := hR.frame.other (t := 7) (by kernel_rfl) rfl;rw [if_pos (by rfl)];go_simp;exact hK (.pointer (some ⟨gs, 0, none⟩)) _ (hI.next hR (by kernel_rfl) (Mod.refl _ _) (PB.quiet hI.1 (Mod.refl _ _) (HGs.out D 0 zw1 zw1 (hI.1).g (Mod.refl _ _))) (upd_same V 0 _))
      ·intro D V zw1 a hR hI K hK;obtain ⟨hM1, hB1, hG1⟩ := hI.1;have zd0 := hR.pred 0 (by kernel_rfl);have zf0 : V 0 = .pointer (some ⟨gs, 0, none⟩) := hI.2 0 zd0 rfl;have ze19 := hR.frame.done (t := 19) (j := 0) (by kernel_rfl) hR.ok zd0;have zx0 := hG1.cell 0; have zx1 := hG1.cell 1; have zx2 := hG1.cell 2; have zx3 := hG1.cell 3; have zx4 := hG1.cell 4; have zx5 := hG1.cell 5; have zx6 := hG1.cell 6;simp at zx0 zx1 zx2 zx3 zx4 zx5 zx6;rw [if_pos (by rfl)];go_simp;exact hK (.string ⟨x.id.toArray⟩) _ (hI.next hR (by kernel_rfl) (Mod.refl _ _) (PB.quiet hI.1 (Mod.refl _ _) (HGs.out D 1 zw1 zw1 (hI.1).g (Mod.refl _ _))) (upd_same V 1 _))
      ·intro D V zw1 a hR hI K hK;obtain ⟨hM1, hB1, hG1⟩ := hI.1;have ze6 := hR.frame.other (t := 6) (by kernel_rfl) rfl;rw [if_pos (by rfl)];go_simp;exact hK (.int .i64 (j : Int)) _ (hI.next hR (by kernel_rfl) (Mod.refl _ _) (PB.quiet hI.1 (Mod.refl _ _) (HGs.out D 2 zw1 zw1 (hI.1).g (Mod.refl _ _))) (upd_same V 2 _))
      ·intro D V zw1 a hR hI K hK;obtain ⟨hM1, hB1, hG1⟩ := hI.1;have zd2 := hR.pred 2 (by kernel_rfl);have zf2 : V 2 = .int .i64 (j : Int) := hI.2 2 zd2 rfl;have ze21 := hR.frame.done (t := 21) (j := 2) (by kernel_rfl) hR.ok zd2;rw [if_pos (by rfl)];go_simp;refine (HID.out _).mono ?_;rintro e zw2 ⟨rfl, hm2⟩;exact hK (.string ⟨ij.toArray⟩) _ (hI.next hR (by kernel_rfl) hm2 (PB.quiet hI.1 hm2 (HGs.out D 3 _ _ (hI.1).g hm2)) (upd_same V 3 _))
      ·intro D V zw1 a hR hI K hK;obtain ⟨hM1, hB1, hG1⟩ := hI.1;have zd1 := hR.pred 1 (by kernel_rfl);have zf1 : V 1 = .string ⟨x.id.toArray⟩ := hI.2 1 zd1 rfl;have zd3 := hR.pred 3 (by kernel_rfl);have zf3 : V 3 = .string ⟨ij.toArray⟩ := hI.2 3 zd3 rfl;have ze20 := hR.frame.done (t := 20) (j := 1) (by kernel_rfl) hR.ok zd1;have ze22 := hR.frame.done (t := 22) (j := 3) (by kernel_rfl) hR.ok zd3;have hbo := HBO.out;rw [if_pos (by rfl)];go_simp;exact hK (.bool true) _ (hI.next hR (by kernel_rfl) (Mod.refl _ _) (PB.quiet hI.1 (Mod.refl _ _) (HGs.out D 4 zw1 zw1 (hI.1).g (Mod.refl _ _))) (upd_same V 4 _))
      ·intro D V zw1 a hR hI K hK;obtain ⟨hM1, hB1, hG1⟩ := hI.1;have zd4 := hR.pred 4 (by kernel_rfl);have zf4 : V 4 = .bool true := hI.2 4 zd4 rfl;have ze23 := hR.frame.done (t := 23) (j := 4) (by kernel_rfl) hR.ok zd4;rw [if_pos (by rfl)];go_simp;exact hK (.bool true) _ (hI.next hR (by kernel_rfl) (Mod.refl _ _) (PB.quiet hI.1 (Mod.refl _ _) (HGs.out D 5 zw1 zw1 (hI.1).g (Mod.refl _ _))) (upd_same V 5 _))
      ·intro D V zw1 a hR hI K hK;obtain ⟨hM1, hB1, hG1⟩ := hI.1;have zd5 := hR.pred 5 (by kernel_rfl);have zf5 : V 5 = .bool true := hI.2 5 zd5 rfl;have ze24 := hR.frame.done (t := 24) (j := 5) (by kernel_rfl) hR.ok zd5;rw [if_neg (by simp [Region.wanted, yielded, ze24, zf5])];exact hK undef _ (hI.next hR (by kernel_rfl) (Mod.refl _ _) (PB.quiet hI.1 (Mod.refl _ _) (HGs.out D 6 zw1 zw1 (hI.1).g (Mod.refl _ _))) (upd_same V 6 _))
      ·intro D V zw1 a hR hI K hK;obtain ⟨hM1, hB1, hG1⟩ := hI.1;have zd5 := hR.pred 5 (by kernel_rfl);have zf5 : V 5 = .bool true := hI.2 5 zd5 rfl;have ze24 := hR.frame.done (t := 24) (j := 5) (by kernel_rfl) hR.ok zd5;rw [if_neg (by simp [Region.wanted, yielded, ze24, zf5])];exact hK undef _ (hI.next hR (by kernel_rfl) (Mod.refl _ _) (PB.quiet hI.1 (Mod.refl _ _) (HGs.out D 7 zw1 zw1 (hI.1).g (Mod.refl _ _))) (upd_same V 7 _))
      ·intro D V zw1 a hR hI K hK;obtain ⟨hM1, hB1, hG1⟩ := hI.1;have zd5 := hR.pred 5 (by kernel_rfl);have zf5 : V 5 = .bool true := hI.2 5 zd5 rfl;have ze24 := hR.frame.done (t := 24) (j := 5) (by kernel_rfl) hR.ok zd5;rw [if_neg (by simp [Region.wanted, yielded, ze24, zf5])];exact hK undef _ (hI.next hR (by kernel_rfl) (Mod.refl _ _) (PB.quiet hI.1 (Mod.refl _ _) (HGs.out D 8 zw1 zw1 (hI.1).g (Mod.refl _ _))) (upd_same V 8 _))
      ·intro D V zw1 a hR hI K hK;obtain ⟨hM1, hB1, hG1⟩ := hI.1;have zd5 := hR.pred 5 (by kernel_rfl);have zf5 : V 5 = .bool true := hI.2 5 zd5 rfl;have zd8 := hR.pred 8 (by kernel_rfl);have zf8 : V 8 = undef := hI.2 8 zd8 rfl;have ze24 := hR.frame.done (t := 24) (j := 5) (by kernel_rfl) hR.ok zd5;have ze27 := hR.frame.done (t := 27) (j := 8) (by kernel_rfl) hR.ok zd8;rw [if_pos (by rfl)];go_simp;exact hK (.bool true) _ (hI.next hR (by kernel_rfl) (Mod.refl _ _) (PB.quiet hI.1 (Mod.refl _ _) (HGs.out D 9 zw1 zw1 (hI.1).g (Mod.refl _ _))) (upd_same V 9 _))
      ·intro D V zw1 a hR hI K hK;obtain ⟨hM1, hB1, hG1⟩ := hI.1;have zd9 := hR.pred 9 (by kernel_rfl);have zf9 : V 9 = .bool true := hI.2 9 zd9 rfl;have ze28 := hR.frame.done (t := 28) (j := 9) (by kernel_rfl) hR.ok zd9;rw [if_pos (by rfl)];go_simp;exact hK (.bool true) _ (hI.next hR (by kernel_rfl) (Mod.refl _ _) (PB.quiet hI.1 (Mod.refl _ _) (HGs.out D 10 zw1 zw1 (hI.1).g (Mod.refl _ _))) (upd_same V 10 _))
      ·intro D V zw1 a hR hI K hK;obtain ⟨hM1, hB1, hG1⟩ := hI.1;have zd10 := hR.pred 10 (by kernel_rfl);have zf10 : V 10 = .bool true := hI.2 10 zd10 rfl;have ze29 := hR.frame.done (t := 29) (j := 10) (by kernel_rfl) hR.ok zd10;rw [if_neg (by simp [Region.wanted, yielded, ze29, zf10])];exact hK undef _ (hI.next hR (by kernel_rfl) (Mod.refl _ _) (PB.quiet hI.1 (Mod.refl _ _) (HGs.out D 11 zw1 zw1 (hI.1).g (Mod.refl _ _))) (upd_same V 11 _))
      ·intro D V zw1 a hR hI K hK;obtain ⟨hM1, hB1, hG1⟩ := hI.1;have zd10 := hR.pred 10 (by kernel_rfl);have zf10 : V 10 = .bool true := hI.2 10 zd10 rfl;have ze29 := hR.frame.done (t := 29) (j := 10) (by kernel_rfl) hR.ok zd10;rw [if_neg (by simp [Region.wanted, yielded, ze29, zf10])];exact hK undef _ (hI.next hR (by kernel_rfl) (Mod.refl _ _) (PB.quiet hI.1 (Mod.refl _ _) (HGs.out D 12 zw1 zw1 (hI.1).g (Mod.refl _ _))) (upd_same V 12 _))
      ·intro D V zw1 a hR hI K hK;obtain ⟨hM1, hB1, hG1⟩ := hI.1;have zd10 := hR.pred 10 (by kernel_rfl);have zf10 : V 10 = .bool true := hI.2 10 zd10 rfl;have ze29 := hR.frame.done (t := 29) (j := 10) (by kernel_rfl) hR.ok zd10;rw [if_neg (by simp [Region.wanted, yielded, ze29, zf10])];exact hK undef _ (hI.next hR (by kernel_rfl) (Mod.refl _ _) (PB.quiet hI.1 (Mod.refl _ _) (HGs.out D 13 zw1 zw1 (hI.1).g (Mod.refl _ _))) (upd_same V 13 _))
      ·intro D V zw1 a hR hI K hK;obtain ⟨hM1, hB1, hG1⟩ := hI.1;have zd10 := hR.pred 10 (by kernel_rfl);have zf10 : V 10 = .bool true := hI.2 10 zd10 rfl;have zd13 := hR.pred 13 (by kernel_rfl);have zf13 : V 13 = undef := hI.2 13 zd13 rfl;have ze29 := hR.frame.done (t := 29) (j := 10) (by kernel_rfl) hR.ok zd10;have ze32 := hR.frame.done (t := 32) (j := 13) (by kernel_rfl) hR.ok zd13;rw [if_pos (by rfl)];go_simp;exact hK (.bool true) _ (hI.next hR (by kernel_rfl) (Mod.refl _ _) (PB.quiet hI.1 (Mod.refl _ _) (HGs.out D 14 zw1 zw1 (hI.1).g (Mod.refl _ _))) (upd_same V 14 _))
     ·intro D V w3 hD hI;obtain ⟨hM1, hB1, hG1⟩ := hI.1;have hMx := hM1;clear hM1;have hBx := hB1;clear hB1;have hGx := hG1;clear hG1;have zf0 : V 0 = .pointer (some ⟨gs, 0, none⟩) := hI.2 0 (hD 0 (by decide)) rfl;have zf1 : V 1 = .string ⟨x.id.toArray⟩ := hI.2 1 (hD 1 (by decide)) rfl;have zf2 : V 2 = .int .i64 (j : Int) := hI.2 2 (hD 2 (by decide)) rfl;have zf3 : V 3 = .string ⟨ij.toArray⟩ := hI.2 3 (hD 3 (by decide)) rfl;have zf4 : V 4 = .bool true := hI.2 4 (hD 4 (by decide)) rfl;have zf5 : V 5 = .bool true := hI.2 5 (hD 5 (by decide)) rfl;have zf6 : V 6 = undef := hI.2 6 (hD 6 (by decide)) rfl;have zf7 : V 7 = undef := hI.2 7 (hD 7 (by decide)) rfl;have zf8 : V 8 = undef := hI.2 8 (hD 8 (by decide)) rfl;have zf9 : V 9 = .bool true := hI.2 9 (hD 9 (by decide)) rfl;have zf10 : V 10 = .bool true := hI.2 10 (hD 10 (by decide)) rfl;have zf11 : V 11 = undef := hI.2 11 (hD 11 (by decide)) rfl;have zf12 : V 12 = undef := hI.2 12 (hD 12 (by decide)) rfl;have zf13 : V 13 = undef := hI.2 13 (hD 13 (by decide)) rfl;have zf14 : V 14 = .bool true := hI.2 14 (hD 14 (by decide)) rfl;clear hI hD HGs;simp only [frAll, Act.put, List.setIfInBounds_toArray, List.set_cons_zero, List.set_cons_succ, Nat.zero_add, Nat.reduceAdd, zf0, zf1, zf2, zf3, zf4, zf5, zf6, zf7, zf8, zf9, zf10, zf11, zf12, zf13, zf14];clear zf0 zf1 zf2 zf3 zf4 zf5 zf6 zf7 zf8 zf9 zf10 zf11 zf12 zf13 zf14;clear V D
      go_wp2_with fail
      go_meet;exact ⟨rfl, hGx, hMx⟩
    ·cases hpe : x.par.isEmpty
     ·obtain rfl : bad = true := by rw [HBAD.out, hpe]; rfl
      have HGs := Lib.hid (show ∀ (D : Nat → Bool) (zzi : Nat) (zq zq' : World), (fun _ zq => (fun Z => Blk Z gs 40 #[.string ⟨x.id.toArray⟩, .string ⟨x.cust.toArray⟩, .int .i64 x.kind, .string ⟨x.name.toArray⟩, .int .i64 x.tm, .string ⟨x.par.toArray⟩, .string ⟨x.text.toArray⟩]) zq) D zq → Mod (fun _ => False) zq zq' → (fun _ zq => (fun Z => Blk Z gs 40 #[.string ⟨x.id.toArray⟩, .string ⟨x.cust.toArray⟩, .int .i64 x.kind, .string ⟨x.name.toArray⟩, .int .i64 x.tm, .string ⟨x.par.toArray⟩, .string ⟨x.text.toArray⟩]) zq) (upd D zzi true) zq' from by intro D zzi zq zq' h hm; (exact h.modp hm))
      refine wp_region_inv (by kernel_rfl) (by kernel_rfl) (InvF (R := Mod (fun _ => False)) [.is (.pointer (some ⟨gs, 0, none⟩)),
        .is (.string ⟨x.id.toArray⟩),
        .is (.int .i64 (j : Int)),
        .is (.string ⟨ij.toArray⟩),
        .is (.bool false),
        .is (.bool false),
        .is (.pointer (some ⟨gs, 5, none⟩)),
        .is (.string ⟨x.par.toArray⟩),
        .is (.bool true),
        .is (.bool true),
        .is (.bool true),
        .is (undef),
        .is (undef),
        .is (undef),
        .is (.bool true)]
        (PB w2 (fun _ => False) WS.heap.size (fun _ zq => (fun Z => Blk Z gs 40 #[.string ⟨x.id.toArray⟩, .string ⟨x.cust.toArray⟩, .int .i64 x.kind, .string ⟨x.name.toArray⟩, .int .i64 x.tm, .string ⟨x.par.toArray⟩, .string ⟨x.text.toArray⟩]) zq))) (InvF.start (PB.start Hm0.out (Nat.le_refl _) (HB0.out.drew))) ?_ ?_
      ·refine .cons ?_ (.cons ?_ (.cons ?_ (.cons ?_ (.cons ?_ (.cons ?_ (.cons ?_ (.cons ?_ (.cons ?_ (.cons ?_ (.cons ?_ (.cons ?_ (.cons ?_ (.cons ?_ (.cons ?_ .nil))))))))))))))
       ·intro D V zw1 a hR hI K hK;obtain ⟨hM1, hB1, hG1⟩ := hI.1;have ze7 := hR.frame.other (t := 7) (by kernel_rfl) rfl;rw [if_pos (by rfl)];go_simp;exact hK (.pointer (some ⟨gs, 0, none⟩)) _ (hI.next hR (by kernel_rfl) (Mod.refl _ _) (PB.quiet hI.1 (Mod.refl _ _) (HGs.out D 0 zw1 zw1 (hI.1).g (Mod.refl _ _))) (upd_same V 0 _))
       ·intro D V zw1 a hR hI K hK;obtain ⟨hM1, hB1, hG1⟩ := hI.1;have zd0 := hR.pred 0 (by kernel_rfl);have zf0 : V 0 = .pointer (some ⟨gs, 0, none⟩) := hI.2 0 zd0 rfl;have ze19 := hR.frame.done (t := 19) (j := 0) (by kernel_rfl) hR.ok zd0;have zx0 := hG1.cell 0; have zx1 := hG1.cell 1; have zx2 := hG1.cell 2; have zx3 := hG1.cell 3; have zx4 := hG1.cell 4; have zx5 := hG1.cell 5; have zx6 := hG1.cell 6;simp at zx0 zx1 zx2 zx3 zx4 zx5 zx6;rw [if_pos (by rfl)];go_simp;exact hK (.string ⟨x.id.toArray⟩) _ (hI.next hR (by kernel_rfl) (Mod.refl _ _) (PB.quiet hI.1 (Mod.refl _ _) (HGs.out D 1 zw1 zw1 (hI.1).g (Mod.refl _ _))) (upd_same V 1 _))
       ·intro D V zw1 a hR hI K hK;obtain ⟨hM1, hB1, hG1⟩ := hI.1;have ze6 := hR.frame.other (t := 6) (by kernel_rfl) rfl;rw [if_pos (by rfl)];go_simp;exact hK (.int .i64 (j : Int)) _ (hI.next hR (by kernel_rfl) (Mod.refl _ _) (PB.quiet hI.1 (Mod.refl _ _) (HGs.out D 2 zw1 zw1 (hI.1).g (Mod.refl _ _))) (upd_same V 2 _))
       ·intro D V zw1 a hR hI K hK;obtain ⟨hM1, hB1, hG1⟩ := hI.1;have zd2 := hR.pred 2 (by kernel_rfl);have zf2 : V 2 = .int .i64 (j : Int) := hI.2 2 zd2 rfl;have ze21 := hR.frame.done (t := 21) (j := 2) (by kernel_rfl) hR.ok zd2;rw [if_pos (by rfl)];go_simp;refine (HID.out _).mono ?_;rintro e zw2 ⟨rfl, hm2⟩;exact hK (.string ⟨ij.toArray⟩) _ (hI.next hR (by kernel_rfl) hm2 (PB.quiet hI.1 hm2 (HGs.out D 3 _ _ (hI.1).g hm2)) (upd_same V 3 _))
       ·intro D V zw1 a hR hI K hK;obtain ⟨hM1, hB1, hG1⟩ := hI.1;have zd1 := hR.pred 1 (by kernel_rfl);have zf1 : V 1 = .string ⟨x.id.toArray⟩ := hI.2 1 zd1 rfl;have zd3 := hR.pred 3 (by kernel_rfl);have zf3 : V 3 = .string ⟨ij.toArray⟩ := hI.2 3 zd3 rfl;have ze20 := hR.frame.done (t := 20) (j := 1) (by kernel_rfl) hR.ok zd1;have ze22 := hR.frame.done (t := 22) (j := 3) (by kernel_rfl) hR.ok zd3;have hbo := HBO.out;rw [if_pos (by rfl)];go_simp;exact hK (.bool false) _ (hI.next hR (by kernel_rfl) (Mod.refl _ _) (PB.quiet hI.1 (Mod.refl _ _) (HGs.out D 4 zw1 zw1 (hI.1).g (Mod.refl _ _))) (upd_same V 4 _))
       ·intro D V zw1 a hR hI K hK;obtain ⟨hM1, hB1, hG1⟩ := hI.1;have zd4 := hR.pred 4 (by kernel_rfl);have zf4 : V 4 = .bool false := hI.2 4 zd4 rfl;have ze23 := hR.frame.done (t := 23) (j := 4) (by kernel_rfl) hR.ok zd4;rw [if_pos (by rfl)];go_simp;exact hK (.bool false) _ (hI.next hR (by kernel_rfl) (Mod.refl _ _) (PB.quiet hI.1 (Mod.refl _ _) (HGs.out D 5 zw1 zw1 (hI.1).g (Mod.refl _ _))) (upd_same V 5 _))
       ·intro D V zw1 a hR hI K hK;obtain ⟨hM1, hB1, hG1⟩ := hI.1;have zd5 := hR.pred 5 (by kernel_rfl);have zf5 : V 5 = .bool false := hI.2 5 zd5 rfl;have ze7 := hR.frame.other (t := 7) (by kernel_rfl) rfl;have ze24 := hR.frame.done (t := 24) (j := 5) (by kernel_rfl) hR.ok zd5;rw [if_pos (by simp [Region.wanted, yielded, ze24, zf5])];go_simp;exact hK (.pointer (some ⟨gs, 5, none⟩)) _ (hI.next hR (by kernel_rfl) (Mod.refl _ _) (PB.quiet hI.1 (Mod.refl _ _) (HGs.out D 6 zw1 zw1 (hI.1).g (Mod.refl _ _))) (upd_same V 6 _))
       ·intro D V zw1 a hR hI K hK;obtain ⟨hM1, hB1, hG1⟩ := hI.1;have zd6 := hR.pred 6 (by kernel_rfl);have zf6 : V 6 = .pointer (some ⟨gs, 5, none⟩) := hI.2 6 zd6 rfl;have zd5 := hR.pred 5 (by kernel_rfl);have zf5 : V 5 = .bool false := hI.2 5 zd5 rfl;have ze25 := hR.frame.done (t := 25) (j := 6) (by kernel_rfl) hR.ok zd6;have zx0 := hG1.cell 0; have zx1 := hG1.cell 1; have zx2 := hG1.cell 2; have zx3 := hG1.cell 3; have zx4 := hG1.cell 4; have zx5 := hG1.cell 5; have zx6 := hG1.cell 6;simp at zx0 zx1 zx2 zx3 zx4 zx5 zx6;have ze24 := hR.frame.done (t := 24) (j := 5) (by kernel_rfl) hR.ok zd5;rw [if_pos (by simp [Region.wanted, yielded, ze24, zf5])];go_simp;exact hK (.string ⟨x.par.toArray⟩) _ (hI.next hR (by kernel_rfl) (Mod.refl _ _) (PB.quiet hI.1 (Mod.refl _ _) (HGs.out D 7 zw1 zw1 (hI.1).g (Mod.refl _ _))) (upd_same V 7 _))
       ·intro D V zw1 a hR hI K hK;obtain ⟨hM1, hB1, hG1⟩ := hI.1;have zd7 := hR.pred 7 (by kernel_rfl);have zf7 : V 7 = .string ⟨x.par.toArray⟩ := hI.2 7 zd7 rfl;have zd5 := hR.pred 5 (by kernel_rfl);have zf5 : V 5 = .bool false := hI.2 5 zd5 rfl;have ze26 := hR.frame.done (t := 26) (j := 7) (by kernel_rfl) hR.ok zd7;have ze24 := hR.frame.done (t := 24) (j := 5) (by kernel_rfl) hR.ok zd5;rw [if_pos (by simp [Region.wanted, yielded, ze24, zf5])];go_simp;exact hK (.bool true) _ (hI.next hR (by kernel_rfl) (Mod.refl _ _) (PB.quiet hI.1 (Mod.refl _ _) (HGs.out D 8 zw1 zw1 (hI.1).g (Mod.refl _ _))) (upd_same V 8 _))
       ·intro D V zw1 a hR hI K hK;obtain ⟨hM1, hB1, hG1⟩ := hI.1;have zd5 := hR.pred 5 (by kernel_rfl);have zf5 : V 5 = .bool false := hI.2 5 zd5 rfl;have zd8 := hR.pred 8 (by kernel_rfl);have zf8 : V 8 = .bool true := hI.2 8 zd8 rfl;have ze24 := hR.frame.done (t := 24) (j := 5) (by kernel_rfl) hR.ok zd5;have ze27 := hR.frame.done (t := 27) (j := 8) (by kernel_rfl) hR.ok zd8;rw [if_pos (by rfl)];go_simp;exact hK (.bool true) _ (hI.next hR (by kernel_rfl) (Mod.refl _ _) (PB.quiet hI.1 (Mod.refl _ _) (HGs.out D 9 zw1 zw1 (hI.1).g (Mod.refl _ _))) (upd_same V 9 _))
       ·intro D V zw1 a hR hI K hK;obtain ⟨hM1, hB1, hG1⟩ := hI.1;have zd9 := hR.pred 9 (by kernel_rfl);have zf9 : V 9 = .bool true := hI.2 9 zd9 rfl;have ze28 := hR.frame.done (t := 28) (j := 9) (by kernel_rfl) hR.ok zd9;rw [if_pos (by rfl)];go_simp;exact hK (.bool true) _ (hI.next hR (by kernel_rfl) (Mod.refl _ _) (PB.quiet hI.1 (Mod.refl _ _) (HGs.out D 10 zw1 zw1 (hI.1).g (Mod.refl _ _))) (upd_same V 10 _))
       ·intro D V zw1 a hR hI K hK;obtain ⟨hM1, hB1, hG1⟩ := hI.1;have zd10 := hR.pred 10 (by kernel_rfl);have zf10 : V 10 = .bool true := hI.2 10 zd10 rfl;have ze29 := hR.frame.done (t := 29) (j := 10) (by kernel_rfl) hR.ok zd10;rw [if_neg (by simp [Region.wanted, yielded, ze29, zf10])];exact hK undef _ (hI.next hR (by kernel_rfl) (Mod.refl _ _) (PB.quiet hI.1 (Mod.refl _ _) (HGs.out D 11 zw1 zw1 (hI.1).g (Mod.refl _ _))) (upd_same V 11 _))
       ·intro D V zw1 a hR hI K hK;obtain ⟨hM1, hB1, hG1⟩ := hI.1;have zd10 := hR.pred 10 (by kernel_rfl);have zf10 : V 10 = .bool true := hI.2 10 zd10 rfl;have ze29 := hR.frame.done (t := 29) (j := 10) (by kernel_rfl) hR.ok zd10;rw [if_neg (by simp [Region.wanted, yielded, ze29, zf10])];exact hK undef _ (hI.next hR (by kernel_rfl) (Mod.refl _ _) (PB.quiet hI.1 (Mod.refl _ _) (HGs.out D 12 zw1 zw1 (hI.1).g (Mod.refl _ _))) (upd_same V 12 _))
       ·intro D V zw1 a hR hI K hK;obtain ⟨hM1, hB1, hG1⟩ := hI.1;have zd10 := hR.pred 10 (by kernel_rfl);have zf10 : V 10 = .bool true := hI.2 10 zd10 rfl;have ze29 := hR.frame.done (t := 29) (j := 10) (by kernel_rfl) hR.ok zd10;rw [if_neg (by simp [Region.wanted, yielded, ze29, zf10])];exact hK undef _ (hI.next hR (by kernel_rfl) (Mod.refl _ _) (PB.quiet hI.1 (Mod.refl _ _) (HGs.out D 13 zw1 zw1 (hI.1).g (Mod.refl _ _))) (upd_same V 13 _))
       ·intro D V zw1 a hR hI K hK;obtain ⟨hM1, hB1, hG1⟩ := hI.1;have zd10 := hR.pred 10 (by kernel_rfl);have zf10 : V 10 = .bool true := hI.2 10 zd10 rfl;have zd13 := hR.pred 13 (by kernel_rfl);have zf13 : V 13 = undef := hI.2 13 zd13 rfl;have ze29 := hR.frame.done (t := 29) (j := 10) (by kernel_rfl) hR.ok zd10;have ze32 := hR.frame.done (t := 32) (j := 13) (by kernel_rfl) hR.ok zd13;rw [if_pos (by rfl)];go_simp;exact hK (.bool true) _ (hI.next hR (by kernel_rfl) (Mod.refl _ _) (PB.quiet hI.1 (Mod.refl _ _) (HGs.out D 14 zw1 zw1 (hI.1).g (Mod.refl _ _))) (upd_same V 14 _))
      ·intro D V w3 hD hI;obtain ⟨hM1, hB1, hG1⟩ := hI.1;have hMx := hM1;clear hM1;have hBx := hB1;clear hB1;have hGx := hG1;clear hG1;have zf0 : V 0 = .pointer (some ⟨gs, 0, none⟩) := hI.2 0 (hD 0 (by decide)) rfl;have zf1 : V 1 = .string ⟨x.id.toArray⟩ := hI.2 1 (hD 1 (by decide)) rfl;have zf2 : V 2 = .int .i64 (j : Int) := hI.2 2 (hD 2 (by decide)) rfl;have zf3 : V 3 = .string ⟨ij.toArray⟩ := hI.2 3 (hD 3 (by decide)) rfl;have zf4 : V 4 = .bool false := hI.2 4 (hD 4 (by decide)) rfl;have zf5 : V 5 = .bool false := hI.2 5 (hD 5 (by decide)) rfl;have zf6 : V 6 = .pointer (some ⟨gs, 5, none⟩) := hI.2 6 (hD 6 (by decide)) rfl;have zf7 : V 7 = .string ⟨x.par.toArray⟩ := hI.2 7 (hD 7 (by decide)) rfl;have zf8 : V 8 = .bool true := hI.2 8 (hD 8 (by decide)) rfl;have zf9 : V 9 = .bool true := hI.2 9 (hD 9 (by decide)) rfl;have zf10 : V 10 = .bool true := hI.2 10 (hD 10 (by decide)) rfl;have zf11 : V 11 = undef := hI.2 11 (hD 11 (by decide)) rfl;have zf12 : V 12 = undef := hI.2 12 (hD 12 (by decide)) rfl;have zf13 : V 13 = undef := hI.2 13 (hD 13 (by decide)) rfl;have zf14 : V 14 = .bool true := hI.2 14 (hD 14 (by decide)) rfl;clear hI hD HGs;simp only [frAll, Act.put, List.setIfInBounds_toArray, List.set_cons_zero, List.set_cons_succ, Nat.zero_add, Nat.reduceAdd, zf0, zf1, zf2, zf3, zf4, zf5, zf6, zf7, zf8, zf9, zf10, zf11, zf12, zf13, zf14];clear zf0 zf1 zf2 zf3 zf4 zf5 zf6 zf7 zf8 zf9 zf10 zf11 zf12 zf13 zf14;clear V D
       go_wp2_with fail
       go_meet;exact ⟨rfl, hGx, hMx⟩
     ·obtain ⟨be, hbe⟩ : ∃ be, (e1 != 0) = be := ⟨_, rfl⟩
      obtain rfl : bad = be := by rw [HBAD.out, hpe, ← hbe]; rfl
      have HGs := Lib.hid (show ∀ (D : Nat → Bool) (zzi : Nat) (zq zq' : World), (fun _ zq => (fun Z => Blk Z gs 40 #[.string ⟨x.id.toArray⟩, .string ⟨x.cust.toArray⟩, .int .i64 x.kind, .string ⟨x.name.toArray⟩, .int .i64 x.tm, .string ⟨x.par.toArray⟩, .string ⟨x.text.toArray⟩]) zq) D zq → Mod (fun _ => False) zq zq' → (fun _ zq => (fun Z => Blk Z gs 40 #[.string ⟨x.id.toArray⟩, .string ⟨x.cust.toArray⟩, .int .i64 x.kind, .string ⟨x.name.toArray⟩, .int .i64 x.tm, .string ⟨x.par.toArray⟩, .string ⟨x.text.toArray⟩]) zq) (upd D zzi true) zq' from by intro D zzi zq zq' h hm; (exact h.modp hm))
      refine wp_region_inv (by kernel_rfl) (by kernel_rfl) (InvF (R := Mod (fun _ => False)) [.is (.pointer (some ⟨gs, 0, none⟩)),
        .is (.string ⟨x.id.toArray⟩),
        .is (.int .i64 (j : Int)),
        .is (.string ⟨ij.toArray⟩),
        .is (.bool false),
        .is (.bool false),
        .is (.pointer (some ⟨gs, 5, none⟩)),
        .is (.string ⟨x.par.toArray⟩),
        .is (.bool false),
        .is (.bool false),
        .is (.bool false),
        .is (.agg #[.string ⟨x.id.toArray⟩, .string ⟨x.cust.toArray⟩, .int .i64 x.kind, .string ⟨x.name.toArray⟩, .int .i64 x.tm, .string ⟨x.par.toArray⟩, .string ⟨x.text.toArray⟩]),
        .is (.int .i64 e1),
        .is (.bool bad),
        .is (.bool bad)]
        (PB w2 (fun _ => False) WS.heap.size (fun _ zq => (fun Z => Blk Z gs 40 #[.string ⟨x.id.toArray⟩, .string ⟨x.cust.toArray⟩, .int .i64 x.kind, .string ⟨x.name.toArray⟩, .int .i64 x.tm, .string ⟨x.par.toArray⟩, .string ⟨x.text.toArray⟩]) zq))) (InvF.start (PB.start Hm0.out (Nat.le_refl _) (HB0.out.drew))) ?_ ?_
      ·refine .cons ?_ (.cons ?_ (.cons ?_ (.cons ?_ (.cons ?_ (.cons ?_ (.cons ?_ (.cons ?_ (.cons ?_ (.cons ?_ (.cons ?_ (.cons ?_ (.cons ?_ (.cons ?_ (.cons ?_ .nil))))))))))))))
       ·intro D V zw1 a hR hI K hK;obtain ⟨hM1, hB1, hG1⟩ := hI.1;have ze7 := hR.frame.other (t := 7) (by kernel_rfl) rfl;rw [if_pos (by rfl)];go_simp;exact hK (.pointer (some ⟨gs, 0, none⟩)) _ (hI.next hR (by kernel_rfl) (Mod.refl _ _) (PB.quiet hI.1 (Mod.refl _ _) (HGs.out D 0 zw1 zw1 (hI.1).g (Mod.refl _ _))) (upd_same V 0 _))
       ·intro D V zw1 a hR hI K hK;obtain ⟨hM1, hB1, hG1⟩ := hI.1;have zd0 := hR.pred 0 (by kernel_rfl);have zf0 : V 0 = .pointer (some ⟨gs, 0, none⟩) := hI.2 0 zd0 rfl;have ze19 := hR.frame.done (t := 19) (j := 0) (by kernel_rfl) hR.ok zd0;have zx0 := hG1.cell 0; have zx1 := hG1.cell 1; have zx2 := hG1.cell 2; have zx3 := hG1.cell 3; have zx4 := hG1.cell 4; have zx5 := hG1.cell 5; have zx6 := hG1.cell 6;simp at zx0 zx1 zx2 zx3 zx4 zx5 zx6;rw [if_pos (by rfl)];go_simp;exact hK (.string ⟨x.id.toArray⟩) _ (hI.next hR (by kernel_rfl) (Mod.refl _ _) (PB.quiet hI.1 (Mod.refl _ _) (HGs.out D 1 zw1 zw1 (hI.1).g (Mod.refl _ _))) (upd_same V 1 _))
       ·intro D V zw1 a hR hI K hK;obtain ⟨hM1, hB1, hG1⟩ := hI.1;have ze6 := hR.frame.other (t := 6) (by kernel_rfl) rfl;rw [if_pos (by rfl)];go_simp;exact hK (.int .i64 (j : Int)) _ (hI.next hR (by kernel_rfl) (Mod.refl _ _) (PB.quiet hI.1 (Mod.refl _ _) (HGs.out D 2 zw1 zw1 (hI.1).g (Mod.refl _ _))) (upd_same V 2 _))
       ·intro D V zw1 a hR hI K hK;obtain ⟨hM1, hB1, hG1⟩ := hI.1;have zd2 := hR.pred 2 (by kernel_rfl);have zf2 : V 2 = .int .i64 (j : Int) := hI.2 2 zd2 rfl;have ze21 := hR.frame.done (t := 21) (j := 2) (by kernel_rfl) hR.ok zd2;rw [if_pos (by rfl)];go_simp;refine (HID.out _).mono ?_;rintro e zw2 ⟨rfl, hm2⟩;exact hK (.string ⟨ij.toArray⟩) _ (hI.next hR (by kernel_rfl) hm2 (PB.quiet hI.1 hm2 (HGs.out D 3 _ _ (hI.1).g hm2)) (upd_same V 3 _))
       ·intro D V zw1 a hR hI K hK;obtain ⟨hM1, hB1, hG1⟩ := hI.1;have zd1 := hR.pred 1 (by kernel_rfl);have zf1 : V 1 = .string ⟨x.id.toArray⟩ := hI.2 1 zd1 rfl;have zd3 := hR.pred 3 (by kernel_rfl);have zf3 : V 3 = .string ⟨ij.toArray⟩ := hI.2 3 zd3 rfl;have ze20 := hR.frame.done (t := 20) (j := 1) (by kernel_rfl) hR.ok zd1;have ze22 := hR.frame.done (t := 22) (j := 3) (by kernel_rfl) hR.ok zd3;have hbo := HBO.out;rw [if_pos (by rfl)];go_simp;exact hK (.bool false) _ (hI.next hR (by kernel_rfl) (Mod.refl _ _) (PB.quiet hI.1 (Mod.refl _ _) (HGs.out D 4 zw1 zw1 (hI.1).g (Mod.refl _ _))) (upd_same V 4 _))
       ·intro D V zw1 a hR hI K hK;obtain ⟨hM1, hB1, hG1⟩ := hI.1;have zd4 := hR.pred 4 (by kernel_rfl);have zf4 : V 4 = .bool false := hI.2 4 zd4 rfl;have ze23 := hR.frame.done (t := 23) (j := 4) (by kernel_rfl) hR.ok zd4;rw [if_pos (by rfl)];go_simp;exact hK (.bool false) _ (hI.next hR (by kernel_rfl) (Mod.refl _ _) (PB.quiet hI.1 (Mod.refl _ _) (HGs.out D 5 zw1 zw1 (hI.1).g (Mod.refl _ _))) (upd_same V 5 _))
       ·intro D V zw1 a hR hI K hK;obtain ⟨hM1, hB1, hG1⟩ := hI.1;have zd5 := hR.pred 5 (by kernel_rfl);have zf5 : V 5 = .bool false := hI.2 5 zd5 rfl;have ze7 := hR.frame.other (t := 7) (by kernel_rfl) rfl;have ze24 := hR.frame.done (t := 24) (j := 5) (by kernel_rfl) hR.ok zd5;rw [if_pos (by simp [Region.wanted, yielded, ze24, zf5])];go_simp;exact hK (.pointer (some ⟨gs, 5, none⟩)) _ (hI.next hR (by kernel_rfl) (Mod.refl _ _) (PB.quiet hI.1 (Mod.refl _ _) (HGs.out D 6 zw1 zw1 (hI.1).g (Mod.refl _ _))) (upd_same V 6 _))
       ·intro D V zw1 a hR hI K hK;obtain ⟨hM1, hB1, hG1⟩ := hI.1;have zd6 := hR.pred 6 (by kernel_rfl);have zf6 : V 6 = .pointer (some ⟨gs, 5, none⟩) := hI.2 6 zd6 rfl;have zd5 := hR.pred 5 (by kernel_rfl);have zf5 : V 5 = .bool false := hI.2 5 zd5 rfl;have ze25 := hR.frame.done (t := 25) (j := 6) (by kernel_rfl) hR.ok zd6;have zx0 := hG1.cell 0; have zx1 := hG1.cell 1; have zx2 := hG1.cell 2; have zx3 := hG1.cell 3; have zx4 := hG1.cell 4; have zx5 := hG1.cell 5; have zx6 := hG1.cell 6;simp at zx0 zx1 zx2 zx3 zx4 zx5 zx6;have ze24 := hR.frame.done (t := 24) (j := 5) (by kernel_rfl) hR.ok zd5;rw [if_pos (by simp [Region.wanted, yielded, ze24, zf5])];go_simp;exact hK (.string ⟨x.par.toArray⟩) _ (hI.next hR (by kernel_rfl) (Mod.refl _ _) (PB.quiet hI.1 (Mod.refl _ _) (HGs.out D 7 zw1 zw1 (hI.1).g (Mod.refl _ _))) (upd_same V 7 _))
       ·intro D V zw1 a hR hI K hK;obtain ⟨hM1, hB1, hG1⟩ := hI.1;have zd7 := hR.pred 7 (by kernel_rfl);have zf7 : V 7 = .string ⟨x.par.toArray⟩ := hI.2 7 zd7 rfl;have zd5 := hR.pred 5 (by kernel_rfl);have zf5 : V 5 = .bool false := hI.2 5 zd5 rfl;have ze26 := hR.frame.done (t := 26) (j := 7) (by kernel_rfl) hR.ok zd7;have ze24 := hR.frame.done (t := 24) (j := 5) (by kernel_rfl) hR.ok zd5;rw [if_pos (by simp [Region.wanted, yielded, ze24, zf5])];go_simp;exact hK (.bool false) _ (hI.next hR (by kernel_rfl) (Mod.refl _ _) (PB.quiet hI.1 (Mod.refl _ _) (HGs.out D 8 zw1 zw1 (hI.1).g (Mod.refl _ _))) (upd_same V 8 _))
       ·intro D V zw1 a hR hI K hK;obtain ⟨hM1, hB1, hG1⟩ := hI.1;have zd5 := hR.pred 5 (by kernel_rfl);have zf5 : V 5 = .bool false := hI.2 5 zd5 rfl;have zd8 := hR.pred 8 (by kernel_rfl);have zf8 : V 8 = .bool false := hI.2 8 zd8 rfl;have ze24 := hR.frame.done (t := 24) (j := 5) (by kernel_rfl) hR.ok zd5;have ze27 := hR.frame.done (t := 27) (j := 8) (by kernel_rfl) hR.ok zd8;rw [if_pos (by rfl)];go_simp;exact hK (.bool false) _ (hI.next hR (by kernel_rfl) (Mod.refl _ _) (PB.quiet hI.1 (Mod.refl _ _) (HGs.out D 9 zw1 zw1 (hI.1).g (Mod.refl _ _))) (upd_same V 9 _))
       ·intro D V zw1 a hR hI K hK;obtain ⟨hM1, hB1, hG1⟩ := hI.1;have zd9 := hR.pred 9 (by kernel_rfl);have zf9 : V 9 = .bool false := hI.2 9 zd9 rfl;have ze28 := hR.frame.done (t := 28) (j := 9) (by kernel_rfl) hR.ok zd9;rw [if_pos (by rfl)];go_simp;exact hK (.bool false) _ (hI.next hR (by kernel_rfl) (Mod.refl _ _) (PB.quiet hI.1 (Mod.refl _ _) (HGs.out D 10 zw1 zw1 (hI.1).g (Mod.refl _ _))) (upd_same V 10 _))
       ·intro D V zw1 a hR hI K hK;obtain ⟨hM1, hB1, hG1⟩ := hI.1;have zd10 := hR.pred 10 (by kernel_rfl);have zf10 : V 10 = .bool false := hI.2 10 zd10 rfl;have ze7 := hR.frame.other (t := 7) (by kernel_rfl) rfl;have zx0 := hG1.cell 0; have zx1 := hG1.cell 1; have zx2 := hG1.cell 2; have zx3 := hG1.cell 3; have zx4 := hG1.cell 4; have zx5 := hG1.cell 5; have zx6 := hG1.cell 6;simp at zx0 zx1 zx2 zx3 zx4 zx5 zx6;have ze29 := hR.frame.done (t := 29) (j := 10) (by kernel_rfl) hR.ok zd10;rw [if_pos (by simp [Region.wanted, yielded, ze29, zf10])];go_simp;exact hK (.agg #[.string ⟨x.id.toArray⟩, .string ⟨x.cust.toArray⟩, .int .i64 x.kind, .string ⟨x.name.toArray⟩, .int .i64 x.tm, .string ⟨x.par.toArray⟩, .string ⟨x.text.toArray⟩]) _ (hI.next hR (by kernel_rfl) (Mod.refl _ _) (PB.quiet hI.1 (Mod.refl _ _) (HGs.out D 11 zw1 zw1 (hI.1).g (Mod.refl _ _))) (upd_same V 11 _))
       ·intro D V zw1 a hR hI K hK;obtain ⟨hM1, hB1, hG1⟩ := hI.1;have zd11 := hR.pred 11 (by kernel_rfl);have zf11 : V 11 = .agg #[.string ⟨x.id.toArray⟩, .string ⟨x.cust.toArray⟩, .int .i64 x.kind, .string ⟨x.name.toArray⟩, .int .i64 x.tm, .string ⟨x.par.toArray⟩, .string ⟨x.text.toArray⟩] := hI.2 11 zd11 rfl;have zd10 := hR.pred 10 (by kernel_rfl);have zf10 : V 10 = .bool false := hI.2 10 zd10 rfl;have ze30 := hR.frame.done (t := 30) (j := 11) (by kernel_rfl) hR.ok zd11;have ze29 := hR.frame.done (t := 29) (j := 10) (by kernel_rfl) hR.ok zd10;rw [if_pos (by simp [Region.wanted, yielded, ze29, zf10])];go_simp;refine (HIF.out _ (m2.transp hM1)).mono ?_;rintro e zw2 ⟨rfl, hm2⟩;exact hK (.int .i64 e1) _ (hI.next hR (by kernel_rfl) hm2 (PB.quiet hI.1 hm2 (HGs.out D 12 _ _ (hI.1).g hm2)) (upd_same V 12 _))
       ·intro D V zw1 a hR hI K hK;obtain ⟨hM1, hB1, hG1⟩ := hI.1;have zd12 := hR.pred 12 (by kernel_rfl);have zf12 : V 12 = .int .i64 e1 := hI.2 12 zd12 rfl;have zd10 := hR.pred 10 (by kernel_rfl);have zf10 : V 10 = .bool false := hI.2 10 zd10 rfl;have ze31 := hR.frame.done (t := 31) (j := 12) (by kernel_rfl) hR.ok zd12;have hbe2 := hbe;have ze29 := hR.frame.done (t := 29) (j := 10) (by kernel_rfl) hR.ok zd10;rw [if_pos (by simp [Region.wanted, yielded, ze29, zf10])];go_simp;exact hK (.bool bad) _ (hI.next hR (by kernel_rfl) (Mod.refl _ _) (PB.quiet hI.1 (Mod.refl _ _) (HGs.out D 13 zw1 zw1 (hI.1).g (Mod.refl _ _))) (upd_same V 13 _))
       ·intro D V zw1 a hR hI K hK;obtain ⟨hM1, hB1, hG1⟩ := hI.1;have zd10 := hR.pred 10 (by kernel_rfl);have zf10 : V 10 = .bool false := hI.2 10 zd10 rfl;have zd13 := hR.pred 13 (by kernel_rfl);have zf13 : V 13 = .bool bad := hI.2 13 zd13 rfl;have ze29 := hR.frame.done (t := 29) (j := 10) (by kernel_rfl) hR.ok zd10;have ze32 := hR.frame.done (t := 32) (j := 13) (by kernel_rfl) hR.ok zd13;rw [if_pos (by rfl)];go_simp;exact hK (.bool bad) _ (hI.next hR (by kernel_rfl) (Mod.refl _ _) (PB.quiet hI.1 (Mod.refl _ _) (HGs.out D 14 zw1 zw1 (hI.1).g (Mod.refl _ _))) (upd_same V 14 _))
      ·intro D V w3 hD hI;obtain ⟨hM1, hB1, hG1⟩ := hI.1;have hMx := hM1;clear hM1;have hBx := hB1;clear hB1;have hGx := hG1;clear hG1;have zf0 : V 0 = .pointer (some ⟨gs, 0, none⟩) := hI.2 0 (hD 0 (by decide)) rfl;have zf1 : V 1 = .string ⟨x.id.toArray⟩ := hI.2 1 (hD 1 (by decide)) rfl;have zf2 : V 2 = .int .i64 (j : Int) := hI.2 2 (hD 2 (by decide)) rfl;have zf3 : V 3 = .string ⟨ij.toArray⟩ := hI.2 3 (hD 3 (by decide)) rfl;have zf4 : V 4 = .bool false := hI.2 4 (hD 4 (by decide)) rfl;have zf5 : V 5 = .bool false := hI.2 5 (hD 5 (by decide)) rfl;have zf6 : V 6 = .pointer (some ⟨gs, 5, none⟩) := hI.2 6 (hD 6 (by decide)) rfl;have zf7 : V 7 = .string ⟨x.par.toArray⟩ := hI.2 7 (hD 7 (by decide)) rfl;have zf8 : V 8 = .bool false := hI.2 8 (hD 8 (by decide)) rfl;have zf9 : V 9 = .bool false := hI.2 9 (hD 9 (by decide)) rfl;have zf10 : V 10 = .bool false := hI.2 10 (hD 10 (by decide)) rfl;have zf11 : V 11 = .agg #[.string ⟨x.id.toArray⟩, .string ⟨x.cust.toArray⟩, .int .i64 x.kind, .string ⟨x.name.toArray⟩, .int .i64 x.tm, .string ⟨x.par.toArray⟩, .string ⟨x.text.toArray⟩] := hI.2 11 (hD 11 (by decide)) rfl;have zf12 : V 12 = .int .i64 e1 := hI.2 12 (hD 12 (by decide)) rfl;have zf13 : V 13 = .bool bad := hI.2 13 (hD 13 (by decide)) rfl;have zf14 : V 14 = .bool bad := hI.2 14 (hD 14 (by decide)) rfl;clear hI hD HGs;simp only [frAll, Act.put, List.setIfInBounds_toArray, List.set_cons_zero, List.set_cons_succ, Nat.zero_add, Nat.reduceAdd, zf0, zf1, zf2, zf3, zf4, zf5, zf6, zf7, zf8, zf9, zf10, zf11, zf12, zf13, zf14];clear zf0 zf1 zf2 zf3 zf4 zf5 zf6 zf7 zf8 zf9 zf10 zf11 zf12 zf13 zf14;clear V D
       go_wp2_with fail
       go_meet;exact ⟨rfl, hGx, hMx⟩
   case rest =>
    obtain ⟨rfl, B3, m3⟩ := hcut;have own3 := own_pure own2 m3;have hS3 := hS2.pure m3;have mm3 := m2.transp m3;have hsz3 := m3.size
    have HXZ2 : Hid (∀ y ∈ xs ++ [x], ItG y) := Lib.hid (fun y hy => by
     rcases List.mem_append.1 hy with hy | hy
     ·exact HXZ.out y hy
     ·rw [List.mem_singleton.1 hy]; exact HX.out)
    have HXV : Hid (itV (xs ++ [x]) = itV xs ++ [.string ⟨x.id.toArray⟩, .string ⟨x.cust.toArray⟩, .int .i64 x.kind, .string ⟨x.name.toArray⟩, .int .i64 x.tm, .string ⟨x.par.toArray⟩, .string ⟨x.text.toArray⟩]) := Lib.hid (itV_snoc xs x);clear HIF HX HBAD HBO HB0 Hm0 WS hS2 m2 own2 m3 HID
    cases bad
    ·have c0 := B3.cell 0; have c1 := B3.cell 1; have c2 := B3.cell 2; have c3 := B3.cell 3; have c4 := B3.cell 4; have c5 := B3.cell 5; have c6 := B3.cell 6; simp at c0 c1 c2 c3 c4 c5 c6;clear B3
     go_wp2_with (at_builtin; refine wpList_append_lies _ rfl _ _ _ rfl w.heap.size 40 i0 _ 7 96 Tryz.underlying26 hi0 hz0 hz1 hz2 rfl (by omega) (.slice A xs.length cap) xs.length (itV xs) rfl (own3.alloc _) ⟨wc.heap.size, 0, none⟩ 1 1 [.string ⟨x.id.toArray⟩, .string ⟨x.cust.toArray⟩, .int .i64 x.kind, .string ⟨x.name.toArray⟩, .int .i64 x.tm, .string ⟨x.par.toArray⟩, .string ⟨x.text.toArray⟩] rfl rfl (World.news_of_block (cs := #[.string ⟨x.id.toArray⟩, .string ⟨x.cust.toArray⟩, .int .i64 x.kind, .string ⟨x.name.toArray⟩, .int .i64 x.tm, .string ⟨x.par.toArray⟩, .string ⟨x.text.toArray⟩]) (t := 40) (fr := (0, 0)) (heap_alloc_new wc _)) (by simp [Value.oneCell']) (by omega) (by simp [maxLen]; omega) (by omega) (by have := mm3.size; simp; omega) (wc.heap.size + 1) (by simp) ?_; intro g5 cap5 w5 hown5 hgrow hat hlt5)
     go_roundg (m - (j + 1))
     case measure => omega
     case rel =>
      have hz5 := hgrow.size;simp at hz5;refine ⟨j + 1, xs ++ [x], some ⟨g5, 0, none⟩, cap5, rfl, by omega, by simp, by simp, by simp; omega, HXZ2.out, ?_, (hS3.alloc _ |>.mod (S := fun k => (Value.slice A xs.length cap).ownBlock = some k) ⟨hgrow.os, hgrow.tape, hgrow.output, hgrow.size, fun k hk hs => hgrow.block k hk (fun x => hs x.symm)⟩ (fun i hi hk => by have := own_block own3 i hk; omega)).more (by omega), (mm3.alloc _).grown hgrow (fun k hk => .inr (by have := own_block own3 k hk; omega)), by omega⟩;rw [HXV.out]
      simpa using hown5
    ·go_wp2_with fail
     go_roundg (m - (j + 1))
     case measure => omega
     case rel => exact ⟨j + 1, xs, A, cap, rfl, by omega, rfl, by simp, by omega, HXZ.out, own3, hS3.more (by omega), mm3, by omega⟩
  ·obtain rfl : j = m := by omega
   by_cases h0 : xs.length = 0
   ·have e0 : xs = [] := List.eq_nil_of_length_eq_zero h0;subst e0;have d0 : decide ((0 : Int) < 0) = false := rfl
    go_wp2_with fail
    go_loopg [41] 0 (fun gk i wx => i = .int .i64 0 ∧ gk = 0 ∧ wr = wx)
    case atStart => exact ⟨rfl, rfl, rfl⟩
    case round =>
     obtain ⟨rfl, rfl, rfl⟩ := hrel
     go_wp2_with fail
     go_ret;exact ⟨.slice A 0 cap, [], rfl, by simp, le_nilI, hown, hS.more (by omega), hmm⟩
   ·obtain ⟨g, cap', hform, hg1, hg2, hcap, hcap2⟩ := own_form7 hown (by omega)
    injection hform with hA _ hC
    subst hA hC;have hownI : OwnI wr w.heap.size g xs.length cap xs := hown
    have hl20 : xs.length ≤ 20 := by omega
    have hxn := hxj;clear hown hlt;generalize hn : xs.length = n at *;clear hn;obtain ⟨base, hbase⟩ : ∃ base, base = w.heap.size := ⟨_, rfl⟩;rw [← hbase] at hownI hg1;have hba1 := Nat.le_of_eq hbase;have hba2 := Nat.le_of_eq hbase.symm;have HBA := Lib.hid hbase;clear hbase
    go_wp2_with fail
    go_loopg [41] n (fun gk i wr => Ri2 w b (N + 140 * j) base g n cap gk i wr)
    case atStart => exact ⟨0, xs, rfl, by omega, rfl, hxz, hownI, hS.more (by omega), hmm⟩
    case round =>
     clear hxz hownI hS hmm hxj;obtain ⟨k, ys, rfl, hk, rfl, hyz, hown, hS, hmm⟩ := hrel;have hyl := hown.len;have hgl := hown.ge;have hbs := hS.lt
     by_cases hlt : k < n
     ·have HYZ := Lib.hid hyz;clear hyz
      go_wp2_with fail
      refine (flip_calls _ b _ _ hS (by omega) (by omega) (by omega)).mono ?_;rintro e w1 ⟨fl, rfl, hS1, hM1⟩;have own1 := hown.mod hM1 (by omega);have m1 := hmm.trans hM1;clear hS hown hmm hM1
      cases fl
      ·go_wp2_with fail
       refine (next_calls _ b _ _ hS1 (by omega) (by omega) (by omega)).mono ?_;rintro e w2 ⟨q, hq0, hq1, rfl, hS2, hM2⟩;obtain ⟨q, rfl⟩ := Int.eq_ofNat_of_zero_le hq0;have own2 := own1.mod hM2 (by omega);have m2 := m1.trans hM2
       have hqn : q < n := by omega
       have hqy : q < ys.length := by omega
       have hky : k < ys.length := by omega
       have HI0 := Lib.hid (own2.cells hqy).1;have HP0 := Lib.hid (own2.cells hky).2.2.2.2.2.1;have HF0 := Lib.hid (own2.frozen (k * 7 + 5));have HO1 := Lib.hid (own2.setPar hky ys[q].id);have HZ1 : Hid (∀ x ∈ ys.set k { ys[k] with par := ys[q].id }, ItG x) := Lib.hid (set_all HYZ.out ((HYZ.out _ (List.getElem_mem hky)).par (by have := (HYZ.out _ (List.getElem_mem hqy)).1; omega)));have HZK := Lib.hid (HYZ.out _ (List.getElem_mem hky))
       have hsk : k < (ys.set k { ys[k] with par := ys[q].id }).length := by simpa using hky
       have HO2 := Lib.hid (fun (W : World) (h : OwnI W base g n cap (ys.set k { ys[k] with par := ys[q].id })) => h.setPar hsk ys[k].par);have HZ2 : Hid (∀ x ∈ (ys.set k { ys[k] with par := ys[q].id }).set k { (ys.set k { ys[k] with par := ys[q].id })[k] with par := ys[k].par }, ItG x) := Lib.hid (set_all HZ1.out ((HZ1.out _ (List.getElem_mem hsk)).par (by have := HZK.out.2.2.2.1; omega)));generalize (ys.set k { ys[k] with par := ys[q].id }).set k { (ys.set k { ys[k] with par := ys[q].id })[k] with par := ys[k].par } = y2 at *;generalize ys.set k { ys[k] with par := ys[q].id } = y1 at *;generalize ys[q].id = qid at *;generalize ys[k].par = kpar at *;clear hS1 m1 own1 hM2 own2 hq0 hq1 hqy hky hsk HZK HYZ hyl
       have j1 : (0 : Int) ≤ (k : Int) := by omega
       have j2 : (k : Int) < (n : Int) := by omega
       have j3 : (0 : Int) ≤ (q : Int) := by omega
       have j4 : (q : Int) < (n : Int) := by omega
       have c0 := HI0.out;have c1 := HP0.out;have c2 := HF0.out;have HM2 := Lib.hid (m2.setCell (p := ⟨g, k * 7 + 5, none⟩) (.inr (by show _ ≤ g; omega)) (.string ⟨qid.toArray⟩));have HS2 := Lib.hid (hS2.setCell (p := ⟨g, k * 7 + 5, none⟩) (by show _ < g; omega) (.string ⟨qid.toArray⟩));have hown1 := HO1.out;have hy1 := hown1.len;have c3 := hown1.frozen (k * 7 + 5)
       have hky1 : k < y1.length := by omega
       have HIF := Lib.hid (fun W (h : Mod (· = b) w W) (h2 : OwnI W base g n cap y1) => itemsFault_calls W _ y1 h2.its (fun z h => (HZ1.out z h).b) (by omega) (HE.out W h));obtain ⟨e1, he1⟩ : ∃ e1, itsE itemE y1 = e1 := ⟨_, rfl⟩;rw [he1] at HIF;have HOW := Lib.hid hown1;clear he1 HI0 HP0 HF0 HO1 hown1 hS2 m2;have HC4 := Lib.hid (fun W (h : OwnI W base g n cap y1) => (h.cells hky1).2.2.2.2.2.1);have HG : Hid (b < g ∧ w.heap.size ≤ g) := Lib.hid ⟨by omega, by omega⟩
       have FIN : Hid (∀ W, Strm W b (N + 140 * j + 2 * k + 1 + 1) → Mod (· = b) w W → OwnI W base g n cap y1 → Strm (W.setCell ⟨g, k * 7 + 5, none⟩ (.string ⟨kpar.toArray⟩)) b (N + 140 * j + 2 * (k + 1)) ∧ Mod (· = b) w (W.setCell ⟨g, k * 7 + 5, none⟩ (.string ⟨kpar.toArray⟩)) ∧ OwnI (W.setCell ⟨g, k * 7 + 5, none⟩ (.string ⟨kpar.toArray⟩)) base g n cap y2) :=
        Lib.hid (fun W h1 h2 h3 => ⟨(h1.setCell (p := ⟨g, k * 7 + 5, none⟩) HG.out.1 _).more (by omega), h2.setCell (p := ⟨g, k * 7 + 5, none⟩) (.inr HG.out.2) _, HO2.out W h3⟩)
       by_cases hqk : q = k
       ·have hqk' : ((q : Int) == (k : Int)) = true := by rw [hqk]; simp
        clear hqk HIF HC4
        go_wp2_with fail
        obtain ⟨f1, f2, f3⟩ := FIN.out _ HS2.out HM2.out HOW.out
        go_roundg (n - (k + 1))
        case measure => omega
        case rel => exact ⟨k + 1, y2, rfl, by omega, by simp, HZ2.out, f3, f1, f2⟩
       ·have hqk' : ((q : Int) == (k : Int)) = false := by simp; omega
        clear hqk
        go_wp2_with fail
        refine (HIF.out _ HM2.out HOW.out).mono ?_;rintro e w3 ⟨rfl, hm3⟩;have m3 := HM2.out.transp hm3;have hS3 := HS2.out.pure hm3;have own3 := HOW.out.mod hm3 id;have c5 := own3.frozen (k * 7 + 5);have H3 := Lib.hid own3;clear HIF HM2 HS2 HOW own3 c0 c1 c2 c3 hm3
        by_cases he : e1 = 0
        ·subst he
         go_wp2_with fail
         go_roundg (n - (k + 1))
         case measure => omega
         case rel => exact ⟨k + 1, y1, rfl, by omega, by simp, HZ1.out, H3.out, hS3.more (by omega), m3⟩
        ·have he' : (e1 != 0) = true := by simpa using he
         clear he;have hc4 := HC4.out _ H3.out
         go_wp2_with fail
         obtain ⟨f1, f2, f3⟩ := FIN.out _ hS3 m3 H3.out
         go_roundg (n - (k + 1))
         case measure => omega
         case rel => exact ⟨k + 1, y2, rfl, by omega, by simp, HZ2.out, f3, f1, f2⟩
      ·go_wp2_with fail
       go_roundg (n - (k + 1))
       case measure => omega
       case rel => exact ⟨k + 1, ys, rfl, by omega, by simp, HYZ.out, own1, hS1.more (by omega), m1⟩
     ·obtain rfl : k = n := by omega
      go_wp2_with fail
      go_ret;exact ⟨.slice (some ⟨g, 0, none⟩) k cap, ys, rfl, by omega, hyz, by rw [hyl, ← HBA.out]; exact hown, hS.more (by omega), hmm⟩
def ItemsPost (w : World) (b N m : Nat) (e : Ending) (w' : World) : Prop :=
 ∃ (v : Value) (xs : List Itm), e = .returned v ∧ xs.length ≤ m ∧ (∀ x ∈ xs, ItB x) ∧ w'.ownsRow w.heap.size 40 7 v xs.length (itV xs) ∧ Strm w' b N ∧ Mod (· = b) w w'
theorem ItemsPostG.b {w : World} {b N m : Nat} {e : Ending} {w' : World} (h : ItemsPostG w b N m e w') : ItemsPost w b N m e w' := by
 obtain ⟨v, xs, h1, h2, h3, h4⟩ := h;exact ⟨v, xs, h1, h2, fun x hx => (h3 x hx).b, h4⟩
end Go.Proofs.YtelpdjhkedhppaaGreatDoor
/- The generators of items: Items. -/
namespace Go.Proofs.YtelpdjhkedhppaaGreatDoor
open Go.RowKit
theorem OwnI.setFld {w : World} {base g n cap k : Nat} {xs : List Itm} (h : OwnI w base g n cap xs) (hk : k < xs.length) (d : Nat) (hd : d < 7) (u : Value) (x' : Itm) (hx : (itC xs[k]).set d u = itC x') : OwnI (w.setCell ⟨g, k * 7 + d, none⟩ u) base g n cap (xs.set k x') := by
 have h1 := (World.ownsRow.stored h (k * 7 + d) u).1;rw [itV_set xs k x' d _ hk hd (by simpa [List.getD, hk] using hx)] at h1;exact h1
theorem OwnI.setItem {w : World} {base g n cap k : Nat} {xs : List Itm} (h : OwnI w base g n cap xs) (hk : k < xs.length) (y : Itm) :
  OwnI (((((((w.setCell ⟨g, k * 7, none⟩ (.string ⟨y.id.toArray⟩)).setCell ⟨g, k * 7 + 1, none⟩ (.string ⟨y.cust.toArray⟩)).setCell ⟨g, k * 7 + 2, none⟩ (.int .i64 y.kind)).setCell ⟨g, k * 7 + 3, none⟩ (.string ⟨y.name.toArray⟩)).setCell ⟨g, k * 7 + 4, none⟩ (.int .i64 y.tm)).setCell ⟨g, k * 7 + 5, none⟩ (.string ⟨y.par.toArray⟩)).setCell ⟨g, k * 7 + 6, none⟩ (.string ⟨y.text.toArray⟩)) base g n cap (xs.set k y) := by
 obtain ⟨y0, y1, y2, y3, y4, y5, y6⟩ := y;have h0 := h.setFld hk 0 (by omega) (.string ⟨y0.toArray⟩) { xs[k] with id := y0 } rfl;have h1 := h0.setFld (by simpa using hk) 1 (by omega) (.string ⟨y1.toArray⟩) { xs[k] with id := y0, cust := y1 } (by simp [itC]);have h2 := h1.setFld (by simpa using hk) 2 (by omega) (.int .i64 y2) { xs[k] with id := y0, cust := y1, kind := y2 } (by simp [itC]);have h3 := h2.setFld (by simpa using hk) 3 (by omega) (.string ⟨y3.toArray⟩) { xs[k] with id := y0, cust := y1, kind := y2, name := y3 } (by simp [itC]);have h4 := h3.setFld (by simpa using hk) 4 (by omega) (.int .i64 y4) { xs[k] with id := y0, cust := y1, kind := y2, name := y3, tm := y4 } (by simp [itC]);have h5 := h4.setFld (by simpa using hk) 5 (by omega) (.string ⟨y5.toArray⟩) { xs[k] with id := y0, cust := y1, kind := y2, name := y3, tm := y4, par := y5 } (by simp [itC]);have h6 := h5.setFld (by simpa using hk) 6 (by omega) (.string ⟨y6.toArray⟩) ⟨y0, y1, y2, y3, y4, y5, y6⟩ (by simp [itC])
 simpa using h6
theorem Mod.setR {w W : World} {b g : Nat} (h : Mod (· = b) w W) (hg : w.heap.size ≤ g) (j : Nat) (u : Value) : Mod (· = b) w (W.setCell ⟨g, j, none⟩ u) := h.setCell (p := ⟨g, j, none⟩) (.inr hg) u
theorem Strm.setR {W : World} {b N g : Nat} (h : Strm W b N) (hg : b < g) (j : Nat) (u : Value) : Strm (W.setCell ⟨g, j, none⟩ u) b N := h.setCell (p := ⟨g, j, none⟩) hg u
theorem itemIdZ_calls (w : World) (k : Int) (h0 : 0 ≤ k) (hk : k < 26) : Calls Tryz.prog 45 #[.int .i64 k] w (fun e w' => ∃ s : Str, s.length ≤ 100 ∧ e = .returned (.string ⟨s.toArray⟩) ∧ Pure w w') := by
 obtain ⟨i, rfl⟩ := Int.eq_ofNat_of_zero_le h0;refine (itemId_calls w i (by omega)).mono ?_;rintro e w' ⟨rfl, h⟩;exact ⟨itS i, by simp [itS], rfl, h⟩
def Im4 (w : World) (b N base g n cap gk : Nat) (i : Value) (wr : World) : Prop :=
 ∃ (j : Nat) (xs : List Itm), 4 - j = gk ∧ j ≤ 4 ∧ i = .int .i64 (j : Int) ∧ (∀ x ∈ xs, ItG x) ∧ OwnI wr base g n cap xs ∧ Strm wr b (N + 2 * j) ∧ Mod (· = b) w wr
set_option maxHeartbeats 8000000 in
theorem items_callsG (w : World) (b N m : Nat) (mI : Int) (hmI : mI = (m : Int)) (hS : Strm w b N) (hN : N ≤ 600000000) (hm : m ≤ 20) (hE : ∀ W, Mod (· = b) w W → Env W) : Calls Tryz.prog 8 #[.pointer (some ⟨b, 0, none⟩), .int .i64 mI] w (ItemsPostG w b (N + 142 * m + 160) (m + 1)) := by
 obtain ⟨i0, hi0, hz0, hz1, hz2⟩ := info_parts info_item7;have HRI := Lib.hid (rightItems_callsG w b N m hS (by omega) hm hE);rw [← hmI] at HRI;have HMI := Lib.hid hmI;clear hmI;have hbl := hS.lt;clear hE hS
 go_enter Tryz.func8, Tryz.ntmps8
 go_wp2_with fail
 refine HRI.out.mono ?_;rintro e w1 ⟨v, xs, rfl, hxm, hxz, hown, hS1, m1⟩;clear HRI;have HXZ := Lib.hid hxz;clear hxz
 by_cases h0 : xs.length = 0
 ·have hform : ∃ A cap, v = .slice A 0 cap := by
   rw [h0] at hown
   rcases hown.2 with ⟨rfl, _⟩ | ⟨g, cap, cur, rfl, _⟩
   ·exact ⟨_, _, rfl⟩
   ·exact ⟨_, _, rfl⟩
  obtain ⟨A, cap, rfl⟩ := hform;have HOW := Lib.hid hown;clear hown h0
  go_wp2_with fail
  go_ret;exact ⟨_, xs, rfl, by omega, HXZ.out, HOW.out, hS1.more (by omega), m1⟩
 obtain ⟨g, cap, rfl, hg1, hg2, hcap, hcap2⟩ := own_form7 hown (by omega);have hownI : OwnI w1 w.heap.size g xs.length cap xs := hown;clear hown;obtain ⟨n, hn⟩ : ∃ n, xs.length = n := ⟨_, rfl⟩;rw [hn] at hownI hcap h0 hxm ⊢;have hn1 := Nat.le_of_eq hn;have hn2 := Nat.le_of_eq hn.symm
 have hn0 : (0 : Int) < (n : Int) := by omega
 clear hn h0
 go_wp2_with fail
 refine (flip_calls _ b _ _ hS1 (by omega) (by omega) (by omega)).mono ?_;rintro e w2 ⟨fl, rfl, hS2, hM2⟩;have own2 := hownI.mod hM2 (by omega);have m2 := m1.trans hM2
 have DONE : Hid (∀ (W : World) (zs : List Itm), (∀ x ∈ zs, ItG x) → OwnI W w.heap.size g n cap zs → Strm W b (N + 142 * m + 160) → Mod (· = b) w W → ItemsPostG w b (N + 142 * m + 160) (m + 1) (.returned (.slice (some ⟨g, 0, none⟩) n cap)) W) := Lib.hid (fun W zs h1 h2 h3 h4 => by
  have := h2.len
  exact ⟨_, zs, rfl, by omega, h1, by rw [this]; exact h2, h3, h4⟩)
 clear hS1 hownI m1 hM2
 cases fl
 ·go_wp2_with fail
  go_ret;exact DONE.out _ xs HXZ.out own2 (hS2.more (by omega)) m2
 go_wp2_with fail
 refine (next_calls _ b _ _ hS2 (by omega) (by omega) (by omega)).mono ?_;rintro e w3 ⟨kk, hk0, hk1, rfl, hS3, hM3⟩;obtain ⟨kk, rfl⟩ := Int.eq_ofNat_of_zero_le hk0;have own3 := own2.mod hM3 (by omega);have m3 := m2.trans hM3
 have hkn : kk < n := by omega
 have hkx : kk < xs.length := by omega
 clear hS2 own2 m2 hM3 hk0 hk1
 go_wp2_with fail
 refine (next_calls _ b _ _ hS3 (by omega) (by omega) (by omega)).mono ?_;rintro e w4 ⟨sw, hs0, hs1, rfl, hS4, hM4⟩;have own4 := own3.mod hM4 (by omega);have m4 := m3.trans hM4;clear hS3 own3 m3 hM4
 have i3 : (0 : Int) ≤ (kk : Int) := by omega
 have i4 : (kk : Int) < (n : Int) := by omega
 have hbg : b < g := by omega
 have hmg : w.heap.size ≤ g := by omega
 by_cases s0 : sw = 0
 ·subst s0
  have hmi1 : 1 ≤ mI := by have := HMI.out; omega
  have hmi2 : mI ≤ 20 := by have := HMI.out; omega
  clear HMI
  go_upto_region 11 with (fail)
  obtain ⟨N1, hN1⟩ : ∃ N1, N1 = N + 142 * m + 1 + 1 + 1 := ⟨_, rfl⟩;rw [← hN1] at hS4;have hN1a := Nat.le_of_eq hN1;have hN1b := Nat.le_of_eq hN1.symm;clear hN1;have hb4 := hS4.lt;have HGs := Lib.hid (show ∀ (D : Nat → Bool) (zzi : Nat) (zq zq' : World), (fun _ zq => (fun Z => ∃ zs : List Itm, zs.length = n ∧ (∀ x ∈ zs, ItG x) ∧ OwnI Z w.heap.size g n cap zs) zq) D zq → Mod (· = b) zq zq' → (fun _ zq => (fun Z => ∃ zs : List Itm, zs.length = n ∧ (∀ x ∈ zs, ItG x) ∧ OwnI Z w.heap.size g n cap zs) zq) (upd D zzi true) zq' from by intro D zzi zq zq' h hm; (obtain ⟨zs, h1, h2, h3⟩ := h; exact ⟨zs, h1, h2, h3.mod hm (by omega)⟩))
  refine wp_region_inv (by kernel_rfl) (by kernel_rfl) (InvF (R := Mod (· = b)) [.is (.slice (some ⟨g, 0, none⟩) n cap),
    .is (.int .i64 (kk : Int)),
    .is (.pointer (some ⟨b, 0, none⟩)),
    .is (.pointer (some ⟨b, 0, none⟩)),
    .is (.int .i64 mI),
    .val (fun zv => ∃ (k_5 : Int), zv = .int .i64 k_5 ∧ 0 ≤ k_5 ∧ k_5 < mI),
    .val (fun zv => ∃ (s_6 : Str), zv = .string ⟨s_6.toArray⟩ ∧ s_6.length ≤ 100),
    .is (.slice (some ⟨g, 0, none⟩) n cap),
    .is (.int .i64 (kk : Int)),
    .is (.pointer (some ⟨g, kk * 7, none⟩)),
    .is (.pointer (some ⟨g, kk * 7, none⟩)),
    .val (fun zv => ∃ (s_11 : Str), zv = .string ⟨s_11.toArray⟩ ∧ s_11.length ≤ 100),
    ⟨fun zv zw => ∃ (s_12 : Str) (sa_12 : Str) (g_12 : Nat), zv = .slice (some ⟨g_12, 0, none⟩) 3 3 ∧ s_12.length ≤ 100 ∧ sa_12.length ≤ 100 ∧ w4.heap.size ≤ g_12 ∧ Blk zw g_12 9 #[(.string { data := #[105, 122, 122] }), .string ⟨s_12.toArray⟩, .string ⟨sa_12.toArray⟩], (by rintro zv zw zx ⟨s_12, sa_12, g_12, rfl, c0, c1, c2, q0⟩ hm; exact ⟨s_12, sa_12, g_12, rfl, c0, c1, c2, (q0.modb hm (by omega))⟩), none, some 13⟩,
    .val (fun zv => ∃ (s_13 : Str), zv = .string ⟨s_13.toArray⟩ ∧ s_13.length ≤ 100),
    .is (.pointer (some ⟨g, kk * 7, none⟩)),
    .is (.pointer (some ⟨g, kk * 7 + 5, none⟩)),
    .any]
    (GB w (· = b) w4.heap.size b (N1) (fun D => (D 5).toNat + (D 13).toNat) (fun _ zq => (fun Z => ∃ zs : List Itm, zs.length = n ∧ (∀ x ∈ zs, ItG x) ∧ OwnI Z w.heap.size g n cap zs) zq))) (InvF.start (GB.start hS4 m4 (Nat.le_refl _) (⟨xs, by omega, HXZ.out, own4⟩))) ?_ ?_
  ·refine .cons ?_ (.cons ?_ (.cons ?_ (.cons ?_ (.cons ?_ (.cons ?_ (.cons ?_ (.cons ?_ (.cons ?_ (.cons ?_ (.cons ?_ (.cons ?_ (.cons ?_ (.cons ?_ (.cons ?_ (.cons ?_ (.cons ?_ .nil))))))))))))))))
   ·intro D V zw1 a hR hI K hK;obtain ⟨hS1, hM1, hB1, hG1⟩ := hI.1;obtain ⟨zs, hG1a, hG1b, hG1d⟩ := hG1;have ze5 := hR.frame.other (t := 5) (by kernel_rfl) rfl;rw [if_pos (by rfl)];go_simp;exact hK (.slice (some ⟨g, 0, none⟩) n cap) _ (hI.next hR (by kernel_rfl) (Mod.refl _ _) (GB.quiet hI.1 (Mod.refl _ _) (by have hn := hR.not; simp [upd, hn] <;> omega) (HGs.out D 0 zw1 zw1 (hI.1).g (Mod.refl _ _))) (upd_same V 0 _))
   ·intro D V zw1 a hR hI K hK;obtain ⟨hS1, hM1, hB1, hG1⟩ := hI.1;obtain ⟨zs, hG1a, hG1b, hG1d⟩ := hG1;have ze6 := hR.frame.other (t := 6) (by kernel_rfl) rfl;rw [if_pos (by rfl)];go_simp;exact hK (.int .i64 (kk : Int)) _ (hI.next hR (by kernel_rfl) (Mod.refl _ _) (GB.quiet hI.1 (Mod.refl _ _) (by have hn := hR.not; simp [upd, hn] <;> omega) (HGs.out D 1 zw1 zw1 (hI.1).g (Mod.refl _ _))) (upd_same V 1 _))
   ·intro D V zw1 a hR hI K hK;obtain ⟨hS1, hM1, hB1, hG1⟩ := hI.1;obtain ⟨zs, hG1a, hG1b, hG1d⟩ := hG1;have ze0 := hR.frame.other (t := 0) (by kernel_rfl) rfl;rw [if_pos (by rfl)];go_simp;exact hK (.pointer (some ⟨b, 0, none⟩)) _ (hI.next hR (by kernel_rfl) (Mod.refl _ _) (GB.quiet hI.1 (Mod.refl _ _) (by have hn := hR.not; simp [upd, hn] <;> omega) (HGs.out D 2 zw1 zw1 (hI.1).g (Mod.refl _ _))) (upd_same V 2 _))
   ·intro D V zw1 a hR hI K hK;obtain ⟨hS1, hM1, hB1, hG1⟩ := hI.1;obtain ⟨zs, hG1a, hG1b, hG1d⟩ := hG1;have ze0 := hR.frame.other (t := 0) (by kernel_rfl) rfl;rw [if_pos (by rfl)];go_simp;exact hK (.pointer (some ⟨b, 0, none⟩)) _ (hI.next hR (by kernel_rfl) (Mod.refl _ _) (GB.quiet hI.1 (Mod.refl _ _) (by have hn := hR.not; simp [upd, hn] <;> omega) (HGs.out D 3 zw1 zw1 (hI.1).g (Mod.refl _ _))) (upd_same V 3 _))
   ·intro D V zw1 a hR hI K hK;obtain ⟨hS1, hM1, hB1, hG1⟩ := hI.1;obtain ⟨zs, hG1a, hG1b, hG1d⟩ := hG1;have ze1 := hR.frame.other (t := 1) (by kernel_rfl) rfl;rw [if_pos (by rfl)];go_simp;exact hK (.int .i64 mI) _ (hI.next hR (by kernel_rfl) (Mod.refl _ _) (GB.quiet hI.1 (Mod.refl _ _) (by have hn := hR.not; simp [upd, hn] <;> omega) (HGs.out D 4 zw1 zw1 (hI.1).g (Mod.refl _ _))) (upd_same V 4 _))
   ·intro D V zw1 a hR hI K hK;obtain ⟨hS1, hM1, hB1, hG1⟩ := hI.1;obtain ⟨zs, hG1a, hG1b, hG1d⟩ := hG1;have zd3 := hR.pred 3 (by kernel_rfl);have zf3 : V 3 = .pointer (some ⟨b, 0, none⟩) := hI.2 3 zd3 rfl;have zd4 := hR.pred 4 (by kernel_rfl);have zf4 : V 4 = .int .i64 mI := hI.2 4 zd4 rfl;have ze48 := hR.frame.done (t := 48) (j := 3) (by kernel_rfl) hR.ok zd3;have ze49 := hR.frame.done (t := 49) (j := 4) (by kernel_rfl) hR.ok zd4;rw [if_pos (by rfl)];have := Bool.toNat_le (D 5);have := Bool.toNat_le (D 13)
    have hNB : N1 + ((D 5).toNat + (D 13).toNat) ≤ 1000000000 := by omega
    skip
    go_simp;refine (next_calls _ _ _ _ hS1 hNB (by omega) (by omega)).mono ?_;rintro e zw2 ⟨k_0, hk1, hk2, rfl, hS2, hm2⟩;exact hK (.int .i64 k_0) _ (hI.next hR (by kernel_rfl) hm2 (GB.asks hI.1 (fun _ h _ => h) hS2 hm2 (by have hn := hR.not; simp [upd, hn] <;> omega) (HGs.out D 5 _ _ (hI.1).g hm2)) (⟨k_0, upd_same V 5 _, hk1, hk2⟩))
   ·intro D V zw1 a hR hI K hK;obtain ⟨hS1, hM1, hB1, hG1⟩ := hI.1;obtain ⟨zs, hG1a, hG1b, hG1d⟩ := hG1;have zd5 := hR.pred 5 (by kernel_rfl);have zF5 : ∃ (k_5 : Int), V 5 = .int .i64 k_5 ∧ 0 ≤ k_5 ∧ k_5 < mI := hI.2 5 zd5 rfl;obtain ⟨k_5, zf5, c5_0, c5_1⟩ := zF5;have ze50 := hR.frame.done (t := 50) (j := 5) (by kernel_rfl) hR.ok zd5;rw [if_pos (by rfl)];have := Bool.toNat_le (D 5);have := Bool.toNat_le (D 13)
    have hNB : N1 + ((D 5).toNat + (D 13).toNat) ≤ 1000000000 := by omega
    skip
    go_simp;refine (itemIdZ_calls _ k_5 c5_0 (by omega)).mono ?_;rintro e zw2 ⟨s_0, hs, rfl, hm2⟩;exact hK (.string ⟨s_0.toArray⟩) _ (hI.next hR (by kernel_rfl) (Mod.of_pure hm2) (GB.quiet hI.1 hm2 (by have hn := hR.not; simp [upd, hn] <;> omega) (HGs.out D 6 _ _ (hI.1).g (Mod.of_pure hm2))) (⟨s_0, upd_same V 6 _, hs⟩))
   ·intro D V zw1 a hR hI K hK;obtain ⟨hS1, hM1, hB1, hG1⟩ := hI.1;obtain ⟨zs, hG1a, hG1b, hG1d⟩ := hG1;have ze5 := hR.frame.other (t := 5) (by kernel_rfl) rfl;rw [if_pos (by rfl)];go_simp;exact hK (.slice (some ⟨g, 0, none⟩) n cap) _ (hI.next hR (by kernel_rfl) (Mod.refl _ _) (GB.quiet hI.1 (Mod.refl _ _) (by have hn := hR.not; simp [upd, hn] <;> omega) (HGs.out D 7 zw1 zw1 (hI.1).g (Mod.refl _ _))) (upd_same V 7 _))
   ·intro D V zw1 a hR hI K hK;obtain ⟨hS1, hM1, hB1, hG1⟩ := hI.1;obtain ⟨zs, hG1a, hG1b, hG1d⟩ := hG1;have ze6 := hR.frame.other (t := 6) (by kernel_rfl) rfl;rw [if_pos (by rfl)];go_simp;exact hK (.int .i64 (kk : Int)) _ (hI.next hR (by kernel_rfl) (Mod.refl _ _) (GB.quiet hI.1 (Mod.refl _ _) (by have hn := hR.not; simp [upd, hn] <;> omega) (HGs.out D 8 zw1 zw1 (hI.1).g (Mod.refl _ _))) (upd_same V 8 _))
   ·intro D V zw1 a hR hI K hK;obtain ⟨hS1, hM1, hB1, hG1⟩ := hI.1;obtain ⟨zs, hG1a, hG1b, hG1d⟩ := hG1;have zd7 := hR.pred 7 (by kernel_rfl);have zf7 : V 7 = .slice (some ⟨g, 0, none⟩) n cap := hI.2 7 zd7 rfl;have zd8 := hR.pred 8 (by kernel_rfl);have zf8 : V 8 = .int .i64 (kk : Int) := hI.2 8 zd8 rfl;have ze52 := hR.frame.done (t := 52) (j := 7) (by kernel_rfl) hR.ok zd7;have ze53 := hR.frame.done (t := 53) (j := 8) (by kernel_rfl) hR.ok zd8;rw [if_pos (by rfl)];go_simp;exact hK (.pointer (some ⟨g, kk * 7, none⟩)) _ (hI.next hR (by kernel_rfl) (Mod.refl _ _) (GB.quiet hI.1 (Mod.refl _ _) (by have hn := hR.not; simp [upd, hn] <;> omega) (HGs.out D 9 zw1 zw1 (hI.1).g (Mod.refl _ _))) (upd_same V 9 _))
   ·intro D V zw1 a hR hI K hK;obtain ⟨hS1, hM1, hB1, hG1⟩ := hI.1;obtain ⟨zs, hG1a, hG1b, hG1d⟩ := hG1;have zd9 := hR.pred 9 (by kernel_rfl);have zf9 : V 9 = .pointer (some ⟨g, kk * 7, none⟩) := hI.2 9 zd9 rfl;have ze54 := hR.frame.done (t := 54) (j := 9) (by kernel_rfl) hR.ok zd9;rw [if_pos (by rfl)];go_simp;exact hK (.pointer (some ⟨g, kk * 7, none⟩)) _ (hI.next hR (by kernel_rfl) (Mod.refl _ _) (GB.quiet hI.1 (Mod.refl _ _) (by have hn := hR.not; simp [upd, hn] <;> omega) (HGs.out D 10 zw1 zw1 (hI.1).g (Mod.refl _ _))) (upd_same V 10 _))
   ·intro D V zw1 a hR hI K hK;obtain ⟨hS1, hM1, hB1, hG1⟩ := hI.1;obtain ⟨zs, hG1a, hG1b, hG1d⟩ := hG1;have zd10 := hR.pred 10 (by kernel_rfl);have zf10 : V 10 = .pointer (some ⟨g, kk * 7, none⟩) := hI.2 10 zd10 rfl;have ze55 := hR.frame.done (t := 55) (j := 10) (by kernel_rfl) hR.ok zd10
    have hkz : kk < zs.length := by omega
    have hcc := (hG1d.cells hkz).1;rw [if_pos (by rfl)];go_simp;exact hK (_) _ (hI.next hR (by kernel_rfl) (Mod.refl _ _) (GB.quiet hI.1 (Mod.refl _ _) (by have hn := hR.not; simp [upd, hn] <;> omega) (HGs.out D 11 zw1 zw1 (hI.1).g (Mod.refl _ _))) (⟨zs[kk].id, upd_same V 11 _, (hG1b _ (List.getElem_mem hkz)).1⟩))
   ·intro D V zw1 a hR hI K hK;obtain ⟨hS1, hM1, hB1, hG1⟩ := hI.1;obtain ⟨zs, hG1a, hG1b, hG1d⟩ := hG1;have zd6 := hR.pred 6 (by kernel_rfl);have zF6 : ∃ (s_6 : Str), V 6 = .string ⟨s_6.toArray⟩ ∧ s_6.length ≤ 100 := hI.2 6 zd6 rfl;obtain ⟨s_6, zf6, c6_0⟩ := zF6;have zd11 := hR.pred 11 (by kernel_rfl);have zF11 : ∃ (s_11 : Str), V 11 = .string ⟨s_11.toArray⟩ ∧ s_11.length ≤ 100 := hI.2 11 zd11 rfl;obtain ⟨s_11, zf11, c11_0⟩ := zF11;have ze51 := hR.frame.done (t := 51) (j := 6) (by kernel_rfl) hR.ok zd6;have ze56 := hR.frame.done (t := 56) (j := 11) (by kernel_rfl) hR.ok zd11;rw [if_pos (by rfl)];go_simp;exact hK (_) _ (hI.next hR (by kernel_rfl) ((Mod.refl _ _).alloc _) (GB.quiet hI.1 (pure_alloc _ _) (by have hn := hR.not; simp [upd, hn] <;> omega) (HGs.out D 12 _ _ (hI.1).g ((Mod.refl _ _).alloc _))) (⟨s_6, s_11, _, upd_same V 12 _, (by first | assumption | omega), (by first | assumption | omega), (by omega), (Blk.new _ _ _)⟩))
   ·intro D V zw1 a hR hI K hK;obtain ⟨hS1, hM1, hB1, hG1⟩ := hI.1;obtain ⟨zs, hG1a, hG1b, hG1d⟩ := hG1;have zd2 := hR.pred 2 (by kernel_rfl);have zf2 : V 2 = .pointer (some ⟨b, 0, none⟩) := hI.2 2 zd2 rfl;have zd12 := hR.pred 12 (by kernel_rfl);have zF12 : ∃ (s_12 : Str) (sa_12 : Str) (g_12 : Nat), V 12 = .slice (some ⟨g_12, 0, none⟩) 3 3 ∧ s_12.length ≤ 100 ∧ sa_12.length ≤ 100 ∧ w4.heap.size ≤ g_12 ∧ Blk zw1 g_12 9 #[(.string { data := #[105, 122, 122] }), .string ⟨s_12.toArray⟩, .string ⟨sa_12.toArray⟩] := hI.2 12 zd12 (by show (!D 13) = true; rw [hR.not]; rfl);obtain ⟨s_12, sa_12, g_12, zf12, c12_0, c12_1, c12_2, b12_0⟩ := zF12;have ze47 := hR.frame.done (t := 47) (j := 2) (by kernel_rfl) hR.ok zd2;have ze57 := hR.frame.done (t := 57) (j := 12) (by kernel_rfl) hR.ok zd12;rw [if_pos (by rfl)];have := Bool.toNat_le (D 5);have := Bool.toNat_le (D 13)
    have hNB : N1 + ((D 5).toNat + (D 13).toNat) ≤ 1000000000 := by omega
    skip
    go_simp;refine (someb_calls _ b _ _ _ _ [[105, 122, 122], s_12, sa_12] 100 rfl (le_cons (by decide) (le_cons c12_0 (le_cons c12_1 le_nil))) hS1 hNB b12_0 (by omega) (by simp) (by simp)).mono ?_;rintro e zw2 ⟨s_0, hs, rfl, hS2, hm2⟩;exact hK (.string ⟨s_0.toArray⟩) _ (hI.next hR (by kernel_rfl) hm2 (GB.asks hI.1 (fun _ h _ => h) hS2 hm2 (by have hn := hR.not; simp [upd, hn] <;> omega) (HGs.out D 13 _ _ (hI.1).g hm2)) (⟨s_0, upd_same V 13 _, hs⟩))
   ·intro D V zw1 a hR hI K hK;obtain ⟨hS1, hM1, hB1, hG1⟩ := hI.1;obtain ⟨zs, hG1a, hG1b, hG1d⟩ := hG1;have zd0 := hR.pred 0 (by kernel_rfl);have zf0 : V 0 = .slice (some ⟨g, 0, none⟩) n cap := hI.2 0 zd0 rfl;have zd1 := hR.pred 1 (by kernel_rfl);have zf1 : V 1 = .int .i64 (kk : Int) := hI.2 1 zd1 rfl;have ze45 := hR.frame.done (t := 45) (j := 0) (by kernel_rfl) hR.ok zd0;have ze46 := hR.frame.done (t := 46) (j := 1) (by kernel_rfl) hR.ok zd1;rw [if_pos (by rfl)];go_simp;exact hK (.pointer (some ⟨g, kk * 7, none⟩)) _ (hI.next hR (by kernel_rfl) (Mod.refl _ _) (GB.quiet hI.1 (Mod.refl _ _) (by have hn := hR.not; simp [upd, hn] <;> omega) (HGs.out D 14 zw1 zw1 (hI.1).g (Mod.refl _ _))) (upd_same V 14 _))
   ·intro D V zw1 a hR hI K hK;obtain ⟨hS1, hM1, hB1, hG1⟩ := hI.1;obtain ⟨zs, hG1a, hG1b, hG1d⟩ := hG1;have zd14 := hR.pred 14 (by kernel_rfl);have zf14 : V 14 = .pointer (some ⟨g, kk * 7, none⟩) := hI.2 14 zd14 rfl;have ze59 := hR.frame.done (t := 59) (j := 14) (by kernel_rfl) hR.ok zd14;rw [if_pos (by rfl)];go_simp;exact hK (.pointer (some ⟨g, kk * 7 + 5, none⟩)) _ (hI.next hR (by kernel_rfl) (Mod.refl _ _) (GB.quiet hI.1 (Mod.refl _ _) (by have hn := hR.not; simp [upd, hn] <;> omega) (HGs.out D 15 zw1 zw1 (hI.1).g (Mod.refl _ _))) (upd_same V 15 _))
   ·intro D V zw1 a hR hI K hK;obtain ⟨hS1, hM1, hB1, hG1⟩ := hI.1;obtain ⟨zs, hG1a, hG1b, hG1d⟩ := hG1;have zd15 := hR.pred 15 (by kernel_rfl);have zf15 : V 15 = .pointer (some ⟨g, kk * 7 + 5, none⟩) := hI.2 15 zd15 rfl;have zd13 := hR.pred 13 (by kernel_rfl);have zF13 : ∃ (s_13 : Str), V 13 = .string ⟨s_13.toArray⟩ ∧ s_13.length ≤ 100 := hI.2 13 zd13 rfl;obtain ⟨s_13, zf13, c13_0⟩ := zF13;have ze60 := hR.frame.done (t := 60) (j := 15) (by kernel_rfl) hR.ok zd15;have ze58 := hR.frame.done (t := 58) (j := 13) (by kernel_rfl) hR.ok zd13;rw [if_pos (by rfl)]
    have hkz : kk < zs.length := by omega
    have zy0 := hG1d.frozen (kk * 7 + 5);have zx0 := (hG1d.cells hkz).2.2.2.2.2.1;go_simp;refine hK undef _ (InvF.last ⟨(hS1.setR (by omega) _ _).more (by have hn := hR.not; simp [upd, hn] <;> omega), hM1.setR (by omega) _ _, (by simpa using hB1), ⟨_, (by simpa using hG1a), set_all hG1b ((hG1b _ (List.getElem_mem hkz)).par (s := s_13) (by omega)), hG1d.setPar hkz s_13⟩⟩ trivial ?_);intro k hk hDk hlv;have hkl := hR.lt k hDk;have hv := hI.2 k hDk (liveB_of hlv)
    match k, hk, hDk, hlv, hkl, hv with
    | 0, _, _, _, _, hv => exact hv
    | 1, _, _, _, _, hv => exact hv
    | 2, _, _, _, _, hv => exact hv
    | 3, _, _, _, _, hv => exact hv
    | 4, _, _, _, _, hv => exact hv
    | 5, _, _, _, _, hv => exact hv
    | 6, _, _, _, _, hv => exact hv
    | 7, _, _, _, _, hv => exact hv
    | 8, _, _, _, _, hv => exact hv
    | 9, _, _, _, _, hv => exact hv
    | 10, _, _, _, _, hv => exact hv
    | 11, _, _, _, _, hv => exact hv
    | 12, _, _, hlv, _, _ => exact absurd hlv (by show ¬ (!upd D 16 true 13) = true; rw [upd_ne _ _ (by omega), hR.pred 13 (by kernel_rfl)]; decide)
    | 13, _, _, _, _, hv => exact hv
    | 14, _, _, _, _, hv => exact hv
    | 15, _, _, _, _, hv => exact hv
    | 16, hk, _, _, _, _ => exact absurd rfl hk
    | k + 17, _, _, _, hkl, _ => exact absurd hkl (by simp)
  ·intro D V w5 hD hI;obtain ⟨hS1, hM1, hB1, hG1⟩ := hI.1;have hSx : Strm w5 b (N1 + 2) := hS1.more (by show _ ≤ _; have := Bool.toNat_le (D 5); have := Bool.toNat_le (D 13); omega);clear hS1;have hMx := hM1;clear hM1;have hBx := hB1;clear hB1;have hGx := hG1;clear hG1;have zf0 : V 0 = .slice (some ⟨g, 0, none⟩) n cap := hI.2 0 (hD 0 (by decide)) rfl;have zf1 : V 1 = .int .i64 (kk : Int) := hI.2 1 (hD 1 (by decide)) rfl;have zf2 : V 2 = .pointer (some ⟨b, 0, none⟩) := hI.2 2 (hD 2 (by decide)) rfl;have zf3 : V 3 = .pointer (some ⟨b, 0, none⟩) := hI.2 3 (hD 3 (by decide)) rfl;have zf4 : V 4 = .int .i64 mI := hI.2 4 (hD 4 (by decide)) rfl;have zF5 : ∃ (k_5 : Int), V 5 = .int .i64 k_5 ∧ 0 ≤ k_5 ∧ k_5 < mI := hI.2 5 (hD 5 (by decide)) rfl;obtain ⟨k_5, zf5, c5_0, c5_1⟩ := zF5;have zF6 : ∃ (s_6 : Str), V 6 = .string ⟨s_6.toArray⟩ ∧ s_6.length ≤ 100 := hI.2 6 (hD 6 (by decide)) rfl;obtain ⟨s_6, zf6, c6_0⟩ := zF6;have zf7 : V 7 = .slice (some ⟨g, 0, none⟩) n cap := hI.2 7 (hD 7 (by decide)) rfl;have zf8 : V 8 = .int .i64 (kk : Int) := hI.2 8 (hD 8 (by decide)) rfl;have zf9 : V 9 = .pointer (some ⟨g, kk * 7, none⟩) := hI.2 9 (hD 9 (by decide)) rfl;have zf10 : V 10 = .pointer (some ⟨g, kk * 7, none⟩) := hI.2 10 (hD 10 (by decide)) rfl;have zF11 : ∃ (s_11 : Str), V 11 = .string ⟨s_11.toArray⟩ ∧ s_11.length ≤ 100 := hI.2 11 (hD 11 (by decide)) rfl;obtain ⟨s_11, zf11, c11_0⟩ := zF11;have zF13 : ∃ (s_13 : Str), V 13 = .string ⟨s_13.toArray⟩ ∧ s_13.length ≤ 100 := hI.2 13 (hD 13 (by decide)) rfl;obtain ⟨s_13, zf13, c13_0⟩ := zF13;have zf14 : V 14 = .pointer (some ⟨g, kk * 7, none⟩) := hI.2 14 (hD 14 (by decide)) rfl;have zf15 : V 15 = .pointer (some ⟨g, kk * 7 + 5, none⟩) := hI.2 15 (hD 15 (by decide)) rfl;clear hI hD HGs;simp only [frAll, Act.put, List.setIfInBounds_toArray, List.set_cons_zero, List.set_cons_succ, Nat.zero_add, Nat.reduceAdd, zf0, zf1, zf2, zf3, zf4, zf5, zf6, zf7, zf8, zf9, zf10, zf11, zf13, zf14, zf15];clear zf0 zf1 zf2 zf3 zf4 zf5 zf6 zf7 zf8 zf9 zf10 zf11 zf13 zf14 zf15;generalize V 12 = u12;clear V D;obtain ⟨zs, _, hz, hz3⟩ := hGx;have HZ := Lib.hid hz;clear hz
   go_wp2_with fail
   go_ret;exact DONE.out _ zs HZ.out hz3 (hSx.more (by omega)) hMx
 have s0' : (sw == 0) = false := by simpa using s0
 by_cases s1 : sw = 1
 ·subst s1;obtain ⟨c0, c1, c2, c3, c4, c5, c6⟩ := own4.cells hkx;have HSI := Lib.hid (fun (W : World) (h : OwnI W w.heap.size g n cap xs) y => h.setItem hkx y);have HIZ := Lib.hid (HXZ.out _ (List.getElem_mem hkx)).1;have HIC := Lib.hid (fun W => item_callsG W b (N + 142 * m + 1 + 1 + 1) xs[kk].id);have HCC := Lib.hid (fun (W : World) (h : OwnI W w.heap.size g n cap xs) => h.cells hkx);have hidl := HIZ.out;generalize xs[kk].id = kid at *
  go_wp2_with fail
  refine (HIC.out _ hS4 (by omega) (by omega)).mono ?_;rintro e w5 ⟨z, hz, rfl, hS5, hM5⟩;have own5 := own4.mod hM5 (by omega);have m5 := m4.trans hM5;clear hS4 own4 m4 hM5 c0 c1 c2 c3 c4 c5 c6;obtain ⟨d0, d1, d2, d3, d4, d5, d6⟩ := HCC.out _ own5;have f0 := own5.frozen (kk * 7);have f1 := own5.frozen (kk * 7 + 1);have f2 := own5.frozen (kk * 7 + 2);have f3 := own5.frozen (kk * 7 + 3);have f4 := own5.frozen (kk * 7 + 4);have f5 := own5.frozen (kk * 7 + 5);have f6 := own5.frozen (kk * 7 + 6);have HO := Lib.hid (HSI.out _ own5 z);have HZ : Hid (∀ x ∈ xs.set kk z, ItG x) := Lib.hid (set_all HXZ.out hz);clear own5 HSI HIC HCC hz hidl HIZ;unfold itA
  go_wp2_with fail
  go_ret;exact DONE.out _ _ HZ.out HO.out ((((((((hS5.setR hbg _ _).setR hbg _ _).setR hbg _ _).setR hbg _ _).setR hbg _ _).setR hbg _ _).setR hbg _ _).more (by omega)) (((((((m5.setR hmg _ _).setR hmg _ _).setR hmg _ _).setR hmg _ _).setR hmg _ _).setR hmg _ _).setR hmg _ _)
 have s1' : (sw == 1) = false := by simpa using s1
 by_cases s2 : sw = 2
 ·subst s2
  have h0x : 0 < xs.length := by omega
  obtain ⟨c0, c1, c2, c3, c4, c5, c6⟩ := own4.cells h0x;simp only [Nat.zero_mul, Nat.zero_add] at c0 c1 c2 c3 c4 c5 c6
  have HZ : Hid (∀ x ∈ xs ++ [xs[0]], ItG x) := Lib.hid (fun y hy => by
   rcases List.mem_append.1 hy with hy | hy
   ·exact HXZ.out y hy
   ·rw [List.mem_singleton.1 hy]; exact HXZ.out _ (List.getElem_mem h0x))
  have HXV := Lib.hid (itV_snoc xs xs[0]);have HLN : Hid ((xs ++ [xs[0]]).length = n + 1) := Lib.hid (by simp; omega);unfold itC at HXV;generalize xs[0] = z at *
  have j0 : (0 : Int) < (n : Int) := by omega
  have own4' : w4.ownsRow w.heap.size 40 7 (.slice (some ⟨g, 0, none⟩) n cap) n (itV xs) := own4
  go_wp2_with (at_builtin; refine wpList_append_lies _ rfl _ _ _ rfl w.heap.size 40 i0 _ 7 96 Tryz.underlying26 hi0 hz0 hz1 hz2 rfl (by omega) (.slice (some ⟨g, 0, none⟩) n cap) n (itV xs) rfl (own4'.alloc _) ⟨w4.heap.size, 0, none⟩ 1 1 [.string ⟨z.id.toArray⟩, .string ⟨z.cust.toArray⟩, .int .i64 z.kind, .string ⟨z.name.toArray⟩, .int .i64 z.tm, .string ⟨z.par.toArray⟩, .string ⟨z.text.toArray⟩] rfl rfl (World.news_of_block (cs := #[.string ⟨z.id.toArray⟩, .string ⟨z.cust.toArray⟩, .int .i64 z.kind, .string ⟨z.name.toArray⟩, .int .i64 z.tm, .string ⟨z.par.toArray⟩, .string ⟨z.text.toArray⟩]) (t := 40) (fr := (0, 0)) (heap_alloc_new w4 _)) (by simp [Value.oneCell']) (by omega) (by simp [maxLen]; omega) (by omega) (by have := m4.size; simp; omega) (w4.heap.size + 1) (by simp) ?_; intro g5 cap5 w5 hown5 hgrow hat hlt5)
  go_ret;refine ⟨_, xs ++ [z], rfl, by rw [HLN.out]; omega, HZ.out, ?_, (hS4.alloc _ |>.mod (S := fun k => (Value.slice (some ⟨g, 0, none⟩) n cap).ownBlock = some k) ⟨hgrow.os, hgrow.tape, hgrow.output, hgrow.size, fun k hk hs => hgrow.block k hk (fun x => hs x.symm)⟩ (fun i hi hk => by have := own_block own4' i hk; omega)).more (by omega), (m4.alloc _).grown hgrow (fun k hk => .inr (by have := own_block own4' k hk; omega))⟩;rw [HXV.out, HLN.out]
  simpa using hown5
 have s2' : (sw == 2) = false := by simpa using s2
 by_cases s3 : sw = 3
 ·subst s3;have c2 := (own4.cells hkx).2.2.1;have HSI := Lib.hid (fun (W : World) (h : OwnI W w.heap.size g n cap xs) z => h.setKind hkx z);have HZ : Hid (∀ z, ∀ x ∈ xs.set kk { xs[kk] with kind := z }, ItG x) := Lib.hid (fun z => set_all HXZ.out ((HXZ.out _ (List.getElem_mem hkx)).kind z));have HCC := Lib.hid (fun (W : World) (h : OwnI W w.heap.size g n cap xs) => (h.cells hkx).2.2.1)
  go_wp2_with fail
  refine (odd_calls _ b _ _ _ hS4 (by omega) (by omega) (by omega) (by omega)).mono ?_;rintro e w5 ⟨z, _, _, rfl, hS5, hM5⟩;have own5 := own4.mod hM5 (by omega);have m5 := m4.trans hM5;have d2 := HCC.out _ own5;have f2 := own5.frozen (kk * 7 + 2);have HO := Lib.hid (HSI.out _ own5 z);have HZ2 := Lib.hid (HZ.out z);clear hS4 own4 m4 hM5 own5 HSI HCC HZ c2;generalize xs.set kk { xs[kk] with kind := z } = ys at *
  go_wp2_with fail
  go_ret;exact DONE.out _ _ HZ2.out HO.out ((hS5.setR hbg _ _).more (by omega)) (m5.setR hmg _ _)
 have s3' : (sw == 3) = false := by simpa using s3
 clear s0 s1 s2 s3 hkx hkn i3 i4;obtain ⟨base, hbase⟩ : ∃ base, base = w.heap.size := ⟨_, rfl⟩;rw [← hbase] at own4 DONE;clear hbase
 go_wp2_with fail
 go_loopg [24] 4 (fun gk i wr => Im4 w b (N + 142 * m + 3) base g n cap gk i wr)
 case atStart => exact ⟨0, xs, rfl, by omega, rfl, HXZ.out, own4, hS4.more (by omega), m4⟩
 case round =>
  clear HXZ own4 hS4 m4 hn1 hn2;obtain ⟨j, ys, rfl, hj, rfl, hyz, hown, hS, hmm⟩ := hrel;have hyl := hown.len
  by_cases hlt : j < 4
  ·have HYZ := Lib.hid hyz;clear hyz
   go_wp2_with fail
   refine (next_calls _ b _ _ hS (by omega) (by omega) (by omega)).mono ?_;rintro e w5 ⟨p, hp0, hp1, rfl, hS5, hM5⟩;obtain ⟨p, rfl⟩ := Int.eq_ofNat_of_zero_le hp0;have own5 := hown.mod hM5 (by omega);have m5 := hmm.trans hM5;clear hS hown hmm hM5
   go_wp2_with fail
   refine (next_calls _ b _ _ hS5 (by omega) (by omega) (by omega)).mono ?_;rintro e w6 ⟨q, hq0, hq1, rfl, hS6, hM6⟩;obtain ⟨q, rfl⟩ := Int.eq_ofNat_of_zero_le hq0;have own6 := own5.mod hM6 (by omega);have m6 := m5.trans hM6
   have hpy : p < ys.length := by omega
   have hqy : q < ys.length := by omega
   have c0 := (own6.cells hqy).1;have c1 := (own6.cells hpy).2.2.2.2.2.1;have c2 := own6.frozen (p * 7 + 5);have HO := Lib.hid (own6.setPar hpy ys[q].id);have HZ1 : Hid (∀ x ∈ ys.set p { ys[p] with par := ys[q].id }, ItG x) := Lib.hid (set_all HYZ.out ((HYZ.out _ (List.getElem_mem hpy)).par (by have := (HYZ.out _ (List.getElem_mem hqy)).1; omega)));clear hS5 own5 m5 hM6 own6 hp0 hq0 hyl HYZ;generalize ys.set p { ys[p] with par := ys[q].id } = y1 at *;generalize ys[q].id = qid at *;generalize ys[p].par = ppar at *
   have j1 : (0 : Int) ≤ (p : Int) := by omega
   have j3 : (0 : Int) ≤ (q : Int) := by omega
   go_wp2_with fail
   go_roundg (4 - (j + 1))
   case measure => omega
   case rel => exact ⟨j + 1, y1, rfl, by omega, by simp, HZ1.out, HO.out, (hS6.setR hbg _ _).more (by omega), m6.setR hmg _ _⟩
  ·obtain rfl : j = 4 := by omega
   have HYZ := Lib.hid hyz;clear hyz
   go_wp2_with fail
   go_ret;exact DONE.out _ ys HYZ.out hown (hS.more (by omega)) hmm
end Go.Proofs.YtelpdjhkedhppaaGreatDoor
/- Two hex digits as strconv reads them. -/
namespace Go.Proofs.YtelpdjhkedhppaaGreatDoor
open Go.RowKit
def hv (x : Nat) : Nat := if 48 ≤ x ∧ x ≤ 57 then x - 48 else if 97 ≤ (x ||| 32) ∧ (x ||| 32) ≤ 122 then (x ||| 32) - 87 else 255
theorem hv_hexV (c : UInt8) : (hv c.toNat < 16 ↔ hexV c < 16) ∧ (hv c.toNat < 16 → hv c.toNat = hexV c) := by
 have key : ∀ n : Fin 256, (hv (UInt8.ofNat n.val).toNat < 16 ↔ hexV (UInt8.ofNat n.val) < 16) ∧ (hv (UInt8.ofNat n.val).toNat < 16 → hv (UInt8.ofNat n.val).toNat = hexV (UInt8.ofNat n.val)) := by decide +kernel
 have := key ⟨c.toNat, c.toNat_lt⟩
 simpa using this
def SameInt (w : World) (v : Value) (e : Ending) (w' : World) : Prop := e = .returned v ∧ w = w'
set_option maxHeartbeats 400000 in
theorem lower_calls (w : World) (x : Nat) (hx : x < 256) : Calls Tryz.prog 273 #[.int .u8 (x : Int)] w (SameInt w (.int .u8 ((x ||| 32 : Nat) : Int))) := by
 have h := u8_or_nat x 32 hx (by omega);have h' : bits BinOp.or IntKind.u8 (x : Int) 32 = ((x ||| 32 : Nat) : Int) := h;clear h;generalize x ||| 32 = y at *
 go_enter Tryz.func273, Tryz.ntmps273
 go_wp2_with fail
 go_ret;exact ⟨rfl, rfl⟩
def num2 (a b : Nat) : Nat → Nat
 | 0 => 0
 | 1 => hv a
 | _ => hv a * 16 + hv b
def nth2 (a b : Nat) : Nat → Nat
 | 0 => a
 | _ => b
def PuRel (W : World) (a b gk : Nat) (un n i : Value) (wr : World) : Prop :=
 ∃ k : Nat, un = .bool false ∧ 2 - k = gk ∧ k ≤ 2 ∧ i = .int .i64 (k : Int) ∧ n = .int .u64 ((num2 a b k : Nat) : Int) ∧ (∀ j, j < k → hv (nth2 a b j) < 16) ∧ W = wr
def PuPost (w : World) (a b : Nat) (e : Ending) (w' : World) : Prop :=
 ((hv a < 16 ∧ hv b < 16 ∧ e = .returned (.tuple #[.int .u64 ((hv a * 16 + hv b : Nat) : Int), .nilIface])) ∨ (¬ (hv a < 16 ∧ hv b < 16) ∧ e = .returned (.tuple #[.int .u64 0, .iface 243 (.int .i64 2)]))) ∧ Pure w w'
theorem num2_step (a b k : Nat) (hk : k < 2) : num2 a b (k + 1) = num2 a b k * 16 + hv (nth2 a b k) := by
 rcases (show k = 0 ∨ k = 1 by omega) with rfl | rfl
 ·simp [num2, nth2]
 ·rfl
theorem num2_lt (a b k : Nat) (hk : k < 2) (h : ∀ j, j < k → hv (nth2 a b j) < 16) : num2 a b k < 16 := by
 rcases (show k = 0 ∨ k = 1 by omega) with rfl | rfl
 ·simp [num2]
 ·exact h 0 (by omega)
theorem bytes_pure2 (w : World) (e : TypeId) (s : ByteArray) : Pure w (Lib.bytesWorld w e s) := by
 refine ⟨?_, ?_, ?_, by rw [Lib.bytesWorld_size]; omega, fun k hk _ => Lib.bytesWorld_at_old w e s k hk⟩
 all_goals
  unfold Lib.bytesWorld World.freeze
  split <;> rfl
set_option maxHeartbeats 2000000 in
theorem iparse_calls (w : World) (x y : UInt8) : Calls Tryz.prog 245 #[.string ⟨#[x, y]⟩, .int .i64 16, .int .i64 8] w (PuPost w x.toNat y.toNat) := by
 have hcv := fun W s => Lib.run_convert_string_bytes (P := Tryz.prog) W 9 77 5 s Tryz.underlying9 Tryz.underlying77 Tryz.underlying5
 have hc : ∀ k, k < 2 → (Lib.bytesWorld w 5 ⟨#[x, y]⟩).cell? ⟨w.heap.size, k, none⟩ = some (.int .u8 ((nth2 x.toNat y.toNat k : Nat) : Int)) := by
  intro k hk;rw [Lib.bytesWorld_cell w _ _ k (by simpa [ByteArray.size] using hk)]
  rcases (show k = 0 ∨ k = 1 by omega) with rfl | rfl <;> rfl
 have HC := Lib.hid hc;have HPU := Lib.hid (bytes_pure2 w 5 ⟨#[x, y]⟩);have hal := x.toNat_lt;have hbl := y.toNat_lt;clear hc
 go_enter Tryz.func245, Tryz.ntmps245
 go_wp2_with fail
 clear hcv;generalize Lib.bytesWorld w 5 ⟨#[x, y]⟩ = W at *;generalize x.toNat = a at *;generalize y.toNat = b at *
 go_loopg [12, 13, 101] 2 (fun gk un n i wr => PuRel W a b gk un n i wr)
 case atStart => exact ⟨0, rfl, rfl, by omega, rfl, rfl, fun j hj => absurd hj (by omega), rfl⟩
 case round =>
  obtain ⟨k, rfl, rfl, hk, rfl, rfl, hall, rfl⟩ := hrel;have HALL := Lib.hid hall;clear hall
  by_cases hlt : k < 2
  ·have hq := HC.out k hlt;have HST := Lib.hid (num2_step a b k hlt);have hn16 := num2_lt a b k hlt HALL.out
   have hd256 : nth2 a b k < 256 := by rcases (show k = 0 ∨ k = 1 by omega) with rfl | rfl <;> assumption
   have HBAD : Hid (16 ≤ hv (nth2 a b k) → ¬ (hv a < 16 ∧ hv b < 16)) := Lib.hid (by
    intro h1 h2
    rcases (show k = 0 ∨ k = 1 by omega) with rfl | rfl
    ·exact absurd h2.1 (by show ¬ hv (nth2 a b 0) < 16; omega)
    ·exact absurd h2.2 (by show ¬ hv (nth2 a b 1) < 16; omega))
   have HALL2 : Hid (hv (nth2 a b k) < 16 → ∀ j, j < k + 1 → hv (nth2 a b j) < 16) := Lib.hid (by
    intro h1 j hj
    by_cases e : j = k
    ·subst e; exact h1
    ·exact HALL.out j (by omega))
   obtain ⟨z, hz⟩ : ∃ z : Int, ((num2 a b k : Nat) : Int) = z := ⟨_, rfl⟩;have HST2 : Hid (((num2 a b (k + 1) : Nat) : Int) = z * 16 + ((hv (nth2 a b k) : Nat) : Int)) := Lib.hid (by rw [HST.out, ← hz]; omega)
   have z0 : 0 ≤ z := by omega
   have z1 : z < 16 := by omega
   rw [hz];clear hz HST hn16
   have c1 : ¬ ((1152921504606846976 : Int) ≤ z) := by omega
   generalize hdd : nth2 a b k = d at *;clear hdd
   by_cases h95 : d = 95
   ·subst h95;have HLO := Lib.hid (fun W => lower_calls W 95 hd256);have HF := Lib.hid (HBAD.out (by decide));clear hd256
    go_wp2_with fail
    refine (HLO.out _).mono ?_;rintro e w' ⟨rfl, rfl⟩
    go_wp2_with fail
    refine (HLO.out _).mono ?_;rintro e w' ⟨rfl, rfl⟩
    go_wp2_with fail
    go_ret2
    exact ⟨.inr ⟨HF.out, rfl⟩, HPU.out⟩
   have b95 : ((d : Int) == 95) = false := by simp; omega
   clear h95
   by_cases hA : 48 ≤ d ∧ d ≤ 57
   ·obtain ⟨hA1, hA2⟩ := hA
    have v1 : (48 : Int) ≤ (d : Int) := by omega
    have v2 : (d : Int) ≤ 57 := by omega
    have dv1 : decide (48 ≤ d) = true := by simp; omega
    have dv2 : decide (d ≤ 57) = true := by simp; omega
    have HV : Hid (hv d = d - 48) := Lib.hid (if_pos ⟨hA1, hA2⟩);have HF : Hid (hv d < 16) := Lib.hid (by rw [HV.out]; omega)
    have w3 : ¬ ((16 : Int) ≤ (d : Int) - 48) := by omega
    go_wp2_with fail
    go_roundg (2 - (k + 1))
    case measure => omega
    case rel => exact ⟨k + 1, rfl, rfl, by omega, by simp, by rw [HST2.out, HV.out]; congr 1; omega, HALL2.out HF.out, rfl⟩
   ·by_cases hlo : d < 48
    ·have hy256 : d ||| 32 < 256 := Nat.or_lt_two_pow (n := 8) hd256 (by omega);have HLO := Lib.hid (fun W => lower_calls W d hd256);have HV : Hid (hv d = if 97 ≤ (d ||| 32) ∧ (d ||| 32) ≤ 122 then (d ||| 32) - 87 else 255) := Lib.hid (if_neg hA);generalize d ||| 32 = y at *
     have v1 : ¬ ((48 : Int) ≤ (d : Int)) := by omega
     have dv1 : decide (48 ≤ d) = false := by simp; omega
     by_cases hl1 : 97 ≤ y
     ·have w1 : (97 : Int) ≤ (y : Int) := by omega
      have dw1 : decide (97 ≤ y) = true := by simpa using hl1
      by_cases hl2 : y ≤ 122
      ·have w2 : (y : Int) ≤ 122 := by omega
       have dw2 : decide (y ≤ 122) = true := by simpa using hl2
       have HV2 : Hid (hv d = y - 87) := Lib.hid (by rw [HV.out, if_pos ⟨hl1, hl2⟩]);clear HV
       by_cases h16 : y - 87 < 16
       ·have w3 : ¬ ((16 : Int) ≤ (y : Int) - 97 + 10) := by omega
        have HF : Hid (hv d < 16) := Lib.hid (by rw [HV2.out]; exact h16)
        go_wp2_with fail
        refine (HLO.out _).mono ?_;rintro e w' ⟨rfl, rfl⟩
        go_wp2_with fail
        refine (HLO.out _).mono ?_;rintro e w' ⟨rfl, rfl⟩
        go_wp2_with fail
        refine (HLO.out _).mono ?_;rintro e w' ⟨rfl, rfl⟩
        go_wp2_with fail
        go_roundg (2 - (k + 1))
        case measure => omega
        case rel => exact ⟨k + 1, rfl, rfl, by omega, by simp, by rw [HST2.out, HV2.out]; congr 1; omega, HALL2.out HF.out, rfl⟩
       ·have w3 : (16 : Int) ≤ (y : Int) - 97 + 10 := by omega
        have HF := Lib.hid (HBAD.out (by rw [HV2.out]; omega))
        go_wp2_with fail
        refine (HLO.out _).mono ?_;rintro e w' ⟨rfl, rfl⟩
        go_wp2_with fail
        refine (HLO.out _).mono ?_;rintro e w' ⟨rfl, rfl⟩
        go_wp2_with fail
        refine (HLO.out _).mono ?_;rintro e w' ⟨rfl, rfl⟩
        go_wp2_with fail
        go_ret2
        exact ⟨.inr ⟨HF.out, rfl⟩, HPU.out⟩
      ·have w2 : ¬ ((y : Int) ≤ 122) := by omega
       have dw2 : decide (y ≤ 122) = false := by simpa using hl2
       have HF := Lib.hid (HBAD.out (by rw [HV.out, if_neg (by omega)]; omega))
       go_wp2_with fail
       refine (HLO.out _).mono ?_;rintro e w' ⟨rfl, rfl⟩
       go_wp2_with fail
       refine (HLO.out _).mono ?_;rintro e w' ⟨rfl, rfl⟩
       go_wp2_with fail
       go_ret2
       exact ⟨.inr ⟨HF.out, rfl⟩, HPU.out⟩
     ·have w1 : ¬ ((97 : Int) ≤ (y : Int)) := by omega
      have dw1 : decide (97 ≤ y) = false := by simpa using hl1
      have HF := Lib.hid (HBAD.out (by rw [HV.out, if_neg (by omega)]; omega))
      go_wp2_with fail
      refine (HLO.out _).mono ?_;rintro e w' ⟨rfl, rfl⟩
      go_wp2_with fail
      go_ret2
      exact ⟨.inr ⟨HF.out, rfl⟩, HPU.out⟩
    ·have hy256 : d ||| 32 < 256 := Nat.or_lt_two_pow (n := 8) hd256 (by omega);have HLO := Lib.hid (fun W => lower_calls W d hd256);have HV : Hid (hv d = if 97 ≤ (d ||| 32) ∧ (d ||| 32) ≤ 122 then (d ||| 32) - 87 else 255) := Lib.hid (if_neg hA);generalize d ||| 32 = y at *
     have v1 : (48 : Int) ≤ (d : Int) := by omega
     have v2 : ¬ ((d : Int) ≤ 57) := by omega
     have dv1 : decide (48 ≤ d) = true := by simp; omega
     have dv2 : decide (d ≤ 57) = false := by simp; omega
     by_cases hl1 : 97 ≤ y
     ·have w1 : (97 : Int) ≤ (y : Int) := by omega
      have dw1 : decide (97 ≤ y) = true := by simpa using hl1
      by_cases hl2 : y ≤ 122
      ·have w2 : (y : Int) ≤ 122 := by omega
       have dw2 : decide (y ≤ 122) = true := by simpa using hl2
       have HV2 : Hid (hv d = y - 87) := Lib.hid (by rw [HV.out, if_pos ⟨hl1, hl2⟩]);clear HV
       by_cases h16 : y - 87 < 16
       ·have w3 : ¬ ((16 : Int) ≤ (y : Int) - 97 + 10) := by omega
        have HF : Hid (hv d < 16) := Lib.hid (by rw [HV2.out]; exact h16)
        go_wp2_with fail
        refine (HLO.out _).mono ?_;rintro e w' ⟨rfl, rfl⟩
        go_wp2_with fail
        refine (HLO.out _).mono ?_;rintro e w' ⟨rfl, rfl⟩
        go_wp2_with fail
        refine (HLO.out _).mono ?_;rintro e w' ⟨rfl, rfl⟩
        go_wp2_with fail
        go_roundg (2 - (k + 1))
        case measure => omega
        case rel => exact ⟨k + 1, rfl, rfl, by omega, by simp, by rw [HST2.out, HV2.out]; congr 1; omega, HALL2.out HF.out, rfl⟩
       ·have w3 : (16 : Int) ≤ (y : Int) - 97 + 10 := by omega
        have HF := Lib.hid (HBAD.out (by rw [HV2.out]; omega))
        go_wp2_with fail
        refine (HLO.out _).mono ?_;rintro e w' ⟨rfl, rfl⟩
        go_wp2_with fail
        refine (HLO.out _).mono ?_;rintro e w' ⟨rfl, rfl⟩
        go_wp2_with fail
        refine (HLO.out _).mono ?_;rintro e w' ⟨rfl, rfl⟩
        go_wp2_with fail
        go_ret2
        exact ⟨.inr ⟨HF.out, rfl⟩, HPU.out⟩
      ·have w2 : ¬ ((y : Int) ≤ 122) := by omega
       have dw2 : decide (y ≤ 122) = false := by simpa using hl2
       have HF := Lib.hid (HBAD.out (by rw [HV.out, if_neg (by omega)]; omega))
       go_wp2_with fail
       refine (HLO.out _).mono ?_;rintro e w' ⟨rfl, rfl⟩
       go_wp2_with fail
       refine (HLO.out _).mono ?_;rintro e w' ⟨rfl, rfl⟩
       go_wp2_with fail
       go_ret2
       exact ⟨.inr ⟨HF.out, rfl⟩, HPU.out⟩
     ·have w1 : ¬ ((97 : Int) ≤ (y : Int)) := by omega
      have dw1 : decide (97 ≤ y) = false := by simpa using hl1
      have HF := Lib.hid (HBAD.out (by rw [HV.out, if_neg (by omega)]; omega))
      go_wp2_with fail
      refine (HLO.out _).mono ?_;rintro e w' ⟨rfl, rfl⟩
      go_wp2_with fail
      go_ret2
      exact ⟨.inr ⟨HF.out, rfl⟩, HPU.out⟩
  ·obtain rfl : k = 2 := by omega
   have h1 := HALL.out 0 (by omega);have h2 := HALL.out 1 (by omega)
   go_wp2_with fail
   go_ret2
   exact ⟨.inl ⟨h1, h2, rfl⟩, HPU.out⟩
end Go.Proofs.YtelpdjhkedhppaaGreatDoor
/-
 DERIVED: THE SHELF's CONTRACTS AT THIS DUMP, IN PLAIN WORDS (tools/lay-plain.mjs out of 'YtelpdjhkedhppaaGreatDoorLaySyn.lean', which tools/lay-shelf.mjs wrote): THE SAME DECLARATIONS UNDER THE SAME NAMES: 'import', 'namespace', 'open', 'def', 'theorem' AND NOTHING ELSE: no command of the shelf's: FOR A HAND-IN. Each laying: the table of numbers ('.._ren') and one theorem, a field a fact of the dump's own or the kernel's comparison; each contract: ONE APPLICATION.
-/
namespace Go.Proofs
open Go.Shelf
def Tryz.laysM279_ren : Go.Shelf.Ren := ⟨fun | 279 => 241 | 316 => 271 | n => n, fun | 9 => 9 | 168 => 246 | 75 => 84 | 210 => 279 | 3 => 3 | 4 => 4 | 37 => 77 | 0 => 0 | 127 => 145 | 80 => 43 | 5 => 5 | n => n, fun | 15 => 6 | n => n⟩
theorem Tryz.laysM279 : Go.Proofs.LaysM.n279 Tryz.prog Tryz.laysM279_ren := {
 mixed := by kernel_rfl
 f279 := Tryz.func241.trans (congrArg some (by kernel_rfl))
 f316 := Tryz.func271.trans (congrArg some (by kernel_rfl))
 t0 := Tryz.underlying0
 a0 := Tryz.isAgg0
 z0 := Tryz.sizeOf0
 v0 := Tryz.zeroValue0
 t3 := Tryz.underlying3
 a3 := Tryz.isAgg3
 z3 := Tryz.sizeOf3
 v3 := Tryz.zeroValue3
 t4 := Tryz.underlying4
 a4 := Tryz.isAgg4
 z4 := Tryz.sizeOf4
 v4 := Tryz.zeroValue4
 t9 := Tryz.underlying9
 a9 := Tryz.isAgg9
 z9 := Tryz.sizeOf9
 v9 := Tryz.zeroValue9
 t37 := Tryz.underlying77
 a37 := Tryz.isAgg77
 z37 := Tryz.sizeOf77
 v37 := Tryz.zeroValue77
 t75 := Tryz.underlying84
 a75 := Tryz.isAgg84
 z75 := Tryz.sizeOf84
 v75 := Tryz.zeroValue84
 t127 := Tryz.underlying145
 a127 := Tryz.isAgg145
 z127 := Tryz.sizeOf145
 v127 := Tryz.zeroValue145
 t168 := Tryz.underlying246
 a168 := Tryz.isAgg246
 z168 := Tryz.sizeOf246
 v168 := Tryz.zeroValue246
 t210 := Tryz.underlying279
 a210 := Tryz.isAgg279
 z210 := Tryz.sizeOf279
 v210 := Tryz.zeroValue279
 g15 := by kernel_rfl
 t5 := Tryz.underlying5
 a5 := Tryz.isAgg5
 z5 := Tryz.sizeOf5
 v5 := Tryz.zeroValue5
 t80 := Tryz.underlying43
 a80 := Tryz.isAgg43
 z80 := Tryz.sizeOf43
 v80 := Tryz.zeroValue43
 i0 := by kernel_rfl
 i3 := by kernel_rfl
 i4 := by kernel_rfl
 i5 := by kernel_rfl
 i9 := by kernel_rfl
 i37 := by kernel_rfl
 i75 := by kernel_rfl
 i80 := by kernel_rfl
 i127 := by kernel_rfl
 i168 := by kernel_rfl
 i210 := by kernel_rfl
 m15 := by kernel_rfl }
end Go.Proofs
/- Quoted strings: escaped and Unquote of package intake. -/
namespace Go.Proofs.YtelpdjhkedhppaaGreatDoor
open Go.RowKit
def ErrS (w : World) : Prop := ∃ te pe, w.cell? ⟨6, 0, none⟩ = some (.iface te pe)
theorem ErrS.pure {w w' : World} (h : ErrS w) (hm : Pure w w') : ErrS w' := by
 obtain ⟨te, pe, h⟩ := h;exact ⟨te, pe, hm.keep h id⟩
def ErrPost (w : World) (e : Ending) (w' : World) : Prop := ∃ N, e = .returned (.iface 246 (.pointer (some ⟨N, 0, none⟩))) ∧ Pure w w'
set_option maxHeartbeats 1000000 in
theorem toError_calls (w : World) (fn s : ByteArray) (hs : s.size ≤ 1000000) (hE : ErrS w) : Calls Tryz.prog 188 #[.string fn, .string s, .int .i64 16, .int .i64 8, .iface 243 (.int .i64 2)] w (ErrPost w) := by
 obtain ⟨te, pe, hv⟩ := hE;have HC := Lib.hid (Any.strconv_syntaxError Tryz.laysM279 fn s (.iface te pe) w (by omega) hv (.inr ⟨te, pe, rfl⟩))
 have heq : ∀ W, (binOp .eql 84 (.iface 243 (.int .i64 2)) (.iface 243 (.int .i64 2))).run Tryz.prog W = .ok (.bool true) W := fun W => by kernel_rfl
 clear hv
 go_enter Tryz.func188, Tryz.ntmps188
 go_wp2_with fail
 refine HC.out.mono ?_;rintro e w1 ⟨N, rfl, hN, _, hb⟩
 go_wp2_with fail
 go_ret;exact ⟨N, rfl, Mod.of_below hb⟩
def PsPost (w : World) (a b : Nat) (e : Ending) (w' : World) : Prop :=
 ((hv a < 16 ∧ hv b < 16 ∧ e = .returned (.tuple #[.int .u64 ((hv a * 16 + hv b : Nat) : Int), .nilIface])) ∨ (¬ (hv a < 16 ∧ hv b < 16) ∧ ∃ n N, e = .returned (.tuple #[.int .u64 n, .iface 246 (.pointer (some ⟨N, 0, none⟩))]))) ∧ Pure w w'
set_option maxHeartbeats 1000000 in
theorem parse_calls (w : World) (x y : UInt8) (hE : ErrS w) : Calls Tryz.prog 189 #[.string ⟨#[x, y]⟩, .int .i64 16, .int .i64 8] w (PsPost w x.toNat y.toNat) := by
 have HE := Lib.hid hE;clear hE
 go_enter Tryz.func189, Tryz.ntmps189
 go_wp2_with fail
 refine (iparse_calls _ x y).mono ?_;rintro e w1 ⟨h | h, hm⟩
 ·obtain ⟨h1, h2, rfl⟩ := h;have H1 := Lib.hid h1;have H2 := Lib.hid h2;clear h1 h2
  go_wp2_with fail
  go_ret2
  exact ⟨.inl ⟨H1.out, H2.out, rfl⟩, hm⟩
 ·obtain ⟨h1, rfl⟩ := h;have H1 := Lib.hid h1;have HT := Lib.hid (fun fn => toError_calls w1 fn ⟨#[x, y]⟩ (by simp [ByteArray.size]) (HE.out.pure hm));clear h1
  go_wp2_with fail
  refine (HT.out _).mono ?_;rintro e w2 ⟨N, rfl, hm2⟩
  go_wp2_with fail
  go_ret2
  exact ⟨.inr ⟨H1.out, _, N, rfl⟩, hm.trans hm2⟩
theorem prefix_calls (w : World) (s p : ByteArray) : Calls Tryz.prog 139 #[.string s, .string p] w fun e w' => e = .returned (.bool (p.data.toList.isPrefixOf s.data.toList)) ∧ w = w' := by
 refine (Any.strings_HasPrefix Tryz.lays99 s p w).mono ?_;rintro e w' ⟨rfl, rfl⟩;exact ⟨rfl, rfl⟩
def EscPost (w : World) (l : Str) (e : Ending) (w' : World) : Prop := e = .returned (.tuple #[.int .u8 ((escP l).1.toNat : Int), .int .i64 ((escP l).2 : Int)]) ∧ Pure w w'
theorem at0 (c : UInt8) (r : Str) : ∀ h, (⟨(c :: r).toArray⟩ : ByteArray)[0]'h = c := fun _ => rfl
theorem at1 (c d : UInt8) (r : Str) : ∀ h, (⟨(c :: d :: r).toArray⟩ : ByteArray)[1]'h = d := fun _ => rfl
theorem u8_eq {c d : UInt8} (h : c.toNat = d.toNat) : c = d := UInt8.toNat_inj.1 h
theorem ne_int {c : UInt8} {n : Nat} (hn : n < 256) (hc : c ≠ UInt8.ofNat n) : c.toNat ≠ n := by
 intro h
 apply hc
 apply u8_eq
 simp
 omega
set_option maxHeartbeats 2000000 in
theorem escaped1_calls (w : World) (c : UInt8) (r : Str) (hc : c ≠ 92) (hr : r.length ≤ 300000) : Calls Tryz.prog 140 #[.string ⟨(c :: r).toArray⟩] w (EscPost w (c :: r)) := by
 have HE : Hid (escP (c :: r) = (c, 1)) := Lib.hid (by simp [escP, hc]);have h92 := ne_int (n := 92) (by omega) hc
 have hb : ((c.toNat : Int) != 92) = true := by simp; omega
 have hi := at0 c r;clear hc h92
 go_enter Tryz.func140, Tryz.ntmps140
 go_wp2_with fail
 go_ret2
 exact ⟨by rw [HE.out]; rfl, Mod.refl _ _⟩
set_option maxHeartbeats 2000000 in
theorem escaped2_calls (w : World) : Calls Tryz.prog 140 #[.string ⟨#[92]⟩] w (EscPost w [92]) := by
 go_enter Tryz.func140, Tryz.ntmps140
 go_wp2_with fail
 refine (prefix_calls _ _ _).mono ?_;rintro e w' ⟨rfl, rfl⟩;rw [show List.isPrefixOf (⟨#[92, 110]⟩ : ByteArray).data.toList (⟨#[92]⟩ : ByteArray).data.toList = false from rfl]
 go_wp2_with fail
 refine (prefix_calls _ _ _).mono ?_;rintro e w' ⟨rfl, rfl⟩;rw [show List.isPrefixOf (⟨#[92, 34]⟩ : ByteArray).data.toList (⟨#[92]⟩ : ByteArray).data.toList = false from rfl]
 go_wp2_with fail
 refine (prefix_calls _ _ _).mono ?_;rintro e w' ⟨rfl, rfl⟩;rw [show List.isPrefixOf (⟨#[92, 92]⟩ : ByteArray).data.toList (⟨#[92]⟩ : ByteArray).data.toList = false from rfl]
 go_wp2_with fail
 go_ret2
 exact ⟨rfl, Mod.refl _ _⟩
theorem pre2 (c d : UInt8) (x : UInt8) (r : Str) : List.isPrefixOf [x, d] (x :: c :: r) = (d == c) := by simp [List.isPrefixOf]
set_option maxHeartbeats 4000000 in
theorem escaped3_calls (w : World) (d : UInt8) (r : Str) (hr : r.length ≤ 300000) (hE : ErrS w) : Calls Tryz.prog 140 #[.string ⟨(92 :: d :: r).toArray⟩] w (EscPost w (92 :: d :: r)) := by
 have HE := Lib.hid hE;clear hE;have hi0 := at0 92 (d :: r);have hi1 := at1 92 d r
 have hz : (⟨(92 :: d :: r).toArray⟩ : ByteArray).size = r.length + 2 := by simp [ByteArray.size]
 have p1 : List.isPrefixOf (⟨#[92, 110]⟩ : ByteArray).data.toList (⟨(92 :: d :: r).toArray⟩ : ByteArray).data.toList = (110 == d) := pre2 d 110 92 r;have p2 : List.isPrefixOf (⟨#[92, 34]⟩ : ByteArray).data.toList (⟨(92 :: d :: r).toArray⟩ : ByteArray).data.toList = (34 == d) := pre2 d 34 92 r;have p3 : List.isPrefixOf (⟨#[92, 92]⟩ : ByteArray).data.toList (⟨(92 :: d :: r).toArray⟩ : ByteArray).data.toList = (92 == d) := pre2 d 92 92 r;have P1 := Lib.hid p1;have P2 := Lib.hid p2;have P3 := Lib.hid p3;clear p1 p2 p3
 by_cases h1 : d = 110
 ·subst h1
  go_enter Tryz.func140, Tryz.ntmps140
  go_wp2_with fail
  refine (prefix_calls _ _ _).mono ?_;rintro e w' ⟨rfl, rfl⟩;rw [P1.out]
  go_wp2_with fail
  go_ret2
  exact ⟨rfl, Mod.refl _ _⟩
 have q1 : ((110 : UInt8) == d) = false := by simpa using Ne.symm h1
 by_cases h2 : d = 34
 ·subst h2
  go_enter Tryz.func140, Tryz.ntmps140
  go_wp2_with fail
  refine (prefix_calls _ _ _).mono ?_;rintro e w' ⟨rfl, rfl⟩;rw [P1.out, q1]
  go_wp2_with fail
  refine (prefix_calls _ _ _).mono ?_;rintro e w' ⟨rfl, rfl⟩;rw [P2.out]
  go_wp2_with fail
  go_ret2
  exact ⟨rfl, Mod.refl _ _⟩
 have q2 : ((34 : UInt8) == d) = false := by simpa using Ne.symm h2
 by_cases h3 : d = 92
 ·subst h3
  go_enter Tryz.func140, Tryz.ntmps140
  go_wp2_with fail
  refine (prefix_calls _ _ _).mono ?_;rintro e w' ⟨rfl, rfl⟩;rw [P1.out, q1]
  go_wp2_with fail
  refine (prefix_calls _ _ _).mono ?_;rintro e w' ⟨rfl, rfl⟩;rw [P2.out, q2]
  go_wp2_with fail
  refine (prefix_calls _ _ _).mono ?_;rintro e w' ⟨rfl, rfl⟩;rw [P3.out]
  go_wp2_with fail
  go_ret2
  exact ⟨rfl, Mod.refl _ _⟩
 have q3 : ((92 : UInt8) == d) = false := by simpa using Ne.symm h3
 by_cases hl : r.length < 2
 ·have HX : Hid (escP (92 :: d :: r) = (0, 0)) := Lib.hid (by
   match r, hl with
   | [], _ => simp [escP, h1, h2, h3]
   | [_], _ => simp [escP, h1, h2, h3])
  have g4 : ¬ ((4 : Int) ≤ ((r.length : Nat) : Int) + 2) := by omega
  have g5 : decide (4 ≤ r.length + 2) = false := by simp; omega
  have g6 : ¬ (4 ≤ r.length + 2) := by omega
  clear h1 h2 h3
  go_enter Tryz.func140, Tryz.ntmps140
  go_wp2_with fail
  refine (prefix_calls _ _ _).mono ?_;rintro e w' ⟨rfl, rfl⟩;rw [P1.out, q1]
  go_wp2_with fail
  refine (prefix_calls _ _ _).mono ?_;rintro e w' ⟨rfl, rfl⟩;rw [P2.out, q2]
  go_wp2_with fail
  refine (prefix_calls _ _ _).mono ?_;rintro e w' ⟨rfl, rfl⟩;rw [P3.out, q3]
  go_wp2_with fail
  go_ret2
  exact ⟨by rw [HX.out]; rfl, Mod.refl _ _⟩
 ·by_cases h4 : d = 120
  ·subst h4
   obtain ⟨x, y, r3, rfl⟩ : ∃ x y r3, r = x :: y :: r3 := by
    match r, hl with
    | [], hl => exact absurd (by simp) hl
    | [_], hl => exact absurd (by simp) hl
    | x :: y :: r3, _ => exact ⟨x, y, r3, rfl⟩
   have hex : (⟨(92 :: 120 :: x :: y :: r3).toArray⟩ : ByteArray).extract 2 4 = ⟨#[x, y]⟩ := by
    apply ByteArray.ext
    simp [ByteArray.data_extract]
   have g4 : (4 : Int) ≤ (((x :: y :: r3).length : Nat) : Int) + 2 := by simp; omega
   have g5 : decide (4 ≤ (x :: y :: r3).length + 2) = true := by simp
   clear h1 h2 h3 hl
   go_enter Tryz.func140, Tryz.ntmps140
   go_wp2_with fail
   refine (prefix_calls _ _ _).mono ?_;rintro e w' ⟨rfl, rfl⟩;rw [P1.out, q1]
   go_wp2_with fail
   refine (prefix_calls _ _ _).mono ?_;rintro e w' ⟨rfl, rfl⟩;rw [P2.out, q2]
   go_wp2_with fail
   refine (prefix_calls _ _ _).mono ?_;rintro e w' ⟨rfl, rfl⟩;rw [P3.out, q3];have HK := Lib.hid (hv_hexV x);have HL := Lib.hid (hv_hexV y)
   go_wp2_with fail
   refine (parse_calls _ x y HE.out).mono ?_;rintro e w1 ⟨h | h, hm⟩
   ·obtain ⟨k1, k2, rfl⟩ := h;have e1 := HK.out.2 k1;have e2 := HL.out.2 k2
    have HX : Hid (escP (92 :: 120 :: x :: y :: r3) = (UInt8.ofNat (hv x.toNat * 16 + hv y.toNat), 4)) := Lib.hid (by
     have a1 := HK.out.1.1 k1;have a2 := HL.out.1.1 k2
     simp [escP, a1, a2, e1, e2])
    generalize hv x.toNat = p at *;generalize hv y.toNat = q at *;clear e1 e2 HK HL;obtain ⟨m, hm2⟩ : ∃ m, m = p * 16 + q := ⟨_, rfl⟩;rw [← hm2] at HX ⊢
    have hm256 : m < 256 := by omega
    have HM : Hid ((UInt8.ofNat m).toNat = m) := Lib.hid (by simp; omega);clear hm2
    go_wp2_with fail
    go_ret2
    exact ⟨by rw [HX.out]; show _ = Ending.returned (.tuple #[.int .u8 ((UInt8.ofNat m).toNat : Int), .int .i64 4]); rw [HM.out]; rfl, hm⟩
   ·obtain ⟨k1, n, N, rfl⟩ := h
    have HX : Hid (escP (92 :: 120 :: x :: y :: r3) = (0, 0)) := Lib.hid (by
     have a : ¬ (hexV x < 16 ∧ hexV y < 16) := fun h => k1 ⟨HK.out.1.2 h.1, HL.out.1.2 h.2⟩;simp only [escP]
     rw [if_neg (by simp), if_neg (by decide), if_neg (by decide), if_pos trivial, if_neg a])
    clear k1
    go_wp2_with fail
    go_ret2
    exact ⟨by rw [HX.out]; rfl, hm⟩
  ·have HX : Hid (escP (92 :: d :: r) = (0, 0)) := Lib.hid (by simp [escP, h1, h2, h3, h4])
   have g4 : (4 : Int) ≤ ((r.length : Nat) : Int) + 2 := by omega
   have g5 : decide (4 ≤ r.length + 2) = true := by simp; omega
   have g6 : 4 ≤ r.length + 2 := by omega
   have h120 := ne_int (n := 120) (by omega) h4
   have g7 : ((d.toNat : Int) == 120) = false := by simp; omega
   clear h1 h2 h3 h4 h120
   go_enter Tryz.func140, Tryz.ntmps140
   go_wp2_with fail
   refine (prefix_calls _ _ _).mono ?_;rintro e w' ⟨rfl, rfl⟩;rw [P1.out, q1]
   go_wp2_with fail
   refine (prefix_calls _ _ _).mono ?_;rintro e w' ⟨rfl, rfl⟩;rw [P2.out, q2]
   go_wp2_with fail
   refine (prefix_calls _ _ _).mono ?_;rintro e w' ⟨rfl, rfl⟩;rw [P3.out, q3]
   go_wp2_with fail
   go_ret2
   exact ⟨by rw [HX.out]; rfl, Mod.refl _ _⟩
theorem escaped_calls (w : World) (l : Str) (h0 : l ≠ []) (hl : l.length ≤ 300000) (hE : ErrS w) : Calls Tryz.prog 140 #[.string ⟨l.toArray⟩] w (EscPost w l) := by
 match l, h0, hl with
 | c :: r, _, hl =>
  by_cases hc : c = 92
  ·subst hc
   match r, hl with
   | [], _ => exact escaped2_calls w
   | d :: r2, hl => exact escaped3_calls w d r2 (by simp at hl; omega) hE
  ·exact escaped1_calls w c r hc (by simp at hl; omega)
end Go.Proofs.YtelpdjhkedhppaaGreatDoor
/- Quoted strings: Unquote of package intake. -/
namespace Go.Proofs.YtelpdjhkedhppaaGreatDoor
open Go.RowKit
theorem escP_le (l : Str) : (escP l).2 ≤ l.length := by
 rcases l with _ | ⟨c, _ | ⟨d, _ | ⟨e, _ | ⟨f, r⟩⟩⟩⟩ <;> simp only [escP] <;> repeat' split
 all_goals simp
theorem conv_own {w : World} {base n cap : Nat} {A : Option Addr} {l : Str} (h : w.ownsRow base 5 1 (.slice A n cap) n (Lib.byteCells l)) :
  (convert 77 9 (.slice A n cap)).run Tryz.prog w = .ok (.string ⟨l.toArray⟩) w := by
 have hn : l.length = n := by have := h.1; simp [Lib.byteCells] at this; omega
 obtain ⟨h0, h1 | ⟨g, c, cs, hv, hrest⟩⟩ := h
 ·obtain ⟨h1, h2⟩ := h1;have : l = [] := List.length_eq_zero_iff.1 (by omega);subst this
  cases h1
  exact run_convert_bytes_nil (P := Tryz.prog) w _ _ Tryz.underlying77 Tryz.underlying5 _ _ _ Tryz.underlying9
 ·cases hv
  have := run_convert_bytes_back (P := Tryz.prog) w 77 9 5 ⟨g, 0, none⟩ cap l Tryz.underlying77 Tryz.underlying5 Tryz.underlying9 (own_bytes (n := n) ⟨h0, .inr ⟨g, _, cs, rfl, hrest⟩⟩);rw [hn] at this;exact this
def UnqAt (l : Str) (k : Nat) (acc : Str) : Prop := k ≤ l.length ∧ ∃ f, (l.drop k).length < f ∧ unqF f (l.drop k) acc k = unqS l
theorem UnqAt.start (r : Str) : UnqAt (34 :: r) 1 [] := ⟨by simp, r.length + 1, by simp, rfl⟩
theorem UnqAt.end_ {l : Str} {acc : Str} (h : UnqAt l l.length acc) : unqS l = none := by
 obtain ⟨_, f, h1, h2⟩ := h;rw [List.drop_of_length_le (Nat.le_refl _)] at h1 h2;rw [← h2]
 match f, h1 with
 | f + 1, _ => rfl
theorem UnqAt.quote {l : Str} {k : Nat} {acc r : Str} (h : UnqAt l k acc) (hr : l.drop k = 34 :: r) : unqS l = some (acc, k + 1) := by
 obtain ⟨_, f, h1, h2⟩ := h;rw [hr] at h1 h2;rw [← h2]
 match f, h1 with
 | f + 1, _ => simp [unqF]
theorem UnqAt.bad {l : Str} {k : Nat} {acc r : Str} {c : UInt8} (h : UnqAt l k acc) (hr : l.drop k = c :: r) (hc : c ≠ 34) (hd : decP (c :: r) = none) : unqS l = none := by
 obtain ⟨_, f, h1, h2⟩ := h;rw [hr] at h1 h2;rw [← h2]
 match f, h1 with
 | f + 1, _ => simp [unqF, hc, hd]
theorem UnqAt.next {l : Str} {k : Nat} {acc r : Str} {c d : UInt8} {n : Nat} (h : UnqAt l k acc) (hr : l.drop k = c :: r) (hc : c ≠ 34) (hd : decP (c :: r) = some (d, n)) : UnqAt l (k + n) (acc ++ [d]) ∧ 1 ≤ n ∧ k + n ≤ l.length := by
 obtain ⟨hk, f, h1, h2⟩ := h;obtain ⟨hn, hp⟩ := decP_some hd;have hle := hp.length_le
 have h0 : 1 ≤ n := by
  rw [hn];unfold quoB
  split <;> (try split) <;> (try split) <;> simp
 have hlen : (l.drop k).length = l.length - k := List.length_drop ..;rw [← hr, ← hn, hlen] at hle;refine ⟨⟨by omega, ?_⟩, h0, by omega⟩;rw [hr] at h1 h2
 match f, h1, h2 with
 | f + 1, h1, h2 =>
  refine ⟨f, ?_, ?_⟩
  ·rw [List.length_drop];rw [← hr, hlen] at h1
   omega
  ·rw [← h2];simp only [unqF, hc, if_false, hd];rw [← hr, List.drop_drop]
def UnqPost (w : World) (l : Str) (e : Ending) (w' : World) : Prop :=
 ((unqS l = none ∧ e = .returned (.tuple #[.string ⟨#[]⟩, .int .i64 0, .int .i64 9])) ∨ ∃ out n, unqS l = some (out, n) ∧ e = .returned (.tuple #[.string ⟨out.toArray⟩, .int .i64 (n : Int), .int .i64 0])) ∧ Pure w w'
def UqRel (w : World) (l : Str) (base gk : Nat) (x a : Value) (wr : World) : Prop :=
 ∃ (k : Nat) (A : Option Addr) (cap : Nat) (acc : Str), l.length - k = gk ∧ 1 ≤ k ∧ a = .int .i64 (k : Int) ∧ x = .slice A acc.length cap ∧ acc.length ≤ k ∧ UnqAt l k acc ∧ wr.ownsRow base 5 1 (.slice A acc.length cap) acc.length (Lib.byteCells acc) ∧ Pure w wr ∧ base ≤ wr.heap.size
theorem ext_list (l : Str) (k n : Nat) : (⟨l.toArray⟩ : ByteArray).extract k (k + n) = ⟨((l.drop k).take n).toArray⟩ := by
 apply ByteArray.ext
 simp [ByteArray.data_extract]
set_option maxHeartbeats 4000000 in
theorem Unquote_calls (w : World) (l : Str) (hl : l.length ≤ 300000) (hE : ErrS w) : Calls Tryz.prog 73 #[.string ⟨l.toArray⟩] w (UnqPost w l) := by
 obtain ⟨i0, hi0, hz0, hz1, hz2⟩ := info_parts info_u8;have HE := Lib.hid hE
 have hz : (⟨l.toArray⟩ : ByteArray).size = l.length := by simp [ByteArray.size]
 clear hE;obtain ⟨s, hs⟩ : ∃ s : ByteArray, (⟨l.toArray⟩ : ByteArray) = s := ⟨_, rfl⟩;rw [hs] at hz;rw [hs];have HS0 := Lib.hid hs;clear hs
 by_cases hp : ∃ r, l = 34 :: r
 ·obtain ⟨r, hr⟩ := hp
  have p1 : List.isPrefixOf (⟨#[34]⟩ : ByteArray).data.toList s.data.toList = true := by rw [← HS0.out, hr]; simp [List.isPrefixOf]
  have HU0 : Hid (UnqAt l 1 []) := Lib.hid (by rw [hr]; exact .start r)
  have hl1 : 1 ≤ l.length := by rw [hr]; simp
  have P1 := Lib.hid p1;clear p1 hr;obtain ⟨base, hb⟩ : ∃ base, base = w.heap.size := ⟨_, rfl⟩;have hb1 := Nat.le_of_eq hb;have hb2 := Nat.le_of_eq hb.symm;clear hb
  go_enter Tryz.func73, Tryz.ntmps73
  go_wp2_with fail
  refine (prefix_calls _ _ _).mono ?_;rintro e w' ⟨rfl, rfl⟩;rw [P1.out]
  go_wp2_with fail
  go_loopg [5, 6] (l.length - 1) (fun gk x a wr => UqRel w l base gk x a wr)
  case atStart => exact ⟨1, none, 0, [], rfl, by omega, rfl, rfl, by simp, HU0.out, ⟨rfl, .inl ⟨rfl, rfl⟩⟩, Mod.refl _ _, hb1⟩
  case round =>
   clear HU0 P1;obtain ⟨k, A, cap, acc, rfl, hk1, rfl, rfl, hak, hu, hown, hm, hbig⟩ := hrel;have hkl := hu.1;have HU := Lib.hid hu;clear hu
   by_cases hlt : k < l.length
   ·obtain ⟨r, hr⟩ : ∃ r, l.drop k = l[k] :: r := ⟨_, List.drop_eq_getElem_cons hlt⟩;have HR := Lib.hid hr
    have hks : k < s.size := by omega
    have hgk : s[k] = l[k] := (by intro s hs; subst hs; intro _; rfl : ∀ s : ByteArray, (⟨l.toArray⟩ : ByteArray) = s → ∀ h, s[k]'h = l[k]) s HS0.out hks;have HG := Lib.hid hgk;clear hr hgk;have hc := s[k].toNat_lt;have HCV := Lib.hid (conv_own hown)
    by_cases h34 : s[k] = 34
    ·have HQ := Lib.hid (HU.out.quote (r := r) (by rw [HR.out, ← HG.out, h34]))
     have hv34 : s[k].toNat = 34 := by rw [h34]; rfl
     have hcv := HCV.out;clear HR HG HU HCV h34;generalize hcc : s[k].toNat = c at *;subst hv34
     go_wp2_with fail
     refine bodyPost_ret (v := .tuple #[.string ⟨acc.toArray⟩, .int .i64 ((k : Int) + 1), .int .i64 0]) (by simp [results, Tryz.results73, go_sem]) rfl ?_;exact ⟨.inr ⟨acc, k + 1, HQ.out, by simp⟩, hm⟩
    ·have hv34 : ((s[k].toNat : Int) == 34) = false := by
      have : s[k].toNat ≠ 34 := fun h => h34 (UInt8.toNat_inj.1 h);simp; omega
     have HC := Lib.hid (escaped_calls wr (l.drop k) (by rw [HR.out]; simp) (by simp; omega) (HE.out.pure hm))
     have hex : s.extract k l.length = ⟨(l.drop k).toArray⟩ := by
      rw [← HS0.out]
      apply ByteArray.ext
      simp only [ByteArray.data_extract, List.extract_toArray, List.extract_eq_take_drop];rw [List.take_of_length_le (by simp)]
     have hnl := escP_le (l.drop k);rw [List.length_drop] at hnl;have hd8 := (escP (l.drop k)).1.toNat_lt;have H34 : Hid (l[k] ≠ 34) := Lib.hid (by rw [← HG.out]; exact h34);clear HCV h34 HG;generalize hcc : s[k].toNat = c at *
     go_wp2_with fail
     refine HC.out.mono ?_;rintro e w1 ⟨rfl, hm1⟩;clear HC hex hcc hv34;have HX : Hid (s.extract k (k + (escP (l.drop k)).2) = ⟨((l.drop k).take (escP (l.drop k)).2).toArray⟩) := Lib.hid (by rw [← HS0.out, ext_list])
     have HB : Hid ((escP (l.drop k)).2 = 0 ∨ quoB (escP (l.drop k)).1 ≠ (l.drop k).take (escP (l.drop k)).2 → unqS l = none) := Lib.hid (fun h => HU.out.bad HR.out H34.out (by
      rw [← HR.out];unfold decP;rw [if_neg];rintro ⟨h1, h2⟩
      rcases h with h | h
      ·exact h1 h
      ·exact h h2))
     have HD : Hid ((escP (l.drop k)).2 ≠ 0 → quoB (escP (l.drop k)).1 = (l.drop k).take (escP (l.drop k)).2 → UnqAt l (k + (escP (l.drop k)).2) (acc ++ [(escP (l.drop k)).1]) ∧ 1 ≤ (escP (l.drop k)).2 ∧ k + (escP (l.drop k)).2 ≤ l.length) := Lib.hid (fun h1 h2 => HU.out.next (d := (escP (l.drop k)).1) HR.out H34.out (by
      rw [← HR.out];unfold decP
      rw [if_pos ⟨h1, h2⟩]))
     clear HU HR H34 HS0;generalize (escP (l.drop k)).2 = n at *
     have HQ : Hid (∀ W, Calls Tryz.prog 114 #[.int .u8 ((escP (l.drop k)).1.toNat : Int)] W (StrPost1 W (quoB (escP (l.drop k)).1))) := Lib.hid (fun W => by
      have := quoted_calls W _ hd8;rw [UInt8.ofNat_toNat] at this
      exact this)
     generalize (escP (l.drop k)).1 = d8 at *;generalize (l.drop k).take n = y at *;generalize quoB d8 = x at *;have hM := hm.trans hm1;have hown1 := own_pure hown hm1;have hbig1 : base ≤ w1.heap.size := Nat.le_trans hbig hm1.size;clear hm hm1 hown hbig
     go_wp2_with fail
     by_cases hn0 : n = 0
     ·subst hn0;have HN := Lib.hid (HB.out (.inl rfl));clear HB HD HX HQ;have HGs := Lib.hid (show ∀ (D : Nat → Bool) (zzi : Nat) (zq zq' : World), (fun _ zq => (fun _ => True) zq) D zq → Mod (fun _ => False) zq zq' → (fun _ zq => (fun _ => True) zq) (upd D zzi true) zq' from by intro D zzi zq zq' h hm; (exact h))
      refine wp_region_inv (by kernel_rfl) (by kernel_rfl) (InvF (R := Mod (fun _ => False)) [.is (.int .i64 ((0 : Nat) : Int)),
        .is (.bool true),
        .is (.bool true),
        .is (undef),
        .is (undef),
        .is (undef),
        .is (undef),
        .is (undef),
        .is (undef),
        .is (undef),
        .is (undef),
        .is (undef),
        .is (.bool true)]
        (PB w (fun _ => False) w1.heap.size (fun _ zq => (fun _ => True) zq))) (InvF.start (PB.start hM (Nat.le_refl _) (trivial))) ?_ ?_
      ·refine .cons ?_ (.cons ?_ (.cons ?_ (.cons ?_ (.cons ?_ (.cons ?_ (.cons ?_ (.cons ?_ (.cons ?_ (.cons ?_ (.cons ?_ (.cons ?_ (.cons ?_ .nil))))))))))))
       ·intro D V zw1 a hR hI K hK;obtain ⟨hM1, hB1, hG1⟩ := hI.1;have ze8 := hR.frame.other (t := 8) (by kernel_rfl) rfl;rw [if_pos (by rfl)];go_simp;exact hK (.int .i64 ((0 : Nat) : Int)) _ (hI.next hR (by kernel_rfl) (Mod.refl _ _) (PB.quiet hI.1 (Mod.refl _ _) (HGs.out D 0 zw1 zw1 (hI.1).g (Mod.refl _ _))) (upd_same V 0 _))
       ·intro D V zw1 a hR hI K hK;obtain ⟨hM1, hB1, hG1⟩ := hI.1;have zd0 := hR.pred 0 (by kernel_rfl);have zf0 : V 0 = .int .i64 ((0 : Nat) : Int) := hI.2 0 zd0 rfl;have ze31 := hR.frame.done (t := 31) (j := 0) (by kernel_rfl) hR.ok zd0;rw [if_pos (by rfl)];go_simp;exact hK (.bool true) _ (hI.next hR (by kernel_rfl) (Mod.refl _ _) (PB.quiet hI.1 (Mod.refl _ _) (HGs.out D 1 zw1 zw1 (hI.1).g (Mod.refl _ _))) (upd_same V 1 _))
       ·intro D V zw1 a hR hI K hK;obtain ⟨hM1, hB1, hG1⟩ := hI.1;have zd1 := hR.pred 1 (by kernel_rfl);have zf1 : V 1 = .bool true := hI.2 1 zd1 rfl;have ze32 := hR.frame.done (t := 32) (j := 1) (by kernel_rfl) hR.ok zd1;rw [if_pos (by rfl)];go_simp;exact hK (.bool true) _ (hI.next hR (by kernel_rfl) (Mod.refl _ _) (PB.quiet hI.1 (Mod.refl _ _) (HGs.out D 2 zw1 zw1 (hI.1).g (Mod.refl _ _))) (upd_same V 2 _))
       ·intro D V zw1 a hR hI K hK;obtain ⟨hM1, hB1, hG1⟩ := hI.1;have zd2 := hR.pred 2 (by kernel_rfl);have zf2 : V 2 = .bool true := hI.2 2 zd2 rfl;have ze33 := hR.frame.done (t := 33) (j := 2) (by kernel_rfl) hR.ok zd2;rw [if_neg (by simp [Region.wanted, yielded, ze33, zf2])];exact hK undef _ (hI.next hR (by kernel_rfl) (Mod.refl _ _) (PB.quiet hI.1 (Mod.refl _ _) (HGs.out D 3 zw1 zw1 (hI.1).g (Mod.refl _ _))) (upd_same V 3 _))
       ·intro D V zw1 a hR hI K hK;obtain ⟨hM1, hB1, hG1⟩ := hI.1;have zd2 := hR.pred 2 (by kernel_rfl);have zf2 : V 2 = .bool true := hI.2 2 zd2 rfl;have ze33 := hR.frame.done (t := 33) (j := 2) (by kernel_rfl) hR.ok zd2;rw [if_neg (by simp [Region.wanted, yielded, ze33, zf2])];exact hK undef _ (hI.next hR (by kernel_rfl) (Mod.refl _ _) (PB.quiet hI.1 (Mod.refl _ _) (HGs.out D 4 zw1 zw1 (hI.1).g (Mod.refl _ _))) (upd_same V 4 _))
       ·intro D V zw1 a hR hI K hK;obtain ⟨hM1, hB1, hG1⟩ := hI.1;have zd2 := hR.pred 2 (by kernel_rfl);have zf2 : V 2 = .bool true := hI.2 2 zd2 rfl;have ze33 := hR.frame.done (t := 33) (j := 2) (by kernel_rfl) hR.ok zd2;rw [if_neg (by simp [Region.wanted, yielded, ze33, zf2])];exact hK undef _ (hI.next hR (by kernel_rfl) (Mod.refl _ _) (PB.quiet hI.1 (Mod.refl _ _) (HGs.out D 5 zw1 zw1 (hI.1).g (Mod.refl _ _))) (upd_same V 5 _))
       ·intro D V zw1 a hR hI K hK;obtain ⟨hM1, hB1, hG1⟩ := hI.1;have zd2 := hR.pred 2 (by kernel_rfl);have zf2 : V 2 = .bool true := hI.2 2 zd2 rfl;have ze33 := hR.frame.done (t := 33) (j := 2) (by kernel_rfl) hR.ok zd2;rw [if_neg (by simp [Region.wanted, yielded, ze33, zf2])];exact hK undef _ (hI.next hR (by kernel_rfl) (Mod.refl _ _) (PB.quiet hI.1 (Mod.refl _ _) (HGs.out D 6 zw1 zw1 (hI.1).g (Mod.refl _ _))) (upd_same V 6 _))
       ·intro D V zw1 a hR hI K hK;obtain ⟨hM1, hB1, hG1⟩ := hI.1;have zd2 := hR.pred 2 (by kernel_rfl);have zf2 : V 2 = .bool true := hI.2 2 zd2 rfl;have ze33 := hR.frame.done (t := 33) (j := 2) (by kernel_rfl) hR.ok zd2;rw [if_neg (by simp [Region.wanted, yielded, ze33, zf2])];exact hK undef _ (hI.next hR (by kernel_rfl) (Mod.refl _ _) (PB.quiet hI.1 (Mod.refl _ _) (HGs.out D 7 zw1 zw1 (hI.1).g (Mod.refl _ _))) (upd_same V 7 _))
       ·intro D V zw1 a hR hI K hK;obtain ⟨hM1, hB1, hG1⟩ := hI.1;have zd2 := hR.pred 2 (by kernel_rfl);have zf2 : V 2 = .bool true := hI.2 2 zd2 rfl;have ze33 := hR.frame.done (t := 33) (j := 2) (by kernel_rfl) hR.ok zd2;rw [if_neg (by simp [Region.wanted, yielded, ze33, zf2])];exact hK undef _ (hI.next hR (by kernel_rfl) (Mod.refl _ _) (PB.quiet hI.1 (Mod.refl _ _) (HGs.out D 8 zw1 zw1 (hI.1).g (Mod.refl _ _))) (upd_same V 8 _))
       ·intro D V zw1 a hR hI K hK;obtain ⟨hM1, hB1, hG1⟩ := hI.1;have zd2 := hR.pred 2 (by kernel_rfl);have zf2 : V 2 = .bool true := hI.2 2 zd2 rfl;have ze33 := hR.frame.done (t := 33) (j := 2) (by kernel_rfl) hR.ok zd2;rw [if_neg (by simp [Region.wanted, yielded, ze33, zf2])];exact hK undef _ (hI.next hR (by kernel_rfl) (Mod.refl _ _) (PB.quiet hI.1 (Mod.refl _ _) (HGs.out D 9 zw1 zw1 (hI.1).g (Mod.refl _ _))) (upd_same V 9 _))
       ·intro D V zw1 a hR hI K hK;obtain ⟨hM1, hB1, hG1⟩ := hI.1;have zd2 := hR.pred 2 (by kernel_rfl);have zf2 : V 2 = .bool true := hI.2 2 zd2 rfl;have ze33 := hR.frame.done (t := 33) (j := 2) (by kernel_rfl) hR.ok zd2;rw [if_neg (by simp [Region.wanted, yielded, ze33, zf2])];exact hK undef _ (hI.next hR (by kernel_rfl) (Mod.refl _ _) (PB.quiet hI.1 (Mod.refl _ _) (HGs.out D 10 zw1 zw1 (hI.1).g (Mod.refl _ _))) (upd_same V 10 _))
       ·intro D V zw1 a hR hI K hK;obtain ⟨hM1, hB1, hG1⟩ := hI.1;have zd2 := hR.pred 2 (by kernel_rfl);have zf2 : V 2 = .bool true := hI.2 2 zd2 rfl;have ze33 := hR.frame.done (t := 33) (j := 2) (by kernel_rfl) hR.ok zd2;rw [if_neg (by simp [Region.wanted, yielded, ze33, zf2])];exact hK undef _ (hI.next hR (by kernel_rfl) (Mod.refl _ _) (PB.quiet hI.1 (Mod.refl _ _) (HGs.out D 11 zw1 zw1 (hI.1).g (Mod.refl _ _))) (upd_same V 11 _))
       ·intro D V zw1 a hR hI K hK;obtain ⟨hM1, hB1, hG1⟩ := hI.1;have zd2 := hR.pred 2 (by kernel_rfl);have zf2 : V 2 = .bool true := hI.2 2 zd2 rfl;have zd11 := hR.pred 11 (by kernel_rfl);have zf11 : V 11 = undef := hI.2 11 zd11 rfl;have ze33 := hR.frame.done (t := 33) (j := 2) (by kernel_rfl) hR.ok zd2;have ze42 := hR.frame.done (t := 42) (j := 11) (by kernel_rfl) hR.ok zd11;rw [if_pos (by rfl)];go_simp;exact hK (.bool true) _ (hI.next hR (by kernel_rfl) (Mod.refl _ _) (PB.quiet hI.1 (Mod.refl _ _) (HGs.out D 12 zw1 zw1 (hI.1).g (Mod.refl _ _))) (upd_same V 12 _))
      ·intro D V w2 hD hI;obtain ⟨hM1, hB1, hG1⟩ := hI.1;have hMx := hM1;clear hM1;have hBx := hB1;clear hB1;clear hG1;have zf0 : V 0 = .int .i64 ((0 : Nat) : Int) := hI.2 0 (hD 0 (by decide)) rfl;have zf1 : V 1 = .bool true := hI.2 1 (hD 1 (by decide)) rfl;have zf2 : V 2 = .bool true := hI.2 2 (hD 2 (by decide)) rfl;have zf3 : V 3 = undef := hI.2 3 (hD 3 (by decide)) rfl;have zf4 : V 4 = undef := hI.2 4 (hD 4 (by decide)) rfl;have zf5 : V 5 = undef := hI.2 5 (hD 5 (by decide)) rfl;have zf6 : V 6 = undef := hI.2 6 (hD 6 (by decide)) rfl;have zf7 : V 7 = undef := hI.2 7 (hD 7 (by decide)) rfl;have zf8 : V 8 = undef := hI.2 8 (hD 8 (by decide)) rfl;have zf9 : V 9 = undef := hI.2 9 (hD 9 (by decide)) rfl;have zf10 : V 10 = undef := hI.2 10 (hD 10 (by decide)) rfl;have zf11 : V 11 = undef := hI.2 11 (hD 11 (by decide)) rfl;have zf12 : V 12 = .bool true := hI.2 12 (hD 12 (by decide)) rfl;clear hI hD HGs;simp only [frAll, Act.put, List.setIfInBounds_toArray, List.set_cons_zero, List.set_cons_succ, Nat.zero_add, Nat.reduceAdd, zf0, zf1, zf2, zf3, zf4, zf5, zf6, zf7, zf8, zf9, zf10, zf11, zf12];clear zf0 zf1 zf2 zf3 zf4 zf5 zf6 zf7 zf8 zf9 zf10 zf11 zf12;clear V D
       go_wp2_with fail
       refine bodyPost_ret (v := .tuple #[.string ⟨#[]⟩, .int .i64 0, .int .i64 9]) (by simp [results, Tryz.results73, go_sem]) rfl ?_;exact ⟨.inl ⟨HN.out, rfl⟩, hMx⟩
     ·have hnb : ((n : Int) == 0) = false := by simp; omega
      obtain ⟨b, hb⟩ : ∃ b : Bool, b = decide (x ≠ y) := ⟨_, rfl⟩;have HBB := Lib.hid hb
      have q0 : (x == y) = !b := by rw [hb]; by_cases hxy : x = y <;> simp [hxy]
      clear hb;have hexn := HX.out;clear HX;have HGs := Lib.hid (show ∀ (D : Nat → Bool) (zzi : Nat) (zq zq' : World), (fun _ zq => (fun Z => Z.ownsRow base 5 1 (.slice A acc.length cap) acc.length (Lib.byteCells acc) ∧ base ≤ Z.heap.size) zq) D zq → Mod (fun _ => False) zq zq' → (fun _ zq => (fun Z => Z.ownsRow base 5 1 (.slice A acc.length cap) acc.length (Lib.byteCells acc) ∧ base ≤ Z.heap.size) zq) (upd D zzi true) zq' from by intro D zzi zq zq' h hm; (exact ⟨own_pure h.1 hm, Nat.le_trans h.2 hm.size⟩))
      refine wp_region_inv (by kernel_rfl) (by kernel_rfl) (InvF (R := Mod (fun _ => False)) [.is (.int .i64 (n : Int)),
        .is (.bool false),
        .is (.bool false),
        .is (.int .u8 (d8.toNat : Int)),
        .is (.string ⟨x.toArray⟩),
        .is (.string s),
        .is (.int .i64 (k : Int)),
        .is (.int .i64 (k : Int)),
        .is (.int .i64 (n : Int)),
        .is (.int .i64 ((k : Int) + (n : Int))),
        .is (.string ⟨y.toArray⟩),
        .is (.bool b),
        .is (.bool b)]
        (PB w (fun _ => False) w1.heap.size (fun _ zq => (fun Z => Z.ownsRow base 5 1 (.slice A acc.length cap) acc.length (Lib.byteCells acc) ∧ base ≤ Z.heap.size) zq))) (InvF.start (PB.start hM (Nat.le_refl _) (⟨hown1.drew, hbig1⟩))) ?_ ?_
      ·refine .cons ?_ (.cons ?_ (.cons ?_ (.cons ?_ (.cons ?_ (.cons ?_ (.cons ?_ (.cons ?_ (.cons ?_ (.cons ?_ (.cons ?_ (.cons ?_ (.cons ?_ .nil))))))))))))
       ·intro D V zw1 a hR hI K hK;obtain ⟨hM1, hB1, hG1⟩ := hI.1;have ze8 := hR.frame.other (t := 8) (by kernel_rfl) rfl;rw [if_pos (by rfl)];go_simp;exact hK (.int .i64 (n : Int)) _ (hI.next hR (by kernel_rfl) (Mod.refl _ _) (PB.quiet hI.1 (Mod.refl _ _) (HGs.out D 0 zw1 zw1 (hI.1).g (Mod.refl _ _))) (upd_same V 0 _))
       ·intro D V zw1 a hR hI K hK;obtain ⟨hM1, hB1, hG1⟩ := hI.1;have zd0 := hR.pred 0 (by kernel_rfl);have zf0 : V 0 = .int .i64 (n : Int) := hI.2 0 zd0 rfl;have ze31 := hR.frame.done (t := 31) (j := 0) (by kernel_rfl) hR.ok zd0;rw [if_pos (by rfl)];go_simp;exact hK (.bool false) _ (hI.next hR (by kernel_rfl) (Mod.refl _ _) (PB.quiet hI.1 (Mod.refl _ _) (HGs.out D 1 zw1 zw1 (hI.1).g (Mod.refl _ _))) (upd_same V 1 _))
       ·intro D V zw1 a hR hI K hK;obtain ⟨hM1, hB1, hG1⟩ := hI.1;have zd1 := hR.pred 1 (by kernel_rfl);have zf1 : V 1 = .bool false := hI.2 1 zd1 rfl;have ze32 := hR.frame.done (t := 32) (j := 1) (by kernel_rfl) hR.ok zd1;rw [if_pos (by rfl)];go_simp;exact hK (.bool false) _ (hI.next hR (by kernel_rfl) (Mod.refl _ _) (PB.quiet hI.1 (Mod.refl _ _) (HGs.out D 2 zw1 zw1 (hI.1).g (Mod.refl _ _))) (upd_same V 2 _))
       ·intro D V zw1 a hR hI K hK;obtain ⟨hM1, hB1, hG1⟩ := hI.1;have zd2 := hR.pred 2 (by kernel_rfl);have zf2 : V 2 = .bool false := hI.2 2 zd2 rfl;have ze7 := hR.frame.other (t := 7) (by kernel_rfl) rfl;have ze33 := hR.frame.done (t := 33) (j := 2) (by kernel_rfl) hR.ok zd2;rw [if_pos (by simp [Region.wanted, yielded, ze33, zf2])];go_simp;exact hK (.int .u8 (d8.toNat : Int)) _ (hI.next hR (by kernel_rfl) (Mod.refl _ _) (PB.quiet hI.1 (Mod.refl _ _) (HGs.out D 3 zw1 zw1 (hI.1).g (Mod.refl _ _))) (upd_same V 3 _))
       ·intro D V zw1 a hR hI K hK;obtain ⟨hM1, hB1, hG1⟩ := hI.1;have zd3 := hR.pred 3 (by kernel_rfl);have zf3 : V 3 = .int .u8 (d8.toNat : Int) := hI.2 3 zd3 rfl;have zd2 := hR.pred 2 (by kernel_rfl);have zf2 : V 2 = .bool false := hI.2 2 zd2 rfl;have ze34 := hR.frame.done (t := 34) (j := 3) (by kernel_rfl) hR.ok zd3;have ze33 := hR.frame.done (t := 33) (j := 2) (by kernel_rfl) hR.ok zd2;rw [if_pos (by simp [Region.wanted, yielded, ze33, zf2])];go_simp;refine (HQ.out _).mono ?_;rintro e zw2 ⟨rfl, hm2⟩;exact hK (.string ⟨x.toArray⟩) _ (hI.next hR (by kernel_rfl) hm2 (PB.quiet hI.1 hm2 (HGs.out D 4 _ _ (hI.1).g hm2)) (upd_same V 4 _))
       ·intro D V zw1 a hR hI K hK;obtain ⟨hM1, hB1, hG1⟩ := hI.1;have zd2 := hR.pred 2 (by kernel_rfl);have zf2 : V 2 = .bool false := hI.2 2 zd2 rfl;have ze0 := hR.frame.other (t := 0) (by kernel_rfl) rfl;have ze33 := hR.frame.done (t := 33) (j := 2) (by kernel_rfl) hR.ok zd2;rw [if_pos (by simp [Region.wanted, yielded, ze33, zf2])];go_simp;exact hK (.string s) _ (hI.next hR (by kernel_rfl) (Mod.refl _ _) (PB.quiet hI.1 (Mod.refl _ _) (HGs.out D 5 zw1 zw1 (hI.1).g (Mod.refl _ _))) (upd_same V 5 _))
       ·intro D V zw1 a hR hI K hK;obtain ⟨hM1, hB1, hG1⟩ := hI.1;have zd2 := hR.pred 2 (by kernel_rfl);have zf2 : V 2 = .bool false := hI.2 2 zd2 rfl;have ze6 := hR.frame.other (t := 6) (by kernel_rfl) rfl;have ze33 := hR.frame.done (t := 33) (j := 2) (by kernel_rfl) hR.ok zd2;rw [if_pos (by simp [Region.wanted, yielded, ze33, zf2])];go_simp;exact hK (.int .i64 (k : Int)) _ (hI.next hR (by kernel_rfl) (Mod.refl _ _) (PB.quiet hI.1 (Mod.refl _ _) (HGs.out D 6 zw1 zw1 (hI.1).g (Mod.refl _ _))) (upd_same V 6 _))
       ·intro D V zw1 a hR hI K hK;obtain ⟨hM1, hB1, hG1⟩ := hI.1;have zd2 := hR.pred 2 (by kernel_rfl);have zf2 : V 2 = .bool false := hI.2 2 zd2 rfl;have ze6 := hR.frame.other (t := 6) (by kernel_rfl) rfl;have ze33 := hR.frame.done (t := 33) (j := 2) (by kernel_rfl) hR.ok zd2;rw [if_pos (by simp [Region.wanted, yielded, ze33, zf2])];go_simp;exact hK (.int .i64 (k : Int)) _ (hI.next hR (by kernel_rfl) (Mod.refl _ _) (PB.quiet hI.1 (Mod.refl _ _) (HGs.out D 7 zw1 zw1 (hI.1).g (Mod.refl _ _))) (upd_same V 7 _))
       ·intro D V zw1 a hR hI K hK;obtain ⟨hM1, hB1, hG1⟩ := hI.1;have zd2 := hR.pred 2 (by kernel_rfl);have zf2 : V 2 = .bool false := hI.2 2 zd2 rfl;have ze8 := hR.frame.other (t := 8) (by kernel_rfl) rfl;have ze33 := hR.frame.done (t := 33) (j := 2) (by kernel_rfl) hR.ok zd2;rw [if_pos (by simp [Region.wanted, yielded, ze33, zf2])];go_simp;exact hK (.int .i64 (n : Int)) _ (hI.next hR (by kernel_rfl) (Mod.refl _ _) (PB.quiet hI.1 (Mod.refl _ _) (HGs.out D 8 zw1 zw1 (hI.1).g (Mod.refl _ _))) (upd_same V 8 _))
       ·intro D V zw1 a hR hI K hK;obtain ⟨hM1, hB1, hG1⟩ := hI.1;have zd7 := hR.pred 7 (by kernel_rfl);have zf7 : V 7 = .int .i64 (k : Int) := hI.2 7 zd7 rfl;have zd8 := hR.pred 8 (by kernel_rfl);have zf8 : V 8 = .int .i64 (n : Int) := hI.2 8 zd8 rfl;have zd2 := hR.pred 2 (by kernel_rfl);have zf2 : V 2 = .bool false := hI.2 2 zd2 rfl;have ze38 := hR.frame.done (t := 38) (j := 7) (by kernel_rfl) hR.ok zd7;have ze39 := hR.frame.done (t := 39) (j := 8) (by kernel_rfl) hR.ok zd8;have hw9 : IntKind.i64.wrap ((k : Int) + (n : Int)) = (k : Int) + (n : Int) := IntWalk.i64_in _ (by omega);have ze33 := hR.frame.done (t := 33) (j := 2) (by kernel_rfl) hR.ok zd2;rw [if_pos (by simp [Region.wanted, yielded, ze33, zf2])];go_simp;exact hK (.int .i64 ((k : Int) + (n : Int))) _ (hI.next hR (by kernel_rfl) (Mod.refl _ _) (PB.quiet hI.1 (Mod.refl _ _) (HGs.out D 9 zw1 zw1 (hI.1).g (Mod.refl _ _))) (upd_same V 9 _))
       ·intro D V zw1 a hR hI K hK;obtain ⟨hM1, hB1, hG1⟩ := hI.1;have zd5 := hR.pred 5 (by kernel_rfl);have zf5 : V 5 = .string s := hI.2 5 zd5 rfl;have zd6 := hR.pred 6 (by kernel_rfl);have zf6 : V 6 = .int .i64 (k : Int) := hI.2 6 zd6 rfl;have zd9 := hR.pred 9 (by kernel_rfl);have zf9 : V 9 = .int .i64 ((k : Int) + (n : Int)) := hI.2 9 zd9 rfl;have zd2 := hR.pred 2 (by kernel_rfl);have zf2 : V 2 = .bool false := hI.2 2 zd2 rfl;have ze36 := hR.frame.done (t := 36) (j := 5) (by kernel_rfl) hR.ok zd5;have ze37 := hR.frame.done (t := 37) (j := 6) (by kernel_rfl) hR.ok zd6;have ze40 := hR.frame.done (t := 40) (j := 9) (by kernel_rfl) hR.ok zd9
        have j1 : ((k : Int) + (n : Int)).toNat = k + n := by omega
        have j2 : (k : Int) ≤ (k : Int) + (n : Int) := by omega
        have j3 : (k : Int) + (n : Int) ≤ (l.length : Int) := by omega
        have ze33 := hR.frame.done (t := 33) (j := 2) (by kernel_rfl) hR.ok zd2;rw [if_pos (by simp [Region.wanted, yielded, ze33, zf2])];go_simp;exact hK (.string ⟨y.toArray⟩) _ (hI.next hR (by kernel_rfl) (Mod.refl _ _) (PB.quiet hI.1 (Mod.refl _ _) (HGs.out D 10 zw1 zw1 (hI.1).g (Mod.refl _ _))) (upd_same V 10 _))
       ·intro D V zw1 a hR hI K hK;obtain ⟨hM1, hB1, hG1⟩ := hI.1;have zd4 := hR.pred 4 (by kernel_rfl);have zf4 : V 4 = .string ⟨x.toArray⟩ := hI.2 4 zd4 rfl;have zd10 := hR.pred 10 (by kernel_rfl);have zf10 : V 10 = .string ⟨y.toArray⟩ := hI.2 10 zd10 rfl;have zd2 := hR.pred 2 (by kernel_rfl);have zf2 : V 2 = .bool false := hI.2 2 zd2 rfl;have ze35 := hR.frame.done (t := 35) (j := 4) (by kernel_rfl) hR.ok zd4;have ze41 := hR.frame.done (t := 41) (j := 10) (by kernel_rfl) hR.ok zd10;have ze33 := hR.frame.done (t := 33) (j := 2) (by kernel_rfl) hR.ok zd2;rw [if_pos (by simp [Region.wanted, yielded, ze33, zf2])];go_simp;exact hK (.bool b) _ (hI.next hR (by kernel_rfl) (Mod.refl _ _) (PB.quiet hI.1 (Mod.refl _ _) (HGs.out D 11 zw1 zw1 (hI.1).g (Mod.refl _ _))) (upd_same V 11 _))
       ·intro D V zw1 a hR hI K hK;obtain ⟨hM1, hB1, hG1⟩ := hI.1;have zd2 := hR.pred 2 (by kernel_rfl);have zf2 : V 2 = .bool false := hI.2 2 zd2 rfl;have zd11 := hR.pred 11 (by kernel_rfl);have zf11 : V 11 = .bool b := hI.2 11 zd11 rfl;have ze33 := hR.frame.done (t := 33) (j := 2) (by kernel_rfl) hR.ok zd2;have ze42 := hR.frame.done (t := 42) (j := 11) (by kernel_rfl) hR.ok zd11;rw [if_pos (by rfl)];go_simp;exact hK (.bool b) _ (hI.next hR (by kernel_rfl) (Mod.refl _ _) (PB.quiet hI.1 (Mod.refl _ _) (HGs.out D 12 zw1 zw1 (hI.1).g (Mod.refl _ _))) (upd_same V 12 _))
      ·intro D V w2 hD hI;obtain ⟨hM1, hB1, hG1⟩ := hI.1;have hMx := hM1;clear hM1;have hBx := hB1;clear hB1;have hGx := hG1;clear hG1;have zf0 : V 0 = .int .i64 (n : Int) := hI.2 0 (hD 0 (by decide)) rfl;have zf1 : V 1 = .bool false := hI.2 1 (hD 1 (by decide)) rfl;have zf2 : V 2 = .bool false := hI.2 2 (hD 2 (by decide)) rfl;have zf3 : V 3 = .int .u8 (d8.toNat : Int) := hI.2 3 (hD 3 (by decide)) rfl;have zf4 : V 4 = .string ⟨x.toArray⟩ := hI.2 4 (hD 4 (by decide)) rfl;have zf5 : V 5 = .string s := hI.2 5 (hD 5 (by decide)) rfl;have zf6 : V 6 = .int .i64 (k : Int) := hI.2 6 (hD 6 (by decide)) rfl;have zf7 : V 7 = .int .i64 (k : Int) := hI.2 7 (hD 7 (by decide)) rfl;have zf8 : V 8 = .int .i64 (n : Int) := hI.2 8 (hD 8 (by decide)) rfl;have zf9 : V 9 = .int .i64 ((k : Int) + (n : Int)) := hI.2 9 (hD 9 (by decide)) rfl;have zf10 : V 10 = .string ⟨y.toArray⟩ := hI.2 10 (hD 10 (by decide)) rfl;have zf11 : V 11 = .bool b := hI.2 11 (hD 11 (by decide)) rfl;have zf12 : V 12 = .bool b := hI.2 12 (hD 12 (by decide)) rfl;clear hI hD HGs;simp only [frAll, Act.put, List.setIfInBounds_toArray, List.set_cons_zero, List.set_cons_succ, Nat.zero_add, Nat.reduceAdd, zf0, zf1, zf2, zf3, zf4, zf5, zf6, zf7, zf8, zf9, zf10, zf11, zf12];clear zf0 zf1 zf2 zf3 zf4 zf5 zf6 zf7 zf8 zf9 zf10 zf11 zf12;clear V D;obtain ⟨hown2, hbig2⟩ := hGx;clear q0 hexn hnb HQ
       cases b
       ·have hxy : x = y := by have := HBB.out; simpa using this
        have HNX := Lib.hid (HD.out hn0 hxy);have hkn := HNX.out.2;clear HD HB HBB hxy
        have HREL : Hid (∀ (g5 cap5 : Nat) (w5 : World), w5.ownsRow base 5 1 (.slice (some ⟨g5, 0, none⟩) (acc.length + 1) cap5) (acc.length + 1) (Lib.byteCells acc ++ [.int .u8 (d8.toNat : Int)]) → Pure w w5 → base ≤ w5.heap.size →
          UqRel w l base (l.length - (k + n)) (.slice (some ⟨g5, 0, none⟩) (acc.length + 1) cap5) (.int .i64 ((k : Int) + (n : Int))) w5) := Lib.hid (by
         intro g5 cap5 w5 hown5 hp hb5
         have e1 : Lib.byteCells acc ++ [.int .u8 (d8.toNat : Int)] = Lib.byteCells (acc ++ [d8]) := by simp [Lib.byteCells]
         rw [e1] at hown5;refine ⟨k + n, some ⟨g5, 0, none⟩, cap5, acc ++ [d8], rfl, by omega, by simp, by simp, by simp; omega, HNX.out.1, ?_, hp, hb5⟩;rw [List.length_append, List.length_singleton]
         exact hown5)
        clear HNX
        go_wp2_with (at_builtin; refine wpList_append_lies _ rfl _ _ _ rfl base 5 i0 _ 1 1 Tryz.underlying77 hi0 hz0 hz1 hz2 rfl (by omega) (.slice A acc.length cap) acc.length (Lib.byteCells acc) rfl (hown2.alloc _) ⟨w2.heap.size, 0, none⟩ 1 1 [.int .u8 (d8.toNat : Int)] rfl rfl (World.news_of_block (cs := #[.int .u8 (d8.toNat : Int)]) (t := 5) (fr := (0, 0)) (heap_alloc_new w2 _)) (by simp [Value.oneCell']) (by omega) (by simp [maxLen]; omega) (by omega) (by have := hMx.size; simp; omega) (w2.heap.size + 1) (by simp) ?_; intro g5 cap5 w5 hown5 hgrow hat hlt5)
        go_roundg (l.length - (k + n))
        case measure => omega
        case rel =>
         have hz5 := hgrow.size;simp at hz5;exact HREL.out g5 cap5 w5 hown5 ((hMx.alloc _).grown hgrow (fun j hj => .inr (by have := own_block hown2 j hj; omega))) (by omega)
       ·have hxy : x ≠ y := by have := HBB.out; simpa using this
        have HN := Lib.hid (HB.out (.inr hxy));clear HD HB HBB hxy
        go_wp2_with fail
        refine bodyPost_ret (v := .tuple #[.string ⟨#[]⟩, .int .i64 0, .int .i64 9]) (by simp [results, Tryz.results73, go_sem]) rfl ?_;exact ⟨.inl ⟨HN.out, rfl⟩, hMx⟩
   ·obtain rfl : k = l.length := by omega
    have HN := Lib.hid HU.out.end_
    go_wp2_with fail
    refine bodyPost_ret (v := .tuple #[.string ⟨#[]⟩, .int .i64 0, .int .i64 9]) (by simp [results, Tryz.results73, go_sem]) rfl ?_;exact ⟨.inl ⟨HN.out, rfl⟩, hm⟩
 ·have p1 : List.isPrefixOf (⟨#[34]⟩ : ByteArray).data.toList s.data.toList = false := by
   rw [← HS0.out];clear HS0 hz
   match l, hp with
   | [], _ => rfl
   | c :: r, hp =>
    have : c ≠ 34 := fun h => hp ⟨r, by rw [h]⟩;simp [List.isPrefixOf, Ne.symm this]
  have HN : Hid (unqS l = none) := Lib.hid (by
   clear HS0 hz
   match l, hp with
   | [], _ => rfl
   | c :: r, hp =>
    have : c ≠ 34 := fun h => hp ⟨r, by rw [h]⟩;unfold unqS
    split
    ·rename_i heq
     injection heq with h1 _
     exact absurd h1 this
    ·rfl)
  have P1 := Lib.hid p1;clear p1 hp
  go_enter Tryz.func73, Tryz.ntmps73
  go_wp2_with fail
  refine (prefix_calls _ _ _).mono ?_;rintro e w' ⟨rfl, rfl⟩;rw [P1.out]
  go_wp2_with fail
  refine bodyPost_ret (v := .tuple #[.string ⟨#[]⟩, .int .i64 0, .int .i64 9]) (by simp [results, Tryz.results73, go_sem]) rfl ?_;exact ⟨.inl ⟨HN.out, rfl⟩, Mod.refl _ _⟩
end Go.Proofs.YtelpdjhkedhppaaGreatDoor
/- Quoted strings: Unquoted of the reference. -/
namespace Go.Proofs.YtelpdjhkedhppaaGreatDoor
open Go.RowKit
theorem decP_none_of {t : Str} (h : ∀ c, c < 256 → ¬ quoB (UInt8.ofNat c) <+: t) : decP t = none := by
 match hd : decP t with
 | none => rfl
 | some (c, n) =>
  have := (decP_some hd).2;have h2 := h c.toNat c.toNat_lt;rw [UInt8.ofNat_toNat] at h2;exact absurd this h2
theorem decP_of_prefix {t : Str} {c : UInt8} (h : quoB c <+: t) : decP t = some (c, (quoB c).length) := by
 obtain ⟨r, rfl⟩ := h;exact decP_quo c r
theorem quoB_le (c : UInt8) : 1 ≤ (quoB c).length ∧ (quoB c).length ≤ 4 := by
 unfold quoB
 split <;> (try split) <;> (try split) <;> simp
def UqdPost (w : World) (l : Str) (e : Ending) (w' : World) : Prop :=
 ((unqS l = none ∧ e = .returned (.tuple #[.string ⟨#[]⟩, .int .i64 0, .bool false])) ∨ ∃ out n, unqS l = some (out, n) ∧ e = .returned (.tuple #[.string ⟨out.toArray⟩, .int .i64 (n : Int), .bool true])) ∧ Pure w w'
def UdRel (w : World) (l : Str) (base gk : Nat) (x a : Value) (wr : World) : Prop :=
 ∃ (k : Nat) (A : Option Addr) (cap : Nat) (acc : Str) (rs : ByteArray), l.length - k = gk ∧ 1 ≤ k ∧ a = .string rs ∧ rs = ⟨(l.drop k).toArray⟩ ∧ x = .slice A acc.length cap ∧ acc.length ≤ k ∧ UnqAt l k acc ∧ wr.ownsRow base 5 1 (.slice A acc.length cap) acc.length (Lib.byteCells acc) ∧ Pure w wr ∧ base ≤ wr.heap.size
def UiRel (w : World) (rl : Str) (base : Nat) (A : Option Addr) (cap : Nat) (acc : Str) (rs : ByteArray) (gk : Nat) (x y f i : Value) (wr : World) : Prop :=
 ∃ c : Nat, x = .slice A acc.length cap ∧ y = .string rs ∧ f = .bool false ∧ 256 - c = gk ∧ c ≤ 256 ∧ i = .int .i64 (c : Int) ∧ (∀ d, d < c → ¬ quoB (UInt8.ofNat d) <+: rl) ∧ wr.ownsRow base 5 1 (.slice A acc.length cap) acc.length (Lib.byteCells acc) ∧ Pure w wr ∧ base ≤ wr.heap.size
def HasPre (rs : ByteArray) (r : Str) : Prop := rs.data.toList = r
theorem mid_quoS (x : Str) : (⟨(34 :: (x ++ [34])).toArray⟩ : ByteArray).extract 1 (x.length + 1) = ⟨x.toArray⟩ := by
 apply ByteArray.ext
 simp [ByteArray.data_extract]
theorem quoS_one (c : UInt8) : quoS [c] = 34 :: (quoB c ++ [34]) := by simp [quoS]
set_option maxHeartbeats 4000000 in
theorem Unquoted_calls (w : World) (l : Str) (hl : l.length ≤ 300000) : Calls Tryz.prog 72 #[.string ⟨l.toArray⟩] w (UqdPost w l) := by
 obtain ⟨i0, hi0, hz0, hz1, hz2⟩ := info_parts info_u8
 have hz : (⟨l.toArray⟩ : ByteArray).size = l.length := by simp [ByteArray.size]
 obtain ⟨s, hs⟩ : ∃ s : ByteArray, (⟨l.toArray⟩ : ByteArray) = s := ⟨_, rfl⟩;rw [hs] at hz;rw [hs];have HS0 := Lib.hid hs;clear hs
 by_cases hp : ∃ r, l = 34 :: r
 ·obtain ⟨r, hr⟩ := hp
  have p1 : List.isPrefixOf (⟨#[34]⟩ : ByteArray).data.toList s.data.toList = true := by rw [← HS0.out, hr]; simp [List.isPrefixOf]
  have HU0 : Hid (UnqAt l 1 []) := Lib.hid (by rw [hr]; exact .start r)
  have hl1 : 1 ≤ l.length := by rw [hr]; simp
  have P1 := Lib.hid p1;clear p1 hr
  have HX1 : Hid (s.extract 1 l.length = ⟨(l.drop 1).toArray⟩) := Lib.hid (by
   rw [← HS0.out]
   apply ByteArray.ext
   simp only [ByteArray.data_extract, List.extract_toArray, List.extract_eq_take_drop]
   rw [List.take_of_length_le (by simp)])
  obtain ⟨base, hb⟩ : ∃ base, base = w.heap.size := ⟨_, rfl⟩;have hb1 := Nat.le_of_eq hb;have hb2 := Nat.le_of_eq hb.symm;clear hb
  go_enter Tryz.func72, Tryz.ntmps72
  go_wp2_with fail
  refine (prefix_calls _ _ _).mono ?_;rintro e w' ⟨rfl, rfl⟩;rw [P1.out]
  go_wp2_with fail
  go_loopg [5, 6] (l.length - 1) (fun gk x a wr => UdRel w l base gk x a wr)
  case atStart => exact ⟨1, none, 0, [], _, rfl, by omega, rfl, HX1.out, rfl, by simp, HU0.out, ⟨rfl, .inl ⟨rfl, rfl⟩⟩, Mod.refl _ _, hb1⟩
  case round =>
   clear HU0 P1 HX1;obtain ⟨k, A, cap, acc, rs, rfl, hk1, rfl, hrs, rfl, hak, hu, hown, hm, hbig⟩ := hrel;have hkl := hu.1;have HU := Lib.hid hu;have HRS := Lib.hid hrs
   have hrz : rs.size = l.length - k := by rw [hrs]; simp [ByteArray.size]
   clear hu hrs
   by_cases hlt : k < l.length
   ·have hne : rs.toList.isEmpty = false := by
     rw [ByteArray.toList_eq, HRS.out];simp only [List.drop_eq_getElem_cons hlt]
     rfl
    obtain ⟨r, hr⟩ : ∃ r, l.drop k = l[k] :: r := ⟨_, List.drop_eq_getElem_cons hlt⟩;have HR := Lib.hid hr
    have hks : 0 < rs.size := by omega
    have hgk : rs[0] = l[k] := (by intro s hs; subst hs; intro _; simp [HR.out, ByteArray.getElem_eq_getElem_data] : ∀ s : ByteArray, s = (⟨(l.drop k).toArray⟩ : ByteArray) → ∀ h, s[0]'h = l[k]) rs HRS.out hks;have HG := Lib.hid hgk;clear hr hgk;have hc := rs[0].toNat_lt;have HCV := Lib.hid (conv_own hown)
    by_cases h34 : rs[0] = 34
    ·have HQ := Lib.hid (HU.out.quote (r := r) (by rw [HR.out, ← HG.out, h34]))
     have hv34 : rs[0].toNat = 34 := by rw [h34]; rfl
     have hcv := HCV.out;clear HR HG HU HCV h34 HRS;generalize hcc : rs[0].toNat = c at *;subst hv34
     go_wp2_with fail
     refine bodyPost_ret (v := .tuple #[.string ⟨acc.toArray⟩, .int .i64 ((l.length : Int) - ((l.length - k : Nat) : Int) + 1), .bool true]) (by simp [results, Tryz.results72, go_sem]) rfl ?_;exact ⟨.inr ⟨acc, k + 1, HQ.out, by rw [show (l.length : Int) - ((l.length - k : Nat) : Int) + 1 = ((k + 1 : Nat) : Int) by omega]⟩, hm⟩
    ·have hv34 : ((rs[0].toNat : Int) == 34) = false := by
      have : rs[0].toNat ≠ 34 := fun h => h34 (UInt8.toNat_inj.1 h);simp; omega
     have H34 : Hid (l[k] ≠ 34) := Lib.hid (by rw [← HG.out]; exact h34);clear HCV h34 HG;generalize hcc : rs[0].toNat = c0 at *
     go_wp2_with fail
     go_loopg [5, 6, 7, 28] 256 (fun gk x y f i w1 => UiRel w (l.drop k) base A cap acc rs gk x y f i w1)
     case atStart => exact ⟨0, rfl, rfl, rfl, rfl, by omega, rfl, fun d hd => absurd hd (by omega), hown, hm, hbig⟩
     case round =>
      clear hown hm hbig hcc hv34 hne hc;obtain ⟨c, rfl, rfl, rfl, rfl, hc, rfl, hno, hown, hm, hbig⟩ := hrel;have HNO := Lib.hid hno;clear hno
      by_cases hc2 : c < 256
      ·obtain ⟨d8, rfl⟩ : ∃ d8 : UInt8, c = d8.toNat := ⟨UInt8.ofNat c, by simp; omega⟩;have hw8 : IntKind.u8.wrap (d8.toNat : Int) = (d8.toNat : Int) := u8_wrap _ (by omega) (by omega);have own0 : (wr.alloc (.cells #[.int .u8 (d8.toNat : Int)] 5)).ownsRow wr.heap.size 5 1 (.slice (some ⟨wr.heap.size, 0, none⟩) 1 1) 1 (Lib.byteCells [d8]) := ⟨rfl, .inr ⟨wr.heap.size, 1, #[.int .u8 (d8.toNat : Int)], rfl, Nat.le_refl _, heap_alloc_new _ _, by omega, by simp [maxLen], rfl, rfl⟩⟩;have hcv2 := conv_own own0;have HQ := Lib.hid (Quoted_calls (wr.alloc (.cells #[.int .u8 (d8.toNat : Int)] 5)) ⟨#[d8]⟩ (by simp [ByteArray.size]));clear own0
       go_wp2_with fail
       refine HQ.out.mono ?_;rintro e w1 ⟨rfl, hm1⟩;clear HQ hcv2 hw8;have hM := (hm.alloc (.cells #[.int .u8 (d8.toNat : Int)] 5)).trans hm1;have hown1 := own_pure (hown.alloc (.cells #[.int .u8 (d8.toNat : Int)] 5)) hm1;have hbig1 : base ≤ w1.heap.size := Nat.le_trans (by simp; omega) hm1.size;clear hown hm hm1 hbig;rw [show quoS (⟨#[d8]⟩ : ByteArray).data.toList = 34 :: (quoB d8 ++ [34]) from quoS_one d8];have hq4 := quoB_le d8;have hmid := mid_quoS (quoB d8);have HPX : Hid (HasPre rs (l.drop k)) := Lib.hid (by rw [HasPre, HRS.out])
       go_wp2_with fail
       refine (prefix_calls _ _ _).mono ?_;rintro e w2 ⟨rfl, rfl⟩;clear hmid HPX
       by_cases hpre : quoB d8 <+: l.drop k
       ·have hpb : List.isPrefixOf (⟨(quoB d8).toArray⟩ : ByteArray).data.toList rs.data.toList = true := by
         rw [HRS.out, List.isPrefixOf_iff_prefix];exact hpre
        rw [hpb];have HNX := Lib.hid (HU.out.next HR.out H34.out (by rw [← HR.out]; exact decP_of_prefix hpre));have hkn := HNX.out.2
        have hqz : (⟨(quoB d8).toArray⟩ : ByteArray).size = (quoB d8).length := by simp [ByteArray.size]
        have hex2 : rs.extract (quoB d8).length (l.length - k) = ⟨(l.drop (k + (quoB d8).length)).toArray⟩ := by
         rw [HRS.out]
         apply ByteArray.ext
         simp only [ByteArray.data_extract, List.extract_toArray, List.extract_eq_take_drop, List.drop_drop];rw [List.take_of_length_le (by simp; omega)]
        clear hpb hpre HU HR H34 HNO;generalize (quoB d8).length = n at *;generalize (⟨(quoB d8).toArray⟩ : ByteArray) = q at *;obtain ⟨rs2, hrs2⟩ : ∃ rs2 : ByteArray, rs2 = ⟨(l.drop (k + n)).toArray⟩ := ⟨_, rfl⟩;rw [← hrs2] at hex2
        have HREL : Hid (∀ (g5 cap5 : Nat) (w5 : World), w5.ownsRow base 5 1 (.slice (some ⟨g5, 0, none⟩) (acc.length + 1) cap5) (acc.length + 1) (Lib.byteCells acc ++ [.int .u8 (d8.toNat : Int)]) → Pure w w5 → base ≤ w5.heap.size →
          UdRel w l base (l.length - (k + n)) (.slice (some ⟨g5, 0, none⟩) (acc.length + 1) cap5) (.string rs2) w5) := Lib.hid (by
         intro g5 cap5 w5 hown5 hp hb5
         have e1 : Lib.byteCells acc ++ [.int .u8 (d8.toNat : Int)] = Lib.byteCells (acc ++ [d8]) := by simp [Lib.byteCells]
         rw [e1] at hown5;refine ⟨k + n, some ⟨g5, 0, none⟩, cap5, acc ++ [d8], rs2, rfl, by omega, rfl, hrs2, by simp, by simp; omega, HNX.out.1, ?_, hp, hb5⟩;rw [List.length_append, List.length_singleton]
         exact hown5)
        clear HNX hrs2 HRS;have HLT := Lib.hid (fun j (hj : (Value.slice A acc.length cap).ownBlock = some j) => own_lt hown1 hj)
        go_wp2_with fail
        have HGs := Lib.hid (show ∀ (D : Nat → Bool) (zzi : Nat) (zq zq' : World), zzi ≠ 4 → (fun D zq => (D 4 = false → (fun Z => Z.ownsRow base 5 1 (.slice A acc.length cap) acc.length (Lib.byteCells acc)) zq) ∧ (fun Z => base ≤ Z.heap.size) zq) D zq → Mod (fun _ => False) zq zq' → (fun D zq => (D 4 = false → (fun Z => Z.ownsRow base 5 1 (.slice A acc.length cap) acc.length (Lib.byteCells acc)) zq) ∧ (fun Z => base ≤ Z.heap.size) zq) (upd D zzi true) zq' from by intro D zzi zq zq' hi hh hm; refine ⟨fun hs => ?_, ?_⟩; (rw [upd_ne _ _ (Ne.symm hi)] at hs; have h := hh.1 hs; (exact own_pure h hm)); (have h := hh.2; (exact Nat.le_trans h hm.size)))
        refine wp_region_inv (by kernel_rfl) (by kernel_rfl) (InvF (R := Mod (fun _ => False)) [.is (.slice A acc.length cap),
          .is (.int .i64 (d8.toNat : Int)),
          .is (.int .u8 (d8.toNat : Int)),
          ⟨fun zv zw => ∃ (g_3 : Nat), zv = .slice (some ⟨g_3, 0, none⟩) 1 1 ∧ w1.heap.size ≤ g_3 ∧ Blk zw g_3 5 #[.int .u8 (d8.toNat : Int)], (by rintro zv zw zx ⟨g_3, rfl, c0, q0⟩ hm; exact ⟨g_3, rfl, c0, (q0.modp hm)⟩), none, some 4⟩,
          ⟨fun zv zw => ∃ (g_4 : Nat) (cap_4 : Nat), zv = .slice (some ⟨g_4, 0, none⟩) (acc.length + 1) cap_4 ∧ zw.ownsRow base 5 1 (.slice (some ⟨g_4, 0, none⟩) (acc.length + 1) cap_4) (acc.length + 1) (Lib.byteCells acc ++ [.int .u8 (d8.toNat : Int)]), (by rintro zv zw zx ⟨g_4, cap_4, rfl, q0⟩ hm; exact ⟨g_4, cap_4, rfl, (own_pure q0 hm)⟩), none, none⟩,
          .is (.string rs),
          .is (.string q),
          .is (.int .i64 (n : Int)),
          .is (.string rs2),
          ⟨fun zv zw => ∃ (g_9 : Nat) (cap_9 : Nat), zv = .slice (some ⟨g_9, 0, none⟩) (acc.length + 1) cap_9 ∧ zw.ownsRow base 5 1 (.slice (some ⟨g_9, 0, none⟩) (acc.length + 1) cap_9) (acc.length + 1) (Lib.byteCells acc ++ [.int .u8 (d8.toNat : Int)]), (by rintro zv zw zx ⟨g_9, cap_9, rfl, q0⟩ hm; exact ⟨g_9, cap_9, rfl, (own_pure q0 hm)⟩), none, none⟩,
          .is (.string rs2),
          .is ((.bool true))]
          (PB w (fun _ => False) w1.heap.size (fun D zq => (D 4 = false → (fun Z => Z.ownsRow base 5 1 (.slice A acc.length cap) acc.length (Lib.byteCells acc)) zq) ∧ (fun Z => base ≤ Z.heap.size) zq))) (InvF.start (PB.start hM (Nat.le_refl _) (⟨fun _ => hown1.drew, hbig1⟩))) ?_ ?_
        ·refine .cons ?_ (.cons ?_ (.cons ?_ (.cons ?_ (.cons ?_ (.cons ?_ (.cons ?_ (.cons ?_ (.cons ?_ (.cons ?_ (.cons ?_ (.cons ?_ .nil)))))))))))
         ·intro D V zw1 a hR hI K hK;obtain ⟨hM1, hB1, hG1⟩ := hI.1;obtain ⟨hGK, hG1⟩ := hG1;have ze5 := hR.frame.undone (t := 5) (j := 9) (by kernel_rfl) (hR.later 9 rfl (by kernel_rfl)) rfl;rw [if_pos (by rfl)];go_simp;exact hK (.slice A acc.length cap) _ (hI.next hR (by kernel_rfl) (Mod.refl _ _) (PB.quiet hI.1 (Mod.refl _ _) (HGs.out D 0 zw1 zw1 (by omega) (hI.1).g (Mod.refl _ _))) (upd_same V 0 _))
         ·intro D V zw1 a hR hI K hK;obtain ⟨hM1, hB1, hG1⟩ := hI.1;obtain ⟨hGK, hG1⟩ := hG1;have ze8 := hR.frame.other (t := 8) (by kernel_rfl) rfl;rw [if_pos (by rfl)];go_simp;exact hK (.int .i64 (d8.toNat : Int)) _ (hI.next hR (by kernel_rfl) (Mod.refl _ _) (PB.quiet hI.1 (Mod.refl _ _) (HGs.out D 1 zw1 zw1 (by omega) (hI.1).g (Mod.refl _ _))) (upd_same V 1 _))
         ·intro D V zw1 a hR hI K hK;obtain ⟨hM1, hB1, hG1⟩ := hI.1;obtain ⟨hGK, hG1⟩ := hG1;have zd1 := hR.pred 1 (by kernel_rfl);have zf1 : V 1 = .int .i64 (d8.toNat : Int) := hI.2 1 zd1 rfl;have ze45 := hR.frame.done (t := 45) (j := 1) (by kernel_rfl) hR.ok zd1;have hw8 : IntKind.u8.wrap (d8.toNat : Int) = (d8.toNat : Int) := u8_wrap _ (by omega) (by omega);rw [if_pos (by rfl)];go_simp;exact hK (.int .u8 (d8.toNat : Int)) _ (hI.next hR (by kernel_rfl) (Mod.refl _ _) (PB.quiet hI.1 (Mod.refl _ _) (HGs.out D 2 zw1 zw1 (by omega) (hI.1).g (Mod.refl _ _))) (upd_same V 2 _))
         ·intro D V zw1 a hR hI K hK;obtain ⟨hM1, hB1, hG1⟩ := hI.1;obtain ⟨hGK, hG1⟩ := hG1;have zd2 := hR.pred 2 (by kernel_rfl);have zf2 : V 2 = .int .u8 (d8.toNat : Int) := hI.2 2 zd2 rfl;have ze46 := hR.frame.done (t := 46) (j := 2) (by kernel_rfl) hR.ok zd2;rw [if_pos (by rfl)];go_simp;exact hK (_) _ (hI.next hR (by kernel_rfl) ((Mod.refl _ _).alloc _) (PB.quiet hI.1 (pure_alloc _ _) (HGs.out D 3 _ _ (by omega) (hI.1).g ((Mod.refl _ _).alloc _))) (⟨_, upd_same V 3 _, (by omega), (Blk.new _ _ _)⟩))
         ·intro D V zw1 a hR hI K hK;obtain ⟨hM1, hB1, hG1⟩ := hI.1;obtain ⟨hGK, hG1⟩ := hG1;have zd0 := hR.pred 0 (by kernel_rfl);have zf0 : V 0 = .slice A acc.length cap := hI.2 0 zd0 rfl;have zd3 := hR.pred 3 (by kernel_rfl);have zF3 : ∃ (g_3 : Nat), V 3 = .slice (some ⟨g_3, 0, none⟩) 1 1 ∧ w1.heap.size ≤ g_3 ∧ Blk zw1 g_3 5 #[.int .u8 (d8.toNat : Int)] := hI.2 3 zd3 (by show (!D 4) = true; rw [hR.not]; rfl);obtain ⟨g_3, zf3, c3_0, b3_0⟩ := zF3;have ze44 := hR.frame.done (t := 44) (j := 0) (by kernel_rfl) hR.ok zd0;have ze47 := hR.frame.done (t := 47) (j := 3) (by kernel_rfl) hR.ok zd3;rw [if_pos (by rfl)];have hown := hGK hR.not;refine wp_append_lies _ (.tmp 44) (.tmp 47) 77 (by rfl) base 5 i0 _ 1 1 Tryz.underlying77 hi0 hz0 hz1 hz2 (by rfl) (by omega) (.slice A acc.length cap) (acc.length) (Lib.byteCells acc) ?_ hown ⟨g_3, 0, none⟩ 1 1 [.int .u8 (d8.toNat : Int)] ?_ (by rfl) (World.news_of_block (cs := #[.int .u8 (d8.toNat : Int)]) (t := 5) (fr := (0, 0)) b3_0) (by simp [Value.oneCell']) (by omega) (by simp [maxLen]; omega) (by omega) (by omega) zw1.heap.size rfl ?_
          ·show a.tmps.getD 44 undef = _; simp [ze44, zf0]
          ·show a.tmps.getD 47 undef = _; simp [ze47, zf3]
          intro g5 cap5 zw2 hown5 hgrow hat hlt5;have hT := mod_grown hgrow;have hTb : ∀ j, (.slice A acc.length cap : Value).ownBlock = some j → base ≤ j := own_block hown;have hTl : ∀ j, (.slice A acc.length cap : Value).ownBlock = some j → j < w1.heap.size := fun j hj => HLT.out j hj;refine hK _ _ (InvF.last (PB.writes hI.1 (fun j hj hl => by have := hTb j hj; omega) hT ⟨fun hs => absurd hs (by rw [upd_same]; decide), Nat.le_trans hG1 hgrow.size⟩) ⟨_, _, upd_same V 4 _, hown5⟩ ?_);intro k hk hDk hlv;have hkl := hR.lt k hDk;have hv := hI.2 k hDk (liveB_of hlv)
          match k, hk, hDk, hlv, hkl, hv with
          | 0, _, _, _, _, hv => exact hv
          | 1, _, _, _, _, hv => exact hv
          | 2, _, _, _, _, hv => exact hv
          | 3, _, _, hlv, _, _ => exact absurd hlv (by show ¬ (!upd D 4 true 4) = true; rw [upd_same]; decide)
          | 4, hk, _, _, _, _ => exact absurd rfl hk
          | 5, _, _, _, _, hv => exact hv
          | 6, _, _, _, _, hv => exact hv
          | 7, _, _, _, _, hv => exact hv
          | 8, _, _, _, _, hv => exact hv
          | 9, _, hDk, _, _, _ => exact absurd hDk (by rw [hR.later 9 rfl (by kernel_rfl)]; decide)
          | 10, _, _, _, _, hv => exact hv
          | 11, _, _, _, _, hv => exact hv
          | k + 12, _, _, _, hkl, _ => exact absurd hkl (by simp)
         ·intro D V zw1 a hR hI K hK;obtain ⟨hM1, hB1, hG1⟩ := hI.1;obtain ⟨hGK, hG1⟩ := hG1;have ze6 := hR.frame.undone (t := 6) (j := 10) (by kernel_rfl) (hR.later 10 rfl (by kernel_rfl)) rfl;rw [if_pos (by rfl)];go_simp;exact hK (.string rs) _ (hI.next hR (by kernel_rfl) (Mod.refl _ _) (PB.quiet hI.1 (Mod.refl _ _) (HGs.out D 5 zw1 zw1 (by omega) (hI.1).g (Mod.refl _ _))) (upd_same V 5 _))
         ·intro D V zw1 a hR hI K hK;obtain ⟨hM1, hB1, hG1⟩ := hI.1;obtain ⟨hGK, hG1⟩ := hG1;have ze9 := hR.frame.other (t := 9) (by kernel_rfl) rfl;rw [if_pos (by rfl)];go_simp;exact hK (.string q) _ (hI.next hR (by kernel_rfl) (Mod.refl _ _) (PB.quiet hI.1 (Mod.refl _ _) (HGs.out D 6 zw1 zw1 (by omega) (hI.1).g (Mod.refl _ _))) (upd_same V 6 _))
         ·intro D V zw1 a hR hI K hK;obtain ⟨hM1, hB1, hG1⟩ := hI.1;obtain ⟨hGK, hG1⟩ := hG1;have zd6 := hR.pred 6 (by kernel_rfl);have zf6 : V 6 = .string q := hI.2 6 zd6 rfl;have ze50 := hR.frame.done (t := 50) (j := 6) (by kernel_rfl) hR.ok zd6;rw [if_pos (by rfl)];go_simp;exact hK (.int .i64 (n : Int)) _ (hI.next hR (by kernel_rfl) (Mod.refl _ _) (PB.quiet hI.1 (Mod.refl _ _) (HGs.out D 7 zw1 zw1 (by omega) (hI.1).g (Mod.refl _ _))) (upd_same V 7 _))
         ·intro D V zw1 a hR hI K hK;obtain ⟨hM1, hB1, hG1⟩ := hI.1;obtain ⟨hGK, hG1⟩ := hG1;have zd5 := hR.pred 5 (by kernel_rfl);have zf5 : V 5 = .string rs := hI.2 5 zd5 rfl;have zd7 := hR.pred 7 (by kernel_rfl);have zf7 : V 7 = .int .i64 (n : Int) := hI.2 7 zd7 rfl;have ze49 := hR.frame.done (t := 49) (j := 5) (by kernel_rfl) hR.ok zd5;have ze51 := hR.frame.done (t := 51) (j := 7) (by kernel_rfl) hR.ok zd7
          have j9 : n ≤ l.length - k := by omega
          rw [if_pos (by rfl)];go_simp;exact hK (.string rs2) _ (hI.next hR (by kernel_rfl) (Mod.refl _ _) (PB.quiet hI.1 (Mod.refl _ _) (HGs.out D 8 zw1 zw1 (by omega) (hI.1).g (Mod.refl _ _))) (upd_same V 8 _))
         ·intro D V zw1 a hR hI K hK;obtain ⟨hM1, hB1, hG1⟩ := hI.1;obtain ⟨hGK, hG1⟩ := hG1;have zd4 := hR.pred 4 (by kernel_rfl);have zF4 : ∃ (g_4 : Nat) (cap_4 : Nat), V 4 = .slice (some ⟨g_4, 0, none⟩) (acc.length + 1) cap_4 ∧ zw1.ownsRow base 5 1 (.slice (some ⟨g_4, 0, none⟩) (acc.length + 1) cap_4) (acc.length + 1) (Lib.byteCells acc ++ [.int .u8 (d8.toNat : Int)]) := hI.2 4 zd4 rfl;obtain ⟨g_4, cap_4, zf4, b4_0⟩ := zF4;have ze48 := hR.frame.done (t := 48) (j := 4) (by kernel_rfl) hR.ok zd4;rw [if_pos (by rfl)];go_simp;exact hK (.slice (some ⟨g_4, 0, none⟩) (acc.length + 1) cap_4) _ (hI.next hR (by kernel_rfl) (Mod.refl _ _) (PB.quiet hI.1 (Mod.refl _ _) (HGs.out D 9 zw1 zw1 (by omega) (hI.1).g (Mod.refl _ _))) (⟨g_4, cap_4, upd_same V 9 _, b4_0⟩))
         ·intro D V zw1 a hR hI K hK;obtain ⟨hM1, hB1, hG1⟩ := hI.1;obtain ⟨hGK, hG1⟩ := hG1;have zd8 := hR.pred 8 (by kernel_rfl);have zf8 : V 8 = .string rs2 := hI.2 8 zd8 rfl;have ze52 := hR.frame.done (t := 52) (j := 8) (by kernel_rfl) hR.ok zd8;rw [if_pos (by rfl)];go_simp;exact hK (.string rs2) _ (hI.next hR (by kernel_rfl) (Mod.refl _ _) (PB.quiet hI.1 (Mod.refl _ _) (HGs.out D 10 zw1 zw1 (by omega) (hI.1).g (Mod.refl _ _))) (upd_same V 10 _))
         ·intro D V zw1 a hR hI K hK;obtain ⟨hM1, hB1, hG1⟩ := hI.1;obtain ⟨hGK, hG1⟩ := hG1;rw [if_pos (by rfl)];go_simp;exact hK ((.bool true)) _ (hI.next hR (by kernel_rfl) (Mod.refl _ _) (PB.quiet hI.1 (Mod.refl _ _) (HGs.out D 11 zw1 zw1 (by omega) (hI.1).g (Mod.refl _ _))) (upd_same V 11 _))
        ·intro D V w2 hD hI;obtain ⟨hM1, hB1, hG1⟩ := hI.1;have hMx := hM1;clear hM1;have hBx := hB1;clear hB1;have hGx := hG1.2;clear hG1;have zf0 : V 0 = .slice A acc.length cap := hI.2 0 (hD 0 (by decide)) rfl;have zf1 : V 1 = .int .i64 (d8.toNat : Int) := hI.2 1 (hD 1 (by decide)) rfl;have zf2 : V 2 = .int .u8 (d8.toNat : Int) := hI.2 2 (hD 2 (by decide)) rfl;have zF4 : ∃ (g_4 : Nat) (cap_4 : Nat), V 4 = .slice (some ⟨g_4, 0, none⟩) (acc.length + 1) cap_4 ∧ w2.ownsRow base 5 1 (.slice (some ⟨g_4, 0, none⟩) (acc.length + 1) cap_4) (acc.length + 1) (Lib.byteCells acc ++ [.int .u8 (d8.toNat : Int)]) := hI.2 4 (hD 4 (by decide)) rfl;obtain ⟨g_4, cap_4, zf4, b4_0⟩ := zF4;have zf5 : V 5 = .string rs := hI.2 5 (hD 5 (by decide)) rfl;have zf6 : V 6 = .string q := hI.2 6 (hD 6 (by decide)) rfl;have zf7 : V 7 = .int .i64 (n : Int) := hI.2 7 (hD 7 (by decide)) rfl;have zf8 : V 8 = .string rs2 := hI.2 8 (hD 8 (by decide)) rfl;have zF9 : ∃ (g_9 : Nat) (cap_9 : Nat), V 9 = .slice (some ⟨g_9, 0, none⟩) (acc.length + 1) cap_9 ∧ w2.ownsRow base 5 1 (.slice (some ⟨g_9, 0, none⟩) (acc.length + 1) cap_9) (acc.length + 1) (Lib.byteCells acc ++ [.int .u8 (d8.toNat : Int)]) := hI.2 9 (hD 9 (by decide)) rfl;obtain ⟨g_9, cap_9, zf9, b9_0⟩ := zF9;have zf10 : V 10 = .string rs2 := hI.2 10 (hD 10 (by decide)) rfl;have zf11 : V 11 = (.bool true) := hI.2 11 (hD 11 (by decide)) rfl;clear hI hD HGs;simp only [frAll, Act.put, List.setIfInBounds_toArray, List.set_cons_zero, List.set_cons_succ, Nat.zero_add, Nat.reduceAdd, zf0, zf1, zf2, zf4, zf5, zf6, zf7, zf8, zf9, zf10, zf11];clear zf0 zf1 zf2 zf4 zf5 zf6 zf7 zf8 zf9 zf10 zf11;generalize V 3 = u3;clear V D
         go_wp2_with fail
         go_roundg (l.length - (k + n))
         case measure => omega
         case rel => exact HREL.out _ _ w2 b9_0 hMx hGx
       ·have hpb : List.isPrefixOf (⟨(quoB d8).toArray⟩ : ByteArray).data.toList rs.data.toList = false := by
         rw [Bool.eq_false_iff, Ne, HRS.out, List.isPrefixOf_iff_prefix];exact hpre
        rw [hpb]
        have HREL : Hid (UiRel w (l.drop k) base A cap acc rs (256 - (d8.toNat + 1)) (.slice A acc.length cap) (.string rs) (.bool false) (.int .i64 ((d8.toNat : Int) + 1)) w1) := Lib.hid (by
         refine ⟨d8.toNat + 1, rfl, rfl, rfl, rfl, by omega, by simp, ?_, hown1, hM, hbig1⟩;intro d hd
         by_cases he : d = d8.toNat
         ·subst he;rw [UInt8.ofNat_toNat];exact hpre
         ·exact HNO.out d (by omega))
        clear hpb hpre
        go_wp2_with fail
        go_roundg (256 - (d8.toNat + 1))
        case measure => omega
        case rel => exact HREL.out
      ·obtain rfl : c = 256 := by omega
       have HN := Lib.hid (HU.out.bad HR.out H34.out (by rw [← HR.out]; exact decP_none_of HNO.out))
       go_wp2_with fail
       refine bodyPost_ret (v := .tuple #[.string ⟨#[]⟩, .int .i64 0, .bool false]) (by simp [results, Tryz.results72, go_sem]) rfl ?_;exact ⟨.inl ⟨HN.out, rfl⟩, hm⟩
   ·obtain rfl : k = l.length := by omega
    have HN := Lib.hid HU.out.end_
    have hrs0 : rs = ⟨#[]⟩ := by rw [HRS.out]; simp
    subst hrs0
    go_wp2_with fail
    refine bodyPost_ret (v := .tuple #[.string ⟨#[]⟩, .int .i64 0, .bool false]) (by simp [results, Tryz.results72, go_sem]) rfl ?_;exact ⟨.inl ⟨HN.out, rfl⟩, hm⟩
 ·have p1 : List.isPrefixOf (⟨#[34]⟩ : ByteArray).data.toList s.data.toList = false := by
   rw [← HS0.out];clear HS0 hz
   match l, hp with
   | [], _ => rfl
   | c :: r, hp =>
    have : c ≠ 34 := fun h => hp ⟨r, by rw [h]⟩;simp [List.isPrefixOf, Ne.symm this]
  have HN : Hid (unqS l = none) := Lib.hid (by
   clear HS0 hz
   match l, hp with
   | [], _ => rfl
   | c :: r, hp =>
    have : c ≠ 34 := fun h => hp ⟨r, by rw [h]⟩;unfold unqS
    split
    ·rename_i heq
     injection heq with h1 _
     exact absurd h1 this
    ·rfl)
  have P1 := Lib.hid p1;clear p1 hp
  go_enter Tryz.func72, Tryz.ntmps72
  go_wp2_with fail
  refine (prefix_calls _ _ _).mono ?_;rintro e w' ⟨rfl, rfl⟩;rw [P1.out]
  go_wp2_with fail
  refine bodyPost_ret (v := .tuple #[.string ⟨#[]⟩, .int .i64 0, .bool false]) (by simp [results, Tryz.results72, go_sem]) rfl ?_;exact ⟨.inl ⟨HN.out, rfl⟩, Mod.refl _ _⟩
end Go.Proofs.YtelpdjhkedhppaaGreatDoor
/- Quoted strings: strange strings, taken. -/
namespace Go.Proofs.YtelpdjhkedhppaaGreatDoor
open Go.RowKit
theorem unq_a : unqS [34, 97, 34] = some ([97], 3) := by decide +kernel
theorem dig_a : digS [97] = [97, 102, 54, 51, 100, 99, 52, 99, 56, 54, 48, 49, 101, 99, 56, 99] := by decide +kernel
set_option maxHeartbeats 4000000 in
theorem taken_calls (w : World) (hE : ErrS w) (hD : Deb w) : Calls Tryz.prog 19 #[] w (fun e w' => e = .returned (.bool true) ∧ Pure w w') := by
 have HU := Lib.hid (Unquote_calls w [34, 97, 34] (by simp) hE);have HD := Lib.hid (fun w1 (hm : Pure w w1) => Digest_calls w1 ⟨#[97]⟩ (by simp [ByteArray.size]) (hD.pure hm));clear hE hD
 go_enter Tryz.func19, Tryz.ntmps19
 go_wp2_with fail
 refine HU.out.mono ?_;rintro e w1 ⟨h | h, hm⟩
 ·rw [unq_a] at h
  cases h.1
 ·obtain ⟨out, n, h1, rfl⟩ := h;rw [unq_a] at h1
  cases h1
  go_wp2_with fail
  refine (HD.out _ hm).mono ?_;rintro e w2 ⟨rfl, hm2⟩;rw [show digS (⟨#[97]⟩ : ByteArray).data.toList = _ from dig_a]
  go_wp2_with fail
  go_ret;exact ⟨rfl, hm.trans hm2⟩
end Go.Proofs.YtelpdjhkedhppaaGreatDoor
/- Range of the stream, from 0. -/
namespace Go.Proofs.YtelpdjhkedhppaaGreatDoor
open Go.RowKit
theorem rangeI_calls (w : World) (b N : Nat) (hi : Int) (hS : Strm w b N) (hN : N ≤ 1000000000) (h1 : 0 ≤ hi) (h2 : hi ≤ 1000) : Calls Tryz.prog 9 #[.pointer (some ⟨b, 0, none⟩), .int .i64 0, .int .i64 hi] w (fun e w' => ∃ (m : Nat) (mI : Int), mI = (m : Int) ∧ mI ≤ hi ∧ e = .returned (.int .i64 mI) ∧ Strm w' b (N + 1) ∧ Mod (· = b) w w') := by
 refine (range_calls w b N 0 hi hS hN h1 (by omega) (by omega)).mono ?_;rintro e w' ⟨k, h0, h1, rfl, h3, h4⟩;exact ⟨k.toNat, k, by omega, h1, rfl, h3, h4⟩
end Go.Proofs.YtelpdjhkedhppaaGreatDoor
/- Items as text, plain. -/
namespace Go.Proofs.YtelpdjhkedhppaaGreatDoor
open Go.RowKit
theorem rdAll : ∀ (ls : List Str) (i : Nat) (S : List Str), rdG (fun S l => some (S ++ [l])) true ls i S = .inr (S ++ ls)
 | [], _, S => by simp [rdG]
 | l :: t, i, S => by
  unfold rdG;simp only;rw [if_neg (by simp), rdAll t, List.append_assoc]
  rfl
theorem rdOpen : ∀ (ls : List Str) (i : Nat) (S : List Str), ls ≠ [] → ∃ k, rdG (fun S l => some (S ++ [l])) false ls i S = .inl k
 | [], _, _, h => absurd rfl h
 | [l], i, S, _ => ⟨i, by simp [rdG]⟩
 | l :: m :: t, i, S, _ => by
  obtain ⟨k, hk⟩ := rdOpen (m :: t) (i + 1) (S ++ [l]) (by simp);refine ⟨k, ?_⟩;rw [← hk]
  conv => lhs; unfold rdG
  simp
theorem linesQ_nn {s : Str} (h : s ≠ []) : linesQ s ≠ [] := by unfold linesQ; rw [if_neg h]; exact spl_ne _ _
theorem lines_step {s : Str} (hw : wholeQ s = true) (h : s ≠ []) : ∃ p, fstL 10 s = some p ∧ wholeQ p.2 = true ∧ linesQ s = p.1 :: linesQ p.2 := by
 have hs := rdG_step (fun S l => some (S ++ [l])) h 0 [];rw [hw, rdAll] at hs
 cases hf : fstL 10 s with
 | none => rw [hf] at hs; simp at hs
 | some p =>
  rw [hf] at hs;simp only at hs;refine ⟨p, rfl, ?_⟩
  cases hv : wholeQ p.2 with
  | true =>
   rw [hv, rdAll] at hs;exact ⟨rfl, by simpa using hs⟩
  | false =>
   have hn : p.2 ≠ [] := by intro e; rw [e] at hv; simp [wholeQ] at hv
   obtain ⟨k, hk⟩ := rdOpen (linesQ p.2) (0 + 1) ([] ++ [p.1]) (linesQ_nn hn);rw [hv, hk] at hs;simp at hs
theorem lnsT_whole : ∀ (n : Nat) (s : Str), s.length ≤ n → wholeQ s = true → lnsT s = (linesQ s).map (· ++ [10]) ∧ Lib.countByte s 10 = (linesQ s).length
 | 0, s, hn, _ => by
  have : s = [] := List.eq_nil_of_length_eq_zero (by omega);subst this;exact ⟨rfl, rfl⟩
 | n + 1, s, hn, hw => by
  by_cases h : s = []
  ·subst h; exact ⟨rfl, rfl⟩
  obtain ⟨p, hp, hw2, hl⟩ := lines_step hw h;have hlen := fstL_len hp;obtain ⟨h1, h2⟩ := lnsT_whole n p.2 (by omega) hw2;rw [lnsT_some hp, hl, h1];refine ⟨rfl, ?_⟩;obtain ⟨e, hx⟩ := fstL_some (x := p.1) (y := p.2) hp
  have h3 : Lib.countByte s 10 = 1 + Lib.countByte p.2 10 := by
   rw [e];unfold Lib.countByte;rw [List.count_append, List.count_cons, List.count_eq_zero_of_not_mem hx];simp
   omega
  rw [h3, h2];simp
  omega
theorem whole_text {s : Str} (h : textB s = true) : wholeQ s = true := by
 unfold textB at h;unfold wholeQ;simp only [Bool.and_eq_true, Bool.or_eq_true, List.isEmpty_iff, decide_eq_true_eq] at h ⊢;exact h.2.2
def itFs (x : Itm) : List Str := [[105, 116, 101, 109], x.id, x.cust, kwS x.kind, Lib.itoa x.tm, if x.par = [] then [45] else x.par, quoS x.name, Lib.itoa ((Lib.countByte x.text 10 : Nat) : Int)]
def itHd (x : Itm) : Str := Lib.join (itFs x) [32] ++ [10]
def itLn (t : Str) : Str := (lnsT t).flatMap (fun l => 124 :: l)
def itTx (x : Itm) : Str := itHd x ++ itLn x.text
def itsT (l : List Itm) : Str := l.flatMap itTx
theorem itsT_snoc (l : List Itm) (x : Itm) : itsT (l ++ [x]) = itsT l ++ itTx x := by simp [itsT]
structure ItT (x : Itm) : Prop where
 id : x.id.length ≤ 100
 cust : x.cust.length ≤ 100
 k1 : 1 ≤ x.kind
 k4 : x.kind ≤ 4
 name : x.name.length ≤ 120
 t0 : 0 ≤ x.tm
 t1 : x.tm ≤ 5761439
 par : x.par.length ≤ 100
 text : x.text.length ≤ 20000
 whole : wholeQ x.text = true
theorem quoB_lenI (c : UInt8) : (quoB c).length ≤ 4 := by
 unfold quoB
 split
 ·simp
 ·split
  ·simp
  ·split <;> simp
theorem quoS_lenI (s : Str) : (quoS s).length ≤ 4 * s.length + 2 := by
 unfold quoS;simp only [List.length_cons, List.length_append, List.length_nil]
 have : (s.flatMap quoB).length ≤ 4 * s.length := by
  induction s with
  | nil => simp
  | cons c t ih =>
   have := quoB_lenI c;simp only [List.flatMap_cons, List.length_append, List.length_cons]
   omega
 omega
theorem joinF_tail : ∀ r : List Str, (Lib.joinTail [32] r).length = (r.map fun w => w.length + 1).sum
 | [] => rfl
 | x :: r => by
  have ih := joinF_tail r;unfold Lib.joinTail at ih ⊢;simp only [List.map_cons, List.flatten_cons, List.length_append, List.sum_cons, List.length_cons, List.length_nil];rw [ih]
  omega
theorem itHd_len {x : Itm} (h : ItT x) : (Lib.join (itFs x) [32]).length ≤ 1000 := by
 have h1 := Lib.itoa_length_le x.tm (by have := h.t0; omega) (by have := h.t1; omega);have hc : Lib.countByte x.text 10 ≤ x.text.length := List.count_le_length;have h2 := Lib.itoa_length_le ((Lib.countByte x.text 10 : Nat) : Int) (by omega) (by have := h.text; omega);have h3 := quoS_lenI x.name
 have h4 : (kwS x.kind).length ≤ 4 := by
  unfold kwS
  repeat' split
  all_goals decide
 have h5 : (if x.par = [] then [45] else x.par : Str).length ≤ 100 := by
  have := h.par
  split
  ·decide
  ·exact this
 have a1 := h.id;have a2 := h.cust;have a3 := h.name;unfold itFs;rw [Lib.join_cons, List.length_append, joinF_tail];simp only [List.map_cons, List.map_nil, List.sum_cons, List.sum_nil, List.length_cons, List.length_nil]
 omega
theorem itLn_len : ∀ (n : Nat) (t : Str), t.length ≤ n → (itLn t).length ≤ 2 * t.length
 | 0, t, hn => by
  have : t = [] := List.eq_nil_of_length_eq_zero (by omega);subst this;simp [itLn, lnsT_nil]
 | n + 1, t, hn => by
  by_cases h : t = []
  ·subst h; simp [itLn, lnsT_nil]
  have h0 : 0 < t.length := List.length_pos_iff.2 h;unfold itLn
  cases hf : fstL 10 t with
  | none =>
   rw [lnsT_none h hf];simp
   omega
  | some p =>
   have hl := fstL_len hf;have ih := itLn_len n p.2 (by omega);unfold itLn at ih;rw [lnsT_some hf];simp only [List.flatMap_cons, List.length_append, List.length_cons, List.length_nil]
   omega
theorem itTx_len {x : Itm} (h : ItT x) : (itTx x).length ≤ 42000 := by
 have h1 := itHd_len h;have h2 := itLn_len _ x.text (Nat.le_refl _);have h3 := h.text;unfold itTx itHd;simp only [List.length_append, List.length_cons, List.length_nil]
 omega
theorem itsT_len {l : List Itm} (h : ∀ x ∈ l, ItT x) : (itsT l).length ≤ 42000 * l.length := by
 induction l with
 | nil => simp [itsT]
 | cons x t ih =>
  have h1 := itTx_len (h x (by simp));have h2 := ih (fun y hy => h y (List.mem_cons_of_mem _ hy));unfold itsT at h2 ⊢;simp only [List.flatMap_cons, List.length_append, List.length_cons]
  omega
theorem keyB_len {l : Str} (h : keyB l = true) : 1 ≤ l.length ∧ l.length ≤ 40 := by
 unfold keyB at h;simp only [Bool.and_eq_true, decide_eq_true_eq] at h;exact h.1.1
theorem itT_of {x : Itm} (h : itemE x = 0) : ItT x := by
 unfold itemE at h
 split at h
 ·omega
 rename_i h1
 split at h
 ·omega
 rename_i h2
 split at h
 ·omega
 rename_i h3
 split at h
 ·omega
 split at h
 ·omega
 rename_i h5
 split at h
 ·omega
 rename_i h6
 split at h
 ·omega
 split at h
 ·omega
 rename_i h8
 split at h
 ·omega
 rename_i h9
 simp only [Bool.not_eq_true', Bool.not_eq_false, Bool.and_eq_true, inB, decide_eq_true_eq, Bool.not_eq_true, Bool.not_eq_false'] at h1 h2 h5 h9;have k1 := keyB_len h1.1;have k2 := keyB_len h1.2;refine ⟨by omega, by omega, h2.1, h2.2, by omega, h5.1, h5.2, ?_, by omega, whole_text h9⟩
 by_cases hp : x.par = []
 ·rw [hp]; simp
 ·have : keyB x.par = true := by simpa [hp] using h6
  have := keyB_len this
  omega
end Go.Proofs.YtelpdjhkedhppaaGreatDoor
/- Items as the program writes them, plain. -/
namespace Go.Proofs.YtelpdjhkedhppaaGreatDoor
open Go.RowKit
theorem linesP_Q (s : Str) : linesP s = linesQ s := by
 unfold linesP linesQ;rw [split_byte]
theorem its_all {l : List Itm} (h : itsE itemE l = 0) : ∀ x ∈ l, ItT x := fun x hx => by
 unfold itsE at h
 split at h
 ·omega
 split at h
 ·rename_i h1; exact absurd h h1
 rename_i h1
 exact itT_of (ordE_gt (by simpa using h1) x hx).1
def itxE (l : List Itm) : Int := if itsE itemE l ≠ 0 then itsE itemE l else if 200000 < (itsT l).length then 2 else 0
theorem itsT_take_le (l : List Itm) (k : Nat) : (itsT (l.take k)).length ≤ (itsT l).length := by
 have h : itsT l = itsT (l.take k) ++ itsT (l.drop k) := by
  unfold itsT;rw [← List.flatMap_append, List.take_append_drop]
 rw [h, List.length_append]
 omega
theorem itxE_large {l : List Itm} {k : Nat} (h0 : itsE itemE l = 0) (h : 200000 < (itsT (l.take k)).length) : itxE l = 2 := by
 have := itsT_take_le l k;unfold itxE;rw [if_neg (by simpa using h0), if_pos (by omega)]
theorem itxE_ok {l : List Itm} (h0 : itsE itemE l = 0) (h : (itsT l).length ≤ 200000) : itxE l = 0 := by
 unfold itxE;rw [if_neg (by simpa using h0), if_neg (by omega)]
theorem itxE_bad {l : List Itm} (h0 : itsE itemE l ≠ 0) : itxE l = itsE itemE l := by
 unfold itxE;rw [if_pos h0]
theorem itLn_whole {t : Str} (h : wholeQ t = true) : itLn t = (linesQ t).flatMap (fun l => 124 :: (l ++ [10])) := by
 unfold itLn;rw [(lnsT_whole _ t (Nat.le_refl _) h).1, List.flatMap_map]
theorem count_whole {t : Str} (h : wholeQ t = true) : Lib.countByte t 10 = (linesQ t).length := (lnsT_whole _ t (Nat.le_refl _) h).2
theorem flat_takeI {ls : List Str} {j : Nat} (h : j < ls.length) (f : Str → Str) : (ls.take (j + 1)).flatMap f = (ls.take j).flatMap f ++ f ls[j] := by
 rw [List.take_succ_eq_append_getElem h, List.flatMap_append];simp
theorem flat_takeI_le (ls : List Str) (j : Nat) (f : Str → Str) : ((ls.take j).flatMap f).length ≤ (ls.flatMap f).length := by
 have h : ls.flatMap f = (ls.take j).flatMap f ++ (ls.drop j).flatMap f := by rw [← List.flatMap_append, List.take_append_drop]
 rw [h, List.length_append]
 omega
end Go.Proofs.YtelpdjhkedhppaaGreatDoor
/- Items read from a text, plain. -/
namespace Go.Proofs.YtelpdjhkedhppaaGreatDoor
open Go.RowKit
def itemW : Str := [105, 116, 101, 109]
def kndI (s : Str) : Int := if s = [109, 97, 105, 108] then 1 else if s = [102, 105, 108, 101] then 2 else if s = [98, 111, 120] then 3 else if s = [110, 111, 116, 101] then 4 else 0
theorem kndI_le (s : Str) : 0 ≤ kndI s ∧ kndI s ≤ 4 := by
 unfold kndI
 repeat' split
 all_goals omega
def hdW (l : Str) : Bool := decide ((spl 32 l).length = 8) && (decide ((spl 32 l).getD 0 [] = itemW) && !decide ([] ∈ spl 32 l))
def hdF (w1 w2 w3 w4 w5 w6 w7 : Str) : Option (Itm × Int) :=
 match numQ 9 w4, numQ 9 w7, unqS w6 with
 | some a, some n, some p => if kndI w3 ≠ 0 ∧ p.2 = w6.length ∧ 0 ≤ n then some (⟨w1, w2, kndI w3, p.1, a, if w5 = [45] then [] else w5, []⟩, n) else none
 | _, _, _ => none
def hdP (l : Str) : Option (Itm × Int) := if hdW l = true then hdF ((spl 32 l).getD 1 []) ((spl 32 l).getD 2 []) ((spl 32 l).getD 3 []) ((spl 32 l).getD 4 []) ((spl 32 l).getD 5 []) ((spl 32 l).getD 6 []) ((spl 32 l).getD 7 []) else none
structure RdT where
 items : List Itm
 want : Int
 cnt : Nat
def withT (x : Itm) (r : Str) : Itm := ⟨x.id, x.cust, x.kind, x.name, x.tm, x.par, x.text ++ (r ++ [10])⟩
def addT (xs : List Itm) (r : Str) : List Itm := match xs[xs.length - 1]? with
 | none => xs
 | some x => xs.set (xs.length - 1) (withT x r)
def rdF (S : RdT) (l : Str) : Option RdT :=
 if Lib.hasPrefix l [124] = true then (if 0 < S.want then some ⟨addT S.items (Lib.trimPrefix l [124]), S.want - 1, S.cnt + 1⟩ else none)
 else if 0 < S.want then none else (hdP l).map fun p => ⟨S.items ++ [p.1], p.2, S.cnt + 1⟩
theorem rdF_cnt {S S' : RdT} {l : Str} (h : rdF S l = some S') : S'.cnt = S.cnt + 1 := by
 unfold rdF at h
 split at h
 ·split at h
  ·injection h with h; rw [← h]
  ·cases h
 ·split at h
  ·cases h
  ·cases hp : hdP l with
   | none => rw [hp] at h; cases h
   | some p => rw [hp] at h; injection h with h; rw [← h]
theorem rdG_cnt (wh : Bool) : ∀ (ls : List Str) (i : Nat) (S S' : RdT), rdG rdF wh ls i S = .inr S' → S'.cnt = S.cnt + ls.length
 | [], _, S, S', h => by
  unfold rdG at h
  injection h with h
  rw [← h]
  rfl
 | l :: t, i, S, S', h => by
  unfold rdG at h
  cases hf : rdF S l with
  | none => rw [hf] at h; cases h
  | some S2 =>
   rw [hf] at h;simp only at h
   split at h
   ·cases h
   ·have h1 := rdG_cnt wh t _ _ _ h;have h2 := rdF_cnt hf;rw [h1, h2];simp
    omega
def rdR (s : Str) : List Itm × Int × Int := match rdG rdF (wholeQ s) (linesQ s) 0 ⟨[], 0, 0⟩ with
 | .inl i => ([], (i : Int), 9)
 | .inr S => if 0 < S.want then ([], ((linesQ s).length : Int), 9) else if itsE itemE S.items ≠ 0 then ([], 0, itsE itemE S.items) else (S.items, 0, 0)
theorem addT_len (xs : List Itm) (r : Str) : (addT xs r).length = xs.length := by
 unfold addT
 split
 ·rfl
 ·simp
theorem addT_at {xs : List Itm} (h : xs.length - 1 < xs.length) (r : Str) : addT xs r = xs.set (xs.length - 1) (withT xs[xs.length - 1] r) := by
 unfold addT;rw [List.getElem?_eq_getElem h]
end Go.Proofs.YtelpdjhkedhppaaGreatDoor
/-
 DERIVED: THE SHELF's CONTRACTS AT THIS DUMP, IN PLAIN WORDS (tools/lay-plain.mjs out of 'YtelpdjhkedhppaaGreatDoorLayWra.lean', which tools/lay-shelf.mjs wrote): THE SAME DECLARATIONS UNDER THE SAME NAMES: 'import', 'namespace', 'open', 'def', 'theorem' AND NOTHING ELSE: no command of the shelf's: FOR A HAND-IN. Each laying: the table of numbers ('.._ren') and one theorem, a field a fact of the dump's own or the kernel's comparison; each contract: ONE APPLICATION.
-/
namespace Go.Proofs
open Go.Shelf
def Tryz.lays103_ren : Go.Shelf.Ren := ⟨fun | 103 => 64 | 210 => 129 | 206 => 181 | n => n, fun | 9 => 9 | 4 => 4 | 24 => 95 | 3 => 3 | n => n, fun | n => n⟩
theorem Tryz.lays103 : Go.Proofs.Lays.n103 Tryz.prog Tryz.lays103_ren := {
 mixed := by kernel_rfl
 f103 := Tryz.func64.trans (congrArg some (by kernel_rfl))
 f206 := Tryz.func181.trans (congrArg some (by kernel_rfl))
 f210 := Tryz.func129.trans (congrArg some (by kernel_rfl))
 t3 := Tryz.underlying3
 a3 := Tryz.isAgg3
 z3 := Tryz.sizeOf3
 v3 := Tryz.zeroValue3
 t4 := Tryz.underlying4
 a4 := Tryz.isAgg4
 z4 := Tryz.sizeOf4
 v4 := Tryz.zeroValue4
 t9 := Tryz.underlying9
 a9 := Tryz.isAgg9
 z9 := Tryz.sizeOf9
 v9 := Tryz.zeroValue9
 t24 := Tryz.underlying95
 a24 := Tryz.isAgg95
 z24 := Tryz.sizeOf95
 v24 := Tryz.zeroValue95 }
def Tryz.lays101_ren : Go.Shelf.Ren := ⟨fun | 101 => 136 | 208 => 186 | 206 => 181 | n => n, fun | 9 => 9 | 4 => 4 | 3 => 3 | n => n, fun | n => n⟩
theorem Tryz.lays101 : Go.Proofs.Lays.n101 Tryz.prog Tryz.lays101_ren := {
 mixed := by kernel_rfl
 f101 := Tryz.func136.trans (congrArg some (by kernel_rfl))
 f206 := Tryz.func181.trans (congrArg some (by kernel_rfl))
 f208 := Tryz.func186.trans (congrArg some (by kernel_rfl))
 t3 := Tryz.underlying3
 a3 := Tryz.isAgg3
 z3 := Tryz.sizeOf3
 v3 := Tryz.zeroValue3
 t4 := Tryz.underlying4
 a4 := Tryz.isAgg4
 z4 := Tryz.sizeOf4
 v4 := Tryz.zeroValue4
 t9 := Tryz.underlying9
 a9 := Tryz.isAgg9
 z9 := Tryz.sizeOf9
 v9 := Tryz.zeroValue9 }
end Go.Proofs
/-
 DERIVED: THE SHELF's CONTRACTS AT THIS DUMP, IN PLAIN WORDS (tools/lay-plain.mjs out of 'YtelpdjhkedhppaaGreatDoorLayAto.lean', which tools/lay-shelf.mjs wrote): THE SAME DECLARATIONS UNDER THE SAME NAMES: 'import', 'namespace', 'open', 'def', 'theorem' AND NOTHING ELSE: no command of the shelf's: FOR A HAND-IN. Each laying: the table of numbers ('.._ren') and one theorem, a field a fact of the dump's own or the kernel's comparison; each contract: ONE APPLICATION.
-/
namespace Go.Proofs
open Go.Shelf
def Tryz.lays172_ren : Go.Shelf.Ren := ⟨fun | 172 => 138 | 244 => 187 | 245 => 188 | 247 => 240 | 279 => 241 | 280 => 242 | 281 => 243 | 282 => 244 | 287 => 245 | 316 => 271 | 171 => 51 | 205 => 272 | 321 => 273 | 322 => 274 | 243 => 112 | 246 => 172 | 283 => 220 | 284 => 221 | 285 => 222 | 286 => 223 | 129 => 216 | 317 => 261 | 318 => 262 | 319 => 263 | 320 => 264 | 337 => 282 | 338 => 283 | n => n, fun | 9 => 9 | 3 => 3 | 75 => 84 | 76 => 85 | 4 => 4 | 5 => 5 | 167 => 243 | 37 => 77 | 0 => 0 | 85 => 244 | 2 => 2 | 168 => 246 | 53 => 161 | 175 => 199 | 46 => 119 | 210 => 279 | 127 => 145 | 145 => 292 | 143 => 290 | 21 => 21 | 171 => 219 | 173 => 221 | 212 => 263 | 51 => 176 | 20 => 20 | 213 => 264 | 232 => 297 | 233 => 298 | 80 => 43 | n => n, fun | 15 => 6 | 16 => 7 | 17 => 5 | 18 => 8 | 19 => 9 | n => n⟩
theorem Tryz.lays172 : Go.Proofs.Lays.n172 Tryz.prog Tryz.lays172_ren := {
 mixed := by kernel_rfl
 f129 := Tryz.func216.trans (congrArg some (by kernel_rfl))
 f171 := Tryz.func51.trans (congrArg some (by kernel_rfl))
 f172 := Tryz.func138.trans (congrArg some (by kernel_rfl))
 f205 := Tryz.func272.trans (congrArg some (by kernel_rfl))
 f243 := Tryz.func112.trans (congrArg some (by kernel_rfl))
 f244 := Tryz.func187.trans (congrArg some (by kernel_rfl))
 f245 := Tryz.func188.trans (congrArg some (by kernel_rfl))
 f246 := Tryz.func172.trans (congrArg some (by kernel_rfl))
 f247 := Tryz.func240.trans (congrArg some (by kernel_rfl))
 f279 := Tryz.func241.trans (congrArg some (by kernel_rfl))
 f280 := Tryz.func242.trans (congrArg some (by kernel_rfl))
 f281 := Tryz.func243.trans (congrArg some (by kernel_rfl))
 f282 := Tryz.func244.trans (congrArg some (by kernel_rfl))
 f283 := Tryz.func220.trans (congrArg some (by kernel_rfl))
 f284 := Tryz.func221.trans (congrArg some (by kernel_rfl))
 f285 := Tryz.func222.trans (congrArg some (by kernel_rfl))
 f286 := Tryz.func223.trans (congrArg some (by kernel_rfl))
 f287 := Tryz.func245.trans (congrArg some (by kernel_rfl))
 f316 := Tryz.func271.trans (congrArg some (by kernel_rfl))
 f317 := Tryz.func261.trans (congrArg some (by kernel_rfl))
 f318 := Tryz.func262.trans (congrArg some (by kernel_rfl))
 f319 := Tryz.func263.trans (congrArg some (by kernel_rfl))
 f320 := Tryz.func264.trans (congrArg some (by kernel_rfl))
 f321 := Tryz.func273.trans (congrArg some (by kernel_rfl))
 f322 := Tryz.func274.trans (congrArg some (by kernel_rfl))
 f337 := Tryz.func282.trans (congrArg some (by kernel_rfl))
 f338 := Tryz.func283.trans (congrArg some (by kernel_rfl))
 t0 := Tryz.underlying0
 a0 := Tryz.isAgg0
 z0 := Tryz.sizeOf0
 v0 := Tryz.zeroValue0
 t2 := Tryz.underlying2
 a2 := Tryz.isAgg2
 z2 := Tryz.sizeOf2
 v2 := Tryz.zeroValue2
 t3 := Tryz.underlying3
 a3 := Tryz.isAgg3
 z3 := Tryz.sizeOf3
 v3 := Tryz.zeroValue3
 t4 := Tryz.underlying4
 a4 := Tryz.isAgg4
 z4 := Tryz.sizeOf4
 v4 := Tryz.zeroValue4
 t5 := Tryz.underlying5
 a5 := Tryz.isAgg5
 z5 := Tryz.sizeOf5
 v5 := Tryz.zeroValue5
 t9 := Tryz.underlying9
 a9 := Tryz.isAgg9
 z9 := Tryz.sizeOf9
 v9 := Tryz.zeroValue9
 t20 := Tryz.underlying20
 a20 := Tryz.isAgg20
 z20 := Tryz.sizeOf20
 v20 := Tryz.zeroValue20
 t21 := Tryz.underlying21
 a21 := Tryz.isAgg21
 z21 := Tryz.sizeOf21
 v21 := Tryz.zeroValue21
 t37 := Tryz.underlying77
 a37 := Tryz.isAgg77
 z37 := Tryz.sizeOf77
 v37 := Tryz.zeroValue77
 t46 := Tryz.underlying119
 a46 := Tryz.isAgg119
 z46 := Tryz.sizeOf119
 v46 := Tryz.zeroValue119
 t51 := Tryz.underlying176
 a51 := Tryz.isAgg176
 z51 := Tryz.sizeOf176
 v51 := Tryz.zeroValue176
 t53 := Tryz.underlying161
 a53 := Tryz.isAgg161
 z53 := Tryz.sizeOf161
 v53 := Tryz.zeroValue161
 t75 := Tryz.underlying84
 a75 := Tryz.isAgg84
 z75 := Tryz.sizeOf84
 v75 := Tryz.zeroValue84
 t76 := Tryz.underlying85
 a76 := Tryz.isAgg85
 z76 := Tryz.sizeOf85
 v76 := Tryz.zeroValue85
 t85 := Tryz.underlying244
 a85 := Tryz.isAgg244
 z85 := Tryz.sizeOf244
 v85 := Tryz.zeroValue244
 t127 := Tryz.underlying145
 a127 := Tryz.isAgg145
 z127 := Tryz.sizeOf145
 v127 := Tryz.zeroValue145
 t143 := Tryz.underlying290
 a143 := Tryz.isAgg290
 z143 := Tryz.sizeOf290
 v143 := Tryz.zeroValue290
 t145 := Tryz.underlying292
 a145 := Tryz.isAgg292
 z145 := Tryz.sizeOf292
 v145 := Tryz.zeroValue292
 t167 := Tryz.underlying243
 a167 := Tryz.isAgg243
 z167 := Tryz.sizeOf243
 v167 := Tryz.zeroValue243
 t168 := Tryz.underlying246
 a168 := Tryz.isAgg246
 z168 := Tryz.sizeOf246
 v168 := Tryz.zeroValue246
 t171 := Tryz.underlying219
 a171 := Tryz.isAgg219
 z171 := Tryz.sizeOf219
 v171 := Tryz.zeroValue219
 t173 := Tryz.underlying221
 a173 := Tryz.isAgg221
 z173 := Tryz.sizeOf221
 v173 := Tryz.zeroValue221
 t175 := Tryz.underlying199
 a175 := Tryz.isAgg199
 z175 := Tryz.sizeOf199
 v175 := Tryz.zeroValue199
 t210 := Tryz.underlying279
 a210 := Tryz.isAgg279
 z210 := Tryz.sizeOf279
 v210 := Tryz.zeroValue279
 t212 := Tryz.underlying263
 a212 := Tryz.isAgg263
 z212 := Tryz.sizeOf263
 v212 := Tryz.zeroValue263
 t213 := Tryz.underlying264
 a213 := Tryz.isAgg264
 z213 := Tryz.sizeOf264
 t232 := Tryz.underlying297
 a232 := Tryz.isAgg297
 z232 := Tryz.sizeOf297
 v232 := Tryz.zeroValue297
 t233 := Tryz.underlying298
 a233 := Tryz.isAgg298
 z233 := Tryz.sizeOf298
 v233 := Tryz.zeroValue298
 g15 := by kernel_rfl
 g16 := by kernel_rfl
 g17 := by kernel_rfl
 g18 := by kernel_rfl
 g19 := by kernel_rfl }
end Go.Proofs
/-
 DERIVED: THE SHELF's CONTRACTS AT THIS DUMP, IN PLAIN WORDS (tools/lay-plain.mjs out of 'YtelpdjhkedhppaaGreatDoorLayIto.lean', which tools/lay-shelf.mjs wrote): THE SAME DECLARATIONS UNDER THE SAME NAMES: 'import', 'namespace', 'open', 'def', 'theorem' AND NOTHING ELSE: no command of the shelf's: FOR A HAND-IN. Each laying: the table of numbers ('.._ren') and one theorem, a field a fact of the dump's own or the kernel's comparison; each contract: ONE APPLICATION.
-/
namespace Go.Proofs
open Go.Shelf
def Tryz.laysM171_ren : Go.Shelf.Ren := ⟨fun | 171 => 51 | 243 => 112 | 246 => 172 | 283 => 220 | 284 => 221 | 285 => 222 | 286 => 223 | 129 => 216 | 317 => 261 | 318 => 262 | 319 => 263 | 320 => 264 | 337 => 282 | 338 => 283 | n => n, fun | 3 => 3 | 9 => 9 | 2 => 2 | 4 => 4 | 171 => 219 | 0 => 0 | 53 => 161 | 37 => 77 | 5 => 5 | 173 => 221 | 212 => 263 | 51 => 176 | 20 => 20 | 213 => 264 | 46 => 119 | 232 => 297 | 233 => 298 | n => n, fun | 17 => 5 | 18 => 8 | 19 => 9 | n => n⟩
theorem Tryz.laysM171 : Go.Proofs.LaysM.n171 Tryz.prog Tryz.laysM171_ren := {
 mixed := by kernel_rfl
 f129 := Tryz.func216.trans (congrArg some (by kernel_rfl))
 f171 := Tryz.func51.trans (congrArg some (by kernel_rfl))
 f243 := Tryz.func112.trans (congrArg some (by kernel_rfl))
 f246 := Tryz.func172.trans (congrArg some (by kernel_rfl))
 f283 := Tryz.func220.trans (congrArg some (by kernel_rfl))
 f284 := Tryz.func221.trans (congrArg some (by kernel_rfl))
 f285 := Tryz.func222.trans (congrArg some (by kernel_rfl))
 f286 := Tryz.func223.trans (congrArg some (by kernel_rfl))
 f317 := Tryz.func261.trans (congrArg some (by kernel_rfl))
 f318 := Tryz.func262.trans (congrArg some (by kernel_rfl))
 f319 := Tryz.func263.trans (congrArg some (by kernel_rfl))
 f320 := Tryz.func264.trans (congrArg some (by kernel_rfl))
 f337 := Tryz.func282.trans (congrArg some (by kernel_rfl))
 f338 := Tryz.func283.trans (congrArg some (by kernel_rfl))
 t0 := Tryz.underlying0
 a0 := Tryz.isAgg0
 z0 := Tryz.sizeOf0
 v0 := Tryz.zeroValue0
 t2 := Tryz.underlying2
 a2 := Tryz.isAgg2
 z2 := Tryz.sizeOf2
 v2 := Tryz.zeroValue2
 t3 := Tryz.underlying3
 a3 := Tryz.isAgg3
 z3 := Tryz.sizeOf3
 v3 := Tryz.zeroValue3
 t4 := Tryz.underlying4
 a4 := Tryz.isAgg4
 z4 := Tryz.sizeOf4
 v4 := Tryz.zeroValue4
 t5 := Tryz.underlying5
 a5 := Tryz.isAgg5
 z5 := Tryz.sizeOf5
 v5 := Tryz.zeroValue5
 t9 := Tryz.underlying9
 a9 := Tryz.isAgg9
 z9 := Tryz.sizeOf9
 v9 := Tryz.zeroValue9
 t20 := Tryz.underlying20
 a20 := Tryz.isAgg20
 z20 := Tryz.sizeOf20
 v20 := Tryz.zeroValue20
 t37 := Tryz.underlying77
 a37 := Tryz.isAgg77
 z37 := Tryz.sizeOf77
 v37 := Tryz.zeroValue77
 t46 := Tryz.underlying119
 a46 := Tryz.isAgg119
 z46 := Tryz.sizeOf119
 v46 := Tryz.zeroValue119
 t51 := Tryz.underlying176
 a51 := Tryz.isAgg176
 z51 := Tryz.sizeOf176
 v51 := Tryz.zeroValue176
 t53 := Tryz.underlying161
 a53 := Tryz.isAgg161
 z53 := Tryz.sizeOf161
 v53 := Tryz.zeroValue161
 t171 := Tryz.underlying219
 a171 := Tryz.isAgg219
 z171 := Tryz.sizeOf219
 v171 := Tryz.zeroValue219
 t173 := Tryz.underlying221
 a173 := Tryz.isAgg221
 z173 := Tryz.sizeOf221
 v173 := Tryz.zeroValue221
 t212 := Tryz.underlying263
 a212 := Tryz.isAgg263
 z212 := Tryz.sizeOf263
 v212 := Tryz.zeroValue263
 t213 := Tryz.underlying264
 a213 := Tryz.isAgg264
 z213 := Tryz.sizeOf264
 t232 := Tryz.underlying297
 a232 := Tryz.isAgg297
 z232 := Tryz.sizeOf297
 v232 := Tryz.zeroValue297
 t233 := Tryz.underlying298
 a233 := Tryz.isAgg298
 z233 := Tryz.sizeOf298
 v233 := Tryz.zeroValue298
 g17 := by kernel_rfl
 g18 := by kernel_rfl
 g19 := by kernel_rfl
 i0 := by kernel_rfl
 i2 := by kernel_rfl
 i3 := by kernel_rfl
 i4 := by kernel_rfl
 i5 := by kernel_rfl
 i9 := by kernel_rfl
 i20 := by kernel_rfl
 i37 := by kernel_rfl
 i46 := by kernel_rfl
 i51 := by kernel_rfl
 i53 := by kernel_rfl
 i171 := by kernel_rfl
 i173 := by kernel_rfl
 i212 := by kernel_rfl
 i232 := by kernel_rfl
 i233 := by kernel_rfl
 m17 := by kernel_rfl
 m18 := by kernel_rfl
 m19 := by kernel_rfl }
end Go.Proofs
/- Numbers of at most nine digits, as the program and as the reference read them. -/
namespace Go.Proofs.YtelpdjhkedhppaaGreatDoor
open Go.RowKit
def Pow (w : World) : Prop := Lib.TabIs Tryz.prog w "internal/strconv.uint64pow10" .u64 Lib.pow10Tab
theorem pow_g : Tryz.prog.globalNamed "internal/strconv.uint64pow10" = some 5 := by kernel_rfl
theorem Pow.mod {w w' : World} {S : Nat → Prop} (h : Pow w) (hm : Mod S w w') (hs : ¬ S 5) : Pow w' := by
 unfold Pow Lib.TabIs World.var? at h ⊢;rw [pow_g] at h ⊢;simp only [Option.bind_some] at h ⊢
 cases hh : w.heap[5]? with
 | none => rw [hh] at h; cases h
 | some o =>
  rw [hm.block _ (lt_of_heap hh) hs];exact h
theorem Pow.pure {w w' : World} (h : Pow w) (hm : Pure w w') : Pow w' := h.mod hm id
theorem Pow.lt {w : World} (h : Pow w) : 5 < w.heap.size := by
 unfold Pow Lib.TabIs World.var? at h;rw [pow_g] at h;simp only [Option.bind_some] at h
 cases hh : w.heap[5]? with
 | none => rw [hh] at h; cases h
 | some o => exact lt_of_heap hh
theorem itoaW_calls (w : World) (n : Int) (h0 : -1099511627776 ≤ n) (h1 : n ≤ 1099511627776) (hP : Pow w) : Calls Tryz.prog 51 #[.int .i64 n] w (fun e w' => e = .returned (.string ⟨(Lib.itoa n).toArray⟩) ∧ Pure w w') := by
 refine (Any.strconv_Itoa Tryz.laysM171 n (by omega) (by omega) w hP).mono ?_;rintro e w' ⟨rfl, k, os, rfl⟩;exact ⟨rfl, Mod.of_below ⟨rfl, rfl, rfl, by simp [Sort.grow, World.drewN], fun i hi => by simp [Sort.grow, World.drewN, Array.getElem?_append_left hi]⟩⟩
theorem atoiW_calls (w : World) (s : Str) (n : Int) (hs : s.length ≤ 18) (h : Lib.atoi s = some n) : Calls Tryz.prog 138 #[.string ⟨s.toArray⟩] w (fun e w' => e = .returned (.tuple #[.int .i64 n, .nilIface]) ∧ Pure w w') := by
 refine (Any.strconv_Atoi Tryz.lays172 ⟨s.toArray⟩ n (by simpa [ByteArray.size] using hs) (by simpa using h) w).mono ?_;rintro e w' ⟨rfl, t, rfl⟩;exact ⟨rfl, Mod.of_below (Joins.below_bytesWorld _ _ _ _ (Nat.le_refl _))⟩
def digsL : List UInt8 := [48, 49, 50, 51, 52, 53, 54, 55, 56, 57]
theorem digs_has (c : UInt8) : digsL.contains c = digitB c.toNat := all_byte _ _ (by decide +kernel) c
theorem onlyDigs_calls (w : World) (l : Str) (hs : l.length ≤ 1000000) : Calls Tryz.prog 137 #[.string ⟨l.toArray⟩, .string ⟨#[48, 49, 50, 51, 52, 53, 54, 55, 56, 57]⟩] w (BoolPost w (l.all digB)) := by
 have h := only_calls w ⟨l.toArray⟩ ⟨#[48, 49, 50, 51, 52, 53, 54, 55, 56, 57]⟩ (by simpa [ByteArray.size] using hs) (by decide) (ascii_of_all (by decide))
 have e : onlyB l digsL = l.all digB := by
  unfold onlyB
  congr 1
  funext c
  exact digs_has c
 rw [← e];exact h
def NumPost (w : World) (o : Option Int) (e : Ending) (w' : World) : Prop := ∃ v : Int, e = .returned (.tuple #[.int .i64 v, .bool o.isSome]) ∧ (∀ n, o = some n → v = n) ∧ -1000000000 < v ∧ v < 1000000000 ∧ Pure w w'
theorem NumPost.no {w w' : World} {o : Option Int} (h : o = none) (hm : Pure w w') : NumPost w o (.returned (.tuple #[.int .i64 0, .bool false])) w' :=
 ⟨0, by rw [h]; rfl, fun n hn => (by rw [h] at hn; cases hn), by omega, by omega, hm⟩
theorem numQ_none1 {D : Nat} {s : Str} (h : ¬ numD D (numT s)) : numQ D s = none := by unfold numQ; rw [if_neg (fun hh => h hh.1)]
theorem numQ_none2 {D : Nat} {s : Str} (h : ¬ numC s) : numQ D s = none := by unfold numQ; rw [if_neg (fun hh => h hh.2)]
theorem allD_take {l : Str} {k : Nat} (h : k < l.length) : (l.take (k + 1)).all digB = ((l.take k).all digB && digB l[k]) := by
 rw [List.take_succ_eq_append_getElem h, List.all_append]; simp
theorem numD_fail {D : Nat} {l : Str} {k : Nat} (h : k < l.length) (hk : digB l[k] = false) : ¬ numD D l := fun hh => by
 have := hh.2.2 l[k] (List.getElem_mem h);rw [hk] at this
 cases this
set_option maxHeartbeats 4000000 in
theorem number_calls (w : World) (s : Str) (D : Nat) (hD : D ≤ 9) (hs : s.length ≤ 1000000) : Calls Tryz.prog 130 #[.string ⟨s.toArray⟩, .int .i64 (D : Int)] w (NumPost w (numQ D s)) := by
 have hcp := Any.strings_CutPrefix Tryz.lays103 ⟨s.toArray⟩ ⟨#[45]⟩ w
 change Calls Tryz.prog 64 _ _ (fun e w' => e = .returned (.tuple #[.string ⟨(numT s).toArray⟩, .bool (numMi s)]) ∧ w' = w) at hcp
 have HCP := Lib.hid hcp;obtain ⟨d, hd⟩ : ∃ d, numT s = d := ⟨_, rfl⟩;obtain ⟨mi, hmi⟩ : ∃ mi, numMi s = mi := ⟨_, rfl⟩;have HQ1 : Hid (¬ numD D d → numQ D s = none) := Lib.hid (fun h => numQ_none1 (by rw [hd]; exact h));have HQ2 : Hid (¬ (canD d ∧ ¬ (mi = true ∧ d = [48])) → numQ D s = none) := Lib.hid (fun h => numQ_none2 (by unfold numC; rw [hd, hmi]; exact h))
 have HQ3 : Hid (numD D d → canD d ∧ ¬ (mi = true ∧ d = [48]) → ∃ n, numQ D s = some n ∧ Lib.atoi s = some n ∧ -1000000000 < n ∧ n < 1000000000 ∧ s.length ≤ 10) := Lib.hid (fun h1 h2 => by
  rw [← hd] at h1 h2;rw [← hmi] at h2;obtain ⟨n, e, b1, b2, _, b3⟩ := num_atoi h1 hD
  exact ⟨n, by unfold numQ; rw [if_pos ⟨h1, h2⟩]; exact e, e, b1, b2, b3⟩)
 rw [hd, hmi] at HCP
 have hdl : d.length ≤ s.length := by rw [← hd]; unfold numT Lib.trimPrefix; split <;> simp
 have hds : (⟨d.toArray⟩ : ByteArray).size = d.length := by simp [ByteArray.size]
 clear hcp hd hmi
 go_enter Tryz.func130, Tryz.ntmps130
 go_wp2_with fail
 refine HCP.out.mono ?_;rintro e w1 ⟨rfl, rfl⟩;have HIN := Lib.hid (inI_calls w1 (d.length : Int) 1 (D : Int));rw [← hds] at HIN;obtain ⟨db, hdb⟩ : ∃ db : ByteArray, db = ⟨d.toArray⟩ := ⟨_, rfl⟩;rw [← hdb] at HIN hds ⊢;have HDB := Lib.hid hdb;have HDL : Hid (db.size = d.length) := Lib.hid hds;have HGET : Hid (∀ k (h : k < db.size) (h2 : k < d.length), db[k] = d[k]) := Lib.hid (by subst hdb; intro k h h2; rfl);clear hds hdb HCP
 go_upto_region 2 with (fail)
 go_cut [37] (fun p wy => ∃ fl : Bool, p = .bool fl ∧ Pure w1 wy ∧ (fl = true → numQ D s = none) ∧ (fl = false → 1 ≤ d.length ∧ d.length ≤ D ∧ canD d ∧ ¬ (mi = true ∧ d = [48])))
 case first =>
  go_wp2_with fail
  refine HIN.out.mono ?_;rintro e w2 ⟨rfl, hm2⟩;have HM2 := Lib.hid hm2;clear hm2 HIN
  by_cases hin : 1 ≤ (db.size : Int) ∧ (db.size : Int) ≤ D
  rotate_left
  ·have hdec : (decide ((1 : Int) ≤ (db.size : Int)) && decide ((db.size : Int) ≤ (D : Int))) = false := by
    rw [Bool.and_eq_false_iff]; simp only [decide_eq_false_iff_not]
    omega
   rw [hdec];have HN := Lib.hid (HQ1.out (fun h => hin (by have h1 := h.1; have h2 := h.2.1; have h3 := HDL.out; omega)));clear hin hdec HQ1 HQ2 HQ3
   go_wp2_with fail
   go_meet;exact ⟨true, rfl, HM2.out, fun _ => HN.out, fun h => by cases h⟩
  have hdec : (decide ((1 : Int) ≤ (db.size : Int)) && decide ((db.size : Int) ≤ (D : Int))) = true := by
   rw [Bool.and_eq_true_iff]; simp only [decide_eq_true_eq]
   omega
  rw [hdec];clear hdec
  have hpos : 0 < db.size := by omega
  by_cases hlz : 1 < d.length ∧ d.headD 0 = 48
  ·have HN := Lib.hid (HQ2.out (fun h => h.1 hlz))
   have h1 : (1 : Int) < (db.size : Int) := by have := HDL.out; omega
   have hx : ((db[0].toNat : Int) == 48) = true := by
    rw [HGET.out 0 hpos (by omega)];have h2 := hlz.2
    cases d with
    | nil => simp at hlz
    | cons c t => simp at h2; subst h2; rfl
   clear hlz HQ1 HQ2 HQ3
   go_wp2_with fail
   go_meet;exact ⟨true, rfl, HM2.out, fun _ => HN.out, fun h => by cases h⟩
  have hlz2 : ¬ (1 : Int) < (db.size : Int) ∨ ((1 : Int) < (db.size : Int) ∧ ((db[0].toNat : Int) == 48) = false) := by
   by_cases h1 : (1 : Int) < (db.size : Int)
   ·refine .inr ⟨h1, ?_⟩;rw [beq_eq_false_iff_ne];intro h2;refine hlz ⟨by have := HDL.out; omega, ?_⟩;rw [HGET.out 0 hpos (by have := HDL.out; omega)] at h2
    cases d with
    | nil => have := HDL.out; rw [List.length_nil] at this; omega
    | cons c t => exact UInt8.toNat_inj.mp (by have h3 : ((c.toNat : Int)) = 48 := h2; show c.toNat = 48; omega)
   ·exact .inl h1
  by_cases hmz : mi = true ∧ d = [48]
  ·have HN := Lib.hid (HQ2.out (fun h => h.2 hmz));obtain ⟨rfl, rfl⟩ := hmz;obtain rfl := HDB.out;clear HQ1 HQ2 HQ3 hlz hlz2 HGET
   go_wp2_with fail
   go_meet;exact ⟨true, rfl, HM2.out, fun _ => HN.out, fun h => by cases h⟩
  have hmz2 : mi = false ∨ (mi = true ∧ (d == [48]) = false) := by
   cases mi with
   | false => exact .inl rfl
   | true =>
    refine .inr ⟨rfl, ?_⟩;rw [beq_eq_false_iff_ne];exact fun h => hmz ⟨rfl, h⟩
  have HRES : Hid (1 ≤ d.length ∧ d.length ≤ D ∧ canD d ∧ ¬ (mi = true ∧ d = [48])) := Lib.hid ⟨by have := HDL.out; omega, by have := HDL.out; omega, hlz, hmz⟩;clear hmz hlz HQ1 HQ2 HQ3;obtain ⟨c0, hc0⟩ : ∃ c0 : UInt8, db[0] = c0 := ⟨_, rfl⟩;rw [hc0] at hlz2;have hlz3 : ¬ (1 : Int) < (d.length : Int) ∨ ((1 : Int) < (d.length : Int) ∧ ((c0.toNat : Int) == 48) = false ∧ ¬ (c0.toNat : Int) = 48 ∧ ¬ c0.toNat = 48) := hlz2.imp (fun h => by have := HDL.out; omega) (fun h => ⟨by have := HDL.out; have := h.1; omega, h.2, by simpa using h.2, by have := h.2; simp at this; omega⟩);clear hlz2;have hdb := HDB.out;subst hdb;clear HDB HDL HGET
  rcases hlz3 with h1 | ⟨h1, h2, h2b, h2c⟩ <;> rcases hmz2 with rfl | ⟨rfl, h4⟩
  all_goals
   go_wp2_with fail
   go_meet;exact ⟨false, rfl, HM2.out, fun h => (by cases h), fun _ => HRES.out⟩
 case rest =>
  obtain ⟨fl, rfl, hm2, hno, hyes⟩ := hcut;have HM2 := Lib.hid hm2
  cases fl
  rotate_left
  ·have HN := Lib.hid (hno rfl);clear hno hyes HQ1 HQ2 HQ3 hm2
   go_wp2_with fail
   try simp only [Exit.inBlock, Exit.then]
   refine bodyPost_ret (v := .tuple #[.int .i64 0, .bool false]) (by simp [results, Tryz.results130, go_sem]) rfl ?_;exact NumPost.no HN.out HM2.out
  obtain ⟨hl1, hl2, hcan, hnz⟩ := hyes rfl;have HQ4 : Hid (numD D d → ∃ n, numQ D s = some n ∧ Lib.atoi s = some n ∧ -1000000000 < n ∧ n < 1000000000 ∧ s.length ≤ 10) := Lib.hid (fun h => HQ3.out h ⟨hcan, hnz⟩);clear hno hyes hm2 HQ2 HQ3 hcan hnz HIN
  go_wp2_with fail
  go_loopg [40] db.size (fun gk i wr => ∃ k : Nat, db.size - k = gk ∧ k ≤ db.size ∧ i = .int .i64 (k : Int) ∧ (d.take k).all digB = true ∧ wr = wc)
  case atStart => exact ⟨0, by omega, by omega, rfl, rfl, rfl⟩
  case round =>
   obtain ⟨k, rfl, hk, rfl, hall, rfl⟩ := hrel;have HA := Lib.hid hall;clear hall
   by_cases hlt : k < db.size
   ·have hkd : k < d.length := by have := HDL.out; omega
    have hk9 : k < 9 := by omega
    have hix := HGET.out k hlt hkd;have HSN := Lib.hid (allD_take hkd);have HFA := Lib.hid (fun h => HQ1.out (numD_fail (D := D) hkd h));rw [← hix] at HSN HFA;obtain ⟨c, hc⟩ : ∃ c, db[k] = c := ⟨_, rfl⟩;rw [hc] at HSN HFA;clear hix hkd
    go_wp2_with fail
    refine (digit_calls _ _).mono ?_;rintro e w' ⟨rfl, rfl⟩
    cases hd : digitB c.toNat
    ·have HN := Lib.hid (HFA.out hd);clear hd HFA HSN HA
     go_wp2_with fail
     try simp only [Exit.inBlock, Exit.then]
     refine bodyPost_ret (v := .tuple #[.int .i64 0, .bool false]) (by simp [results, Tryz.results130, go_sem]) rfl ?_;exact NumPost.no HN.out HM2.out
    ·have hd2 : digB c = true := hd
     go_wp2_with fail
     go_roundg (db.size - (k + 1))
     case measure => omega
     case rel => exact ⟨k + 1, rfl, hlt, by simp, by rw [HSN.out, HA.out, hd2]; rfl, rfl⟩
   ·obtain rfl : k = db.size := by omega
    have hall : d.all digB = true := by have := HA.out; rwa [HDL.out, List.take_of_length_le (Nat.le_refl _)] at this
    obtain ⟨n, hn1, hn2, hn3, hn4, hn5⟩ := HQ4.out ⟨hl1, hl2, fun c hc => List.all_eq_true.1 hall c hc⟩;have HAT := Lib.hid (atoiW_calls wr s n (by omega) hn2);have HN := Lib.hid hn1;clear hall hn1 hn2 HQ4 HA HQ1
    go_wp2_with fail
    refine HAT.out.mono ?_;rintro e w5 ⟨rfl, hm5⟩;clear HAT
    go_upto_region 11 with (fail)
    go_quiet (fail)
    go_wp2_with fail
    try simp only [Exit.inBlock, Exit.then]
    refine bodyPost_ret (v := .tuple #[.int .i64 n, .bool true]) (by simp [results, Tryz.results130, go_sem]) rfl ?_;rw [HN.out];exact ⟨n, rfl, (fun m hm => (by cases hm; rfl)), hn3, hn4, (HM2.out.trans hm5).drewN _⟩
set_option maxHeartbeats 4000000 in
theorem numberR_calls (w : World) (s : Str) (hs : s.length ≤ 1000000) (hP : Pow w) : Calls Tryz.prog 71 #[.string ⟨s.toArray⟩] w (NumPost w (numQ 9 s)) := by
 have htp := Any.strings_TrimPrefix Tryz.lays101 ⟨s.toArray⟩ ⟨#[45]⟩ w
 change Calls Tryz.prog 136 _ _ (fun e w' => e = .returned (.string ⟨(numT s).toArray⟩) ∧ w' = w) at htp
 have HTP := Lib.hid htp;obtain ⟨d, hd⟩ : ∃ d, numT s = d := ⟨_, rfl⟩;have HQ1 : Hid (¬ numD 9 d → numQ 9 s = none) := Lib.hid (fun h => numQ_none1 (by rw [hd]; exact h))
 have HQ3 : Hid (numD 9 d → ∃ n, Lib.atoi s = some n ∧ -1000000000 < n ∧ n < 1000000000 ∧ s.length ≤ 10 ∧ (Lib.itoa n = s → numQ 9 s = some n) ∧ (Lib.itoa n ≠ s → numQ 9 s = none)) := Lib.hid (fun h1 => by
  rw [← hd] at h1;obtain ⟨n, e, b1, b2, b4, b3⟩ := num_atoi h1 (by omega)
  exact ⟨n, e, b1, b2, b3, fun hh => by unfold numQ; rw [if_pos ⟨h1, b4.1 hh⟩]; exact e, fun hh => numQ_none2 (fun hc => hh (b4.2 hc))⟩)
 rw [hd] at HTP
 have hdl : d.length ≤ s.length := by rw [← hd]; unfold numT Lib.trimPrefix; split <;> simp
 have HPW := Lib.hid hP;clear htp hd hP
 go_enter Tryz.func71, Tryz.ntmps71
 go_wp2_with fail
 refine HTP.out.mono ?_;rintro e w1 ⟨rfl, rfl⟩;have HON := Lib.hid (onlyDigs_calls w1 d (by omega));clear HTP
 by_cases hd0 : d = []
 ·subst hd0;have HN := Lib.hid (HQ1.out (fun h => by have := h.1; simp at this));clear HQ1 HQ3 HON
  go_wp2_with fail
  try simp only [Exit.inBlock, Exit.then]
  refine bodyPost_ret (v := .tuple #[.int .i64 0, .bool false]) (by simp [results, Tryz.results71, go_sem]) rfl ?_;exact NumPost.no HN.out (Mod.refl _ _)
 have hd1 : (d == []) = false := by simpa using hd0
 have hd2 : d.isEmpty = false := by cases d with | nil => exact absurd rfl hd0 | cons a t => rfl
 by_cases hd9 : 9 < d.length
 ·have HN := Lib.hid (HQ1.out (fun h => by have := h.2.1; omega))
  have hd9' : (9 : Int) < (d.length : Int) := by omega
  clear HQ1 HQ3 HON
  go_wp2_with fail
  try simp only [Exit.inBlock, Exit.then]
  refine bodyPost_ret (v := .tuple #[.int .i64 0, .bool false]) (by simp [results, Tryz.results71, go_sem]) rfl ?_;exact NumPost.no HN.out (Mod.refl _ _)
 have hd9' : ¬ (9 : Int) < (d.length : Int) := by omega
 have HNE := Lib.hid hd0;clear hd0
 go_wp2_with fail
 refine HON.out.mono ?_;rintro e w2 ⟨rfl, hm2⟩;have HM2 := Lib.hid hm2;clear hm2 HON
 cases hall : d.all digB
 ·have HN := Lib.hid (HQ1.out (fun h => by rw [List.all_eq_true.2 h.2.2] at hall; cases hall));clear HQ1 HQ3
  go_wp2_with fail
  try simp only [Exit.inBlock, Exit.then]
  refine bodyPost_ret (v := .tuple #[.int .i64 0, .bool false]) (by simp [results, Tryz.results71, go_sem]) rfl ?_;exact NumPost.no HN.out HM2.out
 obtain ⟨n, hn2, hn3, hn4, hn5, hy, hno⟩ := HQ3.out ⟨List.length_pos_iff.2 HNE.out, by omega, fun c hc => List.all_eq_true.1 hall c hc⟩;have HAT := Lib.hid (atoiW_calls w2 s n (by omega) hn2);have HIT := Lib.hid (fun W (h : Pure w2 W) => itoaW_calls W n (by omega) (by omega) ((HPW.out.pure HM2.out).pure h));have HY := Lib.hid hy;have HNO := Lib.hid hno;clear hn2 hy hno HQ1 HQ3 hall HNE
 go_wp2_with fail
 refine HAT.out.mono ?_;rintro e w5 ⟨rfl, hm5⟩;have HI5 := Lib.hid (HIT.out _ hm5);clear HAT HIT
 go_wp2_with fail
 refine HI5.out.mono ?_;rintro e w6 ⟨rfl, hm6⟩;have HM6 := Lib.hid ((HM2.out.trans hm5).trans hm6);clear hm5 hm6 HI5;obtain ⟨it, hit⟩ : ∃ it, Lib.itoa n = it := ⟨_, rfl⟩;rw [hit] at HY HNO ⊢
 by_cases he : it = s
 ·subst he;have HN := Lib.hid (HY.out rfl)
  have hbe : (it == it) = true := by simp
  clear HY HNO hit
  go_wp2_with fail
  try simp only [Exit.inBlock, Exit.then]
  refine bodyPost_ret (v := .tuple #[.int .i64 n, .bool true]) (by simp [results, Tryz.results71, go_sem]) rfl ?_;rw [HN.out];exact ⟨n, rfl, (fun m hm => (by cases hm; rfl)), hn3, hn4, HM6.out⟩
 ·have HN := Lib.hid (HNO.out he)
  have hbe : (it == s) = false := by simpa using he
  clear HY HNO hit
  go_wp2_with fail
  try simp only [Exit.inBlock, Exit.then]
  refine bodyPost_ret (v := .tuple #[.int .i64 n, .bool false]) (by simp [results, Tryz.results71, go_sem]) rfl ?_;rw [HN.out];exact ⟨n, rfl, (fun m hm => (by cases hm)), hn3, hn4, HM6.out⟩
end Go.Proofs.YtelpdjhkedhppaaGreatDoor
