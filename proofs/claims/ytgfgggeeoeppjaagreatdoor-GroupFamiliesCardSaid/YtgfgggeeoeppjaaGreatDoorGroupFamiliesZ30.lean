/- Texts of the proof of GroupFamilies, put together: ItmL, ItmM, EscA, LaySyn, EscB, UnqA, UnqB, QuoS, RngI, FamD, WhoP, WhoT, PlcA, PlcB, FamQ, FamO, EqS, SamF, WhoR. -/
import Derived.Test.YtgfgggeeoeppjaaGreatDoorGroupFamiliesZ7
import Derived.Test.YtgfgggeeoeppjaaGreatDoorGroupFamiliesZ10
import Derived.Test.YtgfgggeeoeppjaaGreatDoorGroupFamiliesZ16
import Derived.Test.YtgfgggeeoeppjaaGreatDoorGroupFamiliesZ20
import Derived.Test.YtgfgggeeoeppjaaGreatDoorGroupFamiliesZ28
import Derived.Test.YtgfgggeeoeppjaaGreatDoorGroupFamiliesZ29
import Derived.Lib.ConvBytes
import Derived.Ground.NamesProg
import Derived.Shelf.Strconv.SyntaxError
import Derived.Shelf.LaysM
import Derived.Test.YtgfgggeeoeppjaaGreatDoorProg
import Derived.Shelf.Strings.Prefix
import Derived.Laws.BytesArg
import Derived.Deep.AppendLies
import Derived.Deep.DeepCutAuto
import Derived.Deep.CutBlock
set_option linter.unusedVariables false
set_option linter.unusedSimpArgs false
set_option maxRecDepth 100000
/- The generators of items: RightItems. -/
namespace Go.Proofs.YtgfgggeeoeppjaaGreatDoor
open Go.RowKit
theorem own_form7 {w : World} {base n size : Nat} {e : TypeId} {v : Value} {xs : List Value} (h : w.ownsRow base e size v n xs) (hn : 0 < n) : ∃ g cap, v = .slice (some ⟨g, 0, none⟩) n cap ∧ base ≤ g ∧ g < w.heap.size ∧ n ≤ cap ∧ cap ≤ 9223372036854775807 := by
 rcases h.2 with ⟨rfl, h0⟩ | ⟨g, cap, cur, rfl, hg, hh, hc, hcm, _⟩
 ·omega
 ·exact ⟨g, cap, rfl, hg, lt_of_heap hh, hc, by simpa [maxLen] using hcm⟩
theorem info_item7 : (Tryz.prog.info? 79).map (fun i => (i.zero, i.size, i.bytes)) = some (some itZ, 7, 96) := by kernel_rfl
def OwnI (w : World) (base g n cap : Nat) (xs : List Itm) : Prop := w.ownsRow base 79 7 (.slice (some ⟨g, 0, none⟩) n cap) n (itV xs)
theorem OwnI.len {w : World} {base g n cap : Nat} {xs : List Itm} (h : OwnI w base g n cap xs) : xs.length = n := by
 have := h.1;rw [itV_len] at this
 omega
theorem OwnI.its {w : World} {base g n cap : Nat} {xs : List Itm} (h : OwnI w base g n cap xs) : Its w (.slice (some ⟨g, 0, none⟩) n cap) xs := Sl.of_own h
theorem OwnI.mod {w w' : World} {base g n cap : Nat} {xs : List Itm} {S : Nat → Prop} (h : OwnI w base g n cap xs) (hm : Mod S w w') (hs : ¬ S g) : OwnI w' base g n cap xs := own_mod h hm (fun k hk => by injection hk with hk; rw [← hk]; exact hs)
theorem OwnI.ge {w : World} {base g n cap : Nat} {xs : List Itm} (h : OwnI w base g n cap xs) : base ≤ g ∧ g < w.heap.size := World.ownsRow.lt h g rfl
theorem OwnI.cells {w : World} {base g n cap k : Nat} {xs : List Itm} (h : OwnI w base g n cap xs) (hk : k < xs.length) :
  w.cell? ⟨g, k * 7, none⟩ = some (.string ⟨xs[k].id.toArray⟩) ∧ w.cell? ⟨g, k * 7 + 1, none⟩ = some (.string ⟨xs[k].cust.toArray⟩) ∧ w.cell? ⟨g, k * 7 + 2, none⟩ = some (.int .i64 xs[k].kind) ∧
  w.cell? ⟨g, k * 7 + 3, none⟩ = some (.string ⟨xs[k].name.toArray⟩) ∧ w.cell? ⟨g, k * 7 + 4, none⟩ = some (.int .i64 xs[k].tm) ∧ w.cell? ⟨g, k * 7 + 5, none⟩ = some (.string ⟨xs[k].par.toArray⟩) ∧ w.cell? ⟨g, k * 7 + 6, none⟩ = some (.string ⟨xs[k].text.toArray⟩) := by
 have hn := h.len;obtain ⟨h0, h1, h2, h3, h4, h5, h6⟩ := itV_get xs k hk;exact ⟨(World.ownsRow.cellAt h _ (by omega)).trans h0, (World.ownsRow.cellAt h _ (by omega)).trans h1, (World.ownsRow.cellAt h _ (by omega)).trans h2, (World.ownsRow.cellAt h _ (by omega)).trans h3, (World.ownsRow.cellAt h _ (by omega)).trans h4, (World.ownsRow.cellAt h _ (by omega)).trans h5, (World.ownsRow.cellAt h _ (by omega)).trans h6⟩
theorem OwnI.frozen {w : World} {base g n cap : Nat} {xs : List Itm} (h : OwnI w base g n cap xs) (j : Nat) : w.frozen? ⟨g, j, none⟩ = false := World.ownsRow.frozenAt h j
theorem itV_set : ∀ (xs : List Itm) (k : Nat) (y : Itm) (d : Nat) (u : Value), k < xs.length → d < 7 → (itC (xs.getD k y)).set d u = itC y → (itV xs).set (k * 7 + d) u = itV (xs.set k y)
 | [], k, y, d, u, hk, _, _ => absurd hk (by simp)
 | x :: xs, 0, y, d, u, _, hd, h => by
  have hl : (itC x).length = 7 := rfl;simp only [List.getD_cons_zero] at h;simp only [itV, List.flatMap_cons, Nat.zero_mul, Nat.zero_add, List.set_cons_zero];rw [List.set_append, if_pos (by rw [hl]; exact hd), h]
 | x :: xs, k + 1, y, d, u, hk, hd, h => by
  have hl : (itC x).length = 7 := rfl;have := itV_set xs k y d u (by simpa using hk) hd (by simpa using h);simp only [itV, List.flatMap_cons, List.set_cons_succ] at this ⊢;rw [List.set_append, if_neg (by rw [hl]; omega), hl, show (k + 1) * 7 + d - 7 = k * 7 + d by omega, this]
theorem OwnI.setPar {w : World} {base g n cap k : Nat} {xs : List Itm} (h : OwnI w base g n cap xs) (hk : k < xs.length) (s : Str) : OwnI (w.setCell ⟨g, k * 7 + 5, none⟩ (.string ⟨s.toArray⟩)) base g n cap (xs.set k { xs[k] with par := s }) := by
 have h1 := (World.ownsRow.stored h (k * 7 + 5) (.string ⟨s.toArray⟩)).1;rw [itV_set xs k { xs[k] with par := s } 5 _ hk (by omega) (by simp [List.getD, hk, itC])] at h1;exact h1
theorem OwnI.setKind {w : World} {base g n cap k : Nat} {xs : List Itm} (h : OwnI w base g n cap xs) (hk : k < xs.length) (z : Int) : OwnI (w.setCell ⟨g, k * 7 + 2, none⟩ (.int .i64 z)) base g n cap (xs.set k { xs[k] with kind := z }) := by
 have h1 := (World.ownsRow.stored h (k * 7 + 2) (.int .i64 z)).1;rw [itV_set xs k { xs[k] with kind := z } 2 _ hk (by omega) (by simp [List.getD, hk, itC])] at h1;exact h1
theorem set_all {xs : List Itm} {k : Nat} {y : Itm} (h : ∀ x ∈ xs, ItG x) (hy : ItG y) : ∀ x ∈ xs.set k y, ItG x := fun x hx => by
 rcases List.mem_or_eq_of_mem_set hx with hx | rfl
 ·exact h x hx
 ·exact hy
theorem ItG.par {x : Itm} (h : ItG x) {s : Str} (hs : s.length ≤ 30000) : ItG { x with par := s } := ⟨h.1, h.2.1, h.2.2.1, hs, h.2.2.2.2⟩
theorem ItG.kind {x : Itm} (h : ItG x) (z : Int) : ItG { x with kind := z } := ⟨h.1, h.2.1, h.2.2.1, h.2.2.2.1, h.2.2.2.2⟩
theorem ItB.par {x : Itm} (h : ItB x) {s : Str} (hs : s.length ≤ 30000) : ItB { x with par := s } := ⟨h.1, h.2.1, h.2.2.1, hs, h.2.2.2.2⟩
theorem ItB.kind {x : Itm} (h : ItB x) (z : Int) : ItB { x with kind := z } := ⟨h.1, h.2.1, h.2.2.1, h.2.2.2.1, h.2.2.2.2⟩
theorem le_nilI : ∀ x ∈ ([] : List Itm), ItG x := fun x hx => absurd hx (by simp)
def ItemsPostG (w : World) (b N m : Nat) (e : Ending) (w' : World) : Prop :=
 ∃ (v : Value) (xs : List Itm), e = .returned v ∧ xs.length ≤ m ∧ (∀ x ∈ xs, ItG x) ∧ w'.ownsRow w.heap.size 79 7 v xs.length (itV xs) ∧ Strm w' b N ∧ Mod (· = b) w w'
def Ri1 (w : World) (b N m gk : Nat) (ov i : Value) (wr : World) : Prop :=
 ∃ (j : Nat) (xs : List Itm) (A : Option Addr) (cap : Nat), m - j = gk ∧ j ≤ m ∧ ov = .slice A xs.length cap ∧ i = .int .i64 (j : Int) ∧ xs.length ≤ j ∧ (∀ x ∈ xs, ItG x) ∧ wr.ownsRow w.heap.size 79 7 (.slice A xs.length cap) xs.length (itV xs) ∧ Strm wr b (N + 140 * j) ∧ Mod (· = b) w wr ∧ w.heap.size ≤ wr.heap.size
def Ri2 (w : World) (b N base g n cap gk : Nat) (i : Value) (wr : World) : Prop :=
 ∃ (j : Nat) (xs : List Itm), n - j = gk ∧ j ≤ n ∧ i = .int .i64 (j : Int) ∧ (∀ x ∈ xs, ItG x) ∧ OwnI wr base g n cap xs ∧ Strm wr b (N + 2 * j) ∧ Mod (· = b) w wr
set_option maxHeartbeats 8000000 in
theorem rightItems_callsG (w : World) (b N m : Nat) (hS : Strm w b N) (hN : N ≤ 700000000) (hm : m ≤ 20) (hE : ∀ W, Mod (· = b) w W → Env W) : Calls Tryz.prog 38 #[.pointer (some ⟨b, 0, none⟩), .int .i64 (m : Int)] w (ItemsPostG w b (N + 142 * m) m) := by
 obtain ⟨i0, hi0, hz0, hz1, hz2⟩ := info_parts info_item7;have HE := Lib.hid hE;have hbl := hS.lt;clear hE;have m0 : Mod (· = b) w w := Mod.refl _ _
 go_enter Tryz.func38, Tryz.ntmps38
 go_wp2_with fail
 go_loopg [5, 12] m (fun gk ov i wr => Ri1 w b N m gk ov i wr)
 case atStart => exact ⟨0, [], none, 0, rfl, by omega, rfl, rfl, by simp, le_nilI, ⟨rfl, .inl ⟨rfl, rfl⟩⟩, hS.more (by omega), m0, Nat.le_refl _⟩
 case round =>
  clear hS m0;obtain ⟨j, xs, A, cap, rfl, hj, rfl, rfl, hxj, hxz, hown, hS, hmm, hsz⟩ := hrel
  by_cases hlt : j < m
  ·have HXZ := Lib.hid hxz;clear hxz
   go_wp2_with fail
   refine (itemId_calls _ j (by omega)).mono ?_;rintro e w1 ⟨rfl, hm1⟩;have hS1 := hS.pure hm1;have m1 := hmm.transp hm1;have own1 := own_pure hown hm1;have hsz1 := hm1.size;clear hS hmm hown hm1
   go_wp2_with fail
   refine (item_callsG _ b _ (itS j) hS1 (by omega) (by simp [itS])).mono ?_;rintro e w2 ⟨x, hx, rfl, hS2, hM2⟩;have hb2 := own_block own1;have own2 := own_mod own1 hM2 (fun k hk => by have := hb2 k hk; omega);have m2 := m1.trans hM2;have hsz2 := hM2.size;clear hS1 m1 own1 hM2 hb2;have HB0 := Lib.hid (Blk.new w2 79 (itQ x));have Hm0 := Lib.hid (pure_alloc w2 (.cells (itQ x) 79));obtain ⟨bo, hbo⟩ : ∃ bo, (x.id == itS j) = bo := ⟨_, rfl⟩;have HBO := Lib.hid hbo;obtain ⟨e1, he1⟩ : ∃ e1, itemE x = e1 := ⟨_, rfl⟩;have HIF := Lib.hid (fun W (h : Mod (· = b) w W) => itemFault_calls W x hx.b (HE.out W h));rw [he1] at HIF;have HX := Lib.hid hx;clear hbo he1 hx;have HID := Lib.hid (fun W => itemId_calls W j (by omega));generalize itS j = ij at *;unfold itA at HIF ⊢;unfold itQ at HB0 Hm0
   go_upto_region 6 with (fail)
   generalize (w2.alloc (.cells #[.string ⟨x.id.toArray⟩, .string ⟨x.cust.toArray⟩, .int .i64 x.kind, .string ⟨x.name.toArray⟩, .int .i64 x.tm, .string ⟨x.par.toArray⟩, .string ⟨x.text.toArray⟩] 79)) = WS at *;generalize hgs : w2.heap.size = gs at *;have hgs1 := Nat.le_of_eq hgs;have hgs2 := Nat.le_of_eq hgs.symm;clear hgs;obtain ⟨bad, hbad⟩ : ∃ bad, bad = (!bo || (!x.par.isEmpty || (e1 != 0))) := ⟨_, rfl⟩;have HBAD := Lib.hid hbad;clear hbad
   go_cut [33] (fun p wx => p = .bool bad ∧ Blk wx gs 79 #[.string ⟨x.id.toArray⟩, .string ⟨x.cust.toArray⟩, .int .i64 x.kind, .string ⟨x.name.toArray⟩, .int .i64 x.tm, .string ⟨x.par.toArray⟩, .string ⟨x.text.toArray⟩] ∧ Pure w2 wx)
   case first =>
    cases bo
    ·obtain rfl : bad = true := by rw [HBAD.out]; rfl
     have HGs := Lib.hid (show ∀ (D : Nat → Bool) (zzi : Nat) (zq zq' : World), (fun _ zq => (fun Z => Blk Z gs 79 #[.string ⟨x.id.toArray⟩, .string ⟨x.cust.toArray⟩, .int .i64 x.kind, .string ⟨x.name.toArray⟩, .int .i64 x.tm, .string ⟨x.par.toArray⟩, .string ⟨x.text.toArray⟩]) zq) D zq → Mod (fun _ => False) zq zq' → (fun _ zq => (fun Z => Blk Z gs 79 #[.string ⟨x.id.toArray⟩, .string ⟨x.cust.toArray⟩, .int .i64 x.kind, .string ⟨x.name.toArray⟩, .int .i64 x.tm, .string ⟨x.par.toArray⟩, .string ⟨x.text.toArray⟩]) zq) (upd D zzi true) zq' from by intro D zzi zq zq' h hm; (exact h.modp hm))
     refine wp_region_inv (by kernel_rfl) (by kernel_rfl) (InvF (R := Mod (fun _ => False)) [.is (.pointer (some ⟨gs, 0, none⟩)),
       .is (.string ⟨x.id.toArray⟩),
       .is (.int .i64 (j : Int)),
       .is (.string ⟨ij.toArray⟩),
       .is (.bool true),
       .is (.bool true),
       .is (undef),
       .is (undef),
       .is (undef),
       .is (.bool true),
       .is (.bool true),
       .is (undef),
       .is (undef),
       .is (undef),
       .is (.bool true)]
       (PB w2 (fun _ => False) WS.heap.size (fun _ zq => (fun Z => Blk Z gs 79 #[.string ⟨x.id.toArray⟩, .string ⟨x.cust.toArray⟩, .int .i64 x.kind, .string ⟨x.name.toArray⟩, .int .i64 x.tm, .string ⟨x.par.toArray⟩, .string ⟨x.text.toArray⟩]) zq))) (InvF.start (PB.start Hm0.out (Nat.le_refl _) (HB0.out.drew))) ?_ ?_
     ·refine .cons ?_ (.cons ?_ (.cons ?_ (.cons ?_ (.cons ?_ (.cons ?_ (.cons ?_ (.cons ?_ (.cons ?_ (.cons ?_ (.cons ?_ (.cons ?_ (.cons ?_ (.cons ?_ (.cons ?_ .nil))))))))))))))
      ·intro D V zw1 a hR hI K hK;obtain ⟨hM1, hB1, hG1⟩ := hI.1;have ze7 := hR.frame.other (t := 7) (by kernel_rfl) rfl;rw [if_pos (by rfl)];go_simp;exact hK (.pointer (some ⟨gs, 0, none⟩)) _ (hI.next hR (by kernel_rfl) (Mod.refl _ _) (PB.quiet hI.1 (Mod.refl _ _) (HGs.out D 0 zw1 zw1 (hI.1).g (Mod.refl _ _))) (upd_same V 0 _))
      ·intro D V zw1 a hR hI K hK;obtain ⟨hM1, hB1, hG1⟩ := hI.1;have zd0 := hR.pred 0 (by kernel_rfl);have zf0 : V 0 = .pointer (some ⟨gs, 0, none⟩) := hI.2 0 zd0 rfl;have ze19 := hR.frame.done (t := 19) (j := 0) (by kernel_rfl) hR.ok zd0;have zx0 := hG1.cell 0; have zx1 := hG1.cell 1; have zx2 := hG1.cell 2; have zx3 := hG1.cell 3; have zx4 := hG1.cell 4; have zx5 := hG1.cell 5; have zx6 := hG1.cell 6;simp at zx0 zx1 zx2 zx3 zx4 zx5 zx6;rw [if_pos (by rfl)];go_simp;exact hK (.string ⟨x.id.toArray⟩) _ (hI.next hR (by kernel_rfl) (Mod.refl _ _) (PB.quiet hI.1 (Mod.refl _ _) (HGs.out D 1 zw1 zw1 (hI.1).g (Mod.refl _ _))) (upd_same V 1 _))
      ·intro D V zw1 a hR hI K hK;obtain ⟨hM1, hB1, hG1⟩ := hI.1;have ze6 := hR.frame.other (t := 6) (by kernel_rfl) rfl;rw [if_pos (by rfl)];go_simp;exact hK (.int .i64 (j : Int)) _ (hI.next hR (by kernel_rfl) (Mod.refl _ _) (PB.quiet hI.1 (Mod.refl _ _) (HGs.out D 2 zw1 zw1 (hI.1).g (Mod.refl _ _))) (upd_same V 2 _))
      ·intro D V zw1 a hR hI K hK;obtain ⟨hM1, hB1, hG1⟩ := hI.1;have zd2 := hR.pred 2 (by kernel_rfl);have zf2 : V 2 = .int .i64 (j : Int) := hI.2 2 zd2 rfl;have ze21 := hR.frame.done (t := 21) (j := 2) (by kernel_rfl) hR.ok zd2;rw [if_pos (by rfl)];go_simp;refine (HID.out _).mono ?_;rintro e zw2 ⟨rfl, hm2⟩;exact hK (.string ⟨ij.toArray⟩) _ (hI.next hR (by kernel_rfl) hm2 (PB.quiet hI.1 hm2 (HGs.out D 3 _ _ (hI.1).g hm2)) (upd_same V 3 _))
      ·intro D V zw1 a hR hI K hK;obtain ⟨hM1, hB1, hG1⟩ := hI.1;have zd1 := hR.pred 1 (by kernel_rfl);have zf1 : V 1 = .string ⟨x.id.toArray⟩ := hI.2 1 zd1 rfl;have zd3 := hR.pred 3 (by kernel_rfl);have zf3 : V 3 = .string ⟨ij.toArray⟩ := hI.2 3 zd3 rfl;have ze20 := hR.frame.done (t := 20) (j := 1) (by kernel_rfl) hR.ok zd1;have ze22 := hR.frame.done (t := 22) (j := 3) (by kernel_rfl) hR.ok zd3;have hbo := HBO.out;rw [if_pos (by rfl)];go_simp;exact hK (.bool true) _ (hI.next hR (by kernel_rfl) (Mod.refl _ _) (PB.quiet hI.1 (Mod.refl _ _) (HGs.out D 4 zw1 zw1 (hI.1).g (Mod.refl _ _))) (upd_same V 4 _))
      ·intro D V zw1 a hR hI K hK;obtain ⟨hM1, hB1, hG1⟩ := hI.1;have zd4 := hR.pred 4 (by kernel_rfl);have zf4 : V 4 = .bool true := hI.2 4 zd4 rfl;have ze23 := hR.frame.done (t := 23) (j := 4) (by kernel_rfl) hR.ok zd4;rw [if_pos (by rfl)];go_simp;exact hK (.bool true) _ (hI.next hR (by kernel_rfl) (Mod.refl _ _) (PB.quiet hI.1 (Mod.refl _ _) (HGs.out D 5 zw1 zw1 (hI.1).g (Mod.refl _ _))) (upd_same V 5 _))
      ·intro D V zw1 a hR hI K hK;obtain ⟨hM1, hB1, hG1⟩ := hI.1;have zd5 := hR.pred 5 (by kernel_rfl);have zf5 : V 5 = .bool true := hI.2 5 zd5 rfl;have ze24 := hR.frame.done (t := 24) (j := 5) (by kernel_rfl) hR.ok zd5;rw [if_neg (by simp [Region.wanted, yielded, ze24, zf5])];exact hK undef _ (hI.next hR (by kernel_rfl) (Mod.refl _ _) (PB.quiet hI.1 (Mod.refl _ _) (HGs.out D 6 zw1 zw1 (hI.1).g (Mod.refl _ _))) (upd_same V 6 _))
      ·intro D V zw1 a hR hI K hK;obtain ⟨hM1, hB1, hG1⟩ := hI.1;have zd5 := hR.pred 5 (by kernel_rfl);have zf5 : V 5 = .bool true := hI.2 5 zd5 rfl;have ze24 := hR.frame.done (t := 24) (j := 5) (by kernel_rfl) hR.ok zd5;rw [if_neg (by simp [Region.wanted, yielded, ze24, zf5])];exact hK undef _ (hI.next hR (by kernel_rfl) (Mod.refl _ _) (PB.quiet hI.1 (Mod.refl _ _) (HGs.out D 7 zw1 zw1 (hI.1).g (Mod.refl _ _))) (upd_same V 7 _))
      ·intro D V zw1 a hR hI K hK;obtain ⟨hM1, hB1, hG1⟩ := hI.1;have zd5 := hR.pred 5 (by kernel_rfl);have zf5 : V 5 = .bool true := hI.2 5 zd5 rfl;have ze24 := hR.frame.done (t := 24) (j := 5) (by kernel_rfl) hR.ok zd5;rw [if_neg (by simp [Region.wanted, yielded, ze24, zf5])];exact hK undef _ (hI.next hR (by kernel_rfl) (Mod.refl _ _) (PB.quiet hI.1 (Mod.refl _ _) (HGs.out D 8 zw1 zw1 (hI.1).g (Mod.refl _ _))) (upd_same V 8 _))
      ·intro D V zw1 a hR hI K hK;obtain ⟨hM1, hB1, hG1⟩ := hI.1;have zd5 := hR.pred 5 (by kernel_rfl);have zf5 : V 5 = .bool true := hI.2 5 zd5 rfl;have zd8 := hR.pred 8 (by kernel_rfl);have zf8 : V 8 = undef := hI.2 8 zd8 rfl;have ze24 := hR.frame.done (t := 24) (j := 5) (by kernel_rfl) hR.ok zd5;have ze27 := hR.frame.done (t := 27) (j := 8) (by kernel_rfl) hR.ok zd8;rw [if_pos (by rfl)];go_simp;exact hK (.bool true) _ (hI.next hR (by kernel_rfl) (Mod.refl _ _) (PB.quiet hI.1 (Mod.refl _ _) (HGs.out D 9 zw1 zw1 (hI.1).g (Mod.refl _ _))) (upd_same V 9 _))
      ·intro D V zw1 a hR hI K hK;obtain ⟨hM1, hB1, hG1⟩ := hI.1;have zd9 := hR.pred 9 (by kernel_rfl);have zf9 : V 9 = .bool true := hI.2 9 zd9 rfl;have ze28 := hR.frame.done (t := 28) (j := 9) (by kernel_rfl) hR.ok zd9;rw [if_pos (by rfl)];go_simp;exact hK (.bool true) _ (hI.next hR (by kernel_rfl) (Mod.refl _ _) (PB.quiet hI.1 (Mod.refl _ _) (HGs.out D 10 zw1 zw1 (hI.1).g (Mod.refl _ _))) (upd_same V 10 _))
      ·intro D V zw1 a hR hI K hK;obtain ⟨hM1, hB1, hG1⟩ := hI.1;have zd10 := hR.pred 10 (by kernel_rfl);have zf10 : V 10 = .bool true := hI.2 10 zd10 rfl;have ze29 := hR.frame.done (t := 29) (j := 10) (by kernel_rfl) hR.ok zd10;rw [if_neg (by simp [Region.wanted, yielded, ze29, zf10])];exact hK undef _ (hI.next hR (by kernel_rfl) (Mod.refl _ _) (PB.quiet hI.1 (Mod.refl _ _) (HGs.out D 11 zw1 zw1 (hI.1).g (Mod.refl _ _))) (upd_same V 11 _))
      ·intro D V zw1 a hR hI K hK;obtain ⟨hM1, hB1, hG1⟩ := hI.1;have zd10 := hR.pred 10 (by kernel_rfl);have zf10 : V 10 = .bool true := hI.2 10 zd10 rfl;have ze29 := hR.frame.done (t := 29) (j := 10) (by kernel_rfl) hR.ok zd10;rw [if_neg (by simp [Region.wanted, yielded, ze29, zf10])];exact hK undef _ (hI.next hR (by kernel_rfl) (Mod.refl _ _) (PB.quiet hI.1 (Mod.refl _ _) (HGs.out D 12 zw1 zw1 (hI.1).g (Mod.refl _ _))) (upd_same V 12 _))
      ·intro D V zw1 a hR hI K hK;obtain ⟨hM1, hB1, hG1⟩ := hI.1;have zd10 := hR.pred 10 (by kernel_rfl);have zf10 : V 10 = .bool true := hI.2 10 zd10 rfl;have ze29 := hR.frame.done (t := 29) (j := 10) (by kernel_rfl) hR.ok zd10;rw [if_neg (by simp [Region.wanted, yielded, ze29, zf10])];exact hK undef _ (hI.next hR (by kernel_rfl) (Mod.refl _ _) (PB.quiet hI.1 (Mod.refl _ _) (HGs.out D 13 zw1 zw1 (hI.1).g (Mod.refl _ _))) (upd_same V 13 _))
      ·intro D V zw1 a hR hI K hK;obtain ⟨hM1, hB1, hG1⟩ := hI.1;have zd10 := hR.pred 10 (by kernel_rfl);have zf10 : V 10 = .bool true := hI.2 10 zd10 rfl;have zd13 := hR.pred 13 (by kernel_rfl);have zf13 : V 13 = undef := hI.2 13 zd13 rfl;have ze29 := hR.frame.done (t := 29) (j := 10) (by kernel_rfl) hR.ok zd10;have ze32 := hR.frame.done (t := 32) (j := 13) (by kernel_rfl) hR.ok zd13;rw [if_pos (by rfl)];go_simp;exact hK (.bool true) _ (hI.next hR (by kernel_rfl) (Mod.refl _ _) (PB.quiet hI.1 (Mod.refl _ _) (HGs.out D 14 zw1 zw1 (hI.1).g (Mod.refl _ _))) (upd_same V 14 _))
     ·intro D V w3 hD hI;obtain ⟨hM1, hB1, hG1⟩ := hI.1;have hMx := hM1;clear hM1;have hBx := hB1;clear hB1;have hGx := hG1;clear hG1;have zf0 : V 0 = .pointer (some ⟨gs, 0, none⟩) := hI.2 0 (hD 0 (by decide)) rfl;have zf1 : V 1 = .string ⟨x.id.toArray⟩ := hI.2 1 (hD 1 (by decide)) rfl;have zf2 : V 2 = .int .i64 (j : Int) := hI.2 2 (hD 2 (by decide)) rfl;have zf3 : V 3 = .string ⟨ij.toArray⟩ := hI.2 3 (hD 3 (by decide)) rfl;have zf4 : V 4 = .bool true := hI.2 4 (hD 4 (by decide)) rfl;have zf5 : V 5 = .bool true := hI.2 5 (hD 5 (by decide)) rfl;have zf6 : V 6 = undef := hI.2 6 (hD 6 (by decide)) rfl;have zf7 : V 7 = undef := hI.2 7 (hD 7 (by decide)) rfl;have zf8 : V 8 = undef := hI.2 8 (hD 8 (by decide)) rfl;have zf9 : V 9 = .bool true := hI.2 9 (hD 9 (by decide)) rfl;have zf10 : V 10 = .bool true := hI.2 10 (hD 10 (by decide)) rfl;have zf11 : V 11 = undef := hI.2 11 (hD 11 (by decide)) rfl;have zf12 : V 12 = undef := hI.2 12 (hD 12 (by decide)) rfl;have zf13 : V 13 = undef := hI.2 13 (hD 13 (by decide)) rfl;have zf14 : V 14 = .bool true := hI.2 14 (hD 14 (by decide)) rfl;clear hI hD HGs;simp only [frAll, Act.put, List.setIfInBounds_toArray, List.set_cons_zero, List.set_cons_succ, Nat.zero_add, Nat.reduceAdd, zf0, zf1, zf2, zf3, zf4, zf5, zf6, zf7, zf8, zf9, zf10, zf11, zf12, zf13, zf14];clear zf0 zf1 zf2 zf3 zf4 zf5 zf6 zf7 zf8 zf9 zf10 zf11 zf12 zf13 zf14;clear V D
      go_wp2_with fail
      go_meet;exact ⟨rfl, hGx, hMx⟩
    ·cases hpe : x.par.isEmpty
     ·obtain rfl : bad = true := by rw [HBAD.out, hpe]; rfl
      have HGs := Lib.hid (show ∀ (D : Nat → Bool) (zzi : Nat) (zq zq' : World), (fun _ zq => (fun Z => Blk Z gs 79 #[.string ⟨x.id.toArray⟩, .string ⟨x.cust.toArray⟩, .int .i64 x.kind, .string ⟨x.name.toArray⟩, .int .i64 x.tm, .string ⟨x.par.toArray⟩, .string ⟨x.text.toArray⟩]) zq) D zq → Mod (fun _ => False) zq zq' → (fun _ zq => (fun Z => Blk Z gs 79 #[.string ⟨x.id.toArray⟩, .string ⟨x.cust.toArray⟩, .int .i64 x.kind, .string ⟨x.name.toArray⟩, .int .i64 x.tm, .string ⟨x.par.toArray⟩, .string ⟨x.text.toArray⟩]) zq) (upd D zzi true) zq' from by intro D zzi zq zq' h hm; (exact h.modp hm))
      refine wp_region_inv (by kernel_rfl) (by kernel_rfl) (InvF (R := Mod (fun _ => False)) [.is (.pointer (some ⟨gs, 0, none⟩)),
        .is (.string ⟨x.id.toArray⟩),
        .is (.int .i64 (j : Int)),
        .is (.string ⟨ij.toArray⟩),
        .is (.bool false),
        .is (.bool false),
        .is (.pointer (some ⟨gs, 5, none⟩)),
        .is (.string ⟨x.par.toArray⟩),
        .is (.bool true),
        .is (.bool true),
        .is (.bool true),
        .is (undef),
        .is (undef),
        .is (undef),
        .is (.bool true)]
        (PB w2 (fun _ => False) WS.heap.size (fun _ zq => (fun Z => Blk Z gs 79 #[.string ⟨x.id.toArray⟩, .string ⟨x.cust.toArray⟩, .int .i64 x.kind, .string ⟨x.name.toArray⟩, .int .i64 x.tm, .string ⟨x.par.toArray⟩, .string ⟨x.text.toArray⟩]) zq))) (InvF.start (PB.start Hm0.out (Nat.le_refl _) (HB0.out.drew))) ?_ ?_
      ·refine .cons ?_ (.cons ?_ (.cons ?_ (.cons ?_ (.cons ?_ (.cons ?_ (.cons ?_ (.cons ?_ (.cons ?_ (.cons ?_ (.cons ?_ (.cons ?_ (.cons ?_ (.cons ?_ (.cons ?_ .nil))))))))))))))
       ·intro D V zw1 a hR hI K hK;obtain ⟨hM1, hB1, hG1⟩ := hI.1;have ze7 := hR.frame.other (t := 7) (by kernel_rfl) rfl;rw [if_pos (by rfl)];go_simp;exact hK (.pointer (some ⟨gs, 0, none⟩)) _ (hI.next hR (by kernel_rfl) (Mod.refl _ _) (PB.quiet hI.1 (Mod.refl _ _) (HGs.out D 0 zw1 zw1 (hI.1).g (Mod.refl _ _))) (upd_same V 0 _))
       ·intro D V zw1 a hR hI K hK;obtain ⟨hM1, hB1, hG1⟩ := hI.1;have zd0 := hR.pred 0 (by kernel_rfl);have zf0 : V 0 = .pointer (some ⟨gs, 0, none⟩) := hI.2 0 zd0 rfl;have ze19 := hR.frame.done (t := 19) (j := 0) (by kernel_rfl) hR.ok zd0;have zx0 := hG1.cell 0; have zx1 := hG1.cell 1; have zx2 := hG1.cell 2; have zx3 := hG1.cell 3; have zx4 := hG1.cell 4; have zx5 := hG1.cell 5; have zx6 := hG1.cell 6;simp at zx0 zx1 zx2 zx3 zx4 zx5 zx6;rw [if_pos (by rfl)];go_simp;exact hK (.string ⟨x.id.toArray⟩) _ (hI.next hR (by kernel_rfl) (Mod.refl _ _) (PB.quiet hI.1 (Mod.refl _ _) (HGs.out D 1 zw1 zw1 (hI.1).g (Mod.refl _ _))) (upd_same V 1 _))
       ·intro D V zw1 a hR hI K hK;obtain ⟨hM1, hB1, hG1⟩ := hI.1;have ze6 := hR.frame.other (t := 6) (by kernel_rfl) rfl;rw [if_pos (by rfl)];go_simp;exact hK (.int .i64 (j : Int)) _ (hI.next hR (by kernel_rfl) (Mod.refl _ _) (PB.quiet hI.1 (Mod.refl _ _) (HGs.out D 2 zw1 zw1 (hI.1).g (Mod.refl _ _))) (upd_same V 2 _))
       ·intro D V zw1 a hR hI K hK;obtain ⟨hM1, hB1, hG1⟩ := hI.1;have zd2 := hR.pred 2 (by kernel_rfl);have zf2 : V 2 = .int .i64 (j : Int) := hI.2 2 zd2 rfl;have ze21 := hR.frame.done (t := 21) (j := 2) (by kernel_rfl) hR.ok zd2;rw [if_pos (by rfl)];go_simp;refine (HID.out _).mono ?_;rintro e zw2 ⟨rfl, hm2⟩;exact hK (.string ⟨ij.toArray⟩) _ (hI.next hR (by kernel_rfl) hm2 (PB.quiet hI.1 hm2 (HGs.out D 3 _ _ (hI.1).g hm2)) (upd_same V 3 _))
       ·intro D V zw1 a hR hI K hK;obtain ⟨hM1, hB1, hG1⟩ := hI.1;have zd1 := hR.pred 1 (by kernel_rfl);have zf1 : V 1 = .string ⟨x.id.toArray⟩ := hI.2 1 zd1 rfl;have zd3 := hR.pred 3 (by kernel_rfl);have zf3 : V 3 = .string ⟨ij.toArray⟩ := hI.2 3 zd3 rfl;have ze20 := hR.frame.done (t := 20) (j := 1) (by kernel_rfl) hR.ok zd1;have ze22 := hR.frame.done (t := 22) (j := 3) (by kernel_rfl) hR.ok zd3;have hbo := HBO.out;rw [if_pos (by rfl)];go_simp;exact hK (.bool false) _ (hI.next hR (by kernel_rfl) (Mod.refl _ _) (PB.quiet hI.1 (Mod.refl _ _) (HGs.out D 4 zw1 zw1 (hI.1).g (Mod.refl _ _))) (upd_same V 4 _))
       ·intro D V zw1 a hR hI K hK;obtain ⟨hM1, hB1, hG1⟩ := hI.1;have zd4 := hR.pred 4 (by kernel_rfl);have zf4 : V 4 = .bool false := hI.2 4 zd4 rfl;have ze23 := hR.frame.done (t := 23) (j := 4) (by kernel_rfl) hR.ok zd4;rw [if_pos (by rfl)];go_simp;exact hK (.bool false) _ (hI.next hR (by kernel_rfl) (Mod.refl _ _) (PB.quiet hI.1 (Mod.refl _ _) (HGs.out D 5 zw1 zw1 (hI.1).g (Mod.refl _ _))) (upd_same V 5 _))
       ·intro D V zw1 a hR hI K hK;obtain ⟨hM1, hB1, hG1⟩ := hI.1;have zd5 := hR.pred 5 (by kernel_rfl);have zf5 : V 5 = .bool false := hI.2 5 zd5 rfl;have ze7 := hR.frame.other (t := 7) (by kernel_rfl) rfl;have ze24 := hR.frame.done (t := 24) (j := 5) (by kernel_rfl) hR.ok zd5;rw [if_pos (by simp [Region.wanted, yielded, ze24, zf5])];go_simp;exact hK (.pointer (some ⟨gs, 5, none⟩)) _ (hI.next hR (by kernel_rfl) (Mod.refl _ _) (PB.quiet hI.1 (Mod.refl _ _) (HGs.out D 6 zw1 zw1 (hI.1).g (Mod.refl _ _))) (upd_same V 6 _))
       ·intro D V zw1 a hR hI K hK;obtain ⟨hM1, hB1, hG1⟩ := hI.1;have zd6 := hR.pred 6 (by kernel_rfl);have zf6 : V 6 = .pointer (some ⟨gs, 5, none⟩) := hI.2 6 zd6 rfl;have zd5 := hR.pred 5 (by kernel_rfl);have zf5 : V 5 = .bool false := hI.2 5 zd5 rfl;have ze25 := hR.frame.done (t := 25) (j := 6) (by kernel_rfl) hR.ok zd6;have zx0 := hG1.cell 0; have zx1 := hG1.cell 1; have zx2 := hG1.cell 2; have zx3 := hG1.cell 3; have zx4 := hG1.cell 4; have zx5 := hG1.cell 5; have zx6 := hG1.cell 6;simp at zx0 zx1 zx2 zx3 zx4 zx5 zx6;have ze24 := hR.frame.done (t := 24) (j := 5) (by kernel_rfl) hR.ok zd5;rw [if_pos (by simp [Region.wanted, yielded, ze24, zf5])];go_simp;exact hK (.string ⟨x.par.toArray⟩) _ (hI.next hR (by kernel_rfl) (Mod.refl _ _) (PB.quiet hI.1 (Mod.refl _ _) (HGs.out D 7 zw1 zw1 (hI.1).g (Mod.refl _ _))) (upd_same V 7 _))
       ·intro D V zw1 a hR hI K hK;obtain ⟨hM1, hB1, hG1⟩ := hI.1;have zd7 := hR.pred 7 (by kernel_rfl);have zf7 : V 7 = .string ⟨x.par.toArray⟩ := hI.2 7 zd7 rfl;have zd5 := hR.pred 5 (by kernel_rfl);have zf5 : V 5 = .bool false := hI.2 5 zd5 rfl;have ze26 := hR.frame.done (t := 26) (j := 7) (by kernel_rfl) hR.ok zd7;have ze24 := hR.frame.done (t := 24) (j := 5) (by kernel_rfl) hR.ok zd5;rw [if_pos (by simp [Region.wanted, yielded, ze24, zf5])];go_simp;exact hK (.bool true) _ (hI.next hR (by kernel_rfl) (Mod.refl _ _) (PB.quiet hI.1 (Mod.refl _ _) (HGs.out D 8 zw1 zw1 (hI.1).g (Mod.refl _ _))) (upd_same V 8 _))
       ·intro D V zw1 a hR hI K hK;obtain ⟨hM1, hB1, hG1⟩ := hI.1;have zd5 := hR.pred 5 (by kernel_rfl);have zf5 : V 5 = .bool false := hI.2 5 zd5 rfl;have zd8 := hR.pred 8 (by kernel_rfl);have zf8 : V 8 = .bool true := hI.2 8 zd8 rfl;have ze24 := hR.frame.done (t := 24) (j := 5) (by kernel_rfl) hR.ok zd5;have ze27 := hR.frame.done (t := 27) (j := 8) (by kernel_rfl) hR.ok zd8;rw [if_pos (by rfl)];go_simp;exact hK (.bool true) _ (hI.next hR (by kernel_rfl) (Mod.refl _ _) (PB.quiet hI.1 (Mod.refl _ _) (HGs.out D 9 zw1 zw1 (hI.1).g (Mod.refl _ _))) (upd_same V 9 _))
       ·intro D V zw1 a hR hI K hK;obtain ⟨hM1, hB1, hG1⟩ := hI.1;have zd9 := hR.pred 9 (by kernel_rfl);have zf9 : V 9 = .bool true := hI.2 9 zd9 rfl;have ze28 := hR.frame.done (t := 28) (j := 9) (by kernel_rfl) hR.ok zd9;rw [if_pos (by rfl)];go_simp;exact hK (.bool true) _ (hI.next hR (by kernel_rfl) (Mod.refl _ _) (PB.quiet hI.1 (Mod.refl _ _) (HGs.out D 10 zw1 zw1 (hI.1).g (Mod.refl _ _))) (upd_same V 10 _))
       ·intro D V zw1 a hR hI K hK;obtain ⟨hM1, hB1, hG1⟩ := hI.1;have zd10 := hR.pred 10 (by kernel_rfl);have zf10 : V 10 = .bool true := hI.2 10 zd10 rfl;have ze29 := hR.frame.done (t := 29) (j := 10) (by kernel_rfl) hR.ok zd10;rw [if_neg (by simp [Region.wanted, yielded, ze29, zf10])];exact hK undef _ (hI.next hR (by kernel_rfl) (Mod.refl _ _) (PB.quiet hI.1 (Mod.refl _ _) (HGs.out D 11 zw1 zw1 (hI.1).g (Mod.refl _ _))) (upd_same V 11 _))
       ·intro D V zw1 a hR hI K hK;obtain ⟨hM1, hB1, hG1⟩ := hI.1;have zd10 := hR.pred 10 (by kernel_rfl);have zf10 : V 10 = .bool true := hI.2 10 zd10 rfl;have ze29 := hR.frame.done (t := 29) (j := 10) (by kernel_rfl) hR.ok zd10;rw [if_neg (by simp [Region.wanted, yielded, ze29, zf10])];exact hK undef _ (hI.next hR (by kernel_rfl) (Mod.refl _ _) (PB.quiet hI.1 (Mod.refl _ _) (HGs.out D 12 zw1 zw1 (hI.1).g (Mod.refl _ _))) (upd_same V 12 _))
       ·intro D V zw1 a hR hI K hK;obtain ⟨hM1, hB1, hG1⟩ := hI.1;have zd10 := hR.pred 10 (by kernel_rfl);have zf10 : V 10 = .bool true := hI.2 10 zd10 rfl;have ze29 := hR.frame.done (t := 29) (j := 10) (by kernel_rfl) hR.ok zd10;rw [if_neg (by simp [Region.wanted, yielded, ze29, zf10])];exact hK undef _ (hI.next hR (by kernel_rfl) (Mod.refl _ _) (PB.quiet hI.1 (Mod.refl _ _) (HGs.out D 13 zw1 zw1 (hI.1).g (Mod.refl _ _))) (upd_same V 13 _))
       ·intro D V zw1 a hR hI K hK;obtain ⟨hM1, hB1, hG1⟩ := hI.1;have zd10 := hR.pred 10 (by kernel_rfl);have zf10 : V 10 = .bool true := hI.2 10 zd10 rfl;have zd13 := hR.pred 13 (by kernel_rfl);have zf13 : V 13 = undef := hI.2 13 zd13 rfl;have ze29 := hR.frame.done (t := 29) (j := 10) (by kernel_rfl) hR.ok zd10;have ze32 := hR.frame.done (t := 32) (j := 13) (by kernel_rfl) hR.ok zd13;rw [if_pos (by rfl)];go_simp;exact hK (.bool true) _ (hI.next hR (by kernel_rfl) (Mod.refl _ _) (PB.quiet hI.1 (Mod.refl _ _) (HGs.out D 14 zw1 zw1 (hI.1).g (Mod.refl _ _))) (upd_same V 14 _))
      ·intro D V w3 hD hI;obtain ⟨hM1, hB1, hG1⟩ := hI.1;have hMx := hM1;clear hM1;have hBx := hB1;clear hB1;have hGx := hG1;clear hG1;have zf0 : V 0 = .pointer (some ⟨gs, 0, none⟩) := hI.2 0 (hD 0 (by decide)) rfl;have zf1 : V 1 = .string ⟨x.id.toArray⟩ := hI.2 1 (hD 1 (by decide)) rfl;have zf2 : V 2 = .int .i64 (j : Int) := hI.2 2 (hD 2 (by decide)) rfl;have zf3 : V 3 = .string ⟨ij.toArray⟩ := hI.2 3 (hD 3 (by decide)) rfl;have zf4 : V 4 = .bool false := hI.2 4 (hD 4 (by decide)) rfl;have zf5 : V 5 = .bool false := hI.2 5 (hD 5 (by decide)) rfl;have zf6 : V 6 = .pointer (some ⟨gs, 5, none⟩) := hI.2 6 (hD 6 (by decide)) rfl;have zf7 : V 7 = .string ⟨x.par.toArray⟩ := hI.2 7 (hD 7 (by decide)) rfl;have zf8 : V 8 = .bool true := hI.2 8 (hD 8 (by decide)) rfl;have zf9 : V 9 = .bool true := hI.2 9 (hD 9 (by decide)) rfl;have zf10 : V 10 = .bool true := hI.2 10 (hD 10 (by decide)) rfl;have zf11 : V 11 = undef := hI.2 11 (hD 11 (by decide)) rfl;have zf12 : V 12 = undef := hI.2 12 (hD 12 (by decide)) rfl;have zf13 : V 13 = undef := hI.2 13 (hD 13 (by decide)) rfl;have zf14 : V 14 = .bool true := hI.2 14 (hD 14 (by decide)) rfl;clear hI hD HGs;simp only [frAll, Act.put, List.setIfInBounds_toArray, List.set_cons_zero, List.set_cons_succ, Nat.zero_add, Nat.reduceAdd, zf0, zf1, zf2, zf3, zf4, zf5, zf6, zf7, zf8, zf9, zf10, zf11, zf12, zf13, zf14];clear zf0 zf1 zf2 zf3 zf4 zf5 zf6 zf7 zf8 zf9 zf10 zf11 zf12 zf13 zf14;clear V D
       go_wp2_with fail
       go_meet;exact ⟨rfl, hGx, hMx⟩
     ·obtain ⟨be, hbe⟩ : ∃ be, (e1 != 0) = be := ⟨_, rfl⟩
      obtain rfl : bad = be := by rw [HBAD.out, hpe, ← hbe]; rfl
      have HGs := Lib.hid (show ∀ (D : Nat → Bool) (zzi : Nat) (zq zq' : World), (fun _ zq => (fun Z => Blk Z gs 79 #[.string ⟨x.id.toArray⟩, .string ⟨x.cust.toArray⟩, .int .i64 x.kind, .string ⟨x.name.toArray⟩, .int .i64 x.tm, .string ⟨x.par.toArray⟩, .string ⟨x.text.toArray⟩]) zq) D zq → Mod (fun _ => False) zq zq' → (fun _ zq => (fun Z => Blk Z gs 79 #[.string ⟨x.id.toArray⟩, .string ⟨x.cust.toArray⟩, .int .i64 x.kind, .string ⟨x.name.toArray⟩, .int .i64 x.tm, .string ⟨x.par.toArray⟩, .string ⟨x.text.toArray⟩]) zq) (upd D zzi true) zq' from by intro D zzi zq zq' h hm; (exact h.modp hm))
      refine wp_region_inv (by kernel_rfl) (by kernel_rfl) (InvF (R := Mod (fun _ => False)) [.is (.pointer (some ⟨gs, 0, none⟩)),
        .is (.string ⟨x.id.toArray⟩),
        .is (.int .i64 (j : Int)),
        .is (.string ⟨ij.toArray⟩),
        .is (.bool false),
        .is (.bool false),
        .is (.pointer (some ⟨gs, 5, none⟩)),
        .is (.string ⟨x.par.toArray⟩),
        .is (.bool false),
        .is (.bool false),
        .is (.bool false),
        .is (.agg #[.string ⟨x.id.toArray⟩, .string ⟨x.cust.toArray⟩, .int .i64 x.kind, .string ⟨x.name.toArray⟩, .int .i64 x.tm, .string ⟨x.par.toArray⟩, .string ⟨x.text.toArray⟩]),
        .is (.int .i64 e1),
        .is (.bool bad),
        .is (.bool bad)]
        (PB w2 (fun _ => False) WS.heap.size (fun _ zq => (fun Z => Blk Z gs 79 #[.string ⟨x.id.toArray⟩, .string ⟨x.cust.toArray⟩, .int .i64 x.kind, .string ⟨x.name.toArray⟩, .int .i64 x.tm, .string ⟨x.par.toArray⟩, .string ⟨x.text.toArray⟩]) zq))) (InvF.start (PB.start Hm0.out (Nat.le_refl _) (HB0.out.drew))) ?_ ?_
      ·refine .cons ?_ (.cons ?_ (.cons ?_ (.cons ?_ (.cons ?_ (.cons ?_ (.cons ?_ (.cons ?_ (.cons ?_ (.cons ?_ (.cons ?_ (.cons ?_ (.cons ?_ (.cons ?_ (.cons ?_ .nil))))))))))))))
       ·intro D V zw1 a hR hI K hK;obtain ⟨hM1, hB1, hG1⟩ := hI.1;have ze7 := hR.frame.other (t := 7) (by kernel_rfl) rfl;rw [if_pos (by rfl)];go_simp;exact hK (.pointer (some ⟨gs, 0, none⟩)) _ (hI.next hR (by kernel_rfl) (Mod.refl _ _) (PB.quiet hI.1 (Mod.refl _ _) (HGs.out D 0 zw1 zw1 (hI.1).g (Mod.refl _ _))) (upd_same V 0 _))
       ·intro D V zw1 a hR hI K hK;obtain ⟨hM1, hB1, hG1⟩ := hI.1;have zd0 := hR.pred 0 (by kernel_rfl);have zf0 : V 0 = .pointer (some ⟨gs, 0, none⟩) := hI.2 0 zd0 rfl;have ze19 := hR.frame.done (t := 19) (j := 0) (by kernel_rfl) hR.ok zd0;have zx0 := hG1.cell 0; have zx1 := hG1.cell 1; have zx2 := hG1.cell 2; have zx3 := hG1.cell 3; have zx4 := hG1.cell 4; have zx5 := hG1.cell 5; have zx6 := hG1.cell 6;simp at zx0 zx1 zx2 zx3 zx4 zx5 zx6;rw [if_pos (by rfl)];go_simp;exact hK (.string ⟨x.id.toArray⟩) _ (hI.next hR (by kernel_rfl) (Mod.refl _ _) (PB.quiet hI.1 (Mod.refl _ _) (HGs.out D 1 zw1 zw1 (hI.1).g (Mod.refl _ _))) (upd_same V 1 _))
       ·intro D V zw1 a hR hI K hK;obtain ⟨hM1, hB1, hG1⟩ := hI.1;have ze6 := hR.frame.other (t := 6) (by kernel_rfl) rfl;rw [if_pos (by rfl)];go_simp;exact hK (.int .i64 (j : Int)) _ (hI.next hR (by kernel_rfl) (Mod.refl _ _) (PB.quiet hI.1 (Mod.refl _ _) (HGs.out D 2 zw1 zw1 (hI.1).g (Mod.refl _ _))) (upd_same V 2 _))
       ·intro D V zw1 a hR hI K hK;obtain ⟨hM1, hB1, hG1⟩ := hI.1;have zd2 := hR.pred 2 (by kernel_rfl);have zf2 : V 2 = .int .i64 (j : Int) := hI.2 2 zd2 rfl;have ze21 := hR.frame.done (t := 21) (j := 2) (by kernel_rfl) hR.ok zd2;rw [if_pos (by rfl)];go_simp;refine (HID.out _).mono ?_;rintro e zw2 ⟨rfl, hm2⟩;exact hK (.string ⟨ij.toArray⟩) _ (hI.next hR (by kernel_rfl) hm2 (PB.quiet hI.1 hm2 (HGs.out D 3 _ _ (hI.1).g hm2)) (upd_same V 3 _))
       ·intro D V zw1 a hR hI K hK;obtain ⟨hM1, hB1, hG1⟩ := hI.1;have zd1 := hR.pred 1 (by kernel_rfl);have zf1 : V 1 = .string ⟨x.id.toArray⟩ := hI.2 1 zd1 rfl;have zd3 := hR.pred 3 (by kernel_rfl);have zf3 : V 3 = .string ⟨ij.toArray⟩ := hI.2 3 zd3 rfl;have ze20 := hR.frame.done (t := 20) (j := 1) (by kernel_rfl) hR.ok zd1;have ze22 := hR.frame.done (t := 22) (j := 3) (by kernel_rfl) hR.ok zd3;have hbo := HBO.out;rw [if_pos (by rfl)];go_simp;exact hK (.bool false) _ (hI.next hR (by kernel_rfl) (Mod.refl _ _) (PB.quiet hI.1 (Mod.refl _ _) (HGs.out D 4 zw1 zw1 (hI.1).g (Mod.refl _ _))) (upd_same V 4 _))
       ·intro D V zw1 a hR hI K hK;obtain ⟨hM1, hB1, hG1⟩ := hI.1;have zd4 := hR.pred 4 (by kernel_rfl);have zf4 : V 4 = .bool false := hI.2 4 zd4 rfl;have ze23 := hR.frame.done (t := 23) (j := 4) (by kernel_rfl) hR.ok zd4;rw [if_pos (by rfl)];go_simp;exact hK (.bool false) _ (hI.next hR (by kernel_rfl) (Mod.refl _ _) (PB.quiet hI.1 (Mod.refl _ _) (HGs.out D 5 zw1 zw1 (hI.1).g (Mod.refl _ _))) (upd_same V 5 _))
       ·intro D V zw1 a hR hI K hK;obtain ⟨hM1, hB1, hG1⟩ := hI.1;have zd5 := hR.pred 5 (by kernel_rfl);have zf5 : V 5 = .bool false := hI.2 5 zd5 rfl;have ze7 := hR.frame.other (t := 7) (by kernel_rfl) rfl;have ze24 := hR.frame.done (t := 24) (j := 5) (by kernel_rfl) hR.ok zd5;rw [if_pos (by simp [Region.wanted, yielded, ze24, zf5])];go_simp;exact hK (.pointer (some ⟨gs, 5, none⟩)) _ (hI.next hR (by kernel_rfl) (Mod.refl _ _) (PB.quiet hI.1 (Mod.refl _ _) (HGs.out D 6 zw1 zw1 (hI.1).g (Mod.refl _ _))) (upd_same V 6 _))
       ·intro D V zw1 a hR hI K hK;obtain ⟨hM1, hB1, hG1⟩ := hI.1;have zd6 := hR.pred 6 (by kernel_rfl);have zf6 : V 6 = .pointer (some ⟨gs, 5, none⟩) := hI.2 6 zd6 rfl;have zd5 := hR.pred 5 (by kernel_rfl);have zf5 : V 5 = .bool false := hI.2 5 zd5 rfl;have ze25 := hR.frame.done (t := 25) (j := 6) (by kernel_rfl) hR.ok zd6;have zx0 := hG1.cell 0; have zx1 := hG1.cell 1; have zx2 := hG1.cell 2; have zx3 := hG1.cell 3; have zx4 := hG1.cell 4; have zx5 := hG1.cell 5; have zx6 := hG1.cell 6;simp at zx0 zx1 zx2 zx3 zx4 zx5 zx6;have ze24 := hR.frame.done (t := 24) (j := 5) (by kernel_rfl) hR.ok zd5;rw [if_pos (by simp [Region.wanted, yielded, ze24, zf5])];go_simp;exact hK (.string ⟨x.par.toArray⟩) _ (hI.next hR (by kernel_rfl) (Mod.refl _ _) (PB.quiet hI.1 (Mod.refl _ _) (HGs.out D 7 zw1 zw1 (hI.1).g (Mod.refl _ _))) (upd_same V 7 _))
       ·intro D V zw1 a hR hI K hK;obtain ⟨hM1, hB1, hG1⟩ := hI.1;have zd7 := hR.pred 7 (by kernel_rfl);have zf7 : V 7 = .string ⟨x.par.toArray⟩ := hI.2 7 zd7 rfl;have zd5 := hR.pred 5 (by kernel_rfl);have zf5 : V 5 = .bool false := hI.2 5 zd5 rfl;have ze26 := hR.frame.done (t := 26) (j := 7) (by kernel_rfl) hR.ok zd7;have ze24 := hR.frame.done (t := 24) (j := 5) (by kernel_rfl) hR.ok zd5;rw [if_pos (by simp [Region.wanted, yielded, ze24, zf5])];go_simp;exact hK (.bool false) _ (hI.next hR (by kernel_rfl) (Mod.refl _ _) (PB.quiet hI.1 (Mod.refl _ _) (HGs.out D 8 zw1 zw1 (hI.1).g (Mod.refl _ _))) (upd_same V 8 _))
       ·intro D V zw1 a hR hI K hK;obtain ⟨hM1, hB1, hG1⟩ := hI.1;have zd5 := hR.pred 5 (by kernel_rfl);have zf5 : V 5 = .bool false := hI.2 5 zd5 rfl;have zd8 := hR.pred 8 (by kernel_rfl);have zf8 : V 8 = .bool false := hI.2 8 zd8 rfl;have ze24 := hR.frame.done (t := 24) (j := 5) (by kernel_rfl) hR.ok zd5;have ze27 := hR.frame.done (t := 27) (j := 8) (by kernel_rfl) hR.ok zd8;rw [if_pos (by rfl)];go_simp;exact hK (.bool false) _ (hI.next hR (by kernel_rfl) (Mod.refl _ _) (PB.quiet hI.1 (Mod.refl _ _) (HGs.out D 9 zw1 zw1 (hI.1).g (Mod.refl _ _))) (upd_same V 9 _))
       ·intro D V zw1 a hR hI K hK;obtain ⟨hM1, hB1, hG1⟩ := hI.1;have zd9 := hR.pred 9 (by kernel_rfl);have zf9 : V 9 = .bool false := hI.2 9 zd9 rfl;have ze28 := hR.frame.done (t := 28) (j := 9) (by kernel_rfl) hR.ok zd9;rw [if_pos (by rfl)];go_simp;exact hK (.bool false) _ (hI.next hR (by kernel_rfl) (Mod.refl _ _) (PB.quiet hI.1 (Mod.refl _ _) (HGs.out D 10 zw1 zw1 (hI.1).g (Mod.refl _ _))) (upd_same V 10 _))
       ·intro D V zw1 a hR hI K hK;obtain ⟨hM1, hB1, hG1⟩ := hI.1;have zd10 := hR.pred 10 (by kernel_rfl);have zf10 : V 10 = .bool false := hI.2 10 zd10 rfl;have ze7 := hR.frame.other (t := 7) (by kernel_rfl) rfl;have zx0 := hG1.cell 0; have zx1 := hG1.cell 1; have zx2 := hG1.cell 2; have zx3 := hG1.cell 3; have zx4 := hG1.cell 4; have zx5 := hG1.cell 5; have zx6 := hG1.cell 6;simp at zx0 zx1 zx2 zx3 zx4 zx5 zx6;have ze29 := hR.frame.done (t := 29) (j := 10) (by kernel_rfl) hR.ok zd10;rw [if_pos (by simp [Region.wanted, yielded, ze29, zf10])];go_simp;exact hK (.agg #[.string ⟨x.id.toArray⟩, .string ⟨x.cust.toArray⟩, .int .i64 x.kind, .string ⟨x.name.toArray⟩, .int .i64 x.tm, .string ⟨x.par.toArray⟩, .string ⟨x.text.toArray⟩]) _ (hI.next hR (by kernel_rfl) (Mod.refl _ _) (PB.quiet hI.1 (Mod.refl _ _) (HGs.out D 11 zw1 zw1 (hI.1).g (Mod.refl _ _))) (upd_same V 11 _))
       ·intro D V zw1 a hR hI K hK;obtain ⟨hM1, hB1, hG1⟩ := hI.1;have zd11 := hR.pred 11 (by kernel_rfl);have zf11 : V 11 = .agg #[.string ⟨x.id.toArray⟩, .string ⟨x.cust.toArray⟩, .int .i64 x.kind, .string ⟨x.name.toArray⟩, .int .i64 x.tm, .string ⟨x.par.toArray⟩, .string ⟨x.text.toArray⟩] := hI.2 11 zd11 rfl;have zd10 := hR.pred 10 (by kernel_rfl);have zf10 : V 10 = .bool false := hI.2 10 zd10 rfl;have ze30 := hR.frame.done (t := 30) (j := 11) (by kernel_rfl) hR.ok zd11;have ze29 := hR.frame.done (t := 29) (j := 10) (by kernel_rfl) hR.ok zd10;rw [if_pos (by simp [Region.wanted, yielded, ze29, zf10])];go_simp;refine (HIF.out _ (m2.transp hM1)).mono ?_;rintro e zw2 ⟨rfl, hm2⟩;exact hK (.int .i64 e1) _ (hI.next hR (by kernel_rfl) hm2 (PB.quiet hI.1 hm2 (HGs.out D 12 _ _ (hI.1).g hm2)) (upd_same V 12 _))
       ·intro D V zw1 a hR hI K hK;obtain ⟨hM1, hB1, hG1⟩ := hI.1;have zd12 := hR.pred 12 (by kernel_rfl);have zf12 : V 12 = .int .i64 e1 := hI.2 12 zd12 rfl;have zd10 := hR.pred 10 (by kernel_rfl);have zf10 : V 10 = .bool false := hI.2 10 zd10 rfl;have ze31 := hR.frame.done (t := 31) (j := 12) (by kernel_rfl) hR.ok zd12;have hbe2 := hbe;have ze29 := hR.frame.done (t := 29) (j := 10) (by kernel_rfl) hR.ok zd10;rw [if_pos (by simp [Region.wanted, yielded, ze29, zf10])];go_simp;exact hK (.bool bad) _ (hI.next hR (by kernel_rfl) (Mod.refl _ _) (PB.quiet hI.1 (Mod.refl _ _) (HGs.out D 13 zw1 zw1 (hI.1).g (Mod.refl _ _))) (upd_same V 13 _))
       ·intro D V zw1 a hR hI K hK;obtain ⟨hM1, hB1, hG1⟩ := hI.1;have zd10 := hR.pred 10 (by kernel_rfl);have zf10 : V 10 = .bool false := hI.2 10 zd10 rfl;have zd13 := hR.pred 13 (by kernel_rfl);have zf13 : V 13 = .bool bad := hI.2 13 zd13 rfl;have ze29 := hR.frame.done (t := 29) (j := 10) (by kernel_rfl) hR.ok zd10;have ze32 := hR.frame.done (t := 32) (j := 13) (by kernel_rfl) hR.ok zd13;rw [if_pos (by rfl)];go_simp;exact hK (.bool bad) _ (hI.next hR (by kernel_rfl) (Mod.refl _ _) (PB.quiet hI.1 (Mod.refl _ _) (HGs.out D 14 zw1 zw1 (hI.1).g (Mod.refl _ _))) (upd_same V 14 _))
      ·intro D V w3 hD hI;obtain ⟨hM1, hB1, hG1⟩ := hI.1;have hMx := hM1;clear hM1;have hBx := hB1;clear hB1;have hGx := hG1;clear hG1;have zf0 : V 0 = .pointer (some ⟨gs, 0, none⟩) := hI.2 0 (hD 0 (by decide)) rfl;have zf1 : V 1 = .string ⟨x.id.toArray⟩ := hI.2 1 (hD 1 (by decide)) rfl;have zf2 : V 2 = .int .i64 (j : Int) := hI.2 2 (hD 2 (by decide)) rfl;have zf3 : V 3 = .string ⟨ij.toArray⟩ := hI.2 3 (hD 3 (by decide)) rfl;have zf4 : V 4 = .bool false := hI.2 4 (hD 4 (by decide)) rfl;have zf5 : V 5 = .bool false := hI.2 5 (hD 5 (by decide)) rfl;have zf6 : V 6 = .pointer (some ⟨gs, 5, none⟩) := hI.2 6 (hD 6 (by decide)) rfl;have zf7 : V 7 = .string ⟨x.par.toArray⟩ := hI.2 7 (hD 7 (by decide)) rfl;have zf8 : V 8 = .bool false := hI.2 8 (hD 8 (by decide)) rfl;have zf9 : V 9 = .bool false := hI.2 9 (hD 9 (by decide)) rfl;have zf10 : V 10 = .bool false := hI.2 10 (hD 10 (by decide)) rfl;have zf11 : V 11 = .agg #[.string ⟨x.id.toArray⟩, .string ⟨x.cust.toArray⟩, .int .i64 x.kind, .string ⟨x.name.toArray⟩, .int .i64 x.tm, .string ⟨x.par.toArray⟩, .string ⟨x.text.toArray⟩] := hI.2 11 (hD 11 (by decide)) rfl;have zf12 : V 12 = .int .i64 e1 := hI.2 12 (hD 12 (by decide)) rfl;have zf13 : V 13 = .bool bad := hI.2 13 (hD 13 (by decide)) rfl;have zf14 : V 14 = .bool bad := hI.2 14 (hD 14 (by decide)) rfl;clear hI hD HGs;simp only [frAll, Act.put, List.setIfInBounds_toArray, List.set_cons_zero, List.set_cons_succ, Nat.zero_add, Nat.reduceAdd, zf0, zf1, zf2, zf3, zf4, zf5, zf6, zf7, zf8, zf9, zf10, zf11, zf12, zf13, zf14];clear zf0 zf1 zf2 zf3 zf4 zf5 zf6 zf7 zf8 zf9 zf10 zf11 zf12 zf13 zf14;clear V D
       go_wp2_with fail
       go_meet;exact ⟨rfl, hGx, hMx⟩
   case rest =>
    obtain ⟨rfl, B3, m3⟩ := hcut;have own3 := own_pure own2 m3;have hS3 := hS2.pure m3;have mm3 := m2.transp m3;have hsz3 := m3.size
    have HXZ2 : Hid (∀ y ∈ xs ++ [x], ItG y) := Lib.hid (fun y hy => by
     rcases List.mem_append.1 hy with hy | hy
     ·exact HXZ.out y hy
     ·rw [List.mem_singleton.1 hy]; exact HX.out)
    have HXV : Hid (itV (xs ++ [x]) = itV xs ++ [.string ⟨x.id.toArray⟩, .string ⟨x.cust.toArray⟩, .int .i64 x.kind, .string ⟨x.name.toArray⟩, .int .i64 x.tm, .string ⟨x.par.toArray⟩, .string ⟨x.text.toArray⟩]) := Lib.hid (itV_snoc xs x);clear HIF HX HBAD HBO HB0 Hm0 WS hS2 m2 own2 m3 HID
    cases bad
    ·have c0 := B3.cell 0; have c1 := B3.cell 1; have c2 := B3.cell 2; have c3 := B3.cell 3; have c4 := B3.cell 4; have c5 := B3.cell 5; have c6 := B3.cell 6; simp at c0 c1 c2 c3 c4 c5 c6;clear B3
     go_wp2_with (at_builtin; refine wpList_append_lies _ rfl _ _ _ rfl w.heap.size 79 i0 _ 7 96 Tryz.underlying26 hi0 hz0 hz1 hz2 rfl (by omega) (.slice A xs.length cap) xs.length (itV xs) rfl (own3.alloc _) ⟨wc.heap.size, 0, none⟩ 1 1 [.string ⟨x.id.toArray⟩, .string ⟨x.cust.toArray⟩, .int .i64 x.kind, .string ⟨x.name.toArray⟩, .int .i64 x.tm, .string ⟨x.par.toArray⟩, .string ⟨x.text.toArray⟩] rfl rfl (World.news_of_block (cs := #[.string ⟨x.id.toArray⟩, .string ⟨x.cust.toArray⟩, .int .i64 x.kind, .string ⟨x.name.toArray⟩, .int .i64 x.tm, .string ⟨x.par.toArray⟩, .string ⟨x.text.toArray⟩]) (t := 79) (fr := (0, 0)) (heap_alloc_new wc _)) (by simp [Value.oneCell']) (by omega) (by simp [maxLen]; omega) (by omega) (by have := mm3.size; simp; omega) (wc.heap.size + 1) (by simp) ?_; intro g5 cap5 w5 hown5 hgrow hat hlt5)
     go_roundg (m - (j + 1))
     case measure => omega
     case rel =>
      have hz5 := hgrow.size;simp at hz5;refine ⟨j + 1, xs ++ [x], some ⟨g5, 0, none⟩, cap5, rfl, by omega, by simp, by simp, by simp; omega, HXZ2.out, ?_, (hS3.alloc _ |>.mod (S := fun k => (Value.slice A xs.length cap).ownBlock = some k) ⟨hgrow.os, hgrow.tape, hgrow.output, hgrow.size, fun k hk hs => hgrow.block k hk (fun x => hs x.symm)⟩ (fun i hi hk => by have := own_block own3 i hk; omega)).more (by omega), (mm3.alloc _).grown hgrow (fun k hk => .inr (by have := own_block own3 k hk; omega)), by omega⟩;rw [HXV.out]
      simpa using hown5
    ·go_wp2_with fail
     go_roundg (m - (j + 1))
     case measure => omega
     case rel => exact ⟨j + 1, xs, A, cap, rfl, by omega, rfl, by simp, by omega, HXZ.out, own3, hS3.more (by omega), mm3, by omega⟩
  ·obtain rfl : j = m := by omega
   by_cases h0 : xs.length = 0
   ·have e0 : xs = [] := List.eq_nil_of_length_eq_zero h0;subst e0;have d0 : decide ((0 : Int) < 0) = false := rfl
    go_wp2_with fail
    go_loopg [41] 0 (fun gk i wx => i = .int .i64 0 ∧ gk = 0 ∧ wr = wx)
    case atStart => exact ⟨rfl, rfl, rfl⟩
    case round =>
     obtain ⟨rfl, rfl, rfl⟩ := hrel
     go_wp2_with fail
     go_ret;exact ⟨.slice A 0 cap, [], rfl, by simp, le_nilI, hown, hS.more (by omega), hmm⟩
   ·obtain ⟨g, cap', hform, hg1, hg2, hcap, hcap2⟩ := own_form7 hown (by omega)
    injection hform with hA _ hC
    subst hA hC;have hownI : OwnI wr w.heap.size g xs.length cap xs := hown
    have hl20 : xs.length ≤ 20 := by omega
    have hxn := hxj;clear hown hlt;generalize hn : xs.length = n at *;clear hn;obtain ⟨base, hbase⟩ : ∃ base, base = w.heap.size := ⟨_, rfl⟩;rw [← hbase] at hownI hg1;have hba1 := Nat.le_of_eq hbase;have hba2 := Nat.le_of_eq hbase.symm;have HBA := Lib.hid hbase;clear hbase
    go_wp2_with fail
    go_loopg [41] n (fun gk i wr => Ri2 w b (N + 140 * j) base g n cap gk i wr)
    case atStart => exact ⟨0, xs, rfl, by omega, rfl, hxz, hownI, hS.more (by omega), hmm⟩
    case round =>
     clear hxz hownI hS hmm hxj;obtain ⟨k, ys, rfl, hk, rfl, hyz, hown, hS, hmm⟩ := hrel;have hyl := hown.len;have hgl := hown.ge;have hbs := hS.lt
     by_cases hlt : k < n
     ·have HYZ := Lib.hid hyz;clear hyz
      go_wp2_with fail
      refine (flip_calls _ b _ _ hS (by omega) (by omega) (by omega)).mono ?_;rintro e w1 ⟨fl, rfl, hS1, hM1⟩;have own1 := hown.mod hM1 (by omega);have m1 := hmm.trans hM1;clear hS hown hmm hM1
      cases fl
      ·go_wp2_with fail
       refine (next_calls _ b _ _ hS1 (by omega) (by omega) (by omega)).mono ?_;rintro e w2 ⟨q, hq0, hq1, rfl, hS2, hM2⟩;obtain ⟨q, rfl⟩ := Int.eq_ofNat_of_zero_le hq0;have own2 := own1.mod hM2 (by omega);have m2 := m1.trans hM2
       have hqn : q < n := by omega
       have hqy : q < ys.length := by omega
       have hky : k < ys.length := by omega
       have HI0 := Lib.hid (own2.cells hqy).1;have HP0 := Lib.hid (own2.cells hky).2.2.2.2.2.1;have HF0 := Lib.hid (own2.frozen (k * 7 + 5));have HO1 := Lib.hid (own2.setPar hky ys[q].id);have HZ1 : Hid (∀ x ∈ ys.set k { ys[k] with par := ys[q].id }, ItG x) := Lib.hid (set_all HYZ.out ((HYZ.out _ (List.getElem_mem hky)).par (by have := (HYZ.out _ (List.getElem_mem hqy)).1; omega)));have HZK := Lib.hid (HYZ.out _ (List.getElem_mem hky))
       have hsk : k < (ys.set k { ys[k] with par := ys[q].id }).length := by simpa using hky
       have HO2 := Lib.hid (fun (W : World) (h : OwnI W base g n cap (ys.set k { ys[k] with par := ys[q].id })) => h.setPar hsk ys[k].par);have HZ2 : Hid (∀ x ∈ (ys.set k { ys[k] with par := ys[q].id }).set k { (ys.set k { ys[k] with par := ys[q].id })[k] with par := ys[k].par }, ItG x) := Lib.hid (set_all HZ1.out ((HZ1.out _ (List.getElem_mem hsk)).par (by have := HZK.out.2.2.2.1; omega)));generalize (ys.set k { ys[k] with par := ys[q].id }).set k { (ys.set k { ys[k] with par := ys[q].id })[k] with par := ys[k].par } = y2 at *;generalize ys.set k { ys[k] with par := ys[q].id } = y1 at *;generalize ys[q].id = qid at *;generalize ys[k].par = kpar at *;clear hS1 m1 own1 hM2 own2 hq0 hq1 hqy hky hsk HZK HYZ hyl
       have j1 : (0 : Int) ≤ (k : Int) := by omega
       have j2 : (k : Int) < (n : Int) := by omega
       have j3 : (0 : Int) ≤ (q : Int) := by omega
       have j4 : (q : Int) < (n : Int) := by omega
       have c0 := HI0.out;have c1 := HP0.out;have c2 := HF0.out;have HM2 := Lib.hid (m2.setCell (p := ⟨g, k * 7 + 5, none⟩) (.inr (by show _ ≤ g; omega)) (.string ⟨qid.toArray⟩));have HS2 := Lib.hid (hS2.setCell (p := ⟨g, k * 7 + 5, none⟩) (by show _ < g; omega) (.string ⟨qid.toArray⟩));have hown1 := HO1.out;have hy1 := hown1.len;have c3 := hown1.frozen (k * 7 + 5)
       have hky1 : k < y1.length := by omega
       have HIF := Lib.hid (fun W (h : Mod (· = b) w W) (h2 : OwnI W base g n cap y1) => itemsFault_calls W _ y1 h2.its (fun z h => (HZ1.out z h).b) (by omega) (HE.out W h));obtain ⟨e1, he1⟩ : ∃ e1, itsE itemE y1 = e1 := ⟨_, rfl⟩;rw [he1] at HIF;have HOW := Lib.hid hown1;clear he1 HI0 HP0 HF0 HO1 hown1 hS2 m2;have HC4 := Lib.hid (fun W (h : OwnI W base g n cap y1) => (h.cells hky1).2.2.2.2.2.1);have HG : Hid (b < g ∧ w.heap.size ≤ g) := Lib.hid ⟨by omega, by omega⟩
       have FIN : Hid (∀ W, Strm W b (N + 140 * j + 2 * k + 1 + 1) → Mod (· = b) w W → OwnI W base g n cap y1 → Strm (W.setCell ⟨g, k * 7 + 5, none⟩ (.string ⟨kpar.toArray⟩)) b (N + 140 * j + 2 * (k + 1)) ∧ Mod (· = b) w (W.setCell ⟨g, k * 7 + 5, none⟩ (.string ⟨kpar.toArray⟩)) ∧ OwnI (W.setCell ⟨g, k * 7 + 5, none⟩ (.string ⟨kpar.toArray⟩)) base g n cap y2) :=
        Lib.hid (fun W h1 h2 h3 => ⟨(h1.setCell (p := ⟨g, k * 7 + 5, none⟩) HG.out.1 _).more (by omega), h2.setCell (p := ⟨g, k * 7 + 5, none⟩) (.inr HG.out.2) _, HO2.out W h3⟩)
       by_cases hqk : q = k
       ·have hqk' : ((q : Int) == (k : Int)) = true := by rw [hqk]; simp
        clear hqk HIF HC4
        go_wp2_with fail
        obtain ⟨f1, f2, f3⟩ := FIN.out _ HS2.out HM2.out HOW.out
        go_roundg (n - (k + 1))
        case measure => omega
        case rel => exact ⟨k + 1, y2, rfl, by omega, by simp, HZ2.out, f3, f1, f2⟩
       ·have hqk' : ((q : Int) == (k : Int)) = false := by simp; omega
        clear hqk
        go_wp2_with fail
        refine (HIF.out _ HM2.out HOW.out).mono ?_;rintro e w3 ⟨rfl, hm3⟩;have m3 := HM2.out.transp hm3;have hS3 := HS2.out.pure hm3;have own3 := HOW.out.mod hm3 id;have c5 := own3.frozen (k * 7 + 5);have H3 := Lib.hid own3;clear HIF HM2 HS2 HOW own3 c0 c1 c2 c3 hm3
        by_cases he : e1 = 0
        ·subst he
         go_wp2_with fail
         go_roundg (n - (k + 1))
         case measure => omega
         case rel => exact ⟨k + 1, y1, rfl, by omega, by simp, HZ1.out, H3.out, hS3.more (by omega), m3⟩
        ·have he' : (e1 != 0) = true := by simpa using he
         clear he;have hc4 := HC4.out _ H3.out
         go_wp2_with fail
         obtain ⟨f1, f2, f3⟩ := FIN.out _ hS3 m3 H3.out
         go_roundg (n - (k + 1))
         case measure => omega
         case rel => exact ⟨k + 1, y2, rfl, by omega, by simp, HZ2.out, f3, f1, f2⟩
      ·go_wp2_with fail
       go_roundg (n - (k + 1))
       case measure => omega
       case rel => exact ⟨k + 1, ys, rfl, by omega, by simp, HYZ.out, own1, hS1.more (by omega), m1⟩
     ·obtain rfl : k = n := by omega
      go_wp2_with fail
      go_ret;exact ⟨.slice (some ⟨g, 0, none⟩) k cap, ys, rfl, by omega, hyz, by rw [hyl, ← HBA.out]; exact hown, hS.more (by omega), hmm⟩
def ItemsPost (w : World) (b N m : Nat) (e : Ending) (w' : World) : Prop :=
 ∃ (v : Value) (xs : List Itm), e = .returned v ∧ xs.length ≤ m ∧ (∀ x ∈ xs, ItB x) ∧ w'.ownsRow w.heap.size 79 7 v xs.length (itV xs) ∧ Strm w' b N ∧ Mod (· = b) w w'
theorem ItemsPostG.b {w : World} {b N m : Nat} {e : Ending} {w' : World} (h : ItemsPostG w b N m e w') : ItemsPost w b N m e w' := by
 obtain ⟨v, xs, h1, h2, h3, h4⟩ := h;exact ⟨v, xs, h1, h2, fun x hx => (h3 x hx).b, h4⟩
end Go.Proofs.YtgfgggeeoeppjaaGreatDoor
/- The generators of items: Items. -/
namespace Go.Proofs.YtgfgggeeoeppjaaGreatDoor
open Go.RowKit
theorem OwnI.setFld {w : World} {base g n cap k : Nat} {xs : List Itm} (h : OwnI w base g n cap xs) (hk : k < xs.length) (d : Nat) (hd : d < 7) (u : Value) (x' : Itm) (hx : (itC xs[k]).set d u = itC x') : OwnI (w.setCell ⟨g, k * 7 + d, none⟩ u) base g n cap (xs.set k x') := by
 have h1 := (World.ownsRow.stored h (k * 7 + d) u).1;rw [itV_set xs k x' d _ hk hd (by simpa [List.getD, hk] using hx)] at h1;exact h1
theorem OwnI.setItem {w : World} {base g n cap k : Nat} {xs : List Itm} (h : OwnI w base g n cap xs) (hk : k < xs.length) (y : Itm) :
  OwnI (((((((w.setCell ⟨g, k * 7, none⟩ (.string ⟨y.id.toArray⟩)).setCell ⟨g, k * 7 + 1, none⟩ (.string ⟨y.cust.toArray⟩)).setCell ⟨g, k * 7 + 2, none⟩ (.int .i64 y.kind)).setCell ⟨g, k * 7 + 3, none⟩ (.string ⟨y.name.toArray⟩)).setCell ⟨g, k * 7 + 4, none⟩ (.int .i64 y.tm)).setCell ⟨g, k * 7 + 5, none⟩ (.string ⟨y.par.toArray⟩)).setCell ⟨g, k * 7 + 6, none⟩ (.string ⟨y.text.toArray⟩)) base g n cap (xs.set k y) := by
 obtain ⟨y0, y1, y2, y3, y4, y5, y6⟩ := y;have h0 := h.setFld hk 0 (by omega) (.string ⟨y0.toArray⟩) { xs[k] with id := y0 } rfl;have h1 := h0.setFld (by simpa using hk) 1 (by omega) (.string ⟨y1.toArray⟩) { xs[k] with id := y0, cust := y1 } (by simp [itC]);have h2 := h1.setFld (by simpa using hk) 2 (by omega) (.int .i64 y2) { xs[k] with id := y0, cust := y1, kind := y2 } (by simp [itC]);have h3 := h2.setFld (by simpa using hk) 3 (by omega) (.string ⟨y3.toArray⟩) { xs[k] with id := y0, cust := y1, kind := y2, name := y3 } (by simp [itC]);have h4 := h3.setFld (by simpa using hk) 4 (by omega) (.int .i64 y4) { xs[k] with id := y0, cust := y1, kind := y2, name := y3, tm := y4 } (by simp [itC]);have h5 := h4.setFld (by simpa using hk) 5 (by omega) (.string ⟨y5.toArray⟩) { xs[k] with id := y0, cust := y1, kind := y2, name := y3, tm := y4, par := y5 } (by simp [itC]);have h6 := h5.setFld (by simpa using hk) 6 (by omega) (.string ⟨y6.toArray⟩) ⟨y0, y1, y2, y3, y4, y5, y6⟩ (by simp [itC])
 simpa using h6
theorem Mod.setR {w W : World} {b g : Nat} (h : Mod (· = b) w W) (hg : w.heap.size ≤ g) (j : Nat) (u : Value) : Mod (· = b) w (W.setCell ⟨g, j, none⟩ u) := h.setCell (p := ⟨g, j, none⟩) (.inr hg) u
theorem Strm.setR {W : World} {b N g : Nat} (h : Strm W b N) (hg : b < g) (j : Nat) (u : Value) : Strm (W.setCell ⟨g, j, none⟩ u) b N := h.setCell (p := ⟨g, j, none⟩) hg u
theorem itemIdZ_calls (w : World) (k : Int) (h0 : 0 ≤ k) (hk : k < 26) : Calls Tryz.prog 44 #[.int .i64 k] w (fun e w' => ∃ s : Str, s.length ≤ 100 ∧ e = .returned (.string ⟨s.toArray⟩) ∧ Pure w w') := by
 obtain ⟨i, rfl⟩ := Int.eq_ofNat_of_zero_le h0;refine (itemId_calls w i (by omega)).mono ?_;rintro e w' ⟨rfl, h⟩;exact ⟨itS i, by simp [itS], rfl, h⟩
def Im4 (w : World) (b N base g n cap gk : Nat) (i : Value) (wr : World) : Prop :=
 ∃ (j : Nat) (xs : List Itm), 4 - j = gk ∧ j ≤ 4 ∧ i = .int .i64 (j : Int) ∧ (∀ x ∈ xs, ItG x) ∧ OwnI wr base g n cap xs ∧ Strm wr b (N + 2 * j) ∧ Mod (· = b) w wr
set_option maxHeartbeats 8000000 in
theorem items_callsG (w : World) (b N m : Nat) (mI : Int) (hmI : mI = (m : Int)) (hS : Strm w b N) (hN : N ≤ 600000000) (hm : m ≤ 20) (hE : ∀ W, Mod (· = b) w W → Env W) : Calls Tryz.prog 6 #[.pointer (some ⟨b, 0, none⟩), .int .i64 mI] w (ItemsPostG w b (N + 142 * m + 160) (m + 1)) := by
 obtain ⟨i0, hi0, hz0, hz1, hz2⟩ := info_parts info_item7;have HRI := Lib.hid (rightItems_callsG w b N m hS (by omega) hm hE);rw [← hmI] at HRI;have HMI := Lib.hid hmI;clear hmI;have hbl := hS.lt;clear hE hS
 go_enter Tryz.func6, Tryz.ntmps6
 go_wp2_with fail
 refine HRI.out.mono ?_;rintro e w1 ⟨v, xs, rfl, hxm, hxz, hown, hS1, m1⟩;clear HRI;have HXZ := Lib.hid hxz;clear hxz
 by_cases h0 : xs.length = 0
 ·have hform : ∃ A cap, v = .slice A 0 cap := by
   rw [h0] at hown
   rcases hown.2 with ⟨rfl, _⟩ | ⟨g, cap, cur, rfl, _⟩
   ·exact ⟨_, _, rfl⟩
   ·exact ⟨_, _, rfl⟩
  obtain ⟨A, cap, rfl⟩ := hform;have HOW := Lib.hid hown;clear hown h0
  go_wp2_with fail
  go_ret;exact ⟨_, xs, rfl, by omega, HXZ.out, HOW.out, hS1.more (by omega), m1⟩
 obtain ⟨g, cap, rfl, hg1, hg2, hcap, hcap2⟩ := own_form7 hown (by omega);have hownI : OwnI w1 w.heap.size g xs.length cap xs := hown;clear hown;obtain ⟨n, hn⟩ : ∃ n, xs.length = n := ⟨_, rfl⟩;rw [hn] at hownI hcap h0 hxm ⊢;have hn1 := Nat.le_of_eq hn;have hn2 := Nat.le_of_eq hn.symm
 have hn0 : (0 : Int) < (n : Int) := by omega
 clear hn h0
 go_wp2_with fail
 refine (flip_calls _ b _ _ hS1 (by omega) (by omega) (by omega)).mono ?_;rintro e w2 ⟨fl, rfl, hS2, hM2⟩;have own2 := hownI.mod hM2 (by omega);have m2 := m1.trans hM2
 have DONE : Hid (∀ (W : World) (zs : List Itm), (∀ x ∈ zs, ItG x) → OwnI W w.heap.size g n cap zs → Strm W b (N + 142 * m + 160) → Mod (· = b) w W → ItemsPostG w b (N + 142 * m + 160) (m + 1) (.returned (.slice (some ⟨g, 0, none⟩) n cap)) W) := Lib.hid (fun W zs h1 h2 h3 h4 => by
  have := h2.len
  exact ⟨_, zs, rfl, by omega, h1, by rw [this]; exact h2, h3, h4⟩)
 clear hS1 hownI m1 hM2
 cases fl
 ·go_wp2_with fail
  go_ret;exact DONE.out _ xs HXZ.out own2 (hS2.more (by omega)) m2
 go_wp2_with fail
 refine (next_calls _ b _ _ hS2 (by omega) (by omega) (by omega)).mono ?_;rintro e w3 ⟨kk, hk0, hk1, rfl, hS3, hM3⟩;obtain ⟨kk, rfl⟩ := Int.eq_ofNat_of_zero_le hk0;have own3 := own2.mod hM3 (by omega);have m3 := m2.trans hM3
 have hkn : kk < n := by omega
 have hkx : kk < xs.length := by omega
 clear hS2 own2 m2 hM3 hk0 hk1
 go_wp2_with fail
 refine (next_calls _ b _ _ hS3 (by omega) (by omega) (by omega)).mono ?_;rintro e w4 ⟨sw, hs0, hs1, rfl, hS4, hM4⟩;have own4 := own3.mod hM4 (by omega);have m4 := m3.trans hM4;clear hS3 own3 m3 hM4
 have i3 : (0 : Int) ≤ (kk : Int) := by omega
 have i4 : (kk : Int) < (n : Int) := by omega
 have hbg : b < g := by omega
 have hmg : w.heap.size ≤ g := by omega
 by_cases s0 : sw = 0
 ·subst s0
  have hmi1 : 1 ≤ mI := by have := HMI.out; omega
  have hmi2 : mI ≤ 20 := by have := HMI.out; omega
  clear HMI
  go_upto_region 11 with (fail)
  obtain ⟨N1, hN1⟩ : ∃ N1, N1 = N + 142 * m + 1 + 1 + 1 := ⟨_, rfl⟩;rw [← hN1] at hS4;have hN1a := Nat.le_of_eq hN1;have hN1b := Nat.le_of_eq hN1.symm;clear hN1;have hb4 := hS4.lt;have HGs := Lib.hid (show ∀ (D : Nat → Bool) (zzi : Nat) (zq zq' : World), (fun _ zq => (fun Z => ∃ zs : List Itm, zs.length = n ∧ (∀ x ∈ zs, ItG x) ∧ OwnI Z w.heap.size g n cap zs) zq) D zq → Mod (· = b) zq zq' → (fun _ zq => (fun Z => ∃ zs : List Itm, zs.length = n ∧ (∀ x ∈ zs, ItG x) ∧ OwnI Z w.heap.size g n cap zs) zq) (upd D zzi true) zq' from by intro D zzi zq zq' h hm; (obtain ⟨zs, h1, h2, h3⟩ := h; exact ⟨zs, h1, h2, h3.mod hm (by omega)⟩))
  refine wp_region_inv (by kernel_rfl) (by kernel_rfl) (InvF (R := Mod (· = b)) [.is (.slice (some ⟨g, 0, none⟩) n cap),
    .is (.int .i64 (kk : Int)),
    .is (.pointer (some ⟨b, 0, none⟩)),
    .is (.pointer (some ⟨b, 0, none⟩)),
    .is (.int .i64 mI),
    .val (fun zv => ∃ (k_5 : Int), zv = .int .i64 k_5 ∧ 0 ≤ k_5 ∧ k_5 < mI),
    .val (fun zv => ∃ (s_6 : Str), zv = .string ⟨s_6.toArray⟩ ∧ s_6.length ≤ 100),
    .is (.slice (some ⟨g, 0, none⟩) n cap),
    .is (.int .i64 (kk : Int)),
    .is (.pointer (some ⟨g, kk * 7, none⟩)),
    .is (.pointer (some ⟨g, kk * 7, none⟩)),
    .val (fun zv => ∃ (s_11 : Str), zv = .string ⟨s_11.toArray⟩ ∧ s_11.length ≤ 100),
    ⟨fun zv zw => ∃ (s_12 : Str) (sa_12 : Str) (g_12 : Nat), zv = .slice (some ⟨g_12, 0, none⟩) 3 3 ∧ s_12.length ≤ 100 ∧ sa_12.length ≤ 100 ∧ w4.heap.size ≤ g_12 ∧ Blk zw g_12 9 #[(.string { data := #[105, 122, 122] }), .string ⟨s_12.toArray⟩, .string ⟨sa_12.toArray⟩], (by rintro zv zw zx ⟨s_12, sa_12, g_12, rfl, c0, c1, c2, q0⟩ hm; exact ⟨s_12, sa_12, g_12, rfl, c0, c1, c2, (q0.modb hm (by omega))⟩), none, some 13⟩,
    .val (fun zv => ∃ (s_13 : Str), zv = .string ⟨s_13.toArray⟩ ∧ s_13.length ≤ 100),
    .is (.pointer (some ⟨g, kk * 7, none⟩)),
    .is (.pointer (some ⟨g, kk * 7 + 5, none⟩)),
    .any]
    (GB w (· = b) w4.heap.size b (N1) (fun D => (D 5).toNat + (D 13).toNat) (fun _ zq => (fun Z => ∃ zs : List Itm, zs.length = n ∧ (∀ x ∈ zs, ItG x) ∧ OwnI Z w.heap.size g n cap zs) zq))) (InvF.start (GB.start hS4 m4 (Nat.le_refl _) (⟨xs, by omega, HXZ.out, own4⟩))) ?_ ?_
  ·refine .cons ?_ (.cons ?_ (.cons ?_ (.cons ?_ (.cons ?_ (.cons ?_ (.cons ?_ (.cons ?_ (.cons ?_ (.cons ?_ (.cons ?_ (.cons ?_ (.cons ?_ (.cons ?_ (.cons ?_ (.cons ?_ (.cons ?_ .nil))))))))))))))))
   ·intro D V zw1 a hR hI K hK;obtain ⟨hS1, hM1, hB1, hG1⟩ := hI.1;obtain ⟨zs, hG1a, hG1b, hG1d⟩ := hG1;have ze5 := hR.frame.other (t := 5) (by kernel_rfl) rfl;rw [if_pos (by rfl)];go_simp;exact hK (.slice (some ⟨g, 0, none⟩) n cap) _ (hI.next hR (by kernel_rfl) (Mod.refl _ _) (GB.quiet hI.1 (Mod.refl _ _) (by have hn := hR.not; simp [upd, hn] <;> omega) (HGs.out D 0 zw1 zw1 (hI.1).g (Mod.refl _ _))) (upd_same V 0 _))
   ·intro D V zw1 a hR hI K hK;obtain ⟨hS1, hM1, hB1, hG1⟩ := hI.1;obtain ⟨zs, hG1a, hG1b, hG1d⟩ := hG1;have ze6 := hR.frame.other (t := 6) (by kernel_rfl) rfl;rw [if_pos (by rfl)];go_simp;exact hK (.int .i64 (kk : Int)) _ (hI.next hR (by kernel_rfl) (Mod.refl _ _) (GB.quiet hI.1 (Mod.refl _ _) (by have hn := hR.not; simp [upd, hn] <;> omega) (HGs.out D 1 zw1 zw1 (hI.1).g (Mod.refl _ _))) (upd_same V 1 _))
   ·intro D V zw1 a hR hI K hK;obtain ⟨hS1, hM1, hB1, hG1⟩ := hI.1;obtain ⟨zs, hG1a, hG1b, hG1d⟩ := hG1;have ze0 := hR.frame.other (t := 0) (by kernel_rfl) rfl;rw [if_pos (by rfl)];go_simp;exact hK (.pointer (some ⟨b, 0, none⟩)) _ (hI.next hR (by kernel_rfl) (Mod.refl _ _) (GB.quiet hI.1 (Mod.refl _ _) (by have hn := hR.not; simp [upd, hn] <;> omega) (HGs.out D 2 zw1 zw1 (hI.1).g (Mod.refl _ _))) (upd_same V 2 _))
   ·intro D V zw1 a hR hI K hK;obtain ⟨hS1, hM1, hB1, hG1⟩ := hI.1;obtain ⟨zs, hG1a, hG1b, hG1d⟩ := hG1;have ze0 := hR.frame.other (t := 0) (by kernel_rfl) rfl;rw [if_pos (by rfl)];go_simp;exact hK (.pointer (some ⟨b, 0, none⟩)) _ (hI.next hR (by kernel_rfl) (Mod.refl _ _) (GB.quiet hI.1 (Mod.refl _ _) (by have hn := hR.not; simp [upd, hn] <;> omega) (HGs.out D 3 zw1 zw1 (hI.1).g (Mod.refl _ _))) (upd_same V 3 _))
   ·intro D V zw1 a hR hI K hK;obtain ⟨hS1, hM1, hB1, hG1⟩ := hI.1;obtain ⟨zs, hG1a, hG1b, hG1d⟩ := hG1;have ze1 := hR.frame.other (t := 1) (by kernel_rfl) rfl;rw [if_pos (by rfl)];go_simp;exact hK (.int .i64 mI) _ (hI.next hR (by kernel_rfl) (Mod.refl _ _) (GB.quiet hI.1 (Mod.refl _ _) (by have hn := hR.not; simp [upd, hn] <;> omega) (HGs.out D 4 zw1 zw1 (hI.1).g (Mod.refl _ _))) (upd_same V 4 _))
   ·intro D V zw1 a hR hI K hK;obtain ⟨hS1, hM1, hB1, hG1⟩ := hI.1;obtain ⟨zs, hG1a, hG1b, hG1d⟩ := hG1;have zd3 := hR.pred 3 (by kernel_rfl);have zf3 : V 3 = .pointer (some ⟨b, 0, none⟩) := hI.2 3 zd3 rfl;have zd4 := hR.pred 4 (by kernel_rfl);have zf4 : V 4 = .int .i64 mI := hI.2 4 zd4 rfl;have ze48 := hR.frame.done (t := 48) (j := 3) (by kernel_rfl) hR.ok zd3;have ze49 := hR.frame.done (t := 49) (j := 4) (by kernel_rfl) hR.ok zd4;rw [if_pos (by rfl)];have := Bool.toNat_le (D 5);have := Bool.toNat_le (D 13)
    have hNB : N1 + ((D 5).toNat + (D 13).toNat) ≤ 1000000000 := by omega
    skip
    go_simp;refine (next_calls _ _ _ _ hS1 hNB (by omega) (by omega)).mono ?_;rintro e zw2 ⟨k_0, hk1, hk2, rfl, hS2, hm2⟩;exact hK (.int .i64 k_0) _ (hI.next hR (by kernel_rfl) hm2 (GB.asks hI.1 (fun _ h _ => h) hS2 hm2 (by have hn := hR.not; simp [upd, hn] <;> omega) (HGs.out D 5 _ _ (hI.1).g hm2)) (⟨k_0, upd_same V 5 _, hk1, hk2⟩))
   ·intro D V zw1 a hR hI K hK;obtain ⟨hS1, hM1, hB1, hG1⟩ := hI.1;obtain ⟨zs, hG1a, hG1b, hG1d⟩ := hG1;have zd5 := hR.pred 5 (by kernel_rfl);have zF5 : ∃ (k_5 : Int), V 5 = .int .i64 k_5 ∧ 0 ≤ k_5 ∧ k_5 < mI := hI.2 5 zd5 rfl;obtain ⟨k_5, zf5, c5_0, c5_1⟩ := zF5;have ze50 := hR.frame.done (t := 50) (j := 5) (by kernel_rfl) hR.ok zd5;rw [if_pos (by rfl)];have := Bool.toNat_le (D 5);have := Bool.toNat_le (D 13)
    have hNB : N1 + ((D 5).toNat + (D 13).toNat) ≤ 1000000000 := by omega
    skip
    go_simp;refine (itemIdZ_calls _ k_5 c5_0 (by omega)).mono ?_;rintro e zw2 ⟨s_0, hs, rfl, hm2⟩;exact hK (.string ⟨s_0.toArray⟩) _ (hI.next hR (by kernel_rfl) (Mod.of_pure hm2) (GB.quiet hI.1 hm2 (by have hn := hR.not; simp [upd, hn] <;> omega) (HGs.out D 6 _ _ (hI.1).g (Mod.of_pure hm2))) (⟨s_0, upd_same V 6 _, hs⟩))
   ·intro D V zw1 a hR hI K hK;obtain ⟨hS1, hM1, hB1, hG1⟩ := hI.1;obtain ⟨zs, hG1a, hG1b, hG1d⟩ := hG1;have ze5 := hR.frame.other (t := 5) (by kernel_rfl) rfl;rw [if_pos (by rfl)];go_simp;exact hK (.slice (some ⟨g, 0, none⟩) n cap) _ (hI.next hR (by kernel_rfl) (Mod.refl _ _) (GB.quiet hI.1 (Mod.refl _ _) (by have hn := hR.not; simp [upd, hn] <;> omega) (HGs.out D 7 zw1 zw1 (hI.1).g (Mod.refl _ _))) (upd_same V 7 _))
   ·intro D V zw1 a hR hI K hK;obtain ⟨hS1, hM1, hB1, hG1⟩ := hI.1;obtain ⟨zs, hG1a, hG1b, hG1d⟩ := hG1;have ze6 := hR.frame.other (t := 6) (by kernel_rfl) rfl;rw [if_pos (by rfl)];go_simp;exact hK (.int .i64 (kk : Int)) _ (hI.next hR (by kernel_rfl) (Mod.refl _ _) (GB.quiet hI.1 (Mod.refl _ _) (by have hn := hR.not; simp [upd, hn] <;> omega) (HGs.out D 8 zw1 zw1 (hI.1).g (Mod.refl _ _))) (upd_same V 8 _))
   ·intro D V zw1 a hR hI K hK;obtain ⟨hS1, hM1, hB1, hG1⟩ := hI.1;obtain ⟨zs, hG1a, hG1b, hG1d⟩ := hG1;have zd7 := hR.pred 7 (by kernel_rfl);have zf7 : V 7 = .slice (some ⟨g, 0, none⟩) n cap := hI.2 7 zd7 rfl;have zd8 := hR.pred 8 (by kernel_rfl);have zf8 : V 8 = .int .i64 (kk : Int) := hI.2 8 zd8 rfl;have ze52 := hR.frame.done (t := 52) (j := 7) (by kernel_rfl) hR.ok zd7;have ze53 := hR.frame.done (t := 53) (j := 8) (by kernel_rfl) hR.ok zd8;rw [if_pos (by rfl)];go_simp;exact hK (.pointer (some ⟨g, kk * 7, none⟩)) _ (hI.next hR (by kernel_rfl) (Mod.refl _ _) (GB.quiet hI.1 (Mod.refl _ _) (by have hn := hR.not; simp [upd, hn] <;> omega) (HGs.out D 9 zw1 zw1 (hI.1).g (Mod.refl _ _))) (upd_same V 9 _))
   ·intro D V zw1 a hR hI K hK;obtain ⟨hS1, hM1, hB1, hG1⟩ := hI.1;obtain ⟨zs, hG1a, hG1b, hG1d⟩ := hG1;have zd9 := hR.pred 9 (by kernel_rfl);have zf9 : V 9 = .pointer (some ⟨g, kk * 7, none⟩) := hI.2 9 zd9 rfl;have ze54 := hR.frame.done (t := 54) (j := 9) (by kernel_rfl) hR.ok zd9;rw [if_pos (by rfl)];go_simp;exact hK (.pointer (some ⟨g, kk * 7, none⟩)) _ (hI.next hR (by kernel_rfl) (Mod.refl _ _) (GB.quiet hI.1 (Mod.refl _ _) (by have hn := hR.not; simp [upd, hn] <;> omega) (HGs.out D 10 zw1 zw1 (hI.1).g (Mod.refl _ _))) (upd_same V 10 _))
   ·intro D V zw1 a hR hI K hK;obtain ⟨hS1, hM1, hB1, hG1⟩ := hI.1;obtain ⟨zs, hG1a, hG1b, hG1d⟩ := hG1;have zd10 := hR.pred 10 (by kernel_rfl);have zf10 : V 10 = .pointer (some ⟨g, kk * 7, none⟩) := hI.2 10 zd10 rfl;have ze55 := hR.frame.done (t := 55) (j := 10) (by kernel_rfl) hR.ok zd10
    have hkz : kk < zs.length := by omega
    have hcc := (hG1d.cells hkz).1;rw [if_pos (by rfl)];go_simp;exact hK (_) _ (hI.next hR (by kernel_rfl) (Mod.refl _ _) (GB.quiet hI.1 (Mod.refl _ _) (by have hn := hR.not; simp [upd, hn] <;> omega) (HGs.out D 11 zw1 zw1 (hI.1).g (Mod.refl _ _))) (⟨zs[kk].id, upd_same V 11 _, (hG1b _ (List.getElem_mem hkz)).1⟩))
   ·intro D V zw1 a hR hI K hK;obtain ⟨hS1, hM1, hB1, hG1⟩ := hI.1;obtain ⟨zs, hG1a, hG1b, hG1d⟩ := hG1;have zd6 := hR.pred 6 (by kernel_rfl);have zF6 : ∃ (s_6 : Str), V 6 = .string ⟨s_6.toArray⟩ ∧ s_6.length ≤ 100 := hI.2 6 zd6 rfl;obtain ⟨s_6, zf6, c6_0⟩ := zF6;have zd11 := hR.pred 11 (by kernel_rfl);have zF11 : ∃ (s_11 : Str), V 11 = .string ⟨s_11.toArray⟩ ∧ s_11.length ≤ 100 := hI.2 11 zd11 rfl;obtain ⟨s_11, zf11, c11_0⟩ := zF11;have ze51 := hR.frame.done (t := 51) (j := 6) (by kernel_rfl) hR.ok zd6;have ze56 := hR.frame.done (t := 56) (j := 11) (by kernel_rfl) hR.ok zd11;rw [if_pos (by rfl)];go_simp;exact hK (_) _ (hI.next hR (by kernel_rfl) ((Mod.refl _ _).alloc _) (GB.quiet hI.1 (pure_alloc _ _) (by have hn := hR.not; simp [upd, hn] <;> omega) (HGs.out D 12 _ _ (hI.1).g ((Mod.refl _ _).alloc _))) (⟨s_6, s_11, _, upd_same V 12 _, (by first | assumption | omega), (by first | assumption | omega), (by omega), (Blk.new _ _ _)⟩))
   ·intro D V zw1 a hR hI K hK;obtain ⟨hS1, hM1, hB1, hG1⟩ := hI.1;obtain ⟨zs, hG1a, hG1b, hG1d⟩ := hG1;have zd2 := hR.pred 2 (by kernel_rfl);have zf2 : V 2 = .pointer (some ⟨b, 0, none⟩) := hI.2 2 zd2 rfl;have zd12 := hR.pred 12 (by kernel_rfl);have zF12 : ∃ (s_12 : Str) (sa_12 : Str) (g_12 : Nat), V 12 = .slice (some ⟨g_12, 0, none⟩) 3 3 ∧ s_12.length ≤ 100 ∧ sa_12.length ≤ 100 ∧ w4.heap.size ≤ g_12 ∧ Blk zw1 g_12 9 #[(.string { data := #[105, 122, 122] }), .string ⟨s_12.toArray⟩, .string ⟨sa_12.toArray⟩] := hI.2 12 zd12 (by show (!D 13) = true; rw [hR.not]; rfl);obtain ⟨s_12, sa_12, g_12, zf12, c12_0, c12_1, c12_2, b12_0⟩ := zF12;have ze47 := hR.frame.done (t := 47) (j := 2) (by kernel_rfl) hR.ok zd2;have ze57 := hR.frame.done (t := 57) (j := 12) (by kernel_rfl) hR.ok zd12;rw [if_pos (by rfl)];have := Bool.toNat_le (D 5);have := Bool.toNat_le (D 13)
    have hNB : N1 + ((D 5).toNat + (D 13).toNat) ≤ 1000000000 := by omega
    skip
    go_simp;refine (someb_calls _ b _ _ _ _ [[105, 122, 122], s_12, sa_12] 100 rfl (le_cons (by decide) (le_cons c12_0 (le_cons c12_1 le_nil))) hS1 hNB b12_0 (by omega) (by simp) (by simp)).mono ?_;rintro e zw2 ⟨s_0, hs, rfl, hS2, hm2⟩;exact hK (.string ⟨s_0.toArray⟩) _ (hI.next hR (by kernel_rfl) hm2 (GB.asks hI.1 (fun _ h _ => h) hS2 hm2 (by have hn := hR.not; simp [upd, hn] <;> omega) (HGs.out D 13 _ _ (hI.1).g hm2)) (⟨s_0, upd_same V 13 _, hs⟩))
   ·intro D V zw1 a hR hI K hK;obtain ⟨hS1, hM1, hB1, hG1⟩ := hI.1;obtain ⟨zs, hG1a, hG1b, hG1d⟩ := hG1;have zd0 := hR.pred 0 (by kernel_rfl);have zf0 : V 0 = .slice (some ⟨g, 0, none⟩) n cap := hI.2 0 zd0 rfl;have zd1 := hR.pred 1 (by kernel_rfl);have zf1 : V 1 = .int .i64 (kk : Int) := hI.2 1 zd1 rfl;have ze45 := hR.frame.done (t := 45) (j := 0) (by kernel_rfl) hR.ok zd0;have ze46 := hR.frame.done (t := 46) (j := 1) (by kernel_rfl) hR.ok zd1;rw [if_pos (by rfl)];go_simp;exact hK (.pointer (some ⟨g, kk * 7, none⟩)) _ (hI.next hR (by kernel_rfl) (Mod.refl _ _) (GB.quiet hI.1 (Mod.refl _ _) (by have hn := hR.not; simp [upd, hn] <;> omega) (HGs.out D 14 zw1 zw1 (hI.1).g (Mod.refl _ _))) (upd_same V 14 _))
   ·intro D V zw1 a hR hI K hK;obtain ⟨hS1, hM1, hB1, hG1⟩ := hI.1;obtain ⟨zs, hG1a, hG1b, hG1d⟩ := hG1;have zd14 := hR.pred 14 (by kernel_rfl);have zf14 : V 14 = .pointer (some ⟨g, kk * 7, none⟩) := hI.2 14 zd14 rfl;have ze59 := hR.frame.done (t := 59) (j := 14) (by kernel_rfl) hR.ok zd14;rw [if_pos (by rfl)];go_simp;exact hK (.pointer (some ⟨g, kk * 7 + 5, none⟩)) _ (hI.next hR (by kernel_rfl) (Mod.refl _ _) (GB.quiet hI.1 (Mod.refl _ _) (by have hn := hR.not; simp [upd, hn] <;> omega) (HGs.out D 15 zw1 zw1 (hI.1).g (Mod.refl _ _))) (upd_same V 15 _))
   ·intro D V zw1 a hR hI K hK;obtain ⟨hS1, hM1, hB1, hG1⟩ := hI.1;obtain ⟨zs, hG1a, hG1b, hG1d⟩ := hG1;have zd15 := hR.pred 15 (by kernel_rfl);have zf15 : V 15 = .pointer (some ⟨g, kk * 7 + 5, none⟩) := hI.2 15 zd15 rfl;have zd13 := hR.pred 13 (by kernel_rfl);have zF13 : ∃ (s_13 : Str), V 13 = .string ⟨s_13.toArray⟩ ∧ s_13.length ≤ 100 := hI.2 13 zd13 rfl;obtain ⟨s_13, zf13, c13_0⟩ := zF13;have ze60 := hR.frame.done (t := 60) (j := 15) (by kernel_rfl) hR.ok zd15;have ze58 := hR.frame.done (t := 58) (j := 13) (by kernel_rfl) hR.ok zd13;rw [if_pos (by rfl)]
    have hkz : kk < zs.length := by omega
    have zy0 := hG1d.frozen (kk * 7 + 5);have zx0 := (hG1d.cells hkz).2.2.2.2.2.1;go_simp;refine hK undef _ (InvF.last ⟨(hS1.setR (by omega) _ _).more (by have hn := hR.not; simp [upd, hn] <;> omega), hM1.setR (by omega) _ _, (by simpa using hB1), ⟨_, (by simpa using hG1a), set_all hG1b ((hG1b _ (List.getElem_mem hkz)).par (s := s_13) (by omega)), hG1d.setPar hkz s_13⟩⟩ trivial ?_);intro k hk hDk hlv;have hkl := hR.lt k hDk;have hv := hI.2 k hDk (liveB_of hlv)
    match k, hk, hDk, hlv, hkl, hv with
    | 0, _, _, _, _, hv => exact hv
    | 1, _, _, _, _, hv => exact hv
    | 2, _, _, _, _, hv => exact hv
    | 3, _, _, _, _, hv => exact hv
    | 4, _, _, _, _, hv => exact hv
    | 5, _, _, _, _, hv => exact hv
    | 6, _, _, _, _, hv => exact hv
    | 7, _, _, _, _, hv => exact hv
    | 8, _, _, _, _, hv => exact hv
    | 9, _, _, _, _, hv => exact hv
    | 10, _, _, _, _, hv => exact hv
    | 11, _, _, _, _, hv => exact hv
    | 12, _, _, hlv, _, _ => exact absurd hlv (by show ¬ (!upd D 16 true 13) = true; rw [upd_ne _ _ (by omega), hR.pred 13 (by kernel_rfl)]; decide)
    | 13, _, _, _, _, hv => exact hv
    | 14, _, _, _, _, hv => exact hv
    | 15, _, _, _, _, hv => exact hv
    | 16, hk, _, _, _, _ => exact absurd rfl hk
    | k + 17, _, _, _, hkl, _ => exact absurd hkl (by simp)
  ·intro D V w5 hD hI;obtain ⟨hS1, hM1, hB1, hG1⟩ := hI.1;have hSx : Strm w5 b (N1 + 2) := hS1.more (by show _ ≤ _; have := Bool.toNat_le (D 5); have := Bool.toNat_le (D 13); omega);clear hS1;have hMx := hM1;clear hM1;have hBx := hB1;clear hB1;have hGx := hG1;clear hG1;have zf0 : V 0 = .slice (some ⟨g, 0, none⟩) n cap := hI.2 0 (hD 0 (by decide)) rfl;have zf1 : V 1 = .int .i64 (kk : Int) := hI.2 1 (hD 1 (by decide)) rfl;have zf2 : V 2 = .pointer (some ⟨b, 0, none⟩) := hI.2 2 (hD 2 (by decide)) rfl;have zf3 : V 3 = .pointer (some ⟨b, 0, none⟩) := hI.2 3 (hD 3 (by decide)) rfl;have zf4 : V 4 = .int .i64 mI := hI.2 4 (hD 4 (by decide)) rfl;have zF5 : ∃ (k_5 : Int), V 5 = .int .i64 k_5 ∧ 0 ≤ k_5 ∧ k_5 < mI := hI.2 5 (hD 5 (by decide)) rfl;obtain ⟨k_5, zf5, c5_0, c5_1⟩ := zF5;have zF6 : ∃ (s_6 : Str), V 6 = .string ⟨s_6.toArray⟩ ∧ s_6.length ≤ 100 := hI.2 6 (hD 6 (by decide)) rfl;obtain ⟨s_6, zf6, c6_0⟩ := zF6;have zf7 : V 7 = .slice (some ⟨g, 0, none⟩) n cap := hI.2 7 (hD 7 (by decide)) rfl;have zf8 : V 8 = .int .i64 (kk : Int) := hI.2 8 (hD 8 (by decide)) rfl;have zf9 : V 9 = .pointer (some ⟨g, kk * 7, none⟩) := hI.2 9 (hD 9 (by decide)) rfl;have zf10 : V 10 = .pointer (some ⟨g, kk * 7, none⟩) := hI.2 10 (hD 10 (by decide)) rfl;have zF11 : ∃ (s_11 : Str), V 11 = .string ⟨s_11.toArray⟩ ∧ s_11.length ≤ 100 := hI.2 11 (hD 11 (by decide)) rfl;obtain ⟨s_11, zf11, c11_0⟩ := zF11;have zF13 : ∃ (s_13 : Str), V 13 = .string ⟨s_13.toArray⟩ ∧ s_13.length ≤ 100 := hI.2 13 (hD 13 (by decide)) rfl;obtain ⟨s_13, zf13, c13_0⟩ := zF13;have zf14 : V 14 = .pointer (some ⟨g, kk * 7, none⟩) := hI.2 14 (hD 14 (by decide)) rfl;have zf15 : V 15 = .pointer (some ⟨g, kk * 7 + 5, none⟩) := hI.2 15 (hD 15 (by decide)) rfl;clear hI hD HGs;simp only [frAll, Act.put, List.setIfInBounds_toArray, List.set_cons_zero, List.set_cons_succ, Nat.zero_add, Nat.reduceAdd, zf0, zf1, zf2, zf3, zf4, zf5, zf6, zf7, zf8, zf9, zf10, zf11, zf13, zf14, zf15];clear zf0 zf1 zf2 zf3 zf4 zf5 zf6 zf7 zf8 zf9 zf10 zf11 zf13 zf14 zf15;generalize V 12 = u12;clear V D;obtain ⟨zs, _, hz, hz3⟩ := hGx;have HZ := Lib.hid hz;clear hz
   go_wp2_with fail
   go_ret;exact DONE.out _ zs HZ.out hz3 (hSx.more (by omega)) hMx
 have s0' : (sw == 0) = false := by simpa using s0
 by_cases s1 : sw = 1
 ·subst s1;obtain ⟨c0, c1, c2, c3, c4, c5, c6⟩ := own4.cells hkx;have HSI := Lib.hid (fun (W : World) (h : OwnI W w.heap.size g n cap xs) y => h.setItem hkx y);have HIZ := Lib.hid (HXZ.out _ (List.getElem_mem hkx)).1;have HIC := Lib.hid (fun W => item_callsG W b (N + 142 * m + 1 + 1 + 1) xs[kk].id);have HCC := Lib.hid (fun (W : World) (h : OwnI W w.heap.size g n cap xs) => h.cells hkx);have hidl := HIZ.out;generalize xs[kk].id = kid at *
  go_wp2_with fail
  refine (HIC.out _ hS4 (by omega) (by omega)).mono ?_;rintro e w5 ⟨z, hz, rfl, hS5, hM5⟩;have own5 := own4.mod hM5 (by omega);have m5 := m4.trans hM5;clear hS4 own4 m4 hM5 c0 c1 c2 c3 c4 c5 c6;obtain ⟨d0, d1, d2, d3, d4, d5, d6⟩ := HCC.out _ own5;have f0 := own5.frozen (kk * 7);have f1 := own5.frozen (kk * 7 + 1);have f2 := own5.frozen (kk * 7 + 2);have f3 := own5.frozen (kk * 7 + 3);have f4 := own5.frozen (kk * 7 + 4);have f5 := own5.frozen (kk * 7 + 5);have f6 := own5.frozen (kk * 7 + 6);have HO := Lib.hid (HSI.out _ own5 z);have HZ : Hid (∀ x ∈ xs.set kk z, ItG x) := Lib.hid (set_all HXZ.out hz);clear own5 HSI HIC HCC hz hidl HIZ;unfold itA
  go_wp2_with fail
  go_ret;exact DONE.out _ _ HZ.out HO.out ((((((((hS5.setR hbg _ _).setR hbg _ _).setR hbg _ _).setR hbg _ _).setR hbg _ _).setR hbg _ _).setR hbg _ _).more (by omega)) (((((((m5.setR hmg _ _).setR hmg _ _).setR hmg _ _).setR hmg _ _).setR hmg _ _).setR hmg _ _).setR hmg _ _)
 have s1' : (sw == 1) = false := by simpa using s1
 by_cases s2 : sw = 2
 ·subst s2
  have h0x : 0 < xs.length := by omega
  obtain ⟨c0, c1, c2, c3, c4, c5, c6⟩ := own4.cells h0x;simp only [Nat.zero_mul, Nat.zero_add] at c0 c1 c2 c3 c4 c5 c6
  have HZ : Hid (∀ x ∈ xs ++ [xs[0]], ItG x) := Lib.hid (fun y hy => by
   rcases List.mem_append.1 hy with hy | hy
   ·exact HXZ.out y hy
   ·rw [List.mem_singleton.1 hy]; exact HXZ.out _ (List.getElem_mem h0x))
  have HXV := Lib.hid (itV_snoc xs xs[0]);have HLN : Hid ((xs ++ [xs[0]]).length = n + 1) := Lib.hid (by simp; omega);unfold itC at HXV;generalize xs[0] = z at *
  have j0 : (0 : Int) < (n : Int) := by omega
  have own4' : w4.ownsRow w.heap.size 79 7 (.slice (some ⟨g, 0, none⟩) n cap) n (itV xs) := own4
  go_wp2_with (at_builtin; refine wpList_append_lies _ rfl _ _ _ rfl w.heap.size 79 i0 _ 7 96 Tryz.underlying26 hi0 hz0 hz1 hz2 rfl (by omega) (.slice (some ⟨g, 0, none⟩) n cap) n (itV xs) rfl (own4'.alloc _) ⟨w4.heap.size, 0, none⟩ 1 1 [.string ⟨z.id.toArray⟩, .string ⟨z.cust.toArray⟩, .int .i64 z.kind, .string ⟨z.name.toArray⟩, .int .i64 z.tm, .string ⟨z.par.toArray⟩, .string ⟨z.text.toArray⟩] rfl rfl (World.news_of_block (cs := #[.string ⟨z.id.toArray⟩, .string ⟨z.cust.toArray⟩, .int .i64 z.kind, .string ⟨z.name.toArray⟩, .int .i64 z.tm, .string ⟨z.par.toArray⟩, .string ⟨z.text.toArray⟩]) (t := 79) (fr := (0, 0)) (heap_alloc_new w4 _)) (by simp [Value.oneCell']) (by omega) (by simp [maxLen]; omega) (by omega) (by have := m4.size; simp; omega) (w4.heap.size + 1) (by simp) ?_; intro g5 cap5 w5 hown5 hgrow hat hlt5)
  go_ret;refine ⟨_, xs ++ [z], rfl, by rw [HLN.out]; omega, HZ.out, ?_, (hS4.alloc _ |>.mod (S := fun k => (Value.slice (some ⟨g, 0, none⟩) n cap).ownBlock = some k) ⟨hgrow.os, hgrow.tape, hgrow.output, hgrow.size, fun k hk hs => hgrow.block k hk (fun x => hs x.symm)⟩ (fun i hi hk => by have := own_block own4' i hk; omega)).more (by omega), (m4.alloc _).grown hgrow (fun k hk => .inr (by have := own_block own4' k hk; omega))⟩;rw [HXV.out, HLN.out]
  simpa using hown5
 have s2' : (sw == 2) = false := by simpa using s2
 by_cases s3 : sw = 3
 ·subst s3;have c2 := (own4.cells hkx).2.2.1;have HSI := Lib.hid (fun (W : World) (h : OwnI W w.heap.size g n cap xs) z => h.setKind hkx z);have HZ : Hid (∀ z, ∀ x ∈ xs.set kk { xs[kk] with kind := z }, ItG x) := Lib.hid (fun z => set_all HXZ.out ((HXZ.out _ (List.getElem_mem hkx)).kind z));have HCC := Lib.hid (fun (W : World) (h : OwnI W w.heap.size g n cap xs) => (h.cells hkx).2.2.1)
  go_wp2_with fail
  refine (odd_calls _ b _ _ _ hS4 (by omega) (by omega) (by omega) (by omega)).mono ?_;rintro e w5 ⟨z, _, _, rfl, hS5, hM5⟩;have own5 := own4.mod hM5 (by omega);have m5 := m4.trans hM5;have d2 := HCC.out _ own5;have f2 := own5.frozen (kk * 7 + 2);have HO := Lib.hid (HSI.out _ own5 z);have HZ2 := Lib.hid (HZ.out z);clear hS4 own4 m4 hM5 own5 HSI HCC HZ c2;generalize xs.set kk { xs[kk] with kind := z } = ys at *
  go_wp2_with fail
  go_ret;exact DONE.out _ _ HZ2.out HO.out ((hS5.setR hbg _ _).more (by omega)) (m5.setR hmg _ _)
 have s3' : (sw == 3) = false := by simpa using s3
 clear s0 s1 s2 s3 hkx hkn i3 i4;obtain ⟨base, hbase⟩ : ∃ base, base = w.heap.size := ⟨_, rfl⟩;rw [← hbase] at own4 DONE;clear hbase
 go_wp2_with fail
 go_loopg [24] 4 (fun gk i wr => Im4 w b (N + 142 * m + 3) base g n cap gk i wr)
 case atStart => exact ⟨0, xs, rfl, by omega, rfl, HXZ.out, own4, hS4.more (by omega), m4⟩
 case round =>
  clear HXZ own4 hS4 m4 hn1 hn2;obtain ⟨j, ys, rfl, hj, rfl, hyz, hown, hS, hmm⟩ := hrel;have hyl := hown.len
  by_cases hlt : j < 4
  ·have HYZ := Lib.hid hyz;clear hyz
   go_wp2_with fail
   refine (next_calls _ b _ _ hS (by omega) (by omega) (by omega)).mono ?_;rintro e w5 ⟨p, hp0, hp1, rfl, hS5, hM5⟩;obtain ⟨p, rfl⟩ := Int.eq_ofNat_of_zero_le hp0;have own5 := hown.mod hM5 (by omega);have m5 := hmm.trans hM5;clear hS hown hmm hM5
   go_wp2_with fail
   refine (next_calls _ b _ _ hS5 (by omega) (by omega) (by omega)).mono ?_;rintro e w6 ⟨q, hq0, hq1, rfl, hS6, hM6⟩;obtain ⟨q, rfl⟩ := Int.eq_ofNat_of_zero_le hq0;have own6 := own5.mod hM6 (by omega);have m6 := m5.trans hM6
   have hpy : p < ys.length := by omega
   have hqy : q < ys.length := by omega
   have c0 := (own6.cells hqy).1;have c1 := (own6.cells hpy).2.2.2.2.2.1;have c2 := own6.frozen (p * 7 + 5);have HO := Lib.hid (own6.setPar hpy ys[q].id);have HZ1 : Hid (∀ x ∈ ys.set p { ys[p] with par := ys[q].id }, ItG x) := Lib.hid (set_all HYZ.out ((HYZ.out _ (List.getElem_mem hpy)).par (by have := (HYZ.out _ (List.getElem_mem hqy)).1; omega)));clear hS5 own5 m5 hM6 own6 hp0 hq0 hyl HYZ;generalize ys.set p { ys[p] with par := ys[q].id } = y1 at *;generalize ys[q].id = qid at *;generalize ys[p].par = ppar at *
   have j1 : (0 : Int) ≤ (p : Int) := by omega
   have j3 : (0 : Int) ≤ (q : Int) := by omega
   go_wp2_with fail
   go_roundg (4 - (j + 1))
   case measure => omega
   case rel => exact ⟨j + 1, y1, rfl, by omega, by simp, HZ1.out, HO.out, (hS6.setR hbg _ _).more (by omega), m6.setR hmg _ _⟩
  ·obtain rfl : j = 4 := by omega
   have HYZ := Lib.hid hyz;clear hyz
   go_wp2_with fail
   go_ret;exact DONE.out _ ys HYZ.out hown (hS.more (by omega)) hmm
theorem items_calls (w : World) (b N m : Nat) (mI : Int) (hmI : mI = (m : Int)) (hS : Strm w b N) (hN : N ≤ 600000000) (hm : m ≤ 20) (hE : ∀ W, Mod (· = b) w W → Env W) : Calls Tryz.prog 6 #[.pointer (some ⟨b, 0, none⟩), .int .i64 mI] w (ItemsPost w b (N + 142 * m + 160) (m + 1)) :=
 (items_callsG w b N m mI hmI hS hN hm hE).mono fun _ _ h => h.b
end Go.Proofs.YtgfgggeeoeppjaaGreatDoor
/- Two hex digits as strconv reads them. -/
namespace Go.Proofs.YtgfgggeeoeppjaaGreatDoor
open Go.RowKit
def hv (x : Nat) : Nat := if 48 ≤ x ∧ x ≤ 57 then x - 48 else if 97 ≤ (x ||| 32) ∧ (x ||| 32) ≤ 122 then (x ||| 32) - 87 else 255
theorem hv_hexV (c : UInt8) : (hv c.toNat < 16 ↔ hexV c < 16) ∧ (hv c.toNat < 16 → hv c.toNat = hexV c) := by
 have key : ∀ n : Fin 256, (hv (UInt8.ofNat n.val).toNat < 16 ↔ hexV (UInt8.ofNat n.val) < 16) ∧ (hv (UInt8.ofNat n.val).toNat < 16 → hv (UInt8.ofNat n.val).toNat = hexV (UInt8.ofNat n.val)) := by decide +kernel
 have := key ⟨c.toNat, c.toNat_lt⟩
 simpa using this
def SameInt (w : World) (v : Value) (e : Ending) (w' : World) : Prop := e = .returned v ∧ w = w'
set_option maxHeartbeats 400000 in
theorem lower_calls (w : World) (x : Nat) (hx : x < 256) : Calls Tryz.prog 257 #[.int .u8 (x : Int)] w (SameInt w (.int .u8 ((x ||| 32 : Nat) : Int))) := by
 have h := u8_or_nat x 32 hx (by omega);have h' : bits BinOp.or IntKind.u8 (x : Int) 32 = ((x ||| 32 : Nat) : Int) := h;clear h;generalize x ||| 32 = y at *
 go_enter Tryz.func257, Tryz.ntmps257
 go_wp2_with fail
 go_ret;exact ⟨rfl, rfl⟩
def num2 (a b : Nat) : Nat → Nat
 | 0 => 0
 | 1 => hv a
 | _ => hv a * 16 + hv b
def nth2 (a b : Nat) : Nat → Nat
 | 0 => a
 | _ => b
def PuRel (W : World) (a b gk : Nat) (un n i : Value) (wr : World) : Prop :=
 ∃ k : Nat, un = .bool false ∧ 2 - k = gk ∧ k ≤ 2 ∧ i = .int .i64 (k : Int) ∧ n = .int .u64 ((num2 a b k : Nat) : Int) ∧ (∀ j, j < k → hv (nth2 a b j) < 16) ∧ W = wr
def PuPost (w : World) (a b : Nat) (e : Ending) (w' : World) : Prop :=
 ((hv a < 16 ∧ hv b < 16 ∧ e = .returned (.tuple #[.int .u64 ((hv a * 16 + hv b : Nat) : Int), .nilIface])) ∨ (¬ (hv a < 16 ∧ hv b < 16) ∧ e = .returned (.tuple #[.int .u64 0, .iface 277 (.int .i64 2)]))) ∧ Pure w w'
theorem num2_step (a b k : Nat) (hk : k < 2) : num2 a b (k + 1) = num2 a b k * 16 + hv (nth2 a b k) := by
 rcases (show k = 0 ∨ k = 1 by omega) with rfl | rfl
 ·simp [num2, nth2]
 ·rfl
theorem num2_lt (a b k : Nat) (hk : k < 2) (h : ∀ j, j < k → hv (nth2 a b j) < 16) : num2 a b k < 16 := by
 rcases (show k = 0 ∨ k = 1 by omega) with rfl | rfl
 ·simp [num2]
 ·exact h 0 (by omega)
theorem bytes_pure2 (w : World) (e : TypeId) (s : ByteArray) : Pure w (Lib.bytesWorld w e s) := by
 refine ⟨?_, ?_, ?_, by rw [Lib.bytesWorld_size]; omega, fun k hk _ => Lib.bytesWorld_at_old w e s k hk⟩
 all_goals
  unfold Lib.bytesWorld World.freeze
  split <;> rfl
set_option maxHeartbeats 2000000 in
theorem iparse_calls (w : World) (x y : UInt8) : Calls Tryz.prog 227 #[.string ⟨#[x, y]⟩, .int .i64 16, .int .i64 8] w (PuPost w x.toNat y.toNat) := by
 have hcv := fun W s => Lib.run_convert_string_bytes (P := Tryz.prog) W 9 135 5 s Tryz.underlying9 Tryz.underlying135 Tryz.underlying5
 have hc : ∀ k, k < 2 → (Lib.bytesWorld w 5 ⟨#[x, y]⟩).cell? ⟨w.heap.size, k, none⟩ = some (.int .u8 ((nth2 x.toNat y.toNat k : Nat) : Int)) := by
  intro k hk;rw [Lib.bytesWorld_cell w _ _ k (by simpa [ByteArray.size] using hk)]
  rcases (show k = 0 ∨ k = 1 by omega) with rfl | rfl <;> rfl
 have HC := Lib.hid hc;have HPU := Lib.hid (bytes_pure2 w 5 ⟨#[x, y]⟩);have hal := x.toNat_lt;have hbl := y.toNat_lt;clear hc
 go_enter Tryz.func227, Tryz.ntmps227
 go_wp2_with fail
 clear hcv;generalize Lib.bytesWorld w 5 ⟨#[x, y]⟩ = W at *;generalize x.toNat = a at *;generalize y.toNat = b at *
 go_loopg [12, 13, 101] 2 (fun gk un n i wr => PuRel W a b gk un n i wr)
 case atStart => exact ⟨0, rfl, rfl, by omega, rfl, rfl, fun j hj => absurd hj (by omega), rfl⟩
 case round =>
  obtain ⟨k, rfl, rfl, hk, rfl, rfl, hall, rfl⟩ := hrel;have HALL := Lib.hid hall;clear hall
  by_cases hlt : k < 2
  ·have hq := HC.out k hlt;have HST := Lib.hid (num2_step a b k hlt);have hn16 := num2_lt a b k hlt HALL.out
   have hd256 : nth2 a b k < 256 := by rcases (show k = 0 ∨ k = 1 by omega) with rfl | rfl <;> assumption
   have HBAD : Hid (16 ≤ hv (nth2 a b k) → ¬ (hv a < 16 ∧ hv b < 16)) := Lib.hid (by
    intro h1 h2
    rcases (show k = 0 ∨ k = 1 by omega) with rfl | rfl
    ·exact absurd h2.1 (by show ¬ hv (nth2 a b 0) < 16; omega)
    ·exact absurd h2.2 (by show ¬ hv (nth2 a b 1) < 16; omega))
   have HALL2 : Hid (hv (nth2 a b k) < 16 → ∀ j, j < k + 1 → hv (nth2 a b j) < 16) := Lib.hid (by
    intro h1 j hj
    by_cases e : j = k
    ·subst e; exact h1
    ·exact HALL.out j (by omega))
   obtain ⟨z, hz⟩ : ∃ z : Int, ((num2 a b k : Nat) : Int) = z := ⟨_, rfl⟩;have HST2 : Hid (((num2 a b (k + 1) : Nat) : Int) = z * 16 + ((hv (nth2 a b k) : Nat) : Int)) := Lib.hid (by rw [HST.out, ← hz]; omega)
   have z0 : 0 ≤ z := by omega
   have z1 : z < 16 := by omega
   rw [hz];clear hz HST hn16
   have c1 : ¬ ((1152921504606846976 : Int) ≤ z) := by omega
   generalize hdd : nth2 a b k = d at *;clear hdd
   by_cases h95 : d = 95
   ·subst h95;have HLO := Lib.hid (fun W => lower_calls W 95 hd256);have HF := Lib.hid (HBAD.out (by decide));clear hd256
    go_wp2_with fail
    refine (HLO.out _).mono ?_;rintro e w' ⟨rfl, rfl⟩
    go_wp2_with fail
    refine (HLO.out _).mono ?_;rintro e w' ⟨rfl, rfl⟩
    go_wp2_with fail
    go_ret2
    exact ⟨.inr ⟨HF.out, rfl⟩, HPU.out⟩
   have b95 : ((d : Int) == 95) = false := by simp; omega
   clear h95
   by_cases hA : 48 ≤ d ∧ d ≤ 57
   ·obtain ⟨hA1, hA2⟩ := hA
    have v1 : (48 : Int) ≤ (d : Int) := by omega
    have v2 : (d : Int) ≤ 57 := by omega
    have dv1 : decide (48 ≤ d) = true := by simp; omega
    have dv2 : decide (d ≤ 57) = true := by simp; omega
    have HV : Hid (hv d = d - 48) := Lib.hid (if_pos ⟨hA1, hA2⟩);have HF : Hid (hv d < 16) := Lib.hid (by rw [HV.out]; omega)
    have w3 : ¬ ((16 : Int) ≤ (d : Int) - 48) := by omega
    go_wp2_with fail
    go_roundg (2 - (k + 1))
    case measure => omega
    case rel => exact ⟨k + 1, rfl, rfl, by omega, by simp, by rw [HST2.out, HV.out]; congr 1; omega, HALL2.out HF.out, rfl⟩
   ·by_cases hlo : d < 48
    ·have hy256 : d ||| 32 < 256 := Nat.or_lt_two_pow (n := 8) hd256 (by omega);have HLO := Lib.hid (fun W => lower_calls W d hd256);have HV : Hid (hv d = if 97 ≤ (d ||| 32) ∧ (d ||| 32) ≤ 122 then (d ||| 32) - 87 else 255) := Lib.hid (if_neg hA);generalize d ||| 32 = y at *
     have v1 : ¬ ((48 : Int) ≤ (d : Int)) := by omega
     have dv1 : decide (48 ≤ d) = false := by simp; omega
     by_cases hl1 : 97 ≤ y
     ·have w1 : (97 : Int) ≤ (y : Int) := by omega
      have dw1 : decide (97 ≤ y) = true := by simpa using hl1
      by_cases hl2 : y ≤ 122
      ·have w2 : (y : Int) ≤ 122 := by omega
       have dw2 : decide (y ≤ 122) = true := by simpa using hl2
       have HV2 : Hid (hv d = y - 87) := Lib.hid (by rw [HV.out, if_pos ⟨hl1, hl2⟩]);clear HV
       by_cases h16 : y - 87 < 16
       ·have w3 : ¬ ((16 : Int) ≤ (y : Int) - 97 + 10) := by omega
        have HF : Hid (hv d < 16) := Lib.hid (by rw [HV2.out]; exact h16)
        go_wp2_with fail
        refine (HLO.out _).mono ?_;rintro e w' ⟨rfl, rfl⟩
        go_wp2_with fail
        refine (HLO.out _).mono ?_;rintro e w' ⟨rfl, rfl⟩
        go_wp2_with fail
        refine (HLO.out _).mono ?_;rintro e w' ⟨rfl, rfl⟩
        go_wp2_with fail
        go_roundg (2 - (k + 1))
        case measure => omega
        case rel => exact ⟨k + 1, rfl, rfl, by omega, by simp, by rw [HST2.out, HV2.out]; congr 1; omega, HALL2.out HF.out, rfl⟩
       ·have w3 : (16 : Int) ≤ (y : Int) - 97 + 10 := by omega
        have HF := Lib.hid (HBAD.out (by rw [HV2.out]; omega))
        go_wp2_with fail
        refine (HLO.out _).mono ?_;rintro e w' ⟨rfl, rfl⟩
        go_wp2_with fail
        refine (HLO.out _).mono ?_;rintro e w' ⟨rfl, rfl⟩
        go_wp2_with fail
        refine (HLO.out _).mono ?_;rintro e w' ⟨rfl, rfl⟩
        go_wp2_with fail
        go_ret2
        exact ⟨.inr ⟨HF.out, rfl⟩, HPU.out⟩
      ·have w2 : ¬ ((y : Int) ≤ 122) := by omega
       have dw2 : decide (y ≤ 122) = false := by simpa using hl2
       have HF := Lib.hid (HBAD.out (by rw [HV.out, if_neg (by omega)]; omega))
       go_wp2_with fail
       refine (HLO.out _).mono ?_;rintro e w' ⟨rfl, rfl⟩
       go_wp2_with fail
       refine (HLO.out _).mono ?_;rintro e w' ⟨rfl, rfl⟩
       go_wp2_with fail
       go_ret2
       exact ⟨.inr ⟨HF.out, rfl⟩, HPU.out⟩
     ·have w1 : ¬ ((97 : Int) ≤ (y : Int)) := by omega
      have dw1 : decide (97 ≤ y) = false := by simpa using hl1
      have HF := Lib.hid (HBAD.out (by rw [HV.out, if_neg (by omega)]; omega))
      go_wp2_with fail
      refine (HLO.out _).mono ?_;rintro e w' ⟨rfl, rfl⟩
      go_wp2_with fail
      go_ret2
      exact ⟨.inr ⟨HF.out, rfl⟩, HPU.out⟩
    ·have hy256 : d ||| 32 < 256 := Nat.or_lt_two_pow (n := 8) hd256 (by omega);have HLO := Lib.hid (fun W => lower_calls W d hd256);have HV : Hid (hv d = if 97 ≤ (d ||| 32) ∧ (d ||| 32) ≤ 122 then (d ||| 32) - 87 else 255) := Lib.hid (if_neg hA);generalize d ||| 32 = y at *
     have v1 : (48 : Int) ≤ (d : Int) := by omega
     have v2 : ¬ ((d : Int) ≤ 57) := by omega
     have dv1 : decide (48 ≤ d) = true := by simp; omega
     have dv2 : decide (d ≤ 57) = false := by simp; omega
     by_cases hl1 : 97 ≤ y
     ·have w1 : (97 : Int) ≤ (y : Int) := by omega
      have dw1 : decide (97 ≤ y) = true := by simpa using hl1
      by_cases hl2 : y ≤ 122
      ·have w2 : (y : Int) ≤ 122 := by omega
       have dw2 : decide (y ≤ 122) = true := by simpa using hl2
       have HV2 : Hid (hv d = y - 87) := Lib.hid (by rw [HV.out, if_pos ⟨hl1, hl2⟩]);clear HV
       by_cases h16 : y - 87 < 16
       ·have w3 : ¬ ((16 : Int) ≤ (y : Int) - 97 + 10) := by omega
        have HF : Hid (hv d < 16) := Lib.hid (by rw [HV2.out]; exact h16)
        go_wp2_with fail
        refine (HLO.out _).mono ?_;rintro e w' ⟨rfl, rfl⟩
        go_wp2_with fail
        refine (HLO.out _).mono ?_;rintro e w' ⟨rfl, rfl⟩
        go_wp2_with fail
        refine (HLO.out _).mono ?_;rintro e w' ⟨rfl, rfl⟩
        go_wp2_with fail
        go_roundg (2 - (k + 1))
        case measure => omega
        case rel => exact ⟨k + 1, rfl, rfl, by omega, by simp, by rw [HST2.out, HV2.out]; congr 1; omega, HALL2.out HF.out, rfl⟩
       ·have w3 : (16 : Int) ≤ (y : Int) - 97 + 10 := by omega
        have HF := Lib.hid (HBAD.out (by rw [HV2.out]; omega))
        go_wp2_with fail
        refine (HLO.out _).mono ?_;rintro e w' ⟨rfl, rfl⟩
        go_wp2_with fail
        refine (HLO.out _).mono ?_;rintro e w' ⟨rfl, rfl⟩
        go_wp2_with fail
        refine (HLO.out _).mono ?_;rintro e w' ⟨rfl, rfl⟩
        go_wp2_with fail
        go_ret2
        exact ⟨.inr ⟨HF.out, rfl⟩, HPU.out⟩
      ·have w2 : ¬ ((y : Int) ≤ 122) := by omega
       have dw2 : decide (y ≤ 122) = false := by simpa using hl2
       have HF := Lib.hid (HBAD.out (by rw [HV.out, if_neg (by omega)]; omega))
       go_wp2_with fail
       refine (HLO.out _).mono ?_;rintro e w' ⟨rfl, rfl⟩
       go_wp2_with fail
       refine (HLO.out _).mono ?_;rintro e w' ⟨rfl, rfl⟩
       go_wp2_with fail
       go_ret2
       exact ⟨.inr ⟨HF.out, rfl⟩, HPU.out⟩
     ·have w1 : ¬ ((97 : Int) ≤ (y : Int)) := by omega
      have dw1 : decide (97 ≤ y) = false := by simpa using hl1
      have HF := Lib.hid (HBAD.out (by rw [HV.out, if_neg (by omega)]; omega))
      go_wp2_with fail
      refine (HLO.out _).mono ?_;rintro e w' ⟨rfl, rfl⟩
      go_wp2_with fail
      go_ret2
      exact ⟨.inr ⟨HF.out, rfl⟩, HPU.out⟩
  ·obtain rfl : k = 2 := by omega
   have h1 := HALL.out 0 (by omega);have h2 := HALL.out 1 (by omega)
   go_wp2_with fail
   go_ret2
   exact ⟨.inl ⟨h1, h2, rfl⟩, HPU.out⟩
end Go.Proofs.YtgfgggeeoeppjaaGreatDoor
/-
 DERIVED: THE SHELF's CONTRACTS AT THIS DUMP, IN PLAIN WORDS (tools/lay-plain.mjs out of 'YtgfgggeeoeppjaaGreatDoorLaySyn.lean', which tools/lay-shelf.mjs wrote): THE SAME DECLARATIONS UNDER THE SAME NAMES: 'import', 'namespace', 'open', 'def', 'theorem' AND NOTHING ELSE: no command of the shelf's: FOR A HAND-IN. Each laying: the table of numbers ('.._ren') and one theorem, a field a fact of the dump's own or the kernel's comparison; each contract: ONE APPLICATION.
-/
namespace Go.Proofs
open Go.Shelf
def Tryz.laysM279_ren : Go.Shelf.Ren := ⟨fun | 279 => 241 | 316 => 267 | n => n, fun | 9 => 9 | 168 => 280 | 75 => 141 | 210 => 308 | 3 => 3 | 4 => 4 | 37 => 135 | 0 => 0 | 127 => 203 | 80 => 146 | 5 => 5 | n => n, fun | 15 => 6 | n => n⟩
theorem Tryz.laysM279 : Go.Proofs.LaysM.n279 Tryz.prog Tryz.laysM279_ren := {
 mixed := by kernel_rfl
 f279 := Tryz.func241.trans (congrArg some (by kernel_rfl))
 f316 := Tryz.func267.trans (congrArg some (by kernel_rfl))
 t0 := Tryz.underlying0
 a0 := Tryz.isAgg0
 z0 := Tryz.sizeOf0
 v0 := Tryz.zeroValue0
 t3 := Tryz.underlying3
 a3 := Tryz.isAgg3
 z3 := Tryz.sizeOf3
 v3 := Tryz.zeroValue3
 t4 := Tryz.underlying4
 a4 := Tryz.isAgg4
 z4 := Tryz.sizeOf4
 v4 := Tryz.zeroValue4
 t9 := Tryz.underlying9
 a9 := Tryz.isAgg9
 z9 := Tryz.sizeOf9
 v9 := Tryz.zeroValue9
 t37 := Tryz.underlying135
 a37 := Tryz.isAgg135
 z37 := Tryz.sizeOf135
 v37 := Tryz.zeroValue135
 t75 := Tryz.underlying141
 a75 := Tryz.isAgg141
 z75 := Tryz.sizeOf141
 v75 := Tryz.zeroValue141
 t127 := Tryz.underlying203
 a127 := Tryz.isAgg203
 z127 := Tryz.sizeOf203
 v127 := Tryz.zeroValue203
 t168 := Tryz.underlying280
 a168 := Tryz.isAgg280
 z168 := Tryz.sizeOf280
 v168 := Tryz.zeroValue280
 t210 := Tryz.underlying308
 a210 := Tryz.isAgg308
 z210 := Tryz.sizeOf308
 v210 := Tryz.zeroValue308
 g15 := by kernel_rfl
 t5 := Tryz.underlying5
 a5 := Tryz.isAgg5
 z5 := Tryz.sizeOf5
 v5 := Tryz.zeroValue5
 t80 := Tryz.underlying146
 a80 := Tryz.isAgg146
 z80 := Tryz.sizeOf146
 v80 := Tryz.zeroValue146
 i0 := by kernel_rfl
 i3 := by kernel_rfl
 i4 := by kernel_rfl
 i5 := by kernel_rfl
 i9 := by kernel_rfl
 i37 := by kernel_rfl
 i75 := by kernel_rfl
 i80 := by kernel_rfl
 i127 := by kernel_rfl
 i168 := by kernel_rfl
 i210 := by kernel_rfl
 m15 := by kernel_rfl }
end Go.Proofs
/- Quoted strings: escaped and Unquote of package intake. -/
namespace Go.Proofs.YtgfgggeeoeppjaaGreatDoor
open Go.RowKit
def ErrS (w : World) : Prop := ∃ te pe, w.cell? ⟨6, 0, none⟩ = some (.iface te pe)
theorem ErrS.pure {w w' : World} (h : ErrS w) (hm : Pure w w') : ErrS w' := by
 obtain ⟨te, pe, h⟩ := h;exact ⟨te, pe, hm.keep h id⟩
def ErrPost (w : World) (e : Ending) (w' : World) : Prop := ∃ N, e = .returned (.iface 280 (.pointer (some ⟨N, 0, none⟩))) ∧ Pure w w'
set_option maxHeartbeats 1000000 in
theorem toError_calls (w : World) (fn s : ByteArray) (hs : s.size ≤ 1000000) (hE : ErrS w) : Calls Tryz.prog 191 #[.string fn, .string s, .int .i64 16, .int .i64 8, .iface 277 (.int .i64 2)] w (ErrPost w) := by
 obtain ⟨te, pe, hv⟩ := hE;have HC := Lib.hid (Any.strconv_syntaxError Tryz.laysM279 fn s (.iface te pe) w (by omega) hv (.inr ⟨te, pe, rfl⟩))
 have heq : ∀ W, (binOp .eql 141 (.iface 277 (.int .i64 2)) (.iface 277 (.int .i64 2))).run Tryz.prog W = .ok (.bool true) W := fun W => by kernel_rfl
 clear hv
 go_enter Tryz.func191, Tryz.ntmps191
 go_wp2_with fail
 refine HC.out.mono ?_;rintro e w1 ⟨N, rfl, hN, _, hb⟩
 go_wp2_with fail
 go_ret;exact ⟨N, rfl, Mod.of_below hb⟩
def PsPost (w : World) (a b : Nat) (e : Ending) (w' : World) : Prop :=
 ((hv a < 16 ∧ hv b < 16 ∧ e = .returned (.tuple #[.int .u64 ((hv a * 16 + hv b : Nat) : Int), .nilIface])) ∨ (¬ (hv a < 16 ∧ hv b < 16) ∧ ∃ n N, e = .returned (.tuple #[.int .u64 n, .iface 280 (.pointer (some ⟨N, 0, none⟩))]))) ∧ Pure w w'
set_option maxHeartbeats 1000000 in
theorem parse_calls (w : World) (x y : UInt8) (hE : ErrS w) : Calls Tryz.prog 177 #[.string ⟨#[x, y]⟩, .int .i64 16, .int .i64 8] w (PsPost w x.toNat y.toNat) := by
 have HE := Lib.hid hE;clear hE
 go_enter Tryz.func177, Tryz.ntmps177
 go_wp2_with fail
 refine (iparse_calls _ x y).mono ?_;rintro e w1 ⟨h | h, hm⟩
 ·obtain ⟨h1, h2, rfl⟩ := h;have H1 := Lib.hid h1;have H2 := Lib.hid h2;clear h1 h2
  go_wp2_with fail
  go_ret2
  exact ⟨.inl ⟨H1.out, H2.out, rfl⟩, hm⟩
 ·obtain ⟨h1, rfl⟩ := h;have H1 := Lib.hid h1;have HT := Lib.hid (fun fn => toError_calls w1 fn ⟨#[x, y]⟩ (by simp [ByteArray.size]) (HE.out.pure hm));clear h1
  go_wp2_with fail
  refine (HT.out _).mono ?_;rintro e w2 ⟨N, rfl, hm2⟩
  go_wp2_with fail
  go_ret2
  exact ⟨.inr ⟨H1.out, _, N, rfl⟩, hm.trans hm2⟩
theorem prefix_calls (w : World) (s p : ByteArray) : Calls Tryz.prog 134 #[.string s, .string p] w fun e w' => e = .returned (.bool (p.data.toList.isPrefixOf s.data.toList)) ∧ w = w' := by
 refine (Any.strings_HasPrefix Tryz.lays99 s p w).mono ?_;rintro e w' ⟨rfl, rfl⟩;exact ⟨rfl, rfl⟩
def EscPost (w : World) (l : Str) (e : Ending) (w' : World) : Prop := e = .returned (.tuple #[.int .u8 ((escP l).1.toNat : Int), .int .i64 ((escP l).2 : Int)]) ∧ Pure w w'
theorem at0 (c : UInt8) (r : Str) : ∀ h, (⟨(c :: r).toArray⟩ : ByteArray)[0]'h = c := fun _ => rfl
theorem at1 (c d : UInt8) (r : Str) : ∀ h, (⟨(c :: d :: r).toArray⟩ : ByteArray)[1]'h = d := fun _ => rfl
theorem u8_eq {c d : UInt8} (h : c.toNat = d.toNat) : c = d := UInt8.toNat_inj.1 h
theorem ne_int {c : UInt8} {n : Nat} (hn : n < 256) (hc : c ≠ UInt8.ofNat n) : c.toNat ≠ n := by
 intro h
 apply hc
 apply u8_eq
 simp
 omega
set_option maxHeartbeats 2000000 in
theorem escaped1_calls (w : World) (c : UInt8) (r : Str) (hc : c ≠ 92) (hr : r.length ≤ 100000) : Calls Tryz.prog 135 #[.string ⟨(c :: r).toArray⟩] w (EscPost w (c :: r)) := by
 have HE : Hid (escP (c :: r) = (c, 1)) := Lib.hid (by simp [escP, hc]);have h92 := ne_int (n := 92) (by omega) hc
 have hb : ((c.toNat : Int) != 92) = true := by simp; omega
 have hi := at0 c r;clear hc h92
 go_enter Tryz.func135, Tryz.ntmps135
 go_wp2_with fail
 go_ret2
 exact ⟨by rw [HE.out]; rfl, Mod.refl _ _⟩
set_option maxHeartbeats 2000000 in
theorem escaped2_calls (w : World) : Calls Tryz.prog 135 #[.string ⟨#[92]⟩] w (EscPost w [92]) := by
 go_enter Tryz.func135, Tryz.ntmps135
 go_wp2_with fail
 refine (prefix_calls _ _ _).mono ?_;rintro e w' ⟨rfl, rfl⟩;rw [show List.isPrefixOf (⟨#[92, 110]⟩ : ByteArray).data.toList (⟨#[92]⟩ : ByteArray).data.toList = false from rfl]
 go_wp2_with fail
 refine (prefix_calls _ _ _).mono ?_;rintro e w' ⟨rfl, rfl⟩;rw [show List.isPrefixOf (⟨#[92, 34]⟩ : ByteArray).data.toList (⟨#[92]⟩ : ByteArray).data.toList = false from rfl]
 go_wp2_with fail
 refine (prefix_calls _ _ _).mono ?_;rintro e w' ⟨rfl, rfl⟩;rw [show List.isPrefixOf (⟨#[92, 92]⟩ : ByteArray).data.toList (⟨#[92]⟩ : ByteArray).data.toList = false from rfl]
 go_wp2_with fail
 go_ret2
 exact ⟨rfl, Mod.refl _ _⟩
theorem pre2 (c d : UInt8) (x : UInt8) (r : Str) : List.isPrefixOf [x, d] (x :: c :: r) = (d == c) := by simp [List.isPrefixOf]
set_option maxHeartbeats 4000000 in
theorem escaped3_calls (w : World) (d : UInt8) (r : Str) (hr : r.length ≤ 100000) (hE : ErrS w) : Calls Tryz.prog 135 #[.string ⟨(92 :: d :: r).toArray⟩] w (EscPost w (92 :: d :: r)) := by
 have HE := Lib.hid hE;clear hE;have hi0 := at0 92 (d :: r);have hi1 := at1 92 d r
 have hz : (⟨(92 :: d :: r).toArray⟩ : ByteArray).size = r.length + 2 := by simp [ByteArray.size]
 have p1 : List.isPrefixOf (⟨#[92, 110]⟩ : ByteArray).data.toList (⟨(92 :: d :: r).toArray⟩ : ByteArray).data.toList = (110 == d) := pre2 d 110 92 r;have p2 : List.isPrefixOf (⟨#[92, 34]⟩ : ByteArray).data.toList (⟨(92 :: d :: r).toArray⟩ : ByteArray).data.toList = (34 == d) := pre2 d 34 92 r;have p3 : List.isPrefixOf (⟨#[92, 92]⟩ : ByteArray).data.toList (⟨(92 :: d :: r).toArray⟩ : ByteArray).data.toList = (92 == d) := pre2 d 92 92 r;have P1 := Lib.hid p1;have P2 := Lib.hid p2;have P3 := Lib.hid p3;clear p1 p2 p3
 by_cases h1 : d = 110
 ·subst h1
  go_enter Tryz.func135, Tryz.ntmps135
  go_wp2_with fail
  refine (prefix_calls _ _ _).mono ?_;rintro e w' ⟨rfl, rfl⟩;rw [P1.out]
  go_wp2_with fail
  go_ret2
  exact ⟨rfl, Mod.refl _ _⟩
 have q1 : ((110 : UInt8) == d) = false := by simpa using Ne.symm h1
 by_cases h2 : d = 34
 ·subst h2
  go_enter Tryz.func135, Tryz.ntmps135
  go_wp2_with fail
  refine (prefix_calls _ _ _).mono ?_;rintro e w' ⟨rfl, rfl⟩;rw [P1.out, q1]
  go_wp2_with fail
  refine (prefix_calls _ _ _).mono ?_;rintro e w' ⟨rfl, rfl⟩;rw [P2.out]
  go_wp2_with fail
  go_ret2
  exact ⟨rfl, Mod.refl _ _⟩
 have q2 : ((34 : UInt8) == d) = false := by simpa using Ne.symm h2
 by_cases h3 : d = 92
 ·subst h3
  go_enter Tryz.func135, Tryz.ntmps135
  go_wp2_with fail
  refine (prefix_calls _ _ _).mono ?_;rintro e w' ⟨rfl, rfl⟩;rw [P1.out, q1]
  go_wp2_with fail
  refine (prefix_calls _ _ _).mono ?_;rintro e w' ⟨rfl, rfl⟩;rw [P2.out, q2]
  go_wp2_with fail
  refine (prefix_calls _ _ _).mono ?_;rintro e w' ⟨rfl, rfl⟩;rw [P3.out]
  go_wp2_with fail
  go_ret2
  exact ⟨rfl, Mod.refl _ _⟩
 have q3 : ((92 : UInt8) == d) = false := by simpa using Ne.symm h3
 by_cases hl : r.length < 2
 ·have HX : Hid (escP (92 :: d :: r) = (0, 0)) := Lib.hid (by
   match r, hl with
   | [], _ => simp [escP, h1, h2, h3]
   | [_], _ => simp [escP, h1, h2, h3])
  have g4 : ¬ ((4 : Int) ≤ ((r.length : Nat) : Int) + 2) := by omega
  have g5 : decide (4 ≤ r.length + 2) = false := by simp; omega
  have g6 : ¬ (4 ≤ r.length + 2) := by omega
  clear h1 h2 h3
  go_enter Tryz.func135, Tryz.ntmps135
  go_wp2_with fail
  refine (prefix_calls _ _ _).mono ?_;rintro e w' ⟨rfl, rfl⟩;rw [P1.out, q1]
  go_wp2_with fail
  refine (prefix_calls _ _ _).mono ?_;rintro e w' ⟨rfl, rfl⟩;rw [P2.out, q2]
  go_wp2_with fail
  refine (prefix_calls _ _ _).mono ?_;rintro e w' ⟨rfl, rfl⟩;rw [P3.out, q3]
  go_wp2_with fail
  go_ret2
  exact ⟨by rw [HX.out]; rfl, Mod.refl _ _⟩
 ·by_cases h4 : d = 120
  ·subst h4
   obtain ⟨x, y, r3, rfl⟩ : ∃ x y r3, r = x :: y :: r3 := by
    match r, hl with
    | [], hl => exact absurd (by simp) hl
    | [_], hl => exact absurd (by simp) hl
    | x :: y :: r3, _ => exact ⟨x, y, r3, rfl⟩
   have hex : (⟨(92 :: 120 :: x :: y :: r3).toArray⟩ : ByteArray).extract 2 4 = ⟨#[x, y]⟩ := by
    apply ByteArray.ext
    simp [ByteArray.data_extract]
   have g4 : (4 : Int) ≤ (((x :: y :: r3).length : Nat) : Int) + 2 := by simp; omega
   have g5 : decide (4 ≤ (x :: y :: r3).length + 2) = true := by simp
   clear h1 h2 h3 hl
   go_enter Tryz.func135, Tryz.ntmps135
   go_wp2_with fail
   refine (prefix_calls _ _ _).mono ?_;rintro e w' ⟨rfl, rfl⟩;rw [P1.out, q1]
   go_wp2_with fail
   refine (prefix_calls _ _ _).mono ?_;rintro e w' ⟨rfl, rfl⟩;rw [P2.out, q2]
   go_wp2_with fail
   refine (prefix_calls _ _ _).mono ?_;rintro e w' ⟨rfl, rfl⟩;rw [P3.out, q3];have HK := Lib.hid (hv_hexV x);have HL := Lib.hid (hv_hexV y)
   go_wp2_with fail
   refine (parse_calls _ x y HE.out).mono ?_;rintro e w1 ⟨h | h, hm⟩
   ·obtain ⟨k1, k2, rfl⟩ := h;have e1 := HK.out.2 k1;have e2 := HL.out.2 k2
    have HX : Hid (escP (92 :: 120 :: x :: y :: r3) = (UInt8.ofNat (hv x.toNat * 16 + hv y.toNat), 4)) := Lib.hid (by
     have a1 := HK.out.1.1 k1;have a2 := HL.out.1.1 k2
     simp [escP, a1, a2, e1, e2])
    generalize hv x.toNat = p at *;generalize hv y.toNat = q at *;clear e1 e2 HK HL;obtain ⟨m, hm2⟩ : ∃ m, m = p * 16 + q := ⟨_, rfl⟩;rw [← hm2] at HX ⊢
    have hm256 : m < 256 := by omega
    have HM : Hid ((UInt8.ofNat m).toNat = m) := Lib.hid (by simp; omega);clear hm2
    go_wp2_with fail
    go_ret2
    exact ⟨by rw [HX.out]; show _ = Ending.returned (.tuple #[.int .u8 ((UInt8.ofNat m).toNat : Int), .int .i64 4]); rw [HM.out]; rfl, hm⟩
   ·obtain ⟨k1, n, N, rfl⟩ := h
    have HX : Hid (escP (92 :: 120 :: x :: y :: r3) = (0, 0)) := Lib.hid (by
     have a : ¬ (hexV x < 16 ∧ hexV y < 16) := fun h => k1 ⟨HK.out.1.2 h.1, HL.out.1.2 h.2⟩;simp only [escP]
     rw [if_neg (by simp), if_neg (by decide), if_neg (by decide), if_pos trivial, if_neg a])
    clear k1
    go_wp2_with fail
    go_ret2
    exact ⟨by rw [HX.out]; rfl, hm⟩
  ·have HX : Hid (escP (92 :: d :: r) = (0, 0)) := Lib.hid (by simp [escP, h1, h2, h3, h4])
   have g4 : (4 : Int) ≤ ((r.length : Nat) : Int) + 2 := by omega
   have g5 : decide (4 ≤ r.length + 2) = true := by simp; omega
   have g6 : 4 ≤ r.length + 2 := by omega
   have h120 := ne_int (n := 120) (by omega) h4
   have g7 : ((d.toNat : Int) == 120) = false := by simp; omega
   clear h1 h2 h3 h4 h120
   go_enter Tryz.func135, Tryz.ntmps135
   go_wp2_with fail
   refine (prefix_calls _ _ _).mono ?_;rintro e w' ⟨rfl, rfl⟩;rw [P1.out, q1]
   go_wp2_with fail
   refine (prefix_calls _ _ _).mono ?_;rintro e w' ⟨rfl, rfl⟩;rw [P2.out, q2]
   go_wp2_with fail
   refine (prefix_calls _ _ _).mono ?_;rintro e w' ⟨rfl, rfl⟩;rw [P3.out, q3]
   go_wp2_with fail
   go_ret2
   exact ⟨by rw [HX.out]; rfl, Mod.refl _ _⟩
theorem escaped_calls (w : World) (l : Str) (h0 : l ≠ []) (hl : l.length ≤ 100000) (hE : ErrS w) : Calls Tryz.prog 135 #[.string ⟨l.toArray⟩] w (EscPost w l) := by
 match l, h0, hl with
 | c :: r, _, hl =>
  by_cases hc : c = 92
  ·subst hc
   match r, hl with
   | [], _ => exact escaped2_calls w
   | d :: r2, hl => exact escaped3_calls w d r2 (by simp at hl; omega) hE
  ·exact escaped1_calls w c r hc (by simp at hl; omega)
end Go.Proofs.YtgfgggeeoeppjaaGreatDoor
/- Quoted strings: Unquote of package intake. -/
namespace Go.Proofs.YtgfgggeeoeppjaaGreatDoor
open Go.RowKit
theorem escP_le (l : Str) : (escP l).2 ≤ l.length := by
 rcases l with _ | ⟨c, _ | ⟨d, _ | ⟨e, _ | ⟨f, r⟩⟩⟩⟩ <;> simp only [escP] <;> repeat' split
 all_goals simp
theorem conv_own {w : World} {base n cap : Nat} {A : Option Addr} {l : Str} (h : w.ownsRow base 5 1 (.slice A n cap) n (Lib.byteCells l)) :
  (convert 135 9 (.slice A n cap)).run Tryz.prog w = .ok (.string ⟨l.toArray⟩) w := by
 have hn : l.length = n := by have := h.1; simp [Lib.byteCells] at this; omega
 obtain ⟨h0, h1 | ⟨g, c, cs, hv, hrest⟩⟩ := h
 ·obtain ⟨h1, h2⟩ := h1;have : l = [] := List.length_eq_zero_iff.1 (by omega);subst this
  cases h1
  exact run_convert_bytes_nil (P := Tryz.prog) w _ _ Tryz.underlying135 Tryz.underlying5 _ _ _ Tryz.underlying9
 ·cases hv
  have := run_convert_bytes_back (P := Tryz.prog) w 135 9 5 ⟨g, 0, none⟩ cap l Tryz.underlying135 Tryz.underlying5 Tryz.underlying9 (own_bytes (n := n) ⟨h0, .inr ⟨g, _, cs, rfl, hrest⟩⟩);rw [hn] at this;exact this
def UnqAt (l : Str) (k : Nat) (acc : Str) : Prop := k ≤ l.length ∧ ∃ f, (l.drop k).length < f ∧ unqF f (l.drop k) acc k = unqS l
theorem UnqAt.start (r : Str) : UnqAt (34 :: r) 1 [] := ⟨by simp, r.length + 1, by simp, rfl⟩
theorem UnqAt.end_ {l : Str} {acc : Str} (h : UnqAt l l.length acc) : unqS l = none := by
 obtain ⟨_, f, h1, h2⟩ := h;rw [List.drop_of_length_le (Nat.le_refl _)] at h1 h2;rw [← h2]
 match f, h1 with
 | f + 1, _ => rfl
theorem UnqAt.quote {l : Str} {k : Nat} {acc r : Str} (h : UnqAt l k acc) (hr : l.drop k = 34 :: r) : unqS l = some (acc, k + 1) := by
 obtain ⟨_, f, h1, h2⟩ := h;rw [hr] at h1 h2;rw [← h2]
 match f, h1 with
 | f + 1, _ => simp [unqF]
theorem UnqAt.bad {l : Str} {k : Nat} {acc r : Str} {c : UInt8} (h : UnqAt l k acc) (hr : l.drop k = c :: r) (hc : c ≠ 34) (hd : decP (c :: r) = none) : unqS l = none := by
 obtain ⟨_, f, h1, h2⟩ := h;rw [hr] at h1 h2;rw [← h2]
 match f, h1 with
 | f + 1, _ => simp [unqF, hc, hd]
theorem UnqAt.next {l : Str} {k : Nat} {acc r : Str} {c d : UInt8} {n : Nat} (h : UnqAt l k acc) (hr : l.drop k = c :: r) (hc : c ≠ 34) (hd : decP (c :: r) = some (d, n)) : UnqAt l (k + n) (acc ++ [d]) ∧ 1 ≤ n ∧ k + n ≤ l.length := by
 obtain ⟨hk, f, h1, h2⟩ := h;obtain ⟨hn, hp⟩ := decP_some hd;have hle := hp.length_le
 have h0 : 1 ≤ n := by
  rw [hn];unfold quoB
  split <;> (try split) <;> (try split) <;> simp
 have hlen : (l.drop k).length = l.length - k := List.length_drop ..;rw [← hr, ← hn, hlen] at hle;refine ⟨⟨by omega, ?_⟩, h0, by omega⟩;rw [hr] at h1 h2
 match f, h1, h2 with
 | f + 1, h1, h2 =>
  refine ⟨f, ?_, ?_⟩
  ·rw [List.length_drop];rw [← hr, hlen] at h1
   omega
  ·rw [← h2];simp only [unqF, hc, if_false, hd];rw [← hr, List.drop_drop]
def UnqPost (w : World) (l : Str) (e : Ending) (w' : World) : Prop :=
 ((unqS l = none ∧ e = .returned (.tuple #[.string ⟨#[]⟩, .int .i64 0, .int .i64 9])) ∨ ∃ out n, unqS l = some (out, n) ∧ e = .returned (.tuple #[.string ⟨out.toArray⟩, .int .i64 (n : Int), .int .i64 0])) ∧ Pure w w'
def UqRel (w : World) (l : Str) (base gk : Nat) (x a : Value) (wr : World) : Prop :=
 ∃ (k : Nat) (A : Option Addr) (cap : Nat) (acc : Str), l.length - k = gk ∧ 1 ≤ k ∧ a = .int .i64 (k : Int) ∧ x = .slice A acc.length cap ∧ acc.length ≤ k ∧ UnqAt l k acc ∧ wr.ownsRow base 5 1 (.slice A acc.length cap) acc.length (Lib.byteCells acc) ∧ Pure w wr ∧ base ≤ wr.heap.size
theorem ext_list (l : Str) (k n : Nat) : (⟨l.toArray⟩ : ByteArray).extract k (k + n) = ⟨((l.drop k).take n).toArray⟩ := by
 apply ByteArray.ext
 simp [ByteArray.data_extract]
set_option maxHeartbeats 4000000 in
theorem Unquote_calls (w : World) (l : Str) (hl : l.length ≤ 10000) (hE : ErrS w) : Calls Tryz.prog 74 #[.string ⟨l.toArray⟩] w (UnqPost w l) := by
 obtain ⟨i0, hi0, hz0, hz1, hz2⟩ := info_parts info_u8;have HE := Lib.hid hE
 have hz : (⟨l.toArray⟩ : ByteArray).size = l.length := by simp [ByteArray.size]
 clear hE;obtain ⟨s, hs⟩ : ∃ s : ByteArray, (⟨l.toArray⟩ : ByteArray) = s := ⟨_, rfl⟩;rw [hs] at hz;rw [hs];have HS0 := Lib.hid hs;clear hs
 by_cases hp : ∃ r, l = 34 :: r
 ·obtain ⟨r, hr⟩ := hp
  have p1 : List.isPrefixOf (⟨#[34]⟩ : ByteArray).data.toList s.data.toList = true := by rw [← HS0.out, hr]; simp [List.isPrefixOf]
  have HU0 : Hid (UnqAt l 1 []) := Lib.hid (by rw [hr]; exact .start r)
  have hl1 : 1 ≤ l.length := by rw [hr]; simp
  have P1 := Lib.hid p1;clear p1 hr;obtain ⟨base, hb⟩ : ∃ base, base = w.heap.size := ⟨_, rfl⟩;have hb1 := Nat.le_of_eq hb;have hb2 := Nat.le_of_eq hb.symm;clear hb
  go_enter Tryz.func74, Tryz.ntmps74
  go_wp2_with fail
  refine (prefix_calls _ _ _).mono ?_;rintro e w' ⟨rfl, rfl⟩;rw [P1.out]
  go_wp2_with fail
  go_loopg [5, 6] (l.length - 1) (fun gk x a wr => UqRel w l base gk x a wr)
  case atStart => exact ⟨1, none, 0, [], rfl, by omega, rfl, rfl, by simp, HU0.out, ⟨rfl, .inl ⟨rfl, rfl⟩⟩, Mod.refl _ _, hb1⟩
  case round =>
   clear HU0 P1;obtain ⟨k, A, cap, acc, rfl, hk1, rfl, rfl, hak, hu, hown, hm, hbig⟩ := hrel;have hkl := hu.1;have HU := Lib.hid hu;clear hu
   by_cases hlt : k < l.length
   ·obtain ⟨r, hr⟩ : ∃ r, l.drop k = l[k] :: r := ⟨_, List.drop_eq_getElem_cons hlt⟩;have HR := Lib.hid hr
    have hks : k < s.size := by omega
    have hgk : s[k] = l[k] := (by intro s hs; subst hs; intro _; rfl : ∀ s : ByteArray, (⟨l.toArray⟩ : ByteArray) = s → ∀ h, s[k]'h = l[k]) s HS0.out hks;have HG := Lib.hid hgk;clear hr hgk;have hc := s[k].toNat_lt;have HCV := Lib.hid (conv_own hown)
    by_cases h34 : s[k] = 34
    ·have HQ := Lib.hid (HU.out.quote (r := r) (by rw [HR.out, ← HG.out, h34]))
     have hv34 : s[k].toNat = 34 := by rw [h34]; rfl
     have hcv := HCV.out;clear HR HG HU HCV h34;generalize hcc : s[k].toNat = c at *;subst hv34
     go_wp2_with fail
     refine bodyPost_ret (v := .tuple #[.string ⟨acc.toArray⟩, .int .i64 ((k : Int) + 1), .int .i64 0]) (by simp [results, Tryz.results74, go_sem]) rfl ?_;exact ⟨.inr ⟨acc, k + 1, HQ.out, by simp⟩, hm⟩
    ·have hv34 : ((s[k].toNat : Int) == 34) = false := by
      have : s[k].toNat ≠ 34 := fun h => h34 (UInt8.toNat_inj.1 h);simp; omega
     have HC := Lib.hid (escaped_calls wr (l.drop k) (by rw [HR.out]; simp) (by simp; omega) (HE.out.pure hm))
     have hex : s.extract k l.length = ⟨(l.drop k).toArray⟩ := by
      rw [← HS0.out]
      apply ByteArray.ext
      simp only [ByteArray.data_extract, List.extract_toArray, List.extract_eq_take_drop];rw [List.take_of_length_le (by simp)]
     have hnl := escP_le (l.drop k);rw [List.length_drop] at hnl;have hd8 := (escP (l.drop k)).1.toNat_lt;have H34 : Hid (l[k] ≠ 34) := Lib.hid (by rw [← HG.out]; exact h34);clear HCV h34 HG;generalize hcc : s[k].toNat = c at *
     go_wp2_with fail
     refine HC.out.mono ?_;rintro e w1 ⟨rfl, hm1⟩;clear HC hex hcc hv34;have HX : Hid (s.extract k (k + (escP (l.drop k)).2) = ⟨((l.drop k).take (escP (l.drop k)).2).toArray⟩) := Lib.hid (by rw [← HS0.out, ext_list])
     have HB : Hid ((escP (l.drop k)).2 = 0 ∨ quoB (escP (l.drop k)).1 ≠ (l.drop k).take (escP (l.drop k)).2 → unqS l = none) := Lib.hid (fun h => HU.out.bad HR.out H34.out (by
      rw [← HR.out];unfold decP;rw [if_neg];rintro ⟨h1, h2⟩
      rcases h with h | h
      ·exact h1 h
      ·exact h h2))
     have HD : Hid ((escP (l.drop k)).2 ≠ 0 → quoB (escP (l.drop k)).1 = (l.drop k).take (escP (l.drop k)).2 → UnqAt l (k + (escP (l.drop k)).2) (acc ++ [(escP (l.drop k)).1]) ∧ 1 ≤ (escP (l.drop k)).2 ∧ k + (escP (l.drop k)).2 ≤ l.length) := Lib.hid (fun h1 h2 => HU.out.next (d := (escP (l.drop k)).1) HR.out H34.out (by
      rw [← HR.out];unfold decP
      rw [if_pos ⟨h1, h2⟩]))
     clear HU HR H34 HS0;generalize (escP (l.drop k)).2 = n at *
     have HQ : Hid (∀ W, Calls Tryz.prog 136 #[.int .u8 ((escP (l.drop k)).1.toNat : Int)] W (StrPost1 W (quoB (escP (l.drop k)).1))) := Lib.hid (fun W => by
      have := quoted_calls W _ hd8;rw [UInt8.ofNat_toNat] at this
      exact this)
     generalize (escP (l.drop k)).1 = d8 at *;generalize (l.drop k).take n = y at *;generalize quoB d8 = x at *;have hM := hm.trans hm1;have hown1 := own_pure hown hm1;have hbig1 : base ≤ w1.heap.size := Nat.le_trans hbig hm1.size;clear hm hm1 hown hbig
     go_wp2_with fail
     by_cases hn0 : n = 0
     ·subst hn0;have HN := Lib.hid (HB.out (.inl rfl));clear HB HD HX HQ;have HGs := Lib.hid (show ∀ (D : Nat → Bool) (zzi : Nat) (zq zq' : World), (fun _ zq => (fun _ => True) zq) D zq → Mod (fun _ => False) zq zq' → (fun _ zq => (fun _ => True) zq) (upd D zzi true) zq' from by intro D zzi zq zq' h hm; (exact h))
      refine wp_region_inv (by kernel_rfl) (by kernel_rfl) (InvF (R := Mod (fun _ => False)) [.is (.int .i64 ((0 : Nat) : Int)),
        .is (.bool true),
        .is (.bool true),
        .is (undef),
        .is (undef),
        .is (undef),
        .is (undef),
        .is (undef),
        .is (undef),
        .is (undef),
        .is (undef),
        .is (undef),
        .is (.bool true)]
        (PB w (fun _ => False) w1.heap.size (fun _ zq => (fun _ => True) zq))) (InvF.start (PB.start hM (Nat.le_refl _) (trivial))) ?_ ?_
      ·refine .cons ?_ (.cons ?_ (.cons ?_ (.cons ?_ (.cons ?_ (.cons ?_ (.cons ?_ (.cons ?_ (.cons ?_ (.cons ?_ (.cons ?_ (.cons ?_ (.cons ?_ .nil))))))))))))
       ·intro D V zw1 a hR hI K hK;obtain ⟨hM1, hB1, hG1⟩ := hI.1;have ze8 := hR.frame.other (t := 8) (by kernel_rfl) rfl;rw [if_pos (by rfl)];go_simp;exact hK (.int .i64 ((0 : Nat) : Int)) _ (hI.next hR (by kernel_rfl) (Mod.refl _ _) (PB.quiet hI.1 (Mod.refl _ _) (HGs.out D 0 zw1 zw1 (hI.1).g (Mod.refl _ _))) (upd_same V 0 _))
       ·intro D V zw1 a hR hI K hK;obtain ⟨hM1, hB1, hG1⟩ := hI.1;have zd0 := hR.pred 0 (by kernel_rfl);have zf0 : V 0 = .int .i64 ((0 : Nat) : Int) := hI.2 0 zd0 rfl;have ze31 := hR.frame.done (t := 31) (j := 0) (by kernel_rfl) hR.ok zd0;rw [if_pos (by rfl)];go_simp;exact hK (.bool true) _ (hI.next hR (by kernel_rfl) (Mod.refl _ _) (PB.quiet hI.1 (Mod.refl _ _) (HGs.out D 1 zw1 zw1 (hI.1).g (Mod.refl _ _))) (upd_same V 1 _))
       ·intro D V zw1 a hR hI K hK;obtain ⟨hM1, hB1, hG1⟩ := hI.1;have zd1 := hR.pred 1 (by kernel_rfl);have zf1 : V 1 = .bool true := hI.2 1 zd1 rfl;have ze32 := hR.frame.done (t := 32) (j := 1) (by kernel_rfl) hR.ok zd1;rw [if_pos (by rfl)];go_simp;exact hK (.bool true) _ (hI.next hR (by kernel_rfl) (Mod.refl _ _) (PB.quiet hI.1 (Mod.refl _ _) (HGs.out D 2 zw1 zw1 (hI.1).g (Mod.refl _ _))) (upd_same V 2 _))
       ·intro D V zw1 a hR hI K hK;obtain ⟨hM1, hB1, hG1⟩ := hI.1;have zd2 := hR.pred 2 (by kernel_rfl);have zf2 : V 2 = .bool true := hI.2 2 zd2 rfl;have ze33 := hR.frame.done (t := 33) (j := 2) (by kernel_rfl) hR.ok zd2;rw [if_neg (by simp [Region.wanted, yielded, ze33, zf2])];exact hK undef _ (hI.next hR (by kernel_rfl) (Mod.refl _ _) (PB.quiet hI.1 (Mod.refl _ _) (HGs.out D 3 zw1 zw1 (hI.1).g (Mod.refl _ _))) (upd_same V 3 _))
       ·intro D V zw1 a hR hI K hK;obtain ⟨hM1, hB1, hG1⟩ := hI.1;have zd2 := hR.pred 2 (by kernel_rfl);have zf2 : V 2 = .bool true := hI.2 2 zd2 rfl;have ze33 := hR.frame.done (t := 33) (j := 2) (by kernel_rfl) hR.ok zd2;rw [if_neg (by simp [Region.wanted, yielded, ze33, zf2])];exact hK undef _ (hI.next hR (by kernel_rfl) (Mod.refl _ _) (PB.quiet hI.1 (Mod.refl _ _) (HGs.out D 4 zw1 zw1 (hI.1).g (Mod.refl _ _))) (upd_same V 4 _))
       ·intro D V zw1 a hR hI K hK;obtain ⟨hM1, hB1, hG1⟩ := hI.1;have zd2 := hR.pred 2 (by kernel_rfl);have zf2 : V 2 = .bool true := hI.2 2 zd2 rfl;have ze33 := hR.frame.done (t := 33) (j := 2) (by kernel_rfl) hR.ok zd2;rw [if_neg (by simp [Region.wanted, yielded, ze33, zf2])];exact hK undef _ (hI.next hR (by kernel_rfl) (Mod.refl _ _) (PB.quiet hI.1 (Mod.refl _ _) (HGs.out D 5 zw1 zw1 (hI.1).g (Mod.refl _ _))) (upd_same V 5 _))
       ·intro D V zw1 a hR hI K hK;obtain ⟨hM1, hB1, hG1⟩ := hI.1;have zd2 := hR.pred 2 (by kernel_rfl);have zf2 : V 2 = .bool true := hI.2 2 zd2 rfl;have ze33 := hR.frame.done (t := 33) (j := 2) (by kernel_rfl) hR.ok zd2;rw [if_neg (by simp [Region.wanted, yielded, ze33, zf2])];exact hK undef _ (hI.next hR (by kernel_rfl) (Mod.refl _ _) (PB.quiet hI.1 (Mod.refl _ _) (HGs.out D 6 zw1 zw1 (hI.1).g (Mod.refl _ _))) (upd_same V 6 _))
       ·intro D V zw1 a hR hI K hK;obtain ⟨hM1, hB1, hG1⟩ := hI.1;have zd2 := hR.pred 2 (by kernel_rfl);have zf2 : V 2 = .bool true := hI.2 2 zd2 rfl;have ze33 := hR.frame.done (t := 33) (j := 2) (by kernel_rfl) hR.ok zd2;rw [if_neg (by simp [Region.wanted, yielded, ze33, zf2])];exact hK undef _ (hI.next hR (by kernel_rfl) (Mod.refl _ _) (PB.quiet hI.1 (Mod.refl _ _) (HGs.out D 7 zw1 zw1 (hI.1).g (Mod.refl _ _))) (upd_same V 7 _))
       ·intro D V zw1 a hR hI K hK;obtain ⟨hM1, hB1, hG1⟩ := hI.1;have zd2 := hR.pred 2 (by kernel_rfl);have zf2 : V 2 = .bool true := hI.2 2 zd2 rfl;have ze33 := hR.frame.done (t := 33) (j := 2) (by kernel_rfl) hR.ok zd2;rw [if_neg (by simp [Region.wanted, yielded, ze33, zf2])];exact hK undef _ (hI.next hR (by kernel_rfl) (Mod.refl _ _) (PB.quiet hI.1 (Mod.refl _ _) (HGs.out D 8 zw1 zw1 (hI.1).g (Mod.refl _ _))) (upd_same V 8 _))
       ·intro D V zw1 a hR hI K hK;obtain ⟨hM1, hB1, hG1⟩ := hI.1;have zd2 := hR.pred 2 (by kernel_rfl);have zf2 : V 2 = .bool true := hI.2 2 zd2 rfl;have ze33 := hR.frame.done (t := 33) (j := 2) (by kernel_rfl) hR.ok zd2;rw [if_neg (by simp [Region.wanted, yielded, ze33, zf2])];exact hK undef _ (hI.next hR (by kernel_rfl) (Mod.refl _ _) (PB.quiet hI.1 (Mod.refl _ _) (HGs.out D 9 zw1 zw1 (hI.1).g (Mod.refl _ _))) (upd_same V 9 _))
       ·intro D V zw1 a hR hI K hK;obtain ⟨hM1, hB1, hG1⟩ := hI.1;have zd2 := hR.pred 2 (by kernel_rfl);have zf2 : V 2 = .bool true := hI.2 2 zd2 rfl;have ze33 := hR.frame.done (t := 33) (j := 2) (by kernel_rfl) hR.ok zd2;rw [if_neg (by simp [Region.wanted, yielded, ze33, zf2])];exact hK undef _ (hI.next hR (by kernel_rfl) (Mod.refl _ _) (PB.quiet hI.1 (Mod.refl _ _) (HGs.out D 10 zw1 zw1 (hI.1).g (Mod.refl _ _))) (upd_same V 10 _))
       ·intro D V zw1 a hR hI K hK;obtain ⟨hM1, hB1, hG1⟩ := hI.1;have zd2 := hR.pred 2 (by kernel_rfl);have zf2 : V 2 = .bool true := hI.2 2 zd2 rfl;have ze33 := hR.frame.done (t := 33) (j := 2) (by kernel_rfl) hR.ok zd2;rw [if_neg (by simp [Region.wanted, yielded, ze33, zf2])];exact hK undef _ (hI.next hR (by kernel_rfl) (Mod.refl _ _) (PB.quiet hI.1 (Mod.refl _ _) (HGs.out D 11 zw1 zw1 (hI.1).g (Mod.refl _ _))) (upd_same V 11 _))
       ·intro D V zw1 a hR hI K hK;obtain ⟨hM1, hB1, hG1⟩ := hI.1;have zd2 := hR.pred 2 (by kernel_rfl);have zf2 : V 2 = .bool true := hI.2 2 zd2 rfl;have zd11 := hR.pred 11 (by kernel_rfl);have zf11 : V 11 = undef := hI.2 11 zd11 rfl;have ze33 := hR.frame.done (t := 33) (j := 2) (by kernel_rfl) hR.ok zd2;have ze42 := hR.frame.done (t := 42) (j := 11) (by kernel_rfl) hR.ok zd11;rw [if_pos (by rfl)];go_simp;exact hK (.bool true) _ (hI.next hR (by kernel_rfl) (Mod.refl _ _) (PB.quiet hI.1 (Mod.refl _ _) (HGs.out D 12 zw1 zw1 (hI.1).g (Mod.refl _ _))) (upd_same V 12 _))
      ·intro D V w2 hD hI;obtain ⟨hM1, hB1, hG1⟩ := hI.1;have hMx := hM1;clear hM1;have hBx := hB1;clear hB1;clear hG1;have zf0 : V 0 = .int .i64 ((0 : Nat) : Int) := hI.2 0 (hD 0 (by decide)) rfl;have zf1 : V 1 = .bool true := hI.2 1 (hD 1 (by decide)) rfl;have zf2 : V 2 = .bool true := hI.2 2 (hD 2 (by decide)) rfl;have zf3 : V 3 = undef := hI.2 3 (hD 3 (by decide)) rfl;have zf4 : V 4 = undef := hI.2 4 (hD 4 (by decide)) rfl;have zf5 : V 5 = undef := hI.2 5 (hD 5 (by decide)) rfl;have zf6 : V 6 = undef := hI.2 6 (hD 6 (by decide)) rfl;have zf7 : V 7 = undef := hI.2 7 (hD 7 (by decide)) rfl;have zf8 : V 8 = undef := hI.2 8 (hD 8 (by decide)) rfl;have zf9 : V 9 = undef := hI.2 9 (hD 9 (by decide)) rfl;have zf10 : V 10 = undef := hI.2 10 (hD 10 (by decide)) rfl;have zf11 : V 11 = undef := hI.2 11 (hD 11 (by decide)) rfl;have zf12 : V 12 = .bool true := hI.2 12 (hD 12 (by decide)) rfl;clear hI hD HGs;simp only [frAll, Act.put, List.setIfInBounds_toArray, List.set_cons_zero, List.set_cons_succ, Nat.zero_add, Nat.reduceAdd, zf0, zf1, zf2, zf3, zf4, zf5, zf6, zf7, zf8, zf9, zf10, zf11, zf12];clear zf0 zf1 zf2 zf3 zf4 zf5 zf6 zf7 zf8 zf9 zf10 zf11 zf12;clear V D
       go_wp2_with fail
       refine bodyPost_ret (v := .tuple #[.string ⟨#[]⟩, .int .i64 0, .int .i64 9]) (by simp [results, Tryz.results74, go_sem]) rfl ?_;exact ⟨.inl ⟨HN.out, rfl⟩, hMx⟩
     ·have hnb : ((n : Int) == 0) = false := by simp; omega
      obtain ⟨b, hb⟩ : ∃ b : Bool, b = decide (x ≠ y) := ⟨_, rfl⟩;have HBB := Lib.hid hb
      have q0 : (x == y) = !b := by rw [hb]; by_cases hxy : x = y <;> simp [hxy]
      clear hb;have hexn := HX.out;clear HX;have HGs := Lib.hid (show ∀ (D : Nat → Bool) (zzi : Nat) (zq zq' : World), (fun _ zq => (fun Z => Z.ownsRow base 5 1 (.slice A acc.length cap) acc.length (Lib.byteCells acc) ∧ base ≤ Z.heap.size) zq) D zq → Mod (fun _ => False) zq zq' → (fun _ zq => (fun Z => Z.ownsRow base 5 1 (.slice A acc.length cap) acc.length (Lib.byteCells acc) ∧ base ≤ Z.heap.size) zq) (upd D zzi true) zq' from by intro D zzi zq zq' h hm; (exact ⟨own_pure h.1 hm, Nat.le_trans h.2 hm.size⟩))
      refine wp_region_inv (by kernel_rfl) (by kernel_rfl) (InvF (R := Mod (fun _ => False)) [.is (.int .i64 (n : Int)),
        .is (.bool false),
        .is (.bool false),
        .is (.int .u8 (d8.toNat : Int)),
        .is (.string ⟨x.toArray⟩),
        .is (.string s),
        .is (.int .i64 (k : Int)),
        .is (.int .i64 (k : Int)),
        .is (.int .i64 (n : Int)),
        .is (.int .i64 ((k : Int) + (n : Int))),
        .is (.string ⟨y.toArray⟩),
        .is (.bool b),
        .is (.bool b)]
        (PB w (fun _ => False) w1.heap.size (fun _ zq => (fun Z => Z.ownsRow base 5 1 (.slice A acc.length cap) acc.length (Lib.byteCells acc) ∧ base ≤ Z.heap.size) zq))) (InvF.start (PB.start hM (Nat.le_refl _) (⟨hown1.drew, hbig1⟩))) ?_ ?_
      ·refine .cons ?_ (.cons ?_ (.cons ?_ (.cons ?_ (.cons ?_ (.cons ?_ (.cons ?_ (.cons ?_ (.cons ?_ (.cons ?_ (.cons ?_ (.cons ?_ (.cons ?_ .nil))))))))))))
       ·intro D V zw1 a hR hI K hK;obtain ⟨hM1, hB1, hG1⟩ := hI.1;have ze8 := hR.frame.other (t := 8) (by kernel_rfl) rfl;rw [if_pos (by rfl)];go_simp;exact hK (.int .i64 (n : Int)) _ (hI.next hR (by kernel_rfl) (Mod.refl _ _) (PB.quiet hI.1 (Mod.refl _ _) (HGs.out D 0 zw1 zw1 (hI.1).g (Mod.refl _ _))) (upd_same V 0 _))
       ·intro D V zw1 a hR hI K hK;obtain ⟨hM1, hB1, hG1⟩ := hI.1;have zd0 := hR.pred 0 (by kernel_rfl);have zf0 : V 0 = .int .i64 (n : Int) := hI.2 0 zd0 rfl;have ze31 := hR.frame.done (t := 31) (j := 0) (by kernel_rfl) hR.ok zd0;rw [if_pos (by rfl)];go_simp;exact hK (.bool false) _ (hI.next hR (by kernel_rfl) (Mod.refl _ _) (PB.quiet hI.1 (Mod.refl _ _) (HGs.out D 1 zw1 zw1 (hI.1).g (Mod.refl _ _))) (upd_same V 1 _))
       ·intro D V zw1 a hR hI K hK;obtain ⟨hM1, hB1, hG1⟩ := hI.1;have zd1 := hR.pred 1 (by kernel_rfl);have zf1 : V 1 = .bool false := hI.2 1 zd1 rfl;have ze32 := hR.frame.done (t := 32) (j := 1) (by kernel_rfl) hR.ok zd1;rw [if_pos (by rfl)];go_simp;exact hK (.bool false) _ (hI.next hR (by kernel_rfl) (Mod.refl _ _) (PB.quiet hI.1 (Mod.refl _ _) (HGs.out D 2 zw1 zw1 (hI.1).g (Mod.refl _ _))) (upd_same V 2 _))
       ·intro D V zw1 a hR hI K hK;obtain ⟨hM1, hB1, hG1⟩ := hI.1;have zd2 := hR.pred 2 (by kernel_rfl);have zf2 : V 2 = .bool false := hI.2 2 zd2 rfl;have ze7 := hR.frame.other (t := 7) (by kernel_rfl) rfl;have ze33 := hR.frame.done (t := 33) (j := 2) (by kernel_rfl) hR.ok zd2;rw [if_pos (by simp [Region.wanted, yielded, ze33, zf2])];go_simp;exact hK (.int .u8 (d8.toNat : Int)) _ (hI.next hR (by kernel_rfl) (Mod.refl _ _) (PB.quiet hI.1 (Mod.refl _ _) (HGs.out D 3 zw1 zw1 (hI.1).g (Mod.refl _ _))) (upd_same V 3 _))
       ·intro D V zw1 a hR hI K hK;obtain ⟨hM1, hB1, hG1⟩ := hI.1;have zd3 := hR.pred 3 (by kernel_rfl);have zf3 : V 3 = .int .u8 (d8.toNat : Int) := hI.2 3 zd3 rfl;have zd2 := hR.pred 2 (by kernel_rfl);have zf2 : V 2 = .bool false := hI.2 2 zd2 rfl;have ze34 := hR.frame.done (t := 34) (j := 3) (by kernel_rfl) hR.ok zd3;have ze33 := hR.frame.done (t := 33) (j := 2) (by kernel_rfl) hR.ok zd2;rw [if_pos (by simp [Region.wanted, yielded, ze33, zf2])];go_simp;refine (HQ.out _).mono ?_;rintro e zw2 ⟨rfl, hm2⟩;exact hK (.string ⟨x.toArray⟩) _ (hI.next hR (by kernel_rfl) hm2 (PB.quiet hI.1 hm2 (HGs.out D 4 _ _ (hI.1).g hm2)) (upd_same V 4 _))
       ·intro D V zw1 a hR hI K hK;obtain ⟨hM1, hB1, hG1⟩ := hI.1;have zd2 := hR.pred 2 (by kernel_rfl);have zf2 : V 2 = .bool false := hI.2 2 zd2 rfl;have ze0 := hR.frame.other (t := 0) (by kernel_rfl) rfl;have ze33 := hR.frame.done (t := 33) (j := 2) (by kernel_rfl) hR.ok zd2;rw [if_pos (by simp [Region.wanted, yielded, ze33, zf2])];go_simp;exact hK (.string s) _ (hI.next hR (by kernel_rfl) (Mod.refl _ _) (PB.quiet hI.1 (Mod.refl _ _) (HGs.out D 5 zw1 zw1 (hI.1).g (Mod.refl _ _))) (upd_same V 5 _))
       ·intro D V zw1 a hR hI K hK;obtain ⟨hM1, hB1, hG1⟩ := hI.1;have zd2 := hR.pred 2 (by kernel_rfl);have zf2 : V 2 = .bool false := hI.2 2 zd2 rfl;have ze6 := hR.frame.other (t := 6) (by kernel_rfl) rfl;have ze33 := hR.frame.done (t := 33) (j := 2) (by kernel_rfl) hR.ok zd2;rw [if_pos (by simp [Region.wanted, yielded, ze33, zf2])];go_simp;exact hK (.int .i64 (k : Int)) _ (hI.next hR (by kernel_rfl) (Mod.refl _ _) (PB.quiet hI.1 (Mod.refl _ _) (HGs.out D 6 zw1 zw1 (hI.1).g (Mod.refl _ _))) (upd_same V 6 _))
       ·intro D V zw1 a hR hI K hK;obtain ⟨hM1, hB1, hG1⟩ := hI.1;have zd2 := hR.pred 2 (by kernel_rfl);have zf2 : V 2 = .bool false := hI.2 2 zd2 rfl;have ze6 := hR.frame.other (t := 6) (by kernel_rfl) rfl;have ze33 := hR.frame.done (t := 33) (j := 2) (by kernel_rfl) hR.ok zd2;rw [if_pos (by simp [Region.wanted, yielded, ze33, zf2])];go_simp;exact hK (.int .i64 (k : Int)) _ (hI.next hR (by kernel_rfl) (Mod.refl _ _) (PB.quiet hI.1 (Mod.refl _ _) (HGs.out D 7 zw1 zw1 (hI.1).g (Mod.refl _ _))) (upd_same V 7 _))
       ·intro D V zw1 a hR hI K hK;obtain ⟨hM1, hB1, hG1⟩ := hI.1;have zd2 := hR.pred 2 (by kernel_rfl);have zf2 : V 2 = .bool false := hI.2 2 zd2 rfl;have ze8 := hR.frame.other (t := 8) (by kernel_rfl) rfl;have ze33 := hR.frame.done (t := 33) (j := 2) (by kernel_rfl) hR.ok zd2;rw [if_pos (by simp [Region.wanted, yielded, ze33, zf2])];go_simp;exact hK (.int .i64 (n : Int)) _ (hI.next hR (by kernel_rfl) (Mod.refl _ _) (PB.quiet hI.1 (Mod.refl _ _) (HGs.out D 8 zw1 zw1 (hI.1).g (Mod.refl _ _))) (upd_same V 8 _))
       ·intro D V zw1 a hR hI K hK;obtain ⟨hM1, hB1, hG1⟩ := hI.1;have zd7 := hR.pred 7 (by kernel_rfl);have zf7 : V 7 = .int .i64 (k : Int) := hI.2 7 zd7 rfl;have zd8 := hR.pred 8 (by kernel_rfl);have zf8 : V 8 = .int .i64 (n : Int) := hI.2 8 zd8 rfl;have zd2 := hR.pred 2 (by kernel_rfl);have zf2 : V 2 = .bool false := hI.2 2 zd2 rfl;have ze38 := hR.frame.done (t := 38) (j := 7) (by kernel_rfl) hR.ok zd7;have ze39 := hR.frame.done (t := 39) (j := 8) (by kernel_rfl) hR.ok zd8;have hw9 : IntKind.i64.wrap ((k : Int) + (n : Int)) = (k : Int) + (n : Int) := IntWalk.i64_in _ (by omega);have ze33 := hR.frame.done (t := 33) (j := 2) (by kernel_rfl) hR.ok zd2;rw [if_pos (by simp [Region.wanted, yielded, ze33, zf2])];go_simp;exact hK (.int .i64 ((k : Int) + (n : Int))) _ (hI.next hR (by kernel_rfl) (Mod.refl _ _) (PB.quiet hI.1 (Mod.refl _ _) (HGs.out D 9 zw1 zw1 (hI.1).g (Mod.refl _ _))) (upd_same V 9 _))
       ·intro D V zw1 a hR hI K hK;obtain ⟨hM1, hB1, hG1⟩ := hI.1;have zd5 := hR.pred 5 (by kernel_rfl);have zf5 : V 5 = .string s := hI.2 5 zd5 rfl;have zd6 := hR.pred 6 (by kernel_rfl);have zf6 : V 6 = .int .i64 (k : Int) := hI.2 6 zd6 rfl;have zd9 := hR.pred 9 (by kernel_rfl);have zf9 : V 9 = .int .i64 ((k : Int) + (n : Int)) := hI.2 9 zd9 rfl;have zd2 := hR.pred 2 (by kernel_rfl);have zf2 : V 2 = .bool false := hI.2 2 zd2 rfl;have ze36 := hR.frame.done (t := 36) (j := 5) (by kernel_rfl) hR.ok zd5;have ze37 := hR.frame.done (t := 37) (j := 6) (by kernel_rfl) hR.ok zd6;have ze40 := hR.frame.done (t := 40) (j := 9) (by kernel_rfl) hR.ok zd9
        have j1 : ((k : Int) + (n : Int)).toNat = k + n := by omega
        have j2 : (k : Int) ≤ (k : Int) + (n : Int) := by omega
        have j3 : (k : Int) + (n : Int) ≤ (l.length : Int) := by omega
        have ze33 := hR.frame.done (t := 33) (j := 2) (by kernel_rfl) hR.ok zd2;rw [if_pos (by simp [Region.wanted, yielded, ze33, zf2])];go_simp;exact hK (.string ⟨y.toArray⟩) _ (hI.next hR (by kernel_rfl) (Mod.refl _ _) (PB.quiet hI.1 (Mod.refl _ _) (HGs.out D 10 zw1 zw1 (hI.1).g (Mod.refl _ _))) (upd_same V 10 _))
       ·intro D V zw1 a hR hI K hK;obtain ⟨hM1, hB1, hG1⟩ := hI.1;have zd4 := hR.pred 4 (by kernel_rfl);have zf4 : V 4 = .string ⟨x.toArray⟩ := hI.2 4 zd4 rfl;have zd10 := hR.pred 10 (by kernel_rfl);have zf10 : V 10 = .string ⟨y.toArray⟩ := hI.2 10 zd10 rfl;have zd2 := hR.pred 2 (by kernel_rfl);have zf2 : V 2 = .bool false := hI.2 2 zd2 rfl;have ze35 := hR.frame.done (t := 35) (j := 4) (by kernel_rfl) hR.ok zd4;have ze41 := hR.frame.done (t := 41) (j := 10) (by kernel_rfl) hR.ok zd10;have ze33 := hR.frame.done (t := 33) (j := 2) (by kernel_rfl) hR.ok zd2;rw [if_pos (by simp [Region.wanted, yielded, ze33, zf2])];go_simp;exact hK (.bool b) _ (hI.next hR (by kernel_rfl) (Mod.refl _ _) (PB.quiet hI.1 (Mod.refl _ _) (HGs.out D 11 zw1 zw1 (hI.1).g (Mod.refl _ _))) (upd_same V 11 _))
       ·intro D V zw1 a hR hI K hK;obtain ⟨hM1, hB1, hG1⟩ := hI.1;have zd2 := hR.pred 2 (by kernel_rfl);have zf2 : V 2 = .bool false := hI.2 2 zd2 rfl;have zd11 := hR.pred 11 (by kernel_rfl);have zf11 : V 11 = .bool b := hI.2 11 zd11 rfl;have ze33 := hR.frame.done (t := 33) (j := 2) (by kernel_rfl) hR.ok zd2;have ze42 := hR.frame.done (t := 42) (j := 11) (by kernel_rfl) hR.ok zd11;rw [if_pos (by rfl)];go_simp;exact hK (.bool b) _ (hI.next hR (by kernel_rfl) (Mod.refl _ _) (PB.quiet hI.1 (Mod.refl _ _) (HGs.out D 12 zw1 zw1 (hI.1).g (Mod.refl _ _))) (upd_same V 12 _))
      ·intro D V w2 hD hI;obtain ⟨hM1, hB1, hG1⟩ := hI.1;have hMx := hM1;clear hM1;have hBx := hB1;clear hB1;have hGx := hG1;clear hG1;have zf0 : V 0 = .int .i64 (n : Int) := hI.2 0 (hD 0 (by decide)) rfl;have zf1 : V 1 = .bool false := hI.2 1 (hD 1 (by decide)) rfl;have zf2 : V 2 = .bool false := hI.2 2 (hD 2 (by decide)) rfl;have zf3 : V 3 = .int .u8 (d8.toNat : Int) := hI.2 3 (hD 3 (by decide)) rfl;have zf4 : V 4 = .string ⟨x.toArray⟩ := hI.2 4 (hD 4 (by decide)) rfl;have zf5 : V 5 = .string s := hI.2 5 (hD 5 (by decide)) rfl;have zf6 : V 6 = .int .i64 (k : Int) := hI.2 6 (hD 6 (by decide)) rfl;have zf7 : V 7 = .int .i64 (k : Int) := hI.2 7 (hD 7 (by decide)) rfl;have zf8 : V 8 = .int .i64 (n : Int) := hI.2 8 (hD 8 (by decide)) rfl;have zf9 : V 9 = .int .i64 ((k : Int) + (n : Int)) := hI.2 9 (hD 9 (by decide)) rfl;have zf10 : V 10 = .string ⟨y.toArray⟩ := hI.2 10 (hD 10 (by decide)) rfl;have zf11 : V 11 = .bool b := hI.2 11 (hD 11 (by decide)) rfl;have zf12 : V 12 = .bool b := hI.2 12 (hD 12 (by decide)) rfl;clear hI hD HGs;simp only [frAll, Act.put, List.setIfInBounds_toArray, List.set_cons_zero, List.set_cons_succ, Nat.zero_add, Nat.reduceAdd, zf0, zf1, zf2, zf3, zf4, zf5, zf6, zf7, zf8, zf9, zf10, zf11, zf12];clear zf0 zf1 zf2 zf3 zf4 zf5 zf6 zf7 zf8 zf9 zf10 zf11 zf12;clear V D;obtain ⟨hown2, hbig2⟩ := hGx;clear q0 hexn hnb HQ
       cases b
       ·have hxy : x = y := by have := HBB.out; simpa using this
        have HNX := Lib.hid (HD.out hn0 hxy);have hkn := HNX.out.2;clear HD HB HBB hxy
        have HREL : Hid (∀ (g5 cap5 : Nat) (w5 : World), w5.ownsRow base 5 1 (.slice (some ⟨g5, 0, none⟩) (acc.length + 1) cap5) (acc.length + 1) (Lib.byteCells acc ++ [.int .u8 (d8.toNat : Int)]) → Pure w w5 → base ≤ w5.heap.size →
          UqRel w l base (l.length - (k + n)) (.slice (some ⟨g5, 0, none⟩) (acc.length + 1) cap5) (.int .i64 ((k : Int) + (n : Int))) w5) := Lib.hid (by
         intro g5 cap5 w5 hown5 hp hb5
         have e1 : Lib.byteCells acc ++ [.int .u8 (d8.toNat : Int)] = Lib.byteCells (acc ++ [d8]) := by simp [Lib.byteCells]
         rw [e1] at hown5;refine ⟨k + n, some ⟨g5, 0, none⟩, cap5, acc ++ [d8], rfl, by omega, by simp, by simp, by simp; omega, HNX.out.1, ?_, hp, hb5⟩;rw [List.length_append, List.length_singleton]
         exact hown5)
        clear HNX
        go_wp2_with (at_builtin; refine wpList_append_lies _ rfl _ _ _ rfl base 5 i0 _ 1 1 Tryz.underlying135 hi0 hz0 hz1 hz2 rfl (by omega) (.slice A acc.length cap) acc.length (Lib.byteCells acc) rfl (hown2.alloc _) ⟨w2.heap.size, 0, none⟩ 1 1 [.int .u8 (d8.toNat : Int)] rfl rfl (World.news_of_block (cs := #[.int .u8 (d8.toNat : Int)]) (t := 5) (fr := (0, 0)) (heap_alloc_new w2 _)) (by simp [Value.oneCell']) (by omega) (by simp [maxLen]; omega) (by omega) (by have := hMx.size; simp; omega) (w2.heap.size + 1) (by simp) ?_; intro g5 cap5 w5 hown5 hgrow hat hlt5)
        go_roundg (l.length - (k + n))
        case measure => omega
        case rel =>
         have hz5 := hgrow.size;simp at hz5;exact HREL.out g5 cap5 w5 hown5 ((hMx.alloc _).grown hgrow (fun j hj => .inr (by have := own_block hown2 j hj; omega))) (by omega)
       ·have hxy : x ≠ y := by have := HBB.out; simpa using this
        have HN := Lib.hid (HB.out (.inr hxy));clear HD HB HBB hxy
        go_wp2_with fail
        refine bodyPost_ret (v := .tuple #[.string ⟨#[]⟩, .int .i64 0, .int .i64 9]) (by simp [results, Tryz.results74, go_sem]) rfl ?_;exact ⟨.inl ⟨HN.out, rfl⟩, hMx⟩
   ·obtain rfl : k = l.length := by omega
    have HN := Lib.hid HU.out.end_
    go_wp2_with fail
    refine bodyPost_ret (v := .tuple #[.string ⟨#[]⟩, .int .i64 0, .int .i64 9]) (by simp [results, Tryz.results74, go_sem]) rfl ?_;exact ⟨.inl ⟨HN.out, rfl⟩, hm⟩
 ·have p1 : List.isPrefixOf (⟨#[34]⟩ : ByteArray).data.toList s.data.toList = false := by
   rw [← HS0.out];clear HS0 hz
   match l, hp with
   | [], _ => rfl
   | c :: r, hp =>
    have : c ≠ 34 := fun h => hp ⟨r, by rw [h]⟩;simp [List.isPrefixOf, Ne.symm this]
  have HN : Hid (unqS l = none) := Lib.hid (by
   clear HS0 hz
   match l, hp with
   | [], _ => rfl
   | c :: r, hp =>
    have : c ≠ 34 := fun h => hp ⟨r, by rw [h]⟩;unfold unqS
    split
    ·rename_i heq
     injection heq with h1 _
     exact absurd h1 this
    ·rfl)
  have P1 := Lib.hid p1;clear p1 hp
  go_enter Tryz.func74, Tryz.ntmps74
  go_wp2_with fail
  refine (prefix_calls _ _ _).mono ?_;rintro e w' ⟨rfl, rfl⟩;rw [P1.out]
  go_wp2_with fail
  refine bodyPost_ret (v := .tuple #[.string ⟨#[]⟩, .int .i64 0, .int .i64 9]) (by simp [results, Tryz.results74, go_sem]) rfl ?_;exact ⟨.inl ⟨HN.out, rfl⟩, Mod.refl _ _⟩
end Go.Proofs.YtgfgggeeoeppjaaGreatDoor
/- Quoted strings: Unquoted of the reference. -/
namespace Go.Proofs.YtgfgggeeoeppjaaGreatDoor
open Go.RowKit
end Go.Proofs.YtgfgggeeoeppjaaGreatDoor
/- Quoted strings: strange strings, taken. -/
namespace Go.Proofs.YtgfgggeeoeppjaaGreatDoor
open Go.RowKit
theorem unq_a : unqS [34, 97, 34] = some ([97], 3) := by decide +kernel
theorem dig_a : digS [97] = [97, 102, 54, 51, 100, 99, 52, 99, 56, 54, 48, 49, 101, 99, 56, 99] := by decide +kernel
set_option maxHeartbeats 4000000 in
theorem taken_calls (w : World) (hE : ErrS w) (hD : Deb w) : Calls Tryz.prog 32 #[] w (fun e w' => e = .returned (.bool true) ∧ Pure w w') := by
 have HU := Lib.hid (Unquote_calls w [34, 97, 34] (by simp) hE);have HD := Lib.hid (fun w1 (hm : Pure w w1) => Digest_calls w1 ⟨#[97]⟩ (by simp [ByteArray.size]) (hD.pure hm));clear hE hD
 go_enter Tryz.func32, Tryz.ntmps32
 go_wp2_with fail
 refine HU.out.mono ?_;rintro e w1 ⟨h | h, hm⟩
 ·rw [unq_a] at h
  cases h.1
 ·obtain ⟨out, n, h1, rfl⟩ := h;rw [unq_a] at h1
  cases h1
  go_wp2_with fail
  refine (HD.out _ hm).mono ?_;rintro e w2 ⟨rfl, hm2⟩;rw [show digS (⟨#[97]⟩ : ByteArray).data.toList = _ from dig_a]
  go_wp2_with fail
  go_ret;exact ⟨rfl, hm.trans hm2⟩
end Go.Proofs.YtgfgggeeoeppjaaGreatDoor
/- Range of the stream, from 0. -/
namespace Go.Proofs.YtgfgggeeoeppjaaGreatDoor
open Go.RowKit
theorem rangeI_calls (w : World) (b N : Nat) (hi : Int) (hS : Strm w b N) (hN : N ≤ 1000000000) (h1 : 0 ≤ hi) (h2 : hi ≤ 1000) : Calls Tryz.prog 7 #[.pointer (some ⟨b, 0, none⟩), .int .i64 0, .int .i64 hi] w (fun e w' => ∃ (m : Nat) (mI : Int), mI = (m : Int) ∧ mI ≤ hi ∧ e = .returned (.int .i64 mI) ∧ Strm w' b (N + 1) ∧ Mod (· = b) w w') := by
 refine (range_calls w b N 0 hi hS hN h1 (by omega) (by omega)).mono ?_;rintro e w' ⟨k, h0, h1, rfl, h3, h4⟩;exact ⟨k.toNat, k, by omega, h1, rfl, h3, h4⟩
end Go.Proofs.YtgfgggeeoeppjaaGreatDoor
/- Families of package intake. -/
namespace Go.Proofs.YtgfgggeeoeppjaaGreatDoor
open Go.RowKit
abbrev Fm := Str × Value × List Str
def fmV (xs : List Fm) : List Value := xs.flatMap fun p => [.string ⟨p.1.toArray⟩, p.2.1]
theorem fmV_len : ∀ xs : List Fm, (fmV xs).length = xs.length * 2
 | [] => rfl
 | x :: xs => by
  have := fmV_len xs;simp only [fmV, List.flatMap_cons, List.length_append, List.length_cons, List.length_nil] at *
  omega
theorem fmV_get : ∀ (xs : List Fm) (i : Nat) (h : i < xs.length), (fmV xs)[i * 2]? = some (.string ⟨xs[i].1.toArray⟩) ∧ (fmV xs)[i * 2 + 1]? = some xs[i].2.1
 | [], i, h => absurd h (by simp)
 | x :: xs, 0, h => by simp [fmV]
 | x :: xs, i + 1, h => by
  have := fmV_get xs i (by simpa using h)
  have e : (i + 1) * 2 = i * 2 + 1 + 1 := by omega
  simp only [fmV, List.flatMap_cons, List.cons_append, List.nil_append, e, List.getElem?_cons_succ, List.getElem_cons_succ];exact this
theorem fmV_snoc (xs : List Fm) (p : Fm) : fmV (xs ++ [p]) = fmV xs ++ [.string ⟨p.1.toArray⟩, p.2.1] := by simp [fmV]
def fmS (xs : List Fm) : List (Str × List Str) := xs.map fun p => (p.1, p.2.2)
def FmR (w : World) (v : Value) (xs : List Fm) : Prop := Sl w 90 2 v (fmV xs) ∧ ∀ p ∈ xs, Sl w 9 1 p.2.1 (strsV p.2.2)
theorem FmR.pure {w w' : World} {v : Value} {xs : List Fm} (h : FmR w v xs) (hm : Pure w w') : FmR w' v xs := ⟨h.1.pure hm, fun p hp => (h.2 p hp).pure hm⟩
def famsS (l : List Itm) : List (Str × List Str) := (topsI l).map fun t => (idAt2 l t, belS l 4 t)
theorem info_fam : (Tryz.prog.info? 90).map (fun i => (i.zero, i.size, i.bytes)) = some (some (.agg #[.string ⟨#[]⟩, .slice none 0 0]), 2, 40) := by kernel_rfl
theorem TreeIs.grown {w w' : World} {bi bk : Nat} {vt v : Value} {xs : List Itm} {base size n : Nat} {ys : List Value} (h : TreeIs w bi bk vt xs) (hb : bi < base) (hb2 : bk < base) (hown : w.ownsRow base 90 size v n ys) (hg : w.grownBy w' v.ownBlock) : TreeIs w' bi bk vt xs := by
 obtain ⟨n, V, h1, h2⟩ := h.kids;have hm := grown_mod hg;have hne : ∀ k, v.ownBlock = some k → base ≤ k := own_block hown;exact ⟨h.items.mod hm (fun hh => by have := hne _ hh; omega), ⟨n, V, h1.mod hm (fun hh => by have := hne _ hh; omega), fun p => (h2 p).grown hown hg (by decide)⟩, h.tops.grown hown hg (by decide)⟩
theorem itemE_ne {x : Itm} (h : itemE x = 0) : x.id ≠ [] := fun e => by have := itemE_id h; rw [e] at this; cases this
end Go.Proofs.YtgfgggeeoeppjaaGreatDoor
/- Whole: the tops of items, the families that are hit. -/
namespace Go.Proofs.YtgfgggeeoeppjaaGreatDoor
open Go.RowKit
end Go.Proofs.YtgfgggeeoeppjaaGreatDoor
/- The top of an item: tree.top. -/
namespace Go.Proofs.YtgfgggeeoeppjaaGreatDoor
open Go.RowKit
theorem TreeIs.par {w : World} {bi bk : Nat} {vt : Value} {l : List Itm} (h : TreeIs w bi bk vt l) (hR : Right l) {q : Nat} (hq : q < l.length) (hz : l[q].id.length ≤ 1000000) :
  (Instr.lookup 113 (.map (some bi)) (.string ⟨l[q].id.toArray⟩) false).run Tryz.prog w = .ok (itA l[q]) w := by
 have := h.items.lookup Tryz.underlying113 zero_item l[q].id hz;unfold byF at this;rw [fnd_plc (plc_self hR.distinct q hq) hq] at this;exact this
end Go.Proofs.YtgfgggeeoeppjaaGreatDoor
/- found, FamilyOf, Children, Depth of package intake. -/
namespace Go.Proofs.YtgfgggeeoeppjaaGreatDoor
open Go.RowKit
def FdNew (w : World) (g4 bi bk : Nat) (At : Option Addr) (nt ct : Nat) : Prop := Blk w g4 116 #[.map (some bi), .map (some bk), .slice At nt ct]
theorem FdNew.pure {w w' : World} {g4 bi bk : Nat} {At : Option Addr} {nt ct : Nat} (h : FdNew w g4 bi bk At nt ct) (hm : Pure w w') : FdNew w' g4 bi bk At nt ct := Blk.mod h hm id
theorem Mod.set3 (w : World) (g : Nat) (x y z : Value) : Mod (· = g) w (((w.setCell ⟨g, 0, none⟩ x).setCell ⟨g, 1, none⟩ y).setCell ⟨g, 2, none⟩ z) :=
 Mod.setCell (S := fun j => j = g) (p := ⟨g, 2, none⟩) (Mod.setCell (S := fun j => j = g) (p := ⟨g, 1, none⟩) (Mod.setCell (S := fun j => j = g) (p := ⟨g, 0, none⟩) (Mod.refl _ _) (.inl rfl) _) (.inl rfl) _) (.inl rfl) _
end Go.Proofs.YtgfgggeeoeppjaaGreatDoor
/- FamilyOf, Children, Depth of package intake. -/
namespace Go.Proofs.YtgfgggeeoeppjaaGreatDoor
open Go.RowKit
def idxId (l : List Itm) (id : Str) : Nat := (plc l id).getD 0
theorem right_items {l : List Itm} (h : itsE itemE l = 0) : Right l := right_of (E := itemE) (fun _ hx => itemE_ne hx) h
end Go.Proofs.YtgfgggeeoeppjaaGreatDoor
/- FamiliesOf: what its second loop keeps. -/
namespace Go.Proofs.YtgfgggeeoeppjaaGreatDoor
open Go.RowKit
def famT (l : List Itm) (f : List (Nat × List Nat)) : List (Str × List Str) := f.map fun p => (idAt2 l p.1, p.2.map (idAt2 l))
theorem famT_all (l : List Itm) : famT l (famsI l) = famsS l := by simp [famT, famsI, famsS, belS]
def foldK (l : List Itm) (k : Nat) : List (Nat × List Nat) := ((allI l).take k).foldl (famStep l) []
theorem foldK_all (l : List Itm) : famT l (foldK l (allI l).length) = famsS l := by
 unfold foldK;rw [List.take_length, fam_fold, famT_all]
theorem foldK_succ {l : List Itm} {k : Nat} (h : k < (allI l).length) : foldK l (k + 1) = famStep l (foldK l k) (allI l)[k] := by
 unfold foldK;rw [List.take_succ_eq_append_getElem h, List.foldl_append]
 rfl
theorem all_first (l : List Itm) (h : 0 < (allI l).length) : upI l (allI l)[0] = none := by
 cases ht : topsI l with
 | nil => simp [allI, ht] at h
 | cons t ts =>
  have e : (allI l)[0]? = some t := by
   rw [allI, ht, List.flatMap_cons]
   rfl
  rw [List.getElem?_eq_getElem h] at e
  injection e with e
  rw [e];exact (mem_topsI.1 (by rw [ht]; simp)).2
theorem famStep_ne {l : List Itm} {f : List (Nat × List Nat)} {i : Nat} (h : f ≠ []) : famStep l f i ≠ [] := by
 unfold famStep
 split
 ·simp
 ·cases hf : f.getLast? with
  | none => exact h
  | some p => simp
theorem foldK_ne {l : List Itm} : ∀ {k : Nat}, 0 < k → k ≤ (allI l).length → foldK l k ≠ []
 | 1, _, h => by
  rw [foldK_succ (by omega)];unfold famStep;rw [if_pos (all_first l (by omega))];simp [foldK]
 | k + 2, _, h => by
  rw [foldK_succ (by omega)];exact famStep_ne (foldK_ne (by omega) (by omega))
theorem famT_top {l : List Itm} {f : List (Nat × List Nat)} {i : Nat} (h : upI l i = none) : famT l (famStep l f i) = famT l f ++ [(idAt2 l i, [idAt2 l i])] := by
 unfold famStep;rw [if_pos h];simp [famT]
theorem famT_kid {l : List Itm} {f : List (Nat × List Nat)} {i : Nat} (h : upI l i ≠ none) {fs0 : List (Str × List Str)} {p : Str × List Str} (hf : famT l f = fs0 ++ [p]) : famT l (famStep l f i) = fs0 ++ [(p.1, p.2 ++ [idAt2 l i])] := by
 have hne : f ≠ [] := by rintro rfl; simp [famT] at hf
 obtain ⟨f0, q, rfl⟩ : ∃ f0 q, f = f0 ++ [q] := ⟨f.dropLast, f.getLast hne, (List.dropLast_concat_getLast hne).symm⟩;unfold famStep;rw [if_neg h];unfold famT at hf ⊢;rw [List.map_append, List.map_cons, List.map_nil] at hf;obtain ⟨h1, h2⟩ := List.append_inj' hf (by simp);simp at h2;subst h1;subst h2;simp
def FoOwn (w : World) (base : Nat) (vo : Value) (fs : List Fm) : Prop :=
 w.ownsRow base 90 2 vo fs.length (fmV fs) ∧
 (fs = [] ∨ ∃ fs0 p bl, fs = fs0 ++ [p] ∧ base ≤ bl ∧ bl ≤ w.heap.size ∧ (∀ q ∈ fs0, SlU w bl q.2.1 q.2.2) ∧ w.ownsRow bl 9 1 p.2.1 p.2.2.length (strsV p.2.2))
theorem FoOwn.all {w : World} {base : Nat} {vo : Value} {fs : List Fm} (h : FoOwn w base vo fs) : ∀ q ∈ fs, SlU w w.heap.size q.2.1 q.2.2 := by
 rcases h.2 with rfl | ⟨fs0, p, bl, rfl, h1, h1', h2, h3⟩
 ·intro q hq; cases hq
 ·intro q hq
  rcases List.mem_append.1 hq with hq | hq
  ·exact (h2 q hq).up h1'
  ·rw [List.mem_singleton.1 hq];exact SlU.of_own h3
theorem FoOwn.fm {w : World} {base : Nat} {vo : Value} {fs : List Fm} (h : FoOwn w base vo fs) : FmR w vo fs := ⟨Sl.of_own h.1, fun p hp => (h.all p hp).1⟩
theorem FoOwn.pure {w w' : World} {base : Nat} {vo : Value} {fs : List Fm} (h : FoOwn w base vo fs) (hm : Pure w w') : FoOwn w' base vo fs := by
 refine ⟨own_pure h.1 hm, ?_⟩
 rcases h.2 with rfl | ⟨fs0, p, bl, rfl, h1, h1', h2, h3⟩
 ·exact .inl rfl
 ·exact .inr ⟨fs0, p, bl, rfl, h1, Nat.le_trans h1' hm.size, fun q hq => (h2 q hq).mod hm (fun _ _ _ => id), own_pure h3 hm⟩
theorem FoOwn.top {w w5 : World} {base n' : Nat} {vo v5 : Value} {fs : List Fm} {id : Str} (h : FoOwn w base vo fs) (hg : w.grownBy w5 vo.ownBlock) (hn : n' = fs.length + 1) (hown : w5.ownsRow base 90 2 v5 n' (fmV fs ++ [.string ⟨id.toArray⟩, nilS])) (hb : base ≤ w.heap.size) : FoOwn w5 base v5 (fs ++ [(id, nilS, [])]) := by
 subst hn;refine ⟨?_, .inr ⟨fs, _, w5.heap.size, rfl, Nat.le_trans hb hg.size, Nat.le_refl _, fun q hq => ?_, ?_⟩⟩
 ·rw [fmV_snoc]
  simpa using hown
 ·exact ((h.all q hq).grown h.1 (by decide) hg).up hg.size
 ·exact ⟨by simp [strsV], .inl ⟨rfl, rfl⟩⟩
theorem fmV_set (fs0 : List Fm) (p : Fm) (v : Value) (ids : List Str) : (fmV (fs0 ++ [p])).set (fs0.length * 2 + 1) v = fmV (fs0 ++ [(p.1, v, ids)]) := by
 rw [fmV_snoc, fmV_snoc, ← fmV_len, List.set_append_right _ _ (by omega)];simp
structure FoLast (w : World) (base g cap bl : Nat) (fs0 : List Fm) (t : Str) (v : Value) (ids : List Str) : Prop where
 out : w.ownsRow base 90 2 (.slice (some ⟨g, 0, none⟩) (fs0.length + 1) cap) (fs0.length + 1) (fmV (fs0 ++ [(t, v, ids)]))
 b1 : base ≤ bl
 b2 : bl ≤ w.heap.size
 old : ∀ q ∈ fs0, SlU w bl q.2.1 q.2.2
 own : w.ownsRow bl 9 1 v ids.length (strsV ids)
section
variable {w w' : World} {base g cap bl : Nat} {fs0 : List Fm} {t : Str} {v : Value} {ids : List Str}
theorem FoLast.pure (h : FoLast w base g cap bl fs0 t v ids) (hm : Pure w w') : FoLast w' base g cap bl fs0 t v ids :=
 ⟨own_pure h.out hm, h.b1, Nat.le_trans h.b2 hm.size, fun q hq => (h.old q hq).mod hm (fun _ _ _ => id), own_pure h.own hm⟩
theorem FoLast.cell (h : FoLast w base g cap bl fs0 t v ids) : w.cell? ⟨g, fs0.length * 2 + 1, none⟩ = some v := by
 rw [h.out.cellAt _ (by omega)];have := (fmV_get (fs0 ++ [(t, v, ids)]) fs0.length (by simp)).2
 simpa using this
theorem FoLast.lt (h : FoLast w base g cap bl fs0 t v ids) : base ≤ g ∧ g < w.heap.size := h.out.lt g rfl
theorem FoOwn.last {vo : Value} {fs : List Fm} (h : FoOwn w base vo fs) (hne : fs ≠ []) : ∃ fs0 t A ids c g cap bl, fs = fs0 ++ [(t, .slice A ids.length c, ids)] ∧ vo = .slice (some ⟨g, 0, none⟩) (fs0.length + 1) cap ∧ FoLast w base g cap bl fs0 t (.slice A ids.length c) ids := by
 rcases h.2 with rfl | ⟨fs0, ⟨t, v, ids⟩, bl, rfl, h1, h1', h2, h3⟩
 ·exact absurd rfl hne
 ·have ho := h.1
  rcases ho.2 with ⟨_, h0⟩ | ⟨g, cap, cur, hv, r⟩
  ·simp at h0
  ·simp only [List.length_append, List.length_cons, List.length_nil, Nat.zero_add] at hv ho;subst hv;obtain ⟨A, n, c, rfl⟩ := (Sl.of_own h3).form;have hn : ids.length = n := (Sl.of_own h3).lenS;subst hn;exact ⟨fs0, t, A, ids, c, g, cap, bl, rfl, rfl, ho, h1, h1', h2, h3⟩
def FoPre (zw : World) (base g cap bl : Nat) (fs0 : List Fm) (t : Str) (v : Value) (ids : List Str) (id : Str) (v5 : Value) : Prop :=
 ∃ W n', FoLast W base g cap bl fs0 t v ids ∧ W.grownBy zw v.ownBlock ∧ n' = ids.length + 1 ∧ zw.ownsRow bl 9 1 v5 n' (strsV ids ++ [.string ⟨id.toArray⟩])
theorem grownBy_pure {W w w' : World} {row : Option Nat} (h : W.grownBy w row) (hm : Pure w w') : W.grownBy w' row :=
 ⟨hm.os.trans h.os, hm.tape.trans h.tape, hm.output.trans h.output, Nat.le_trans h.size hm.size, fun k hk hr => (hm.block k (Nat.lt_of_lt_of_le hk h.size) id).trans (h.block k hk hr)⟩
variable {id : Str} {v5 : Value}
theorem FoPre.pure (h : FoPre w base g cap bl fs0 t v ids id v5) (hm : Pure w w') : FoPre w' base g cap bl fs0 t v ids id v5 := by
 obtain ⟨W, n', h1, h2, h3, h4⟩ := h;exact ⟨W, n', h1, grownBy_pure h2 hm, h3, own_pure h4 hm⟩
theorem FoPre.outs (h : FoPre w base g cap bl fs0 t v ids id v5) : w.ownsRow base 90 2 (.slice (some ⟨g, 0, none⟩) (fs0.length + 1) cap) (fs0.length + 1) (fmV (fs0 ++ [(t, v, ids)])) := by
 obtain ⟨W, n', h1, h2, h3, h4⟩ := h;exact own_grown h1.out h1.own (by decide) h2
theorem FoPre.cell (h : FoPre w base g cap bl fs0 t v ids id v5) : w.cell? ⟨g, fs0.length * 2 + 1, none⟩ = some v := by
 rw [h.outs.cellAt _ (by omega)];have := (fmV_get (fs0 ++ [(t, v, ids)]) fs0.length (by simp)).2
 simpa using this
theorem FoPre.store (h : FoPre w base g cap bl fs0 t v ids id v5) : FoOwn (w.setCell ⟨g, fs0.length * 2 + 1, none⟩ v5) base (.slice (some ⟨g, 0, none⟩) (fs0.length + 1) cap) (fs0 ++ [(t, v5, ids ++ [id])]) := by
 have ho5 := h.outs;obtain ⟨W, n', hL, hg, hn, hown⟩ := h;subst hn;obtain ⟨hs, hgr⟩ := ho5.stored (fs0.length * 2 + 1) v5;rw [fmV_set _ _ _ (ids ++ [id])] at hs;refine ⟨by simpa using hs, .inr ⟨fs0, _, bl, rfl, hL.b1, Nat.le_trans hL.b2 (Nat.le_trans hg.size hgr.size), fun q hq => ?_, ?_⟩⟩
 ·have h4 : SlU w bl q.2.1 q.2.2 := (hL.old q hq).mod (grown_mod hg) (fun g' _ hl he => by have := (hL.own.lt g' he).1; omega);exact h4.grown ho5 (by decide) hgr
 ·have := own_grown hown ho5 (by decide) hgr
  simpa [strsV] using this
end
theorem foldK_len {l : List Itm} : ∀ {k : Nat}, k ≤ (allI l).length → (foldK l k).length ≤ k ∧ ∀ p ∈ foldK l k, p.2.length ≤ k
 | 0, _ => by simp [foldK]
 | k + 1, h => by
  obtain ⟨h1, h2⟩ := foldK_len (l := l) (k := k) (by omega);rw [foldK_succ (by omega)];generalize foldK l k = f at *;unfold famStep
  split
  ·refine ⟨by simp; omega, fun p hp => ?_⟩
   rcases List.mem_append.1 hp with hp | hp
   ·exact Nat.le_succ_of_le (h2 p hp)
   ·rw [List.mem_singleton.1 hp];simp
  ·cases hf : f.getLast? with
   | none => exact ⟨by show f.length ≤ _; omega, fun p hp => Nat.le_succ_of_le (h2 p hp)⟩
   | some q =>
    have hq := h2 q (List.mem_of_getLast? hf);refine ⟨by simp; omega, fun p hp => ?_⟩
    rcases List.mem_append.1 hp with hp | hp
    ·exact Nat.le_succ_of_le (h2 p (List.dropLast_subset f hp))
    ·rw [List.mem_singleton.1 hp];simp
     omega
theorem fo_len {l : List Itm} {fs : List Fm} {k : Nat} (hk : k ≤ (allI l).length) (h : fmS fs = famT l (foldK l k)) : fs.length ≤ k ∧ ∀ p ∈ fs, p.2.2.length ≤ k := by
 obtain ⟨h1, h2⟩ := foldK_len hk;have hl := congrArg List.length h;simp [fmS, famT] at hl;refine ⟨by omega, fun p hp => ?_⟩
 have : (p.1, p.2.2) ∈ famT l (foldK l k) := by
  rw [← h];exact List.mem_map.2 ⟨p, hp, rfl⟩
 unfold famT at this;obtain ⟨q, hq, he⟩ := List.mem_map.1 this
 injection he with _ he
 rw [← he, List.length_map];exact h2 q hq
end Go.Proofs.YtgfgggeeoeppjaaGreatDoor
/- FamiliesOf of the reference. -/
namespace Go.Proofs.YtgfgggeeoeppjaaGreatDoor
open Go.RowKit
def FamOPost (w : World) (l : List Itm) (e : Ending) (w' : World) : Prop := ∃ v fs, e = .returned v ∧ FmR w' v fs ∧ fmS fs = famsS l ∧ Pure w w'
def FiRel (W0 : World) (gm n gk : Nat) (k : Value) (wr : World) : Prop :=
 ∃ m : Nat, n - m = gk ∧ m ≤ n ∧ k = .int .i64 (m : Int) ∧ wr.ownsRow gm 3 1 (.slice (some ⟨gm, 0, none⟩) n n) n (natsV (List.range m ++ List.replicate (n - m) 0)) ∧ Mod (· = gm) W0 wr
theorem fill_set (n m : Nat) (h : m < n) : (List.range m ++ List.replicate (n - m) 0).set m m = List.range (m + 1) ++ List.replicate (n - (m + 1)) 0 := by
 rw [List.set_append_right _ _ (by simp), show n - m = (n - (m + 1)) + 1 by omega, List.replicate_succ];simp [List.range_succ]
theorem natsV_zeros (n : Nat) : natsV (List.replicate n 0) = List.replicate n (.int .i64 0) := by simp [natsV]
def FoRel (W0 : World) (base : Nat) (l : List Itm) (gk : Nat) (x i : Value) (wr : World) : Prop :=
 ∃ (k : Nat) (fs : List Fm) (Ao : Option Addr) (cap : Nat), (allI l).length - k = gk ∧ k ≤ (allI l).length ∧ x = .slice Ao fs.length cap ∧ i = .int .i64 (k : Int) ∧ fmS fs = famT l (foldK l k) ∧ FoOwn wr base (.slice Ao fs.length cap) fs ∧ Pure W0 wr ∧ base ≤ wr.heap.size
def FoCut (W0 : World) (base : Nat) (l : List Itm) (k i : Nat) (x : Value) (wx : World) : Prop :=
 ∃ (fs0 : List Fm) (t : Str) (A : Option Addr) (ids : List Str) (c g cap bl : Nat), x = .slice (some ⟨g, 0, none⟩) (fs0.length + 1) cap ∧ FoLast wx base g cap bl fs0 t (.slice A ids.length c) ids ∧
  fmS fs0 ++ [(t, ids ++ [idAt2 l i])] = famT l (foldK l (k + 1)) ∧ Pure W0 wx ∧ base ≤ wx.heap.size ∧ fs0.length ≤ k ∧ ids.length ≤ k
theorem all_perm' {l : List Itm} (hR : Right l) : (allI l).Perm (List.range l.length) := all_perm hR.loop hR.end5
def FoNew (w : World) (base gf cf : Nat) (fs0 : List Fm) (t : Str) (ids : List Str) (id : Str) : Prop := ∃ v5, FoOwn w base (.slice (some ⟨gf, 0, none⟩) (fs0.length + 1) cf) (fs0 ++ [(t, v5, ids ++ [id])])
theorem FoNew.pure {w w' : World} {base gf cf : Nat} {fs0 : List Fm} {t : Str} {ids : List Str} {id : Str} (h : FoNew w base gf cf fs0 t ids id) (hm : Pure w w') : FoNew w' base gf cf fs0 t ids id := by
 obtain ⟨v5, h⟩ := h;exact ⟨v5, h.pure hm⟩
theorem foCut_mk {W0 wx : World} {base k i : Nat} {l : List Itm} {vo : Value} {fs : List Fm} (h : FoOwn wx base vo fs) (hne : fs ≠ []) (hfs : ∀ fs0 p, fs = fs0 ++ [p] → fmS fs0 ++ [(p.1, p.2.2 ++ [idAt2 l i])] = famT l (foldK l (k + 1)))
  (h1 : fs.length ≤ k + 1) (h2 : ∀ p ∈ fs, p.2.2.length ≤ k) (hm : Pure W0 wx) (hs : base ≤ wx.heap.size) : FoCut W0 base l k i vo wx := by
 obtain ⟨fs0, t, A, ids, c, g, cap, bl, rfl, hv, hL⟩ := h.last hne;exact ⟨fs0, t, A, ids, c, g, cap, bl, hv, hL, hfs _ _ rfl, hm, hs, by simpa using h1, h2 (t, .slice A ids.length c, ids) (by simp)⟩
def SoPost (w : World) (gm : Nat) (l : List Itm) (e : Ending) (w' : World) : Prop :=
 e = .returned (.tuple #[]) ∧ (∀ k (hk : k < (allI l).length), w'.cell? ⟨gm, k, none⟩ = some (.int .i64 ((allI l)[k] : Int))) ∧ Mod (· = gm) w w'
theorem order_calls (w : World) (gm gw gc : Nat) (v : Value) (l : List Itm) (hR : Right l) (hl : l.length ≤ 12) (hown : w.ownsRow gm 3 1 (.slice (some ⟨gm, 0, none⟩) l.length l.length) l.length (natsV (List.range l.length)))
  (hv : ∀ W, Mod (· = gm) w W → Its W v l ∧ W.cell? ⟨gc, 0, none⟩ = some v ∧ W.cell? ⟨gw, 0, none⟩ = some (wayF gc)) :
  Calls Tryz.prog 112 #[.slice (some ⟨gm, 0, none⟩) l.length l.length, .func (.func 113) #[] #[.pointer (some ⟨gw, 0, none⟩)]] w (SoPost w gm l) := by
 have hp := all_perm' hR
 by_cases h0 : l.length = 0
 ·rw [h0];refine (sort0_calls _ _ _ _).mono ?_;rintro e w' ⟨rfl, hm⟩;refine ⟨rfl, fun k hk => ?_, Mod.of_pure hm⟩;have := hp.length_eq;simp at this
  omega
 ·refine (sortFunc_calls w gm gm l.length l.length (List.range l.length) 113 (.pointer (some ⟨gw, 0, none⟩)) (fun i j => lexL (wayI l i) (wayI l j)) hown (by omega) hl (fun a b c h1 h2 => lexL_trans h1 h2) ?_ List.nodup_range (fun a b W => by rfl) ?_).mono ?_
  ·intro a _ b _ hab;exact lexL_total (fun h => hab (wayI_inj h))
  ·intro a b W ha hb hm;obtain ⟨h1, h2, h3⟩ := hv W hm;exact ways_calls W gw gc v l hR a b (List.mem_range.1 ha) (List.mem_range.1 hb) h1 h2 h3
  ·rintro e w' ⟨ys, hperm, hsort, rfl, ho, hm⟩;have hys : ys = allI l := ways_unique hsort (all_sorted hR.loop) (hperm.trans hp.symm);subst hys
   have hle : (allI l).length = l.length := by have := hp.length_eq; simpa using this
   refine ⟨rfl, fun k hk => ?_, hm⟩;rw [ho.cellAt k (by omega), natsV_get _ k hk]
set_option maxHeartbeats 8000000 in
theorem familiesOf_calls (w : World) (v : Value) (l : List Itm) (hv : Its w v l) (hR : Right l) (hl : l.length ≤ 12) : Calls Tryz.prog 51 #[v] w (FamOPost w l) := by
 obtain ⟨i0, hi0, hz0, hz1, hz2⟩ := info_parts info_fam;have HR := Lib.hid hR;have HV := Lib.hid hv;have hmk := run_make_one (P := Tryz.prog) 22 3 (.int .i64 0) 8 Tryz.underlying22 info_int7 rfl .i64 .i64 l.length (l.length : Int) rfl (by omega) (by omega) (natsV (List.replicate l.length 0)).toArray (by rw [natsV_zeros]);obtain ⟨A, n, c, rfl, hc1, hc2, hl2, hr⟩ := hv
 have hln : l.length = n := by rw [itV_len] at hl2; omega
 subst hln;clear hl2 hr hR;have B0 := Blk.new (w.alloc (.cells #[.slice A l.length c] 26)) 178 #[.nilFunc];rw [World.size_alloc] at B0;have q0 : ((w.alloc (.cells #[.slice A l.length c] 26)).alloc (.cells #[.nilFunc] 178)).cell? ⟨w.heap.size + 1, 0, none⟩ = some .nilFunc := B0.cell 0;have q1 : ((w.alloc (.cells #[.slice A l.length c] 26)).alloc (.cells #[.nilFunc] 178)).frozen? ⟨w.heap.size + 1, 0, none⟩ = false := B0.frozen 0
 have hst : Sem.run Tryz.prog (store ⟨w.heap.size + 1, 0, none⟩ (.func (.func 110) #[] #[.pointer (some ⟨w.heap.size, 0, none⟩)])) ((w.alloc (.cells #[.slice A l.length c] 26)).alloc (.cells #[.nilFunc] 178)) = .ok () (((w.alloc (.cells #[.slice A l.length c] 26)).alloc (.cells #[.nilFunc] 178)).setCell ⟨w.heap.size + 1, 0, none⟩ (.func (.func 110) #[] #[.pointer (some ⟨w.heap.size, 0, none⟩)])) := by
  refine (run_store _ _ _ _ _ rfl).trans ?_;simp [stored, q0, q1]
 have K1 := ((Blk.new w 26 #[.slice A l.length c]).alloc (.cells #[wayF w.heap.size] 178));have K2 := Blk.snd w (.cells #[.slice A l.length c] 26) 178 #[wayF w.heap.size]
 have hsz : ((w.alloc (.cells #[.slice A l.length c] 26)).alloc (.cells #[wayF w.heap.size] 178)).heap.size = w.heap.size + 1 + 1 := by simp
 have M0 : Pure w ((w.alloc (.cells #[.slice A l.length c] 26)).alloc (.cells #[wayF w.heap.size] 178)) := (pure_alloc _ _).trans (pure_alloc _ _);have q3 : ((w.alloc (.cells #[.slice A l.length c] 26)).alloc (.cells #[wayF w.heap.size] 178)).cell? ⟨w.heap.size, 0, none⟩ = some (.slice A l.length c) := K1.cell 0;have HK1 := Lib.hid K1;have HK2 := Lib.hid K2;have HSZ := Lib.hid hsz;have HM0 := Lib.hid M0;have HST := Lib.hid (rfl : wayF w.heap.size = wayF w.heap.size);clear B0 K1 K2 hsz M0;unfold wayF at q3 HK1 HK2 HSZ HM0
 go_enter Tryz.func51, Tryz.ntmps51
 go_wp2_with fail
 have hgc1 : w.heap.size ≤ w.heap.size := Nat.le_refl _;generalize ((w.alloc (.cells #[.slice A l.length c] 26)).alloc (.cells #[.func (.func 110) #[] #[.pointer (some ⟨w.heap.size, 0, none⟩)]] 178)) = W1 at *;have HWF : Hid (∀ gc, (Value.func (.func 110) #[] #[.pointer (some ⟨gc, 0, none⟩)]) = wayF gc) := Lib.hid (fun _ => rfl);clear hst q0 q1 HST;have hgm := HSZ.out.symm;have O1 := World.ownsRow_lit (base := W1.heap.size) (e := 3) (size := 1) W1 (natsV (List.replicate l.length 0)).toArray l.length (by simp [natsV_len]) (by simp [maxLen]; omega) (by simp [natsV_len]);rw [hgm] at ⊢;have hs1 := Nat.le_of_eq HSZ.out;have hs2 := Nat.le_of_eq HSZ.out.symm;clear hgm HSZ hmk;obtain ⟨gc, hgc⟩ : ∃ gc, gc = w.heap.size := ⟨_, rfl⟩;rw [← hgc] at HK1 HK2 hs1 hs2 q3 ⊢;have hgc2 := Nat.le_of_eq hgc;have hgc3 := Nat.le_of_eq hgc.symm;clear hgc hgc1;have MW := pure_alloc W1 (.cells (natsV (List.replicate l.length 0)).toArray 3);have K1 := Lib.hid (HK1.out.alloc (.cells (natsV (List.replicate l.length 0)).toArray 3));have K2 := Lib.hid (HK2.out.alloc (.cells (natsV (List.replicate l.length 0)).toArray 3));have M2 := Lib.hid (HM0.out.trans MW);generalize (W1.alloc (.cells (natsV (List.replicate l.length 0)).toArray 3)) = W2 at *;generalize W1.heap.size = gm at *;have HO1 := Lib.hid O1
 have HVW : Hid (∀ W, Mod (· = gm) W2 W → Pure w W ∧ Its W (.slice A l.length c) l ∧ W.cell? ⟨gc, 0, none⟩ = some (.slice A l.length c) ∧ W.cell? ⟨gc + 1, 0, none⟩ = some (wayF gc)) := Lib.hid (fun W h => by
  have hp : Pure w W := M2.out.trans' h (fun i hi hlt => by omega)
  exact ⟨hp, HV.out.pure hp, (K1.out.mod h (by omega)).cell 0, (K2.out.mod h (by omega)).cell 0⟩)
 clear O1 MW HK1 HK2 HM0 K1 K2 M2 HV W1 q3 HWF
 go_loopg [16] l.length (fun gk k wr => FiRel W2 gm l.length gk k wr)
 case atStart => exact ⟨0, by omega, by omega, rfl, by simpa using HO1.out, Mod.refl _ _⟩
 case round =>
  clear HO1;obtain ⟨m, rfl, hm, rfl, hown, hM⟩ := hrel
  by_cases hlt : m < l.length
  ·have c0 := hown.cellAt m (by omega);have c1 := hown.frozenAt m
   have c2 : (natsV (List.range m ++ List.replicate (l.length - m) 0))[m]? = some (.int .i64 0) := by
    rw [natsV_append, List.getElem?_append_right (by simp [natsV_len]), natsV_len, List.length_range, Nat.sub_self];rw [natsV_get _ 0 (by simp; omega)];simp
   rw [c2] at c0;obtain ⟨hset, hgr⟩ := hown.stored m (.int .i64 (m : Int));rw [natsV_set, fill_set _ _ hlt] at hset;have hM2 := Lib.hid (hM.setCell (p := ⟨gm, m, none⟩) (.inl rfl) (.int .i64 (m : Int)));have HSET := Lib.hid hset
   have i1 : (0 : Int) ≤ (m : Int) := by omega
   have i2 : (m : Int) < (l.length : Int) := by omega
   clear hown hM hset hgr c2
   go_wp2_with fail
   go_roundg (l.length - (m + 1))
   case measure => omega
   case rel => exact ⟨m + 1, rfl, by omega, rfl, HSET.out, hM2.out⟩
  ·obtain rfl : m = l.length := by omega
   have hO : wr.ownsRow gm 3 1 (.slice (some ⟨gm, 0, none⟩) l.length l.length) l.length (natsV (List.range l.length)) := by simpa using hown
   have HSO := Lib.hid (order_calls wr gm (gc + 1) gc (.slice A l.length c) l HR.out hl hO (fun W h => (HVW.out W (hM.trans h)).2));have HM := Lib.hid hM;clear hown hO hM
   go_wp2_with fail
   refine HSO.out.mono ?_;rintro e w3 ⟨rfl, hord, hm3⟩;obtain ⟨P3, V3, C3, _⟩ := HVW.out w3 (HM.out.trans hm3)
   have hle : (allI l).length = l.length := by have := (all_perm' HR.out).length_eq; simpa using this
   have hle1 := Nat.le_of_eq hle;have hle2 := Nat.le_of_eq hle.symm;have HORD : Hid (∀ W, Pure w3 W → ∀ k (hk : k < (allI l).length), W.cell? ⟨gm, k, none⟩ = some (.int .i64 ((allI l)[k] : Int))) := Lib.hid (fun W h k hk => h.keep (hord k hk) id);have HC3 : Hid (∀ W, Pure w3 W → W.cell? ⟨gc, 0, none⟩ = some (.slice A l.length c)) := Lib.hid (fun W h => h.keep C3 id);have HV3 := Lib.hid V3;have HP3 := Lib.hid P3;have hgl : gc < w3.heap.size := lt_of_cell C3;clear hm3 hord P3 V3 C3 hle HSO HM HVW;obtain ⟨base, hba⟩ : ∃ base, base = w3.heap.size := ⟨_, rfl⟩;have hb1 := Nat.le_of_eq hba;have hb2 := Nat.le_of_eq hba.symm;clear hba
   go_wp2_with fail
   go_loopg [6, 29] (allI l).length (fun gk x i wr => FoRel w3 base l gk x i wr)
   case atStart => exact ⟨0, [], none, 0, by omega, by omega, rfl, rfl, by simp [fmS, famT, foldK], ⟨⟨rfl, .inl ⟨rfl, rfl⟩⟩, .inl rfl⟩, Mod.refl _ _, hb1⟩
   case round =>
    obtain ⟨k, fs, Ao, cap, rfl, hk, rfl, rfl, hfs, hown, hm, hsz⟩ := hrel
    by_cases hlt : k < (allI l).length
    ·obtain ⟨hfl, hfi⟩ := fo_len hk hfs;have hi : (allI l)[k] < l.length := (mem_all HR.out.end5 _).1 (List.getElem_mem hlt);have q1 := HORD.out wr hm k hlt;have HTOP := Lib.hid (HR.out.top_iff hi);have HF1 := Lib.hid (foldK_succ hlt)
     have HFN : Hid (upI l (allI l)[k] ≠ none → foldK l k ≠ []) := Lib.hid (fun h => by
      refine foldK_ne ?_ hk
      rcases Nat.eq_zero_or_pos k with rfl | h0
      ·exact absurd (all_first l hlt) h
      ·exact h0)
     generalize (allI l)[k] = i at *;have HII : Hid (l[i].id = idAt2 l i) := Lib.hid (idAt2_eq hi).symm;obtain ⟨A', n', c', he, _, _, hl2, hr⟩ := HV3.out
     injection he with he1 he2 he3
     subst he1 he2 he3;obtain ⟨g, off, rfl, hrow⟩ := hr (by omega);clear hl2 hr;have hgb : g < base := Nat.lt_of_lt_of_le hrow.lt (by omega);have HCI : Hid (∀ W, Pure w3 W → W.cell? ⟨g, off + i * 7, none⟩ = some (.string ⟨l[i].id.toArray⟩)) := Lib.hid (fun W h => (item_cells (hrow.mod h id) hi).1);have q2 := (item_cells (hrow.mod hm id) hi).2.2.2.2.2.1;have q3 := HC3.out wr hm;have q4 := HCI.out wr hm
     have i1 : (0 : Int) ≤ (i : Int) := by omega
     have i2 : (i : Int) < (l.length : Int) := by omega
     have HFS := Lib.hid hfs;have HOWN := Lib.hid hown;have HHM := Lib.hid hm;have hown1 := hown.1;clear hrow hfs hown hm
     go_upto_if 38 with (fail)
     go_cut [6] (fun x wx => FoCut w3 base l k i x wx)
     case first =>
      cases he : l[i].par.isEmpty
      ·have hne : upI l i ≠ none := fun h => by
        rw [HTOP.out.1 h] at he
        cases he
       have HNE := Lib.hid hne;clear hne
       go_wp2_with fail
       go_meet
       have hfn : fs ≠ [] := by
        rintro rfl;have h := HFS.out;simp only [fmS, List.map_nil] at h;refine HFN.out HNE.out ?_;unfold famT at h;exact List.map_eq_nil_iff.1 h.symm
       refine foCut_mk HOWN.out hfn ?_ (by omega) hfi HHM.out hsz;rintro fs0 p rfl;rw [HF1.out];refine (famT_kid HNE.out (fs0 := fmS fs0) (p := (p.1, p.2.2)) ?_).symm;rw [← HFS.out];simp [fmS]
      ·have htop : upI l i = none := HTOP.out.2 (by simpa using he);have HT := Lib.hid htop;clear htop
       go_wp2_with (at_builtin; refine wpList_append_lies _ rfl _ _ _ rfl base 90 i0 _ 2 40 Tryz.underlying83 hi0 hz0 hz1 hz2 rfl (by omega) (.slice Ao fs.length cap) fs.length (fmV fs) rfl (hown1.alloc _) ⟨wr.heap.size, 0, none⟩ 1 1 [.string ⟨l[i].id.toArray⟩, .slice none 0 0] rfl rfl (World.news_of_block (cs := #[.string ⟨l[i].id.toArray⟩, .slice none 0 0]) (t := 90) (fr := (0, 0)) (heap_alloc_new wr _)) (by simp [Value.oneCell']) (by omega) (by simp [maxLen]; omega) (by omega) (by have := HHM.out.size; simp; omega) (wr.heap.size + 1) (by simp) ?_; intro g5 cap5 w5 hown5 hgrow hat hlt5)
       go_meet;have hT := (HOWN.out.pure (pure_alloc wr _)).top hgrow rfl hown5 (by simp; omega);refine foCut_mk hT (by simp) ?_ (by simp; omega) ?_ ((HHM.out.alloc _).grown hgrow (fun k hk => .inr (by have := own_block hown1 k hk; omega))) (Nat.le_trans (by simp; omega) hgrow.size)
       ·rintro fs0 p hp;obtain ⟨h1, h2⟩ := List.append_inj' hp (by simp)
        injection h2 with h2 _
        subst h1 h2;rw [HF1.out, famT_top HT.out, ← HFS.out, HII.out]
        rfl
       ·intro p hp
        rcases List.mem_append.1 hp with hp | hp
        ·exact hfi p hp
        ·rw [List.mem_singleton.1 hp];simp
     case rest =>
      clear HFS HOWN HHM hown1 hfl hfi hsz HTOP HF1 HFN q1 q2 q3 q4;obtain ⟨fs0, t, Ai, ids, ci, gf, cf, bl, rfl, hL, hEQ, hm, hsz, hf0, hid⟩ := hcut;generalize l[i].id = idv at *;have HOL : Hid (∀ j, (Value.slice Ai ids.length ci).ownBlock = some j → j < wc.heap.size) := Lib.hid (fun j hj => (hL.own.lt j hj).2);have hgf := hL.lt;have hgf1 := hgf.1;have hgf2 := hgf.2;have hbl1 := hL.b1;have hbl2 := hL.b2;have HL := Lib.hid hL;have HEQ := Lib.hid hEQ;have HMC := Lib.hid hm;have q3 := HC3.out wc hm;have q4 := HCI.out wc hm;clear hL hEQ hm hgf hi0 hz0 hz1 hz2 i0;obtain ⟨i0, hi0, hz0, hz1, hz2⟩ := info_parts info_str7
      go_wp2_with fail
      have HGs := Lib.hid (show ∀ (D : Nat → Bool) (zzi : Nat) (zq zq' : World), zzi ≠ 11 → (fun D zq => (D 11 = false → (fun Z => FoLast Z base gf cf bl fs0 t (.slice Ai ids.length ci) ids) zq) ∧ (fun Z => Z.cell? ⟨gc, 0, none⟩ = some (.slice (some ⟨g, off, none⟩) l.length c) ∧ Z.cell? ⟨g, off + i * 7, none⟩ = some (.string ⟨idv.toArray⟩)) zq) D zq → Mod (fun _ => False) zq zq' → (fun D zq => (D 11 = false → (fun Z => FoLast Z base gf cf bl fs0 t (.slice Ai ids.length ci) ids) zq) ∧ (fun Z => Z.cell? ⟨gc, 0, none⟩ = some (.slice (some ⟨g, off, none⟩) l.length c) ∧ Z.cell? ⟨g, off + i * 7, none⟩ = some (.string ⟨idv.toArray⟩)) zq) (upd D zzi true) zq' from by intro D zzi zq zq' hi hh hm; refine ⟨fun hs => ?_, ?_⟩; (rw [upd_ne _ _ (Ne.symm hi)] at hs; have h := hh.1 hs; (exact h.pure hm)); (have h := hh.2; (exact ⟨hm.keep h.1 _root_.id, hm.keep h.2 _root_.id⟩)))
      refine wp_region_inv (by kernel_rfl) (by kernel_rfl) (InvF (R := Mod (fun _ => False)) [.is (.pointer (some ⟨gf, fs0.length * 2, none⟩)),
        .is (.pointer (some ⟨gf, fs0.length * 2, none⟩)),
        .is (.pointer (some ⟨gf, fs0.length * 2, none⟩)),
        .is (.pointer (some ⟨gf, fs0.length * 2 + 1, none⟩)),
        .is (.slice Ai ids.length ci),
        .is (.slice (some ⟨g, off, none⟩) l.length c),
        .is (.int .i64 (i : Int)),
        .is (.pointer (some ⟨g, off + i * 7, none⟩)),
        .is (.pointer (some ⟨g, off + i * 7, none⟩)),
        .is (.string ⟨idv.toArray⟩),
        ⟨fun zv zw => ∃ (g_10 : Nat), zv = .slice (some ⟨g_10, 0, none⟩) 1 1 ∧ wc.heap.size ≤ g_10 ∧ Blk zw g_10 9 #[.string ⟨idv.toArray⟩], (by rintro zv zw zx ⟨g_10, rfl, c0, q0⟩ hm; exact ⟨g_10, rfl, c0, (q0.modp hm)⟩), none, some 11⟩,
        ⟨fun zv zw => ∃ (g_11 : Nat) (c_11 : Nat), zv = .slice (some ⟨g_11, 0, none⟩) (ids.length + 1) c_11 ∧ FoPre zw base gf cf bl fs0 t (.slice Ai ids.length ci) ids idv (.slice (some ⟨g_11, 0, none⟩) (ids.length + 1) c_11), (by rintro zv zw zx ⟨g_11, c_11, rfl, q0⟩ hm; exact ⟨g_11, c_11, rfl, (q0.pure hm)⟩), none, some 14⟩,
        .is (.pointer (some ⟨gf, fs0.length * 2, none⟩)),
        .is (.pointer (some ⟨gf, fs0.length * 2 + 1, none⟩)),
        ⟨fun zv zw => zv = undef ∧ FoNew zw base gf cf fs0 t ids idv, (by rintro zv zw zx ⟨rfl, q0⟩ hm; exact ⟨rfl, (q0.pure hm)⟩), none, none⟩]
        (PB w3 (fun _ => False) wc.heap.size (fun D zq => (D 11 = false → (fun Z => FoLast Z base gf cf bl fs0 t (.slice Ai ids.length ci) ids) zq) ∧ (fun Z => Z.cell? ⟨gc, 0, none⟩ = some (.slice (some ⟨g, off, none⟩) l.length c) ∧ Z.cell? ⟨g, off + i * 7, none⟩ = some (.string ⟨idv.toArray⟩)) zq))) (InvF.start (PB.start HMC.out (Nat.le_refl _) (⟨fun _ => HL.out.pure ((Mod.refl _ _).drew), ⟨q3, q4⟩⟩))) ?_ ?_
      ·refine .cons ?_ (.cons ?_ (.cons ?_ (.cons ?_ (.cons ?_ (.cons ?_ (.cons ?_ (.cons ?_ (.cons ?_ (.cons ?_ (.cons ?_ (.cons ?_ (.cons ?_ (.cons ?_ (.cons ?_ .nil))))))))))))))
       ·intro D V zw1 a hR hI K hK;obtain ⟨hM1, hB1, hG1⟩ := hI.1;obtain ⟨hGK, hG1⟩ := hG1;obtain ⟨hG1a, hG1b⟩ := hG1;have ze9 := hR.frame.other (t := 9) (by kernel_rfl) rfl;rw [if_pos (by rfl)];go_simp;exact hK (.pointer (some ⟨gf, fs0.length * 2, none⟩)) _ (hI.next hR (by kernel_rfl) (Mod.refl _ _) (PB.quiet hI.1 (Mod.refl _ _) (HGs.out D 0 zw1 zw1 (by omega) (hI.1).g (Mod.refl _ _))) (upd_same V 0 _))
       ·intro D V zw1 a hR hI K hK;obtain ⟨hM1, hB1, hG1⟩ := hI.1;obtain ⟨hGK, hG1⟩ := hG1;obtain ⟨hG1a, hG1b⟩ := hG1;have ze9 := hR.frame.other (t := 9) (by kernel_rfl) rfl;rw [if_pos (by rfl)];go_simp;exact hK (.pointer (some ⟨gf, fs0.length * 2, none⟩)) _ (hI.next hR (by kernel_rfl) (Mod.refl _ _) (PB.quiet hI.1 (Mod.refl _ _) (HGs.out D 1 zw1 zw1 (by omega) (hI.1).g (Mod.refl _ _))) (upd_same V 1 _))
       ·intro D V zw1 a hR hI K hK;obtain ⟨hM1, hB1, hG1⟩ := hI.1;obtain ⟨hGK, hG1⟩ := hG1;obtain ⟨hG1a, hG1b⟩ := hG1;have zd1 := hR.pred 1 (by kernel_rfl);have zf1 : V 1 = .pointer (some ⟨gf, fs0.length * 2, none⟩) := hI.2 1 zd1 rfl;have ze54 := hR.frame.done (t := 54) (j := 1) (by kernel_rfl) hR.ok zd1;rw [if_pos (by rfl)];go_simp;exact hK (.pointer (some ⟨gf, fs0.length * 2, none⟩)) _ (hI.next hR (by kernel_rfl) (Mod.refl _ _) (PB.quiet hI.1 (Mod.refl _ _) (HGs.out D 2 zw1 zw1 (by omega) (hI.1).g (Mod.refl _ _))) (upd_same V 2 _))
       ·intro D V zw1 a hR hI K hK;obtain ⟨hM1, hB1, hG1⟩ := hI.1;obtain ⟨hGK, hG1⟩ := hG1;obtain ⟨hG1a, hG1b⟩ := hG1;have zd2 := hR.pred 2 (by kernel_rfl);have zf2 : V 2 = .pointer (some ⟨gf, fs0.length * 2, none⟩) := hI.2 2 zd2 rfl;have ze55 := hR.frame.done (t := 55) (j := 2) (by kernel_rfl) hR.ok zd2;rw [if_pos (by rfl)];go_simp;exact hK (.pointer (some ⟨gf, fs0.length * 2 + 1, none⟩)) _ (hI.next hR (by kernel_rfl) (Mod.refl _ _) (PB.quiet hI.1 (Mod.refl _ _) (HGs.out D 3 zw1 zw1 (by omega) (hI.1).g (Mod.refl _ _))) (upd_same V 3 _))
       ·intro D V zw1 a hR hI K hK;obtain ⟨hM1, hB1, hG1⟩ := hI.1;obtain ⟨hGK, hG1⟩ := hG1;obtain ⟨hG1a, hG1b⟩ := hG1;have zd3 := hR.pred 3 (by kernel_rfl);have zf3 : V 3 = .pointer (some ⟨gf, fs0.length * 2 + 1, none⟩) := hI.2 3 zd3 rfl;have ze56 := hR.frame.done (t := 56) (j := 3) (by kernel_rfl) hR.ok zd3;have zx0 := (hGK (hR.later 11 rfl (by kernel_rfl))).cell;rw [if_pos (by rfl)];go_simp;exact hK (.slice Ai ids.length ci) _ (hI.next hR (by kernel_rfl) (Mod.refl _ _) (PB.quiet hI.1 (Mod.refl _ _) (HGs.out D 4 zw1 zw1 (by omega) (hI.1).g (Mod.refl _ _))) (upd_same V 4 _))
       ·intro D V zw1 a hR hI K hK;obtain ⟨hM1, hB1, hG1⟩ := hI.1;obtain ⟨hGK, hG1⟩ := hG1;obtain ⟨hG1a, hG1b⟩ := hG1;have ze1 := hR.frame.other (t := 1) (by kernel_rfl) rfl;have zx0 := hG1a;rw [if_pos (by rfl)];go_simp;exact hK (.slice (some ⟨g, off, none⟩) l.length c) _ (hI.next hR (by kernel_rfl) (Mod.refl _ _) (PB.quiet hI.1 (Mod.refl _ _) (HGs.out D 5 zw1 zw1 (by omega) (hI.1).g (Mod.refl _ _))) (upd_same V 5 _))
       ·intro D V zw1 a hR hI K hK;obtain ⟨hM1, hB1, hG1⟩ := hI.1;obtain ⟨hGK, hG1⟩ := hG1;obtain ⟨hG1a, hG1b⟩ := hG1;have ze8 := hR.frame.other (t := 8) (by kernel_rfl) rfl;rw [if_pos (by rfl)];go_simp;exact hK (.int .i64 (i : Int)) _ (hI.next hR (by kernel_rfl) (Mod.refl _ _) (PB.quiet hI.1 (Mod.refl _ _) (HGs.out D 6 zw1 zw1 (by omega) (hI.1).g (Mod.refl _ _))) (upd_same V 6 _))
       ·intro D V zw1 a hR hI K hK;obtain ⟨hM1, hB1, hG1⟩ := hI.1;obtain ⟨hGK, hG1⟩ := hG1;obtain ⟨hG1a, hG1b⟩ := hG1;have zd5 := hR.pred 5 (by kernel_rfl);have zf5 : V 5 = .slice (some ⟨g, off, none⟩) l.length c := hI.2 5 zd5 rfl;have zd6 := hR.pred 6 (by kernel_rfl);have zf6 : V 6 = .int .i64 (i : Int) := hI.2 6 zd6 rfl;have ze58 := hR.frame.done (t := 58) (j := 5) (by kernel_rfl) hR.ok zd5;have ze59 := hR.frame.done (t := 59) (j := 6) (by kernel_rfl) hR.ok zd6;rw [if_pos (by rfl)];go_simp;exact hK (.pointer (some ⟨g, off + i * 7, none⟩)) _ (hI.next hR (by kernel_rfl) (Mod.refl _ _) (PB.quiet hI.1 (Mod.refl _ _) (HGs.out D 7 zw1 zw1 (by omega) (hI.1).g (Mod.refl _ _))) (upd_same V 7 _))
       ·intro D V zw1 a hR hI K hK;obtain ⟨hM1, hB1, hG1⟩ := hI.1;obtain ⟨hGK, hG1⟩ := hG1;obtain ⟨hG1a, hG1b⟩ := hG1;have zd7 := hR.pred 7 (by kernel_rfl);have zf7 : V 7 = .pointer (some ⟨g, off + i * 7, none⟩) := hI.2 7 zd7 rfl;have ze60 := hR.frame.done (t := 60) (j := 7) (by kernel_rfl) hR.ok zd7;rw [if_pos (by rfl)];go_simp;exact hK (.pointer (some ⟨g, off + i * 7, none⟩)) _ (hI.next hR (by kernel_rfl) (Mod.refl _ _) (PB.quiet hI.1 (Mod.refl _ _) (HGs.out D 8 zw1 zw1 (by omega) (hI.1).g (Mod.refl _ _))) (upd_same V 8 _))
       ·intro D V zw1 a hR hI K hK;obtain ⟨hM1, hB1, hG1⟩ := hI.1;obtain ⟨hGK, hG1⟩ := hG1;obtain ⟨hG1a, hG1b⟩ := hG1;have zd8 := hR.pred 8 (by kernel_rfl);have zf8 : V 8 = .pointer (some ⟨g, off + i * 7, none⟩) := hI.2 8 zd8 rfl;have ze61 := hR.frame.done (t := 61) (j := 8) (by kernel_rfl) hR.ok zd8;have zx0 := hG1b;rw [if_pos (by rfl)];go_simp;exact hK (.string ⟨idv.toArray⟩) _ (hI.next hR (by kernel_rfl) (Mod.refl _ _) (PB.quiet hI.1 (Mod.refl _ _) (HGs.out D 9 zw1 zw1 (by omega) (hI.1).g (Mod.refl _ _))) (upd_same V 9 _))
       ·intro D V zw1 a hR hI K hK;obtain ⟨hM1, hB1, hG1⟩ := hI.1;obtain ⟨hGK, hG1⟩ := hG1;obtain ⟨hG1a, hG1b⟩ := hG1;have zd9 := hR.pred 9 (by kernel_rfl);have zf9 : V 9 = .string ⟨idv.toArray⟩ := hI.2 9 zd9 rfl;have ze62 := hR.frame.done (t := 62) (j := 9) (by kernel_rfl) hR.ok zd9;rw [if_pos (by rfl)];go_simp;exact hK (_) _ (hI.next hR (by kernel_rfl) ((Mod.refl _ _).alloc _) (PB.quiet hI.1 (pure_alloc _ _) (HGs.out D 10 _ _ (by omega) (hI.1).g ((Mod.refl _ _).alloc _))) (⟨_, upd_same V 10 _, (by omega), (Blk.new _ _ _)⟩))
       ·intro D V zw1 a hR hI K hK;obtain ⟨hM1, hB1, hG1⟩ := hI.1;obtain ⟨hGK, hG1⟩ := hG1;obtain ⟨hG1a, hG1b⟩ := hG1;have zd4 := hR.pred 4 (by kernel_rfl);have zf4 : V 4 = .slice Ai ids.length ci := hI.2 4 zd4 rfl;have zd10 := hR.pred 10 (by kernel_rfl);have zF10 : ∃ (g_10 : Nat), V 10 = .slice (some ⟨g_10, 0, none⟩) 1 1 ∧ wc.heap.size ≤ g_10 ∧ Blk zw1 g_10 9 #[.string ⟨idv.toArray⟩] := hI.2 10 zd10 (by show (!D 11) = true; rw [hR.not]; rfl);obtain ⟨g_10, zf10, c10_0, b10_0⟩ := zF10;have ze57 := hR.frame.done (t := 57) (j := 4) (by kernel_rfl) hR.ok zd4;have ze63 := hR.frame.done (t := 63) (j := 10) (by kernel_rfl) hR.ok zd10;rw [if_pos (by rfl)];have hown := (hGK hR.not).own;refine wp_append_lies _ (.tmp 57) (.tmp 63) 29 (by rfl) bl 9 i0 _ 1 16 Tryz.underlying29 hi0 hz0 hz1 hz2 (by rfl) (by omega) (.slice Ai ids.length ci) (ids.length) (strsV ids) ?_ hown ⟨g_10, 0, none⟩ 1 1 [.string ⟨idv.toArray⟩] ?_ (by rfl) (World.news_of_block (cs := #[.string ⟨idv.toArray⟩]) (t := 9) (fr := (0, 0)) b10_0) (by simp [Value.oneCell']) (by omega) (by simp [maxLen]; omega) (by omega) (by omega) zw1.heap.size rfl ?_
        ·show a.tmps.getD 57 undef = _; simp [ze57, zf4]
        ·show a.tmps.getD 63 undef = _; simp [ze63, zf10]
        intro g5 cap5 zw2 hown5 hgrow hat hlt5;have hT := mod_grown hgrow;have hTb : ∀ j, (.slice Ai ids.length ci : Value).ownBlock = some j → bl ≤ j := own_block hown;have hTl : ∀ j, (.slice Ai ids.length ci : Value).ownBlock = some j → j < wc.heap.size := HOL.out;refine hK _ _ (InvF.last (PB.writes hI.1 (fun j hj hl => by have := hTb j hj; omega) hT ⟨fun hs => absurd hs (by rw [upd_same]; decide), ⟨hT.keep hG1a (fun h => by have h3 : bl ≤ gc := hTb _ h; omega), hT.keep hG1b (fun h => by have h3 : bl ≤ g := hTb _ h; omega)⟩⟩) ⟨_, _, upd_same V 11 _, ⟨_, _, hGK hR.not, hgrow, rfl, hown5⟩⟩ ?_);intro k hk hDk hlv;have hkl := hR.lt k hDk;have hv := hI.2 k hDk (liveB_of hlv)
        match k, hk, hDk, hlv, hkl, hv with
        | 0, _, _, _, _, hv => exact hv
        | 1, _, _, _, _, hv => exact hv
        | 2, _, _, _, _, hv => exact hv
        | 3, _, _, _, _, hv => exact hv
        | 4, _, _, _, _, hv => exact hv
        | 5, _, _, _, _, hv => exact hv
        | 6, _, _, _, _, hv => exact hv
        | 7, _, _, _, _, hv => exact hv
        | 8, _, _, _, _, hv => exact hv
        | 9, _, _, _, _, hv => exact hv
        | 10, _, _, hlv, _, _ => exact absurd hlv (by show ¬ (!upd D 11 true 11) = true; rw [upd_same]; decide)
        | 11, hk, _, _, _, _ => exact absurd rfl hk
        | 12, _, _, _, _, hv => exact hv
        | 13, _, _, _, _, hv => exact hv
        | 14, _, hDk, _, _, _ => exact absurd hDk (by rw [hR.later 14 rfl (by kernel_rfl)]; decide)
        | k + 15, _, _, _, hkl, _ => exact absurd hkl (by simp)
       ·intro D V zw1 a hR hI K hK;obtain ⟨hM1, hB1, hG1⟩ := hI.1;obtain ⟨hGK, hG1⟩ := hG1;obtain ⟨hG1a, hG1b⟩ := hG1;have zd0 := hR.pred 0 (by kernel_rfl);have zf0 : V 0 = .pointer (some ⟨gf, fs0.length * 2, none⟩) := hI.2 0 zd0 rfl;have ze53 := hR.frame.done (t := 53) (j := 0) (by kernel_rfl) hR.ok zd0;rw [if_pos (by rfl)];go_simp;exact hK (.pointer (some ⟨gf, fs0.length * 2, none⟩)) _ (hI.next hR (by kernel_rfl) (Mod.refl _ _) (PB.quiet hI.1 (Mod.refl _ _) (HGs.out D 12 zw1 zw1 (by omega) (hI.1).g (Mod.refl _ _))) (upd_same V 12 _))
       ·intro D V zw1 a hR hI K hK;obtain ⟨hM1, hB1, hG1⟩ := hI.1;obtain ⟨hGK, hG1⟩ := hG1;obtain ⟨hG1a, hG1b⟩ := hG1;have zd12 := hR.pred 12 (by kernel_rfl);have zf12 : V 12 = .pointer (some ⟨gf, fs0.length * 2, none⟩) := hI.2 12 zd12 rfl;have ze65 := hR.frame.done (t := 65) (j := 12) (by kernel_rfl) hR.ok zd12;rw [if_pos (by rfl)];go_simp;exact hK (.pointer (some ⟨gf, fs0.length * 2 + 1, none⟩)) _ (hI.next hR (by kernel_rfl) (Mod.refl _ _) (PB.quiet hI.1 (Mod.refl _ _) (HGs.out D 13 zw1 zw1 (by omega) (hI.1).g (Mod.refl _ _))) (upd_same V 13 _))
       ·intro D V zw1 a hR hI K hK;obtain ⟨hM1, hB1, hG1⟩ := hI.1;obtain ⟨hGK, hG1⟩ := hG1;obtain ⟨hG1a, hG1b⟩ := hG1;have zd13 := hR.pred 13 (by kernel_rfl);have zf13 : V 13 = .pointer (some ⟨gf, fs0.length * 2 + 1, none⟩) := hI.2 13 zd13 rfl;have zd11 := hR.pred 11 (by kernel_rfl);have zF11 : ∃ (g_11 : Nat) (c_11 : Nat), V 11 = .slice (some ⟨g_11, 0, none⟩) (ids.length + 1) c_11 ∧ FoPre zw1 base gf cf bl fs0 t (.slice Ai ids.length ci) ids idv (.slice (some ⟨g_11, 0, none⟩) (ids.length + 1) c_11) := hI.2 11 zd11 (by show (!D 14) = true; rw [hR.not]; rfl);obtain ⟨g_11, c_11, zf11, b11_0⟩ := zF11;have ze66 := hR.frame.done (t := 66) (j := 13) (by kernel_rfl) hR.ok zd13;have ze64 := hR.frame.done (t := 64) (j := 11) (by kernel_rfl) hR.ok zd11;rw [if_pos (by rfl)];have hP := b11_0;have zx0 := hP.cell;have zy0 : zw1.frozen? ⟨gf, fs0.length * 2 + 1, none⟩ = false := hP.outs.frozenAt _;have hSt := hP.store;go_simp;refine hK undef _ (InvF.last ⟨hM1.setCell (.inr (by show _ ≤ gf; omega)) _, (by simpa using hB1), ⟨fun hs => absurd hs (by rw [upd_ne _ _ (by omega), hR.pred 11 (by kernel_rfl)]; decide), ⟨cell_far hG1a (by show gf ≠ gc; omega), cell_far hG1b (by show gf ≠ g; omega)⟩⟩⟩ ⟨upd_same _ 14 _, _, hSt⟩ ?_);intro k hk hDk hlv;have hkl := hR.lt k hDk;have hv := hI.2 k hDk (liveB_of hlv)
        match k, hk, hDk, hlv, hkl, hv with
        | 0, _, _, _, _, hv => exact hv
        | 1, _, _, _, _, hv => exact hv
        | 2, _, _, _, _, hv => exact hv
        | 3, _, _, _, _, hv => exact hv
        | 4, _, _, _, _, hv => exact hv
        | 5, _, _, _, _, hv => exact hv
        | 6, _, _, _, _, hv => exact hv
        | 7, _, _, _, _, hv => exact hv
        | 8, _, _, _, _, hv => exact hv
        | 9, _, _, _, _, hv => exact hv
        | 10, _, _, hlv, _, _ => exact absurd hlv (by show ¬ (!upd D 14 true 11) = true; rw [upd_ne _ _ (by omega), hR.pred 11 (by kernel_rfl)]; decide)
        | 11, _, _, hlv, _, _ => exact absurd hlv (by show ¬ (!upd D 14 true 14) = true; rw [upd_same]; decide)
        | 12, _, _, _, _, hv => exact hv
        | 13, _, _, _, _, hv => exact hv
        | 14, hk, _, _, _, _ => exact absurd rfl hk
        | k + 15, _, _, _, hkl, _ => exact absurd hkl (by simp)
      ·intro D V w7 hD hI;obtain ⟨hM1, hB1, hG1⟩ := hI.1;have hMx := hM1;clear hM1;have hBx := hB1;clear hB1;have hGx := hG1.2;clear hG1;have zf0 : V 0 = .pointer (some ⟨gf, fs0.length * 2, none⟩) := hI.2 0 (hD 0 (by decide)) rfl;have zf1 : V 1 = .pointer (some ⟨gf, fs0.length * 2, none⟩) := hI.2 1 (hD 1 (by decide)) rfl;have zf2 : V 2 = .pointer (some ⟨gf, fs0.length * 2, none⟩) := hI.2 2 (hD 2 (by decide)) rfl;have zf3 : V 3 = .pointer (some ⟨gf, fs0.length * 2 + 1, none⟩) := hI.2 3 (hD 3 (by decide)) rfl;have zf4 : V 4 = .slice Ai ids.length ci := hI.2 4 (hD 4 (by decide)) rfl;have zf5 : V 5 = .slice (some ⟨g, off, none⟩) l.length c := hI.2 5 (hD 5 (by decide)) rfl;have zf6 : V 6 = .int .i64 (i : Int) := hI.2 6 (hD 6 (by decide)) rfl;have zf7 : V 7 = .pointer (some ⟨g, off + i * 7, none⟩) := hI.2 7 (hD 7 (by decide)) rfl;have zf8 : V 8 = .pointer (some ⟨g, off + i * 7, none⟩) := hI.2 8 (hD 8 (by decide)) rfl;have zf9 : V 9 = .string ⟨idv.toArray⟩ := hI.2 9 (hD 9 (by decide)) rfl;have zf12 : V 12 = .pointer (some ⟨gf, fs0.length * 2, none⟩) := hI.2 12 (hD 12 (by decide)) rfl;have zf13 : V 13 = .pointer (some ⟨gf, fs0.length * 2 + 1, none⟩) := hI.2 13 (hD 13 (by decide)) rfl;have zF14 : V 14 = undef ∧ FoNew w7 base gf cf fs0 t ids idv := hI.2 14 (hD 14 (by decide)) rfl;obtain ⟨zf14, b14_0⟩ := zF14;clear hI hD HGs;simp only [frAll, Act.put, List.setIfInBounds_toArray, List.set_cons_zero, List.set_cons_succ, Nat.zero_add, Nat.reduceAdd, zf0, zf1, zf2, zf3, zf4, zf5, zf6, zf7, zf8, zf9, zf12, zf13, zf14];clear zf0 zf1 zf2 zf3 zf4 zf5 zf6 zf7 zf8 zf9 zf12 zf13 zf14;generalize V 10 = u10;generalize V 11 = u11;clear V D;obtain ⟨v5, hFN⟩ := b14_0;have hsz7 := hMx.size;have HFO := Lib.hid hFN;have HMX := Lib.hid hMx;clear hFN hMx
       go_wp2_with fail
       go_roundg ((allI l).length - (k + 1))
       case measure => omega
       case rel =>
        refine ⟨k + 1, fs0 ++ [(t, v5, ids ++ [idv])], some ⟨gf, 0, none⟩, cf, rfl, by omega, by simp, by simp, ?_, by simpa using HFO.out, HMX.out, by omega⟩;rw [← HEQ.out, HII.out];simp [fmS]
    ·obtain rfl : k = (allI l).length := by omega
     have HFO := Lib.hid hown;have HHM := Lib.hid hm;have HFS : Hid (fmS fs = famsS l) := Lib.hid (by rw [hfs, foldK_all]);clear hown hm hfs
     go_wp2_with fail
     go_ret;exact ⟨_, fs, rfl, HFO.out.fm, HFS.out, HP3.out.trans HHM.out⟩
end Go.Proofs.YtgfgggeeoeppjaaGreatDoor
/- slices.Equal over strings: the same lists. -/
namespace Go.Proofs.YtgfgggeeoeppjaaGreatDoor
open Go.RowKit
set_option maxHeartbeats 2000000 in
theorem equalS_calls (w : World) (v1 v2 : Value) (xs : List Str) (h1 : Sl w 9 1 v1 (strsV xs)) (h2 : Sl w 9 1 v2 (strsV xs)) : Calls Tryz.prog 24 #[v1, v2] w (BoolPost w true) := by
 obtain ⟨A1, n1, c1, rfl, a1, a2, a3, a4⟩ := h1;obtain ⟨A2, n2, c2, rfl, b1, b2, b3, b4⟩ := h2
 have hn1 : xs.length = n1 := by simpa [strsV] using a3
 have hn2 : xs.length = n2 := by simpa [strsV] using b3
 subst hn1;subst hn2;have HA := Lib.hid a4;have HB := Lib.hid b4
 have hne : ((xs.length : Int) != (xs.length : Int)) = false := by simp
 clear a3 b3 a4 b4
 go_enter Tryz.func24, Tryz.ntmps24
 go_wp2_with fail
 go_loopg [13] xs.length (fun gk i wr => ∃ k : Nat, xs.length - k = gk ∧ k ≤ xs.length ∧ i = .int .i64 (k : Int) ∧ Pure w wr)
 case atStart => exact ⟨0, by omega, by omega, rfl, Mod.refl _ _⟩
 case round =>
  obtain ⟨k, rfl, hk, rfl, hm⟩ := hrel
  by_cases hlt : k < xs.length
  ·obtain ⟨g1, o1, rfl, r1⟩ := HA.out (by omega);obtain ⟨g2, o2, rfl, r2⟩ := HB.out (by omega);have q1 := (r1.mod hm id).cell (strsV_get xs k hlt);have q2 := (r2.mod hm id).cell (strsV_get xs k hlt)
   have t1 : (xs[k] != xs[k]) = false := by simp
   have i1 : (0 : Int) ≤ (k : Int) := by omega
   have i2 : (k : Int) < (xs.length : Int) := by omega
   clear r1 r2;generalize xs[k] = x at *
   go_wp2_with fail
   go_quiet (fail)
   go_wp2_with fail
   go_roundg (xs.length - (k + 1))
   case measure => omega
   case rel => exact ⟨k + 1, rfl, by omega, by simp, hm.drewN _⟩
  ·have hke : k = xs.length := by omega
   subst hke
   go_wp2_with fail
   go_ret;exact BoolPost.of rfl hm
end Go.Proofs.YtgfgggeeoeppjaaGreatDoor
/- Equal families. -/
namespace Go.Proofs.YtgfgggeeoeppjaaGreatDoor
open Go.RowKit
theorem FmR.at {w : World} {A : Option Addr} {n c : Nat} {xs : List Fm} (h : FmR w (.slice A n c) xs) {k : Nat} (hk : k < xs.length) :
  ∃ g off B m d, A = some ⟨g, off, none⟩ ∧ w.cell? ⟨g, off + k * 2, none⟩ = some (.string ⟨xs[k].1.toArray⟩) ∧ w.cell? ⟨g, off + k * 2 + 1, none⟩ = some (.slice B m d) ∧ xs[k].2.1 = .slice B m d ∧ Sl w 9 1 (.slice B m d) (strsV xs[k].2.2) := by
 have hs := h.2 _ (List.getElem_mem hk);obtain ⟨B, m, d, hu⟩ := hs.form;obtain ⟨A', n', c', hf, _, _, hl, hr⟩ := h.1
 injection hf with e1 e2 e3
 subst e1 e2 e3;rw [fmV_len] at hl;obtain ⟨g, off, rfl, hrow⟩ := hr (by omega);obtain ⟨g1, g2⟩ := fmV_get xs k hk;refine ⟨g, off, B, m, d, rfl, hrow.cell g1, ?_, hu, by rw [← hu]; exact hs⟩;have := hrow.cell g2;rw [hu] at this;exact this
theorem FmR.len {w : World} {A : Option Addr} {n c : Nat} {xs : List Fm} (h : FmR w (.slice A n c) xs) : xs.length = n ∧ n ≤ 9223372036854775807 := by
 obtain ⟨A', n', c', hf, h4, h5, hl, _⟩ := h.1
 injection hf with e1 e2 e3
 rw [fmV_len] at hl
 omega
end Go.Proofs.YtgfgggeeoeppjaaGreatDoor
/- WholeOf of the reference. -/
namespace Go.Proofs.YtgfgggeeoeppjaaGreatDoor
open Go.RowKit
end Go.Proofs.YtgfgggeeoeppjaaGreatDoor
