/- Texts of the proof of FilterKeeps, put together: ItmL, ItmM, FltG. -/
import Derived.Test.YtofkkenmkflmiaaGreatDoorFilterKeepsZ21
import Derived.Test.YtofkkenmkflmiaaGreatDoorFilterKeepsZ35
import Derived.Test.YtofkkenmkflmiaaGreatDoorFilterKeepsZ38
import Derived.Test.YtofkkenmkflmiaaGreatDoorFilterKeepsZ39
import Derived.Test.YtofkkenmkflmiaaGreatDoorFilterKeepsZ40
import Derived.Deep.DeepCutAuto
import Derived.Deep.CutBlock
/- The generators of items: RightItems. -/
namespace Go.Proofs.YtofkkenmkflmiaaGreatDoor
set_option linter.unusedVariables false
set_option linter.unusedSimpArgs false
open Go.RowKit

theorem own_form7 {w : World} {base n size : Nat} {e : TypeId} {v : Value} {xs : List Value} (h : w.ownsRow base e size v n xs) (hn : 0 < n) : ∃ g cap, v = .slice (some ⟨g, 0, none⟩) n cap ∧ base ≤ g ∧ g < w.heap.size ∧ n ≤ cap ∧ cap ≤ 9223372036854775807 := by
  rcases h.2 with ⟨rfl, h0⟩ | ⟨g, cap, cur, rfl, hg, hh, hc, hcm, _⟩
  · omega
  · exact ⟨g, cap, rfl, hg, lt_of_heap hh, hc, by simpa [maxLen] using hcm⟩
theorem info_item7 : (Tryz.prog.info? 71).map (fun i => (i.zero, i.size, i.bytes)) = some (some itZ, 7, 96) := by kernel_rfl
/-- A row of items that the call has made. -/
def OwnI (w : World) (base g n cap : Nat) (xs : List Itm) : Prop := w.ownsRow base 71 7 (.slice (some ⟨g, 0, none⟩) n cap) n (itV xs)
theorem OwnI.len {w : World} {base g n cap : Nat} {xs : List Itm} (h : OwnI w base g n cap xs) : xs.length = n := by
  have := h.1
  rw [itV_len] at this
  omega
theorem OwnI.its {w : World} {base g n cap : Nat} {xs : List Itm} (h : OwnI w base g n cap xs) : Its w (.slice (some ⟨g, 0, none⟩) n cap) xs := Sl.of_own h
theorem OwnI.mod {w w' : World} {base g n cap : Nat} {xs : List Itm} {S : Nat → Prop} (h : OwnI w base g n cap xs) (hm : Mod S w w') (hs : ¬ S g) : OwnI w' base g n cap xs := own_mod h hm (fun k hk => by injection hk with hk; rw [← hk]; exact hs)
theorem OwnI.ge {w : World} {base g n cap : Nat} {xs : List Itm} (h : OwnI w base g n cap xs) : base ≤ g ∧ g < w.heap.size := World.ownsRow.lt h g rfl
/-- The cells of item k. -/
theorem OwnI.cells {w : World} {base g n cap k : Nat} {xs : List Itm} (h : OwnI w base g n cap xs) (hk : k < xs.length) :
    w.cell? ⟨g, k * 7, none⟩ = some (.string ⟨xs[k].id.toArray⟩) ∧ w.cell? ⟨g, k * 7 + 1, none⟩ = some (.string ⟨xs[k].cust.toArray⟩) ∧ w.cell? ⟨g, k * 7 + 2, none⟩ = some (.int .i64 xs[k].kind) ∧
    w.cell? ⟨g, k * 7 + 3, none⟩ = some (.string ⟨xs[k].name.toArray⟩) ∧ w.cell? ⟨g, k * 7 + 4, none⟩ = some (.int .i64 xs[k].tm) ∧ w.cell? ⟨g, k * 7 + 5, none⟩ = some (.string ⟨xs[k].par.toArray⟩) ∧ w.cell? ⟨g, k * 7 + 6, none⟩ = some (.string ⟨xs[k].text.toArray⟩) := by
  have hn := h.len
  obtain ⟨h0, h1, h2, h3, h4, h5, h6⟩ := itV_get xs k hk
  exact ⟨(World.ownsRow.cellAt h _ (by omega)).trans h0, (World.ownsRow.cellAt h _ (by omega)).trans h1, (World.ownsRow.cellAt h _ (by omega)).trans h2, (World.ownsRow.cellAt h _ (by omega)).trans h3, (World.ownsRow.cellAt h _ (by omega)).trans h4, (World.ownsRow.cellAt h _ (by omega)).trans h5, (World.ownsRow.cellAt h _ (by omega)).trans h6⟩
theorem OwnI.frozen {w : World} {base g n cap : Nat} {xs : List Itm} (h : OwnI w base g n cap xs) (j : Nat) : w.frozen? ⟨g, j, none⟩ = false := World.ownsRow.frozenAt h j
theorem itV_set : ∀ (xs : List Itm) (k : Nat) (y : Itm) (d : Nat) (u : Value), k < xs.length → d < 7 → (itC (xs.getD k y)).set d u = itC y → (itV xs).set (k * 7 + d) u = itV (xs.set k y)
  | [], k, y, d, u, hk, _, _ => absurd hk (by simp)
  | x :: xs, 0, y, d, u, _, hd, h => by
    have hl : (itC x).length = 7 := rfl
    simp only [List.getD_cons_zero] at h
    simp only [itV, List.flatMap_cons, Nat.zero_mul, Nat.zero_add, List.set_cons_zero]
    rw [List.set_append, if_pos (by rw [hl]; exact hd), h]
  | x :: xs, k + 1, y, d, u, hk, hd, h => by
    have hl : (itC x).length = 7 := rfl
    have := itV_set xs k y d u (by simpa using hk) hd (by simpa using h)
    simp only [itV, List.flatMap_cons, List.set_cons_succ] at this ⊢
    rw [List.set_append, if_neg (by rw [hl]; omega), hl, show (k + 1) * 7 + d - 7 = k * 7 + d by omega, this]
/-- A store of a parent. -/
theorem OwnI.setPar {w : World} {base g n cap k : Nat} {xs : List Itm} (h : OwnI w base g n cap xs) (hk : k < xs.length) (s : Str) : OwnI (w.setCell ⟨g, k * 7 + 5, none⟩ (.string ⟨s.toArray⟩)) base g n cap (xs.set k { xs[k] with par := s }) := by
  have h1 := (World.ownsRow.stored h (k * 7 + 5) (.string ⟨s.toArray⟩)).1
  rw [itV_set xs k { xs[k] with par := s } 5 _ hk (by omega) (by simp [List.getD, hk, itC])] at h1
  exact h1
theorem OwnI.setKind {w : World} {base g n cap k : Nat} {xs : List Itm} (h : OwnI w base g n cap xs) (hk : k < xs.length) (z : Int) : OwnI (w.setCell ⟨g, k * 7 + 2, none⟩ (.int .i64 z)) base g n cap (xs.set k { xs[k] with kind := z }) := by
  have h1 := (World.ownsRow.stored h (k * 7 + 2) (.int .i64 z)).1
  rw [itV_set xs k { xs[k] with kind := z } 2 _ hk (by omega) (by simp [List.getD, hk, itC])] at h1
  exact h1
theorem set_all {xs : List Itm} {k : Nat} {y : Itm} (h : ∀ x ∈ xs, ItG x) (hy : ItG y) : ∀ x ∈ xs.set k y, ItG x := fun x hx => by
  rcases List.mem_or_eq_of_mem_set hx with hx | rfl
  · exact h x hx
  · exact hy
theorem ItG.par {x : Itm} (h : ItG x) {s : Str} (hs : s.length ≤ 30000) : ItG { x with par := s } := ⟨h.1, h.2.1, h.2.2.1, hs, h.2.2.2.2⟩
theorem ItG.kind {x : Itm} (h : ItG x) (z : Int) : ItG { x with kind := z } := ⟨h.1, h.2.1, h.2.2.1, h.2.2.2.1, h.2.2.2.2⟩

theorem ItB.par {x : Itm} (h : ItB x) {s : Str} (hs : s.length ≤ 30000) : ItB { x with par := s } := ⟨h.1, h.2.1, h.2.2.1, hs, h.2.2.2.2⟩
theorem ItB.kind {x : Itm} (h : ItB x) (z : Int) : ItB { x with kind := z } := ⟨h.1, h.2.1, h.2.2.1, h.2.2.2.1, h.2.2.2.2⟩

theorem le_nilI : ∀ x ∈ ([] : List Itm), ItG x := fun x hx => absurd hx (by simp)
def ItemsPostG (w : World) (b N m : Nat) (e : Ending) (w' : World) : Prop :=
  ∃ (v : Value) (xs : List Itm), e = .returned v ∧ xs.length ≤ m ∧ (∀ x ∈ xs, ItG x) ∧ w'.ownsRow w.heap.size 71 7 v xs.length (itV xs) ∧ Strm w' b N ∧ Mod (· = b) w w'
def Ri1 (w : World) (b N m gk : Nat) (ov i : Value) (wr : World) : Prop :=
  ∃ (j : Nat) (xs : List Itm) (A : Option Addr) (cap : Nat), m - j = gk ∧ j ≤ m ∧ ov = .slice A xs.length cap ∧ i = .int .i64 (j : Int) ∧ xs.length ≤ j ∧ (∀ x ∈ xs, ItG x) ∧ wr.ownsRow w.heap.size 71 7 (.slice A xs.length cap) xs.length (itV xs) ∧ Strm wr b (N + 140 * j) ∧ Mod (· = b) w wr ∧ w.heap.size ≤ wr.heap.size
def Ri2 (w : World) (b N base g n cap gk : Nat) (i : Value) (wr : World) : Prop :=
  ∃ (j : Nat) (xs : List Itm), n - j = gk ∧ j ≤ n ∧ i = .int .i64 (j : Int) ∧ (∀ x ∈ xs, ItG x) ∧ OwnI wr base g n cap xs ∧ Strm wr b (N + 2 * j) ∧ Mod (· = b) w wr

set_option maxRecDepth 100000 in
set_option maxHeartbeats 8000000 in
theorem rightItems_callsG (w : World) (b N m : Nat) (hS : Strm w b N) (hN : N ≤ 700000000) (hm : m ≤ 20) (hE : ∀ W, Mod (· = b) w W → Env W) : Calls Tryz.prog 27 #[.pointer (some ⟨b, 0, none⟩), .int .i64 (m : Int)] w (ItemsPostG w b (N + 142 * m) m) := by
  obtain ⟨i0, hi0, hz0, hz1, hz2⟩ := info_parts info_item7
  have HE := Lib.hid hE
  have hbl := hS.lt
  clear hE
  have m0 : Mod (· = b) w w := Mod.refl _ _
  go_enter Tryz.func27, Tryz.ntmps27
  go_wp2_with fail
  go_loopg [5, 12] m (fun gk ov i wr => Ri1 w b N m gk ov i wr)
  case atStart => exact ⟨0, [], none, 0, rfl, by omega, rfl, rfl, by simp, le_nilI, ⟨rfl, .inl ⟨rfl, rfl⟩⟩, hS.more (by omega), m0, Nat.le_refl _⟩
  case round =>
    clear hS m0
    obtain ⟨j, xs, A, cap, rfl, hj, rfl, rfl, hxj, hxz, hown, hS, hmm, hsz⟩ := hrel
    by_cases hlt : j < m
    · have HXZ := Lib.hid hxz
      clear hxz
      go_wp2_with fail
      refine (itemId_calls _ j (by omega)).mono ?_
      rintro e w1 ⟨rfl, hm1⟩
      have hS1 := hS.pure hm1
      have m1 := hmm.transp hm1
      have own1 := own_pure hown hm1
      have hsz1 := hm1.size
      clear hS hmm hown hm1
      go_wp2_with fail
      refine (item_callsG _ b _ (itS j) hS1 (by omega) (by simp [itS])).mono ?_
      rintro e w2 ⟨x, hx, rfl, hS2, hM2⟩
      have hb2 := own_block own1
      have own2 := own_mod own1 hM2 (fun k hk => by have := hb2 k hk; omega)
      have m2 := m1.trans hM2
      have hsz2 := hM2.size
      clear hS1 m1 own1 hM2 hb2
      have HB0 := Lib.hid (Blk.new w2 71 (itQ x))
      have Hm0 := Lib.hid (pure_alloc w2 (.cells (itQ x) 71))
      obtain ⟨bo, hbo⟩ : ∃ bo, (x.id == itS j) = bo := ⟨_, rfl⟩
      have HBO := Lib.hid hbo
      obtain ⟨e1, he1⟩ : ∃ e1, itemE x = e1 := ⟨_, rfl⟩
      have HIF := Lib.hid (fun W (h : Mod (· = b) w W) => itemFault_calls W x hx.b (HE.out W h))
      rw [he1] at HIF
      have HX := Lib.hid hx
      clear hbo he1 hx
      have HID := Lib.hid (fun W => itemId_calls W j (by omega))
      generalize itS j = ij at *
      unfold itA at HIF ⊢
      unfold itQ at HB0 Hm0
      go_upto_region 6 with (fail)
      generalize (w2.alloc (.cells #[.string ⟨x.id.toArray⟩, .string ⟨x.cust.toArray⟩, .int .i64 x.kind, .string ⟨x.name.toArray⟩, .int .i64 x.tm, .string ⟨x.par.toArray⟩, .string ⟨x.text.toArray⟩] 71)) = WS at *
      generalize hgs : w2.heap.size = gs at *
      have hgs1 := Nat.le_of_eq hgs
      have hgs2 := Nat.le_of_eq hgs.symm
      clear hgs
      obtain ⟨bad, hbad⟩ : ∃ bad, bad = (!bo || (!x.par.isEmpty || (e1 != 0))) := ⟨_, rfl⟩
      have HBAD := Lib.hid hbad
      clear hbad
      go_cut [33] (fun p wx => p = .bool bad ∧ Blk wx gs 71 #[.string ⟨x.id.toArray⟩, .string ⟨x.cust.toArray⟩, .int .i64 x.kind, .string ⟨x.name.toArray⟩, .int .i64 x.tm, .string ⟨x.par.toArray⟩, .string ⟨x.text.toArray⟩] ∧ Pure w2 wx)
      case first =>
        cases bo
        · obtain rfl : bad = true := by rw [HBAD.out]; rfl
          have HGs := Lib.hid (show ∀ (D : Nat → Bool) (zzi : Nat) (zq zq' : World), (fun _ zq => (fun Z => Blk Z gs 71 #[.string ⟨x.id.toArray⟩, .string ⟨x.cust.toArray⟩, .int .i64 x.kind, .string ⟨x.name.toArray⟩, .int .i64 x.tm, .string ⟨x.par.toArray⟩, .string ⟨x.text.toArray⟩]) zq) D zq → Mod (fun _ => False) zq zq' → (fun _ zq => (fun Z => Blk Z gs 71 #[.string ⟨x.id.toArray⟩, .string ⟨x.cust.toArray⟩, .int .i64 x.kind, .string ⟨x.name.toArray⟩, .int .i64 x.tm, .string ⟨x.par.toArray⟩, .string ⟨x.text.toArray⟩]) zq) (upd D zzi true) zq' from by intro D zzi zq zq' h hm; (exact h.modp hm))
          refine wp_region_inv (by kernel_rfl) (by kernel_rfl) (InvF (R := Mod (fun _ => False)) [.is (.pointer (some ⟨gs, 0, none⟩)),
              .is (.string ⟨x.id.toArray⟩),
              .is (.int .i64 (j : Int)),
              .is (.string ⟨ij.toArray⟩),
              .is (.bool true),
              .is (.bool true),
              .is (undef),
              .is (undef),
              .is (undef),
              .is (.bool true),
              .is (.bool true),
              .is (undef),
              .is (undef),
              .is (undef),
              .is (.bool true)]
              (PB w2 (fun _ => False) WS.heap.size (fun _ zq => (fun Z => Blk Z gs 71 #[.string ⟨x.id.toArray⟩, .string ⟨x.cust.toArray⟩, .int .i64 x.kind, .string ⟨x.name.toArray⟩, .int .i64 x.tm, .string ⟨x.par.toArray⟩, .string ⟨x.text.toArray⟩]) zq))) (InvF.start (PB.start Hm0.out (Nat.le_refl _) (HB0.out.drew))) ?_ ?_
          · refine .cons ?_ (.cons ?_ (.cons ?_ (.cons ?_ (.cons ?_ (.cons ?_ (.cons ?_ (.cons ?_ (.cons ?_ (.cons ?_ (.cons ?_ (.cons ?_ (.cons ?_ (.cons ?_ (.cons ?_ .nil))))))))))))))
            · intro D V zw1 a hR hI K hK
              obtain ⟨hM1, hB1, hG1⟩ := hI.1
              have ze7 := hR.frame.other (t := 7) (by kernel_rfl) rfl
              rw [if_pos (by rfl)]
              go_simp
              exact hK (.pointer (some ⟨gs, 0, none⟩)) _ (hI.next hR (by kernel_rfl) (Mod.refl _ _) (PB.quiet hI.1 (Mod.refl _ _) (HGs.out D 0 zw1 zw1 (hI.1).g (Mod.refl _ _))) (upd_same V 0 _))
            · intro D V zw1 a hR hI K hK
              obtain ⟨hM1, hB1, hG1⟩ := hI.1
              have zd0 := hR.pred 0 (by kernel_rfl)
              have zF0 : V 0 = .pointer (some ⟨gs, 0, none⟩) := hI.2 0 zd0 rfl
              have zf0 := zF0; clear zF0
              have ze19 := hR.frame.done (t := 19) (j := 0) (by kernel_rfl) hR.ok zd0
              have zx0 := hG1.cell 0; have zx1 := hG1.cell 1; have zx2 := hG1.cell 2; have zx3 := hG1.cell 3; have zx4 := hG1.cell 4; have zx5 := hG1.cell 5; have zx6 := hG1.cell 6
              simp at zx0 zx1 zx2 zx3 zx4 zx5 zx6
              rw [if_pos (by rfl)]
              go_simp
              exact hK (.string ⟨x.id.toArray⟩) _ (hI.next hR (by kernel_rfl) (Mod.refl _ _) (PB.quiet hI.1 (Mod.refl _ _) (HGs.out D 1 zw1 zw1 (hI.1).g (Mod.refl _ _))) (upd_same V 1 _))
            · intro D V zw1 a hR hI K hK
              obtain ⟨hM1, hB1, hG1⟩ := hI.1
              have ze6 := hR.frame.other (t := 6) (by kernel_rfl) rfl
              rw [if_pos (by rfl)]
              go_simp
              exact hK (.int .i64 (j : Int)) _ (hI.next hR (by kernel_rfl) (Mod.refl _ _) (PB.quiet hI.1 (Mod.refl _ _) (HGs.out D 2 zw1 zw1 (hI.1).g (Mod.refl _ _))) (upd_same V 2 _))
            · intro D V zw1 a hR hI K hK
              obtain ⟨hM1, hB1, hG1⟩ := hI.1
              have zd2 := hR.pred 2 (by kernel_rfl)
              have zF2 : V 2 = .int .i64 (j : Int) := hI.2 2 zd2 rfl
              have zf2 := zF2; clear zF2
              have ze21 := hR.frame.done (t := 21) (j := 2) (by kernel_rfl) hR.ok zd2
              rw [if_pos (by rfl)]
              go_simp
              refine (HID.out _).mono ?_
              rintro e zw2 ⟨rfl, hm2⟩
              exact hK (.string ⟨ij.toArray⟩) _ (hI.next hR (by kernel_rfl) hm2 (PB.quiet hI.1 hm2 (HGs.out D 3 _ _ (hI.1).g hm2)) (upd_same V 3 _))
            · intro D V zw1 a hR hI K hK
              obtain ⟨hM1, hB1, hG1⟩ := hI.1
              have zd1 := hR.pred 1 (by kernel_rfl)
              have zF1 : V 1 = .string ⟨x.id.toArray⟩ := hI.2 1 zd1 rfl
              have zf1 := zF1; clear zF1
              have zd3 := hR.pred 3 (by kernel_rfl)
              have zF3 : V 3 = .string ⟨ij.toArray⟩ := hI.2 3 zd3 rfl
              have zf3 := zF3; clear zF3
              have ze20 := hR.frame.done (t := 20) (j := 1) (by kernel_rfl) hR.ok zd1
              have ze22 := hR.frame.done (t := 22) (j := 3) (by kernel_rfl) hR.ok zd3
              have hbo := HBO.out
              rw [if_pos (by rfl)]
              go_simp
              exact hK (.bool true) _ (hI.next hR (by kernel_rfl) (Mod.refl _ _) (PB.quiet hI.1 (Mod.refl _ _) (HGs.out D 4 zw1 zw1 (hI.1).g (Mod.refl _ _))) (upd_same V 4 _))
            · intro D V zw1 a hR hI K hK
              obtain ⟨hM1, hB1, hG1⟩ := hI.1
              have zd4 := hR.pred 4 (by kernel_rfl)
              have zF4 : V 4 = .bool true := hI.2 4 zd4 rfl
              have zf4 := zF4; clear zF4
              have ze23 := hR.frame.done (t := 23) (j := 4) (by kernel_rfl) hR.ok zd4
              rw [if_pos (by rfl)]
              go_simp
              exact hK (.bool true) _ (hI.next hR (by kernel_rfl) (Mod.refl _ _) (PB.quiet hI.1 (Mod.refl _ _) (HGs.out D 5 zw1 zw1 (hI.1).g (Mod.refl _ _))) (upd_same V 5 _))
            · intro D V zw1 a hR hI K hK
              obtain ⟨hM1, hB1, hG1⟩ := hI.1
              have zd5 := hR.pred 5 (by kernel_rfl)
              have zF5 : V 5 = .bool true := hI.2 5 zd5 rfl
              have zf5 := zF5; clear zF5
              have ze24 := hR.frame.done (t := 24) (j := 5) (by kernel_rfl) hR.ok zd5
              rw [if_neg (by simp [Region.wanted, yielded, ze24, zf5])]
              exact hK undef _ (hI.next hR (by kernel_rfl) (Mod.refl _ _) (PB.quiet hI.1 (Mod.refl _ _) (HGs.out D 6 zw1 zw1 (hI.1).g (Mod.refl _ _))) (upd_same V 6 _))
            · intro D V zw1 a hR hI K hK
              obtain ⟨hM1, hB1, hG1⟩ := hI.1
              have zd5 := hR.pred 5 (by kernel_rfl)
              have zF5 : V 5 = .bool true := hI.2 5 zd5 rfl
              have zf5 := zF5; clear zF5
              have ze24 := hR.frame.done (t := 24) (j := 5) (by kernel_rfl) hR.ok zd5
              rw [if_neg (by simp [Region.wanted, yielded, ze24, zf5])]
              exact hK undef _ (hI.next hR (by kernel_rfl) (Mod.refl _ _) (PB.quiet hI.1 (Mod.refl _ _) (HGs.out D 7 zw1 zw1 (hI.1).g (Mod.refl _ _))) (upd_same V 7 _))
            · intro D V zw1 a hR hI K hK
              obtain ⟨hM1, hB1, hG1⟩ := hI.1
              have zd5 := hR.pred 5 (by kernel_rfl)
              have zF5 : V 5 = .bool true := hI.2 5 zd5 rfl
              have zf5 := zF5; clear zF5
              have ze24 := hR.frame.done (t := 24) (j := 5) (by kernel_rfl) hR.ok zd5
              rw [if_neg (by simp [Region.wanted, yielded, ze24, zf5])]
              exact hK undef _ (hI.next hR (by kernel_rfl) (Mod.refl _ _) (PB.quiet hI.1 (Mod.refl _ _) (HGs.out D 8 zw1 zw1 (hI.1).g (Mod.refl _ _))) (upd_same V 8 _))
            · intro D V zw1 a hR hI K hK
              obtain ⟨hM1, hB1, hG1⟩ := hI.1
              have zd5 := hR.pred 5 (by kernel_rfl)
              have zF5 : V 5 = .bool true := hI.2 5 zd5 rfl
              have zf5 := zF5; clear zF5
              have zd8 := hR.pred 8 (by kernel_rfl)
              have zF8 : V 8 = undef := hI.2 8 zd8 rfl
              have zf8 := zF8; clear zF8
              have ze24 := hR.frame.done (t := 24) (j := 5) (by kernel_rfl) hR.ok zd5
              have ze27 := hR.frame.done (t := 27) (j := 8) (by kernel_rfl) hR.ok zd8
              rw [if_pos (by rfl)]
              go_simp
              exact hK (.bool true) _ (hI.next hR (by kernel_rfl) (Mod.refl _ _) (PB.quiet hI.1 (Mod.refl _ _) (HGs.out D 9 zw1 zw1 (hI.1).g (Mod.refl _ _))) (upd_same V 9 _))
            · intro D V zw1 a hR hI K hK
              obtain ⟨hM1, hB1, hG1⟩ := hI.1
              have zd9 := hR.pred 9 (by kernel_rfl)
              have zF9 : V 9 = .bool true := hI.2 9 zd9 rfl
              have zf9 := zF9; clear zF9
              have ze28 := hR.frame.done (t := 28) (j := 9) (by kernel_rfl) hR.ok zd9
              rw [if_pos (by rfl)]
              go_simp
              exact hK (.bool true) _ (hI.next hR (by kernel_rfl) (Mod.refl _ _) (PB.quiet hI.1 (Mod.refl _ _) (HGs.out D 10 zw1 zw1 (hI.1).g (Mod.refl _ _))) (upd_same V 10 _))
            · intro D V zw1 a hR hI K hK
              obtain ⟨hM1, hB1, hG1⟩ := hI.1
              have zd10 := hR.pred 10 (by kernel_rfl)
              have zF10 : V 10 = .bool true := hI.2 10 zd10 rfl
              have zf10 := zF10; clear zF10
              have ze29 := hR.frame.done (t := 29) (j := 10) (by kernel_rfl) hR.ok zd10
              rw [if_neg (by simp [Region.wanted, yielded, ze29, zf10])]
              exact hK undef _ (hI.next hR (by kernel_rfl) (Mod.refl _ _) (PB.quiet hI.1 (Mod.refl _ _) (HGs.out D 11 zw1 zw1 (hI.1).g (Mod.refl _ _))) (upd_same V 11 _))
            · intro D V zw1 a hR hI K hK
              obtain ⟨hM1, hB1, hG1⟩ := hI.1
              have zd10 := hR.pred 10 (by kernel_rfl)
              have zF10 : V 10 = .bool true := hI.2 10 zd10 rfl
              have zf10 := zF10; clear zF10
              have ze29 := hR.frame.done (t := 29) (j := 10) (by kernel_rfl) hR.ok zd10
              rw [if_neg (by simp [Region.wanted, yielded, ze29, zf10])]
              exact hK undef _ (hI.next hR (by kernel_rfl) (Mod.refl _ _) (PB.quiet hI.1 (Mod.refl _ _) (HGs.out D 12 zw1 zw1 (hI.1).g (Mod.refl _ _))) (upd_same V 12 _))
            · intro D V zw1 a hR hI K hK
              obtain ⟨hM1, hB1, hG1⟩ := hI.1
              have zd10 := hR.pred 10 (by kernel_rfl)
              have zF10 : V 10 = .bool true := hI.2 10 zd10 rfl
              have zf10 := zF10; clear zF10
              have ze29 := hR.frame.done (t := 29) (j := 10) (by kernel_rfl) hR.ok zd10
              rw [if_neg (by simp [Region.wanted, yielded, ze29, zf10])]
              exact hK undef _ (hI.next hR (by kernel_rfl) (Mod.refl _ _) (PB.quiet hI.1 (Mod.refl _ _) (HGs.out D 13 zw1 zw1 (hI.1).g (Mod.refl _ _))) (upd_same V 13 _))
            · intro D V zw1 a hR hI K hK
              obtain ⟨hM1, hB1, hG1⟩ := hI.1
              have zd10 := hR.pred 10 (by kernel_rfl)
              have zF10 : V 10 = .bool true := hI.2 10 zd10 rfl
              have zf10 := zF10; clear zF10
              have zd13 := hR.pred 13 (by kernel_rfl)
              have zF13 : V 13 = undef := hI.2 13 zd13 rfl
              have zf13 := zF13; clear zF13
              have ze29 := hR.frame.done (t := 29) (j := 10) (by kernel_rfl) hR.ok zd10
              have ze32 := hR.frame.done (t := 32) (j := 13) (by kernel_rfl) hR.ok zd13
              rw [if_pos (by rfl)]
              go_simp
              exact hK (.bool true) _ (hI.next hR (by kernel_rfl) (Mod.refl _ _) (PB.quiet hI.1 (Mod.refl _ _) (HGs.out D 14 zw1 zw1 (hI.1).g (Mod.refl _ _))) (upd_same V 14 _))
          · intro D V w3 hD hI
            obtain ⟨hM1, hB1, hG1⟩ := hI.1
            have hMx := hM1
            clear hM1
            have hBx := hB1
            clear hB1
            have hGx := hG1
            clear hG1
            have zF0 : V 0 = .pointer (some ⟨gs, 0, none⟩) := hI.2 0 (hD 0 (by decide)) rfl
            have zf0 := zF0; clear zF0
            have zF1 : V 1 = .string ⟨x.id.toArray⟩ := hI.2 1 (hD 1 (by decide)) rfl
            have zf1 := zF1; clear zF1
            have zF2 : V 2 = .int .i64 (j : Int) := hI.2 2 (hD 2 (by decide)) rfl
            have zf2 := zF2; clear zF2
            have zF3 : V 3 = .string ⟨ij.toArray⟩ := hI.2 3 (hD 3 (by decide)) rfl
            have zf3 := zF3; clear zF3
            have zF4 : V 4 = .bool true := hI.2 4 (hD 4 (by decide)) rfl
            have zf4 := zF4; clear zF4
            have zF5 : V 5 = .bool true := hI.2 5 (hD 5 (by decide)) rfl
            have zf5 := zF5; clear zF5
            have zF6 : V 6 = undef := hI.2 6 (hD 6 (by decide)) rfl
            have zf6 := zF6; clear zF6
            have zF7 : V 7 = undef := hI.2 7 (hD 7 (by decide)) rfl
            have zf7 := zF7; clear zF7
            have zF8 : V 8 = undef := hI.2 8 (hD 8 (by decide)) rfl
            have zf8 := zF8; clear zF8
            have zF9 : V 9 = .bool true := hI.2 9 (hD 9 (by decide)) rfl
            have zf9 := zF9; clear zF9
            have zF10 : V 10 = .bool true := hI.2 10 (hD 10 (by decide)) rfl
            have zf10 := zF10; clear zF10
            have zF11 : V 11 = undef := hI.2 11 (hD 11 (by decide)) rfl
            have zf11 := zF11; clear zF11
            have zF12 : V 12 = undef := hI.2 12 (hD 12 (by decide)) rfl
            have zf12 := zF12; clear zF12
            have zF13 : V 13 = undef := hI.2 13 (hD 13 (by decide)) rfl
            have zf13 := zF13; clear zF13
            have zF14 : V 14 = .bool true := hI.2 14 (hD 14 (by decide)) rfl
            have zf14 := zF14; clear zF14
            clear hI hD HGs
            simp only [frAll, Act.put, List.setIfInBounds_toArray, List.set_cons_zero, List.set_cons_succ, Nat.zero_add, Nat.reduceAdd, zf0, zf1, zf2, zf3, zf4, zf5, zf6, zf7, zf8, zf9, zf10, zf11, zf12, zf13, zf14]
            clear zf0 zf1 zf2 zf3 zf4 zf5 zf6 zf7 zf8 zf9 zf10 zf11 zf12 zf13 zf14
            clear V D
            go_wp2_with fail
            go_meet
            exact ⟨rfl, hGx, hMx⟩
        · cases hpe : x.par.isEmpty
          · obtain rfl : bad = true := by rw [HBAD.out, hpe]; rfl
            have HGs := Lib.hid (show ∀ (D : Nat → Bool) (zzi : Nat) (zq zq' : World), (fun _ zq => (fun Z => Blk Z gs 71 #[.string ⟨x.id.toArray⟩, .string ⟨x.cust.toArray⟩, .int .i64 x.kind, .string ⟨x.name.toArray⟩, .int .i64 x.tm, .string ⟨x.par.toArray⟩, .string ⟨x.text.toArray⟩]) zq) D zq → Mod (fun _ => False) zq zq' → (fun _ zq => (fun Z => Blk Z gs 71 #[.string ⟨x.id.toArray⟩, .string ⟨x.cust.toArray⟩, .int .i64 x.kind, .string ⟨x.name.toArray⟩, .int .i64 x.tm, .string ⟨x.par.toArray⟩, .string ⟨x.text.toArray⟩]) zq) (upd D zzi true) zq' from by intro D zzi zq zq' h hm; (exact h.modp hm))
            refine wp_region_inv (by kernel_rfl) (by kernel_rfl) (InvF (R := Mod (fun _ => False)) [.is (.pointer (some ⟨gs, 0, none⟩)),
                .is (.string ⟨x.id.toArray⟩),
                .is (.int .i64 (j : Int)),
                .is (.string ⟨ij.toArray⟩),
                .is (.bool false),
                .is (.bool false),
                .is (.pointer (some ⟨gs, 5, none⟩)),
                .is (.string ⟨x.par.toArray⟩),
                .is (.bool true),
                .is (.bool true),
                .is (.bool true),
                .is (undef),
                .is (undef),
                .is (undef),
                .is (.bool true)]
                (PB w2 (fun _ => False) WS.heap.size (fun _ zq => (fun Z => Blk Z gs 71 #[.string ⟨x.id.toArray⟩, .string ⟨x.cust.toArray⟩, .int .i64 x.kind, .string ⟨x.name.toArray⟩, .int .i64 x.tm, .string ⟨x.par.toArray⟩, .string ⟨x.text.toArray⟩]) zq))) (InvF.start (PB.start Hm0.out (Nat.le_refl _) (HB0.out.drew))) ?_ ?_
            · refine .cons ?_ (.cons ?_ (.cons ?_ (.cons ?_ (.cons ?_ (.cons ?_ (.cons ?_ (.cons ?_ (.cons ?_ (.cons ?_ (.cons ?_ (.cons ?_ (.cons ?_ (.cons ?_ (.cons ?_ .nil))))))))))))))
              · intro D V zw1 a hR hI K hK
                obtain ⟨hM1, hB1, hG1⟩ := hI.1
                have ze7 := hR.frame.other (t := 7) (by kernel_rfl) rfl
                rw [if_pos (by rfl)]
                go_simp
                exact hK (.pointer (some ⟨gs, 0, none⟩)) _ (hI.next hR (by kernel_rfl) (Mod.refl _ _) (PB.quiet hI.1 (Mod.refl _ _) (HGs.out D 0 zw1 zw1 (hI.1).g (Mod.refl _ _))) (upd_same V 0 _))
              · intro D V zw1 a hR hI K hK
                obtain ⟨hM1, hB1, hG1⟩ := hI.1
                have zd0 := hR.pred 0 (by kernel_rfl)
                have zF0 : V 0 = .pointer (some ⟨gs, 0, none⟩) := hI.2 0 zd0 rfl
                have zf0 := zF0; clear zF0
                have ze19 := hR.frame.done (t := 19) (j := 0) (by kernel_rfl) hR.ok zd0
                have zx0 := hG1.cell 0; have zx1 := hG1.cell 1; have zx2 := hG1.cell 2; have zx3 := hG1.cell 3; have zx4 := hG1.cell 4; have zx5 := hG1.cell 5; have zx6 := hG1.cell 6
                simp at zx0 zx1 zx2 zx3 zx4 zx5 zx6
                rw [if_pos (by rfl)]
                go_simp
                exact hK (.string ⟨x.id.toArray⟩) _ (hI.next hR (by kernel_rfl) (Mod.refl _ _) (PB.quiet hI.1 (Mod.refl _ _) (HGs.out D 1 zw1 zw1 (hI.1).g (Mod.refl _ _))) (upd_same V 1 _))
              · intro D V zw1 a hR hI K hK
                obtain ⟨hM1, hB1, hG1⟩ := hI.1
                have ze6 := hR.frame.other (t := 6) (by kernel_rfl) rfl
                rw [if_pos (by rfl)]
                go_simp
                exact hK (.int .i64 (j : Int)) _ (hI.next hR (by kernel_rfl) (Mod.refl _ _) (PB.quiet hI.1 (Mod.refl _ _) (HGs.out D 2 zw1 zw1 (hI.1).g (Mod.refl _ _))) (upd_same V 2 _))
              · intro D V zw1 a hR hI K hK
                obtain ⟨hM1, hB1, hG1⟩ := hI.1
                have zd2 := hR.pred 2 (by kernel_rfl)
                have zF2 : V 2 = .int .i64 (j : Int) := hI.2 2 zd2 rfl
                have zf2 := zF2; clear zF2
                have ze21 := hR.frame.done (t := 21) (j := 2) (by kernel_rfl) hR.ok zd2
                rw [if_pos (by rfl)]
                go_simp
                refine (HID.out _).mono ?_
                rintro e zw2 ⟨rfl, hm2⟩
                exact hK (.string ⟨ij.toArray⟩) _ (hI.next hR (by kernel_rfl) hm2 (PB.quiet hI.1 hm2 (HGs.out D 3 _ _ (hI.1).g hm2)) (upd_same V 3 _))
              · intro D V zw1 a hR hI K hK
                obtain ⟨hM1, hB1, hG1⟩ := hI.1
                have zd1 := hR.pred 1 (by kernel_rfl)
                have zF1 : V 1 = .string ⟨x.id.toArray⟩ := hI.2 1 zd1 rfl
                have zf1 := zF1; clear zF1
                have zd3 := hR.pred 3 (by kernel_rfl)
                have zF3 : V 3 = .string ⟨ij.toArray⟩ := hI.2 3 zd3 rfl
                have zf3 := zF3; clear zF3
                have ze20 := hR.frame.done (t := 20) (j := 1) (by kernel_rfl) hR.ok zd1
                have ze22 := hR.frame.done (t := 22) (j := 3) (by kernel_rfl) hR.ok zd3
                have hbo := HBO.out
                rw [if_pos (by rfl)]
                go_simp
                exact hK (.bool false) _ (hI.next hR (by kernel_rfl) (Mod.refl _ _) (PB.quiet hI.1 (Mod.refl _ _) (HGs.out D 4 zw1 zw1 (hI.1).g (Mod.refl _ _))) (upd_same V 4 _))
              · intro D V zw1 a hR hI K hK
                obtain ⟨hM1, hB1, hG1⟩ := hI.1
                have zd4 := hR.pred 4 (by kernel_rfl)
                have zF4 : V 4 = .bool false := hI.2 4 zd4 rfl
                have zf4 := zF4; clear zF4
                have ze23 := hR.frame.done (t := 23) (j := 4) (by kernel_rfl) hR.ok zd4
                rw [if_pos (by rfl)]
                go_simp
                exact hK (.bool false) _ (hI.next hR (by kernel_rfl) (Mod.refl _ _) (PB.quiet hI.1 (Mod.refl _ _) (HGs.out D 5 zw1 zw1 (hI.1).g (Mod.refl _ _))) (upd_same V 5 _))
              · intro D V zw1 a hR hI K hK
                obtain ⟨hM1, hB1, hG1⟩ := hI.1
                have zd5 := hR.pred 5 (by kernel_rfl)
                have zF5 : V 5 = .bool false := hI.2 5 zd5 rfl
                have zf5 := zF5; clear zF5
                have ze7 := hR.frame.other (t := 7) (by kernel_rfl) rfl
                have ze24 := hR.frame.done (t := 24) (j := 5) (by kernel_rfl) hR.ok zd5
                rw [if_pos (by simp [Region.wanted, yielded, ze24, zf5])]
                go_simp
                exact hK (.pointer (some ⟨gs, 5, none⟩)) _ (hI.next hR (by kernel_rfl) (Mod.refl _ _) (PB.quiet hI.1 (Mod.refl _ _) (HGs.out D 6 zw1 zw1 (hI.1).g (Mod.refl _ _))) (upd_same V 6 _))
              · intro D V zw1 a hR hI K hK
                obtain ⟨hM1, hB1, hG1⟩ := hI.1
                have zd6 := hR.pred 6 (by kernel_rfl)
                have zF6 : V 6 = .pointer (some ⟨gs, 5, none⟩) := hI.2 6 zd6 rfl
                have zf6 := zF6; clear zF6
                have zd5 := hR.pred 5 (by kernel_rfl)
                have zF5 : V 5 = .bool false := hI.2 5 zd5 rfl
                have zf5 := zF5; clear zF5
                have ze25 := hR.frame.done (t := 25) (j := 6) (by kernel_rfl) hR.ok zd6
                have zx0 := hG1.cell 0; have zx1 := hG1.cell 1; have zx2 := hG1.cell 2; have zx3 := hG1.cell 3; have zx4 := hG1.cell 4; have zx5 := hG1.cell 5; have zx6 := hG1.cell 6
                simp at zx0 zx1 zx2 zx3 zx4 zx5 zx6
                have ze24 := hR.frame.done (t := 24) (j := 5) (by kernel_rfl) hR.ok zd5
                rw [if_pos (by simp [Region.wanted, yielded, ze24, zf5])]
                go_simp
                exact hK (.string ⟨x.par.toArray⟩) _ (hI.next hR (by kernel_rfl) (Mod.refl _ _) (PB.quiet hI.1 (Mod.refl _ _) (HGs.out D 7 zw1 zw1 (hI.1).g (Mod.refl _ _))) (upd_same V 7 _))
              · intro D V zw1 a hR hI K hK
                obtain ⟨hM1, hB1, hG1⟩ := hI.1
                have zd7 := hR.pred 7 (by kernel_rfl)
                have zF7 : V 7 = .string ⟨x.par.toArray⟩ := hI.2 7 zd7 rfl
                have zf7 := zF7; clear zF7
                have zd5 := hR.pred 5 (by kernel_rfl)
                have zF5 : V 5 = .bool false := hI.2 5 zd5 rfl
                have zf5 := zF5; clear zF5
                have ze26 := hR.frame.done (t := 26) (j := 7) (by kernel_rfl) hR.ok zd7
                have ze24 := hR.frame.done (t := 24) (j := 5) (by kernel_rfl) hR.ok zd5
                rw [if_pos (by simp [Region.wanted, yielded, ze24, zf5])]
                go_simp
                exact hK (.bool true) _ (hI.next hR (by kernel_rfl) (Mod.refl _ _) (PB.quiet hI.1 (Mod.refl _ _) (HGs.out D 8 zw1 zw1 (hI.1).g (Mod.refl _ _))) (upd_same V 8 _))
              · intro D V zw1 a hR hI K hK
                obtain ⟨hM1, hB1, hG1⟩ := hI.1
                have zd5 := hR.pred 5 (by kernel_rfl)
                have zF5 : V 5 = .bool false := hI.2 5 zd5 rfl
                have zf5 := zF5; clear zF5
                have zd8 := hR.pred 8 (by kernel_rfl)
                have zF8 : V 8 = .bool true := hI.2 8 zd8 rfl
                have zf8 := zF8; clear zF8
                have ze24 := hR.frame.done (t := 24) (j := 5) (by kernel_rfl) hR.ok zd5
                have ze27 := hR.frame.done (t := 27) (j := 8) (by kernel_rfl) hR.ok zd8
                rw [if_pos (by rfl)]
                go_simp
                exact hK (.bool true) _ (hI.next hR (by kernel_rfl) (Mod.refl _ _) (PB.quiet hI.1 (Mod.refl _ _) (HGs.out D 9 zw1 zw1 (hI.1).g (Mod.refl _ _))) (upd_same V 9 _))
              · intro D V zw1 a hR hI K hK
                obtain ⟨hM1, hB1, hG1⟩ := hI.1
                have zd9 := hR.pred 9 (by kernel_rfl)
                have zF9 : V 9 = .bool true := hI.2 9 zd9 rfl
                have zf9 := zF9; clear zF9
                have ze28 := hR.frame.done (t := 28) (j := 9) (by kernel_rfl) hR.ok zd9
                rw [if_pos (by rfl)]
                go_simp
                exact hK (.bool true) _ (hI.next hR (by kernel_rfl) (Mod.refl _ _) (PB.quiet hI.1 (Mod.refl _ _) (HGs.out D 10 zw1 zw1 (hI.1).g (Mod.refl _ _))) (upd_same V 10 _))
              · intro D V zw1 a hR hI K hK
                obtain ⟨hM1, hB1, hG1⟩ := hI.1
                have zd10 := hR.pred 10 (by kernel_rfl)
                have zF10 : V 10 = .bool true := hI.2 10 zd10 rfl
                have zf10 := zF10; clear zF10
                have ze29 := hR.frame.done (t := 29) (j := 10) (by kernel_rfl) hR.ok zd10
                rw [if_neg (by simp [Region.wanted, yielded, ze29, zf10])]
                exact hK undef _ (hI.next hR (by kernel_rfl) (Mod.refl _ _) (PB.quiet hI.1 (Mod.refl _ _) (HGs.out D 11 zw1 zw1 (hI.1).g (Mod.refl _ _))) (upd_same V 11 _))
              · intro D V zw1 a hR hI K hK
                obtain ⟨hM1, hB1, hG1⟩ := hI.1
                have zd10 := hR.pred 10 (by kernel_rfl)
                have zF10 : V 10 = .bool true := hI.2 10 zd10 rfl
                have zf10 := zF10; clear zF10
                have ze29 := hR.frame.done (t := 29) (j := 10) (by kernel_rfl) hR.ok zd10
                rw [if_neg (by simp [Region.wanted, yielded, ze29, zf10])]
                exact hK undef _ (hI.next hR (by kernel_rfl) (Mod.refl _ _) (PB.quiet hI.1 (Mod.refl _ _) (HGs.out D 12 zw1 zw1 (hI.1).g (Mod.refl _ _))) (upd_same V 12 _))
              · intro D V zw1 a hR hI K hK
                obtain ⟨hM1, hB1, hG1⟩ := hI.1
                have zd10 := hR.pred 10 (by kernel_rfl)
                have zF10 : V 10 = .bool true := hI.2 10 zd10 rfl
                have zf10 := zF10; clear zF10
                have ze29 := hR.frame.done (t := 29) (j := 10) (by kernel_rfl) hR.ok zd10
                rw [if_neg (by simp [Region.wanted, yielded, ze29, zf10])]
                exact hK undef _ (hI.next hR (by kernel_rfl) (Mod.refl _ _) (PB.quiet hI.1 (Mod.refl _ _) (HGs.out D 13 zw1 zw1 (hI.1).g (Mod.refl _ _))) (upd_same V 13 _))
              · intro D V zw1 a hR hI K hK
                obtain ⟨hM1, hB1, hG1⟩ := hI.1
                have zd10 := hR.pred 10 (by kernel_rfl)
                have zF10 : V 10 = .bool true := hI.2 10 zd10 rfl
                have zf10 := zF10; clear zF10
                have zd13 := hR.pred 13 (by kernel_rfl)
                have zF13 : V 13 = undef := hI.2 13 zd13 rfl
                have zf13 := zF13; clear zF13
                have ze29 := hR.frame.done (t := 29) (j := 10) (by kernel_rfl) hR.ok zd10
                have ze32 := hR.frame.done (t := 32) (j := 13) (by kernel_rfl) hR.ok zd13
                rw [if_pos (by rfl)]
                go_simp
                exact hK (.bool true) _ (hI.next hR (by kernel_rfl) (Mod.refl _ _) (PB.quiet hI.1 (Mod.refl _ _) (HGs.out D 14 zw1 zw1 (hI.1).g (Mod.refl _ _))) (upd_same V 14 _))
            · intro D V w3 hD hI
              obtain ⟨hM1, hB1, hG1⟩ := hI.1
              have hMx := hM1
              clear hM1
              have hBx := hB1
              clear hB1
              have hGx := hG1
              clear hG1
              have zF0 : V 0 = .pointer (some ⟨gs, 0, none⟩) := hI.2 0 (hD 0 (by decide)) rfl
              have zf0 := zF0; clear zF0
              have zF1 : V 1 = .string ⟨x.id.toArray⟩ := hI.2 1 (hD 1 (by decide)) rfl
              have zf1 := zF1; clear zF1
              have zF2 : V 2 = .int .i64 (j : Int) := hI.2 2 (hD 2 (by decide)) rfl
              have zf2 := zF2; clear zF2
              have zF3 : V 3 = .string ⟨ij.toArray⟩ := hI.2 3 (hD 3 (by decide)) rfl
              have zf3 := zF3; clear zF3
              have zF4 : V 4 = .bool false := hI.2 4 (hD 4 (by decide)) rfl
              have zf4 := zF4; clear zF4
              have zF5 : V 5 = .bool false := hI.2 5 (hD 5 (by decide)) rfl
              have zf5 := zF5; clear zF5
              have zF6 : V 6 = .pointer (some ⟨gs, 5, none⟩) := hI.2 6 (hD 6 (by decide)) rfl
              have zf6 := zF6; clear zF6
              have zF7 : V 7 = .string ⟨x.par.toArray⟩ := hI.2 7 (hD 7 (by decide)) rfl
              have zf7 := zF7; clear zF7
              have zF8 : V 8 = .bool true := hI.2 8 (hD 8 (by decide)) rfl
              have zf8 := zF8; clear zF8
              have zF9 : V 9 = .bool true := hI.2 9 (hD 9 (by decide)) rfl
              have zf9 := zF9; clear zF9
              have zF10 : V 10 = .bool true := hI.2 10 (hD 10 (by decide)) rfl
              have zf10 := zF10; clear zF10
              have zF11 : V 11 = undef := hI.2 11 (hD 11 (by decide)) rfl
              have zf11 := zF11; clear zF11
              have zF12 : V 12 = undef := hI.2 12 (hD 12 (by decide)) rfl
              have zf12 := zF12; clear zF12
              have zF13 : V 13 = undef := hI.2 13 (hD 13 (by decide)) rfl
              have zf13 := zF13; clear zF13
              have zF14 : V 14 = .bool true := hI.2 14 (hD 14 (by decide)) rfl
              have zf14 := zF14; clear zF14
              clear hI hD HGs
              simp only [frAll, Act.put, List.setIfInBounds_toArray, List.set_cons_zero, List.set_cons_succ, Nat.zero_add, Nat.reduceAdd, zf0, zf1, zf2, zf3, zf4, zf5, zf6, zf7, zf8, zf9, zf10, zf11, zf12, zf13, zf14]
              clear zf0 zf1 zf2 zf3 zf4 zf5 zf6 zf7 zf8 zf9 zf10 zf11 zf12 zf13 zf14
              clear V D
              go_wp2_with fail
              go_meet
              exact ⟨rfl, hGx, hMx⟩
          · obtain ⟨be, hbe⟩ : ∃ be, (e1 != 0) = be := ⟨_, rfl⟩
            obtain rfl : bad = be := by rw [HBAD.out, hpe, ← hbe]; rfl
            have HGs := Lib.hid (show ∀ (D : Nat → Bool) (zzi : Nat) (zq zq' : World), (fun _ zq => (fun Z => Blk Z gs 71 #[.string ⟨x.id.toArray⟩, .string ⟨x.cust.toArray⟩, .int .i64 x.kind, .string ⟨x.name.toArray⟩, .int .i64 x.tm, .string ⟨x.par.toArray⟩, .string ⟨x.text.toArray⟩]) zq) D zq → Mod (fun _ => False) zq zq' → (fun _ zq => (fun Z => Blk Z gs 71 #[.string ⟨x.id.toArray⟩, .string ⟨x.cust.toArray⟩, .int .i64 x.kind, .string ⟨x.name.toArray⟩, .int .i64 x.tm, .string ⟨x.par.toArray⟩, .string ⟨x.text.toArray⟩]) zq) (upd D zzi true) zq' from by intro D zzi zq zq' h hm; (exact h.modp hm))
            refine wp_region_inv (by kernel_rfl) (by kernel_rfl) (InvF (R := Mod (fun _ => False)) [.is (.pointer (some ⟨gs, 0, none⟩)),
                .is (.string ⟨x.id.toArray⟩),
                .is (.int .i64 (j : Int)),
                .is (.string ⟨ij.toArray⟩),
                .is (.bool false),
                .is (.bool false),
                .is (.pointer (some ⟨gs, 5, none⟩)),
                .is (.string ⟨x.par.toArray⟩),
                .is (.bool false),
                .is (.bool false),
                .is (.bool false),
                .is (.agg #[.string ⟨x.id.toArray⟩, .string ⟨x.cust.toArray⟩, .int .i64 x.kind, .string ⟨x.name.toArray⟩, .int .i64 x.tm, .string ⟨x.par.toArray⟩, .string ⟨x.text.toArray⟩]),
                .is (.int .i64 e1),
                .is (.bool bad),
                .is (.bool bad)]
                (PB w2 (fun _ => False) WS.heap.size (fun _ zq => (fun Z => Blk Z gs 71 #[.string ⟨x.id.toArray⟩, .string ⟨x.cust.toArray⟩, .int .i64 x.kind, .string ⟨x.name.toArray⟩, .int .i64 x.tm, .string ⟨x.par.toArray⟩, .string ⟨x.text.toArray⟩]) zq))) (InvF.start (PB.start Hm0.out (Nat.le_refl _) (HB0.out.drew))) ?_ ?_
            · refine .cons ?_ (.cons ?_ (.cons ?_ (.cons ?_ (.cons ?_ (.cons ?_ (.cons ?_ (.cons ?_ (.cons ?_ (.cons ?_ (.cons ?_ (.cons ?_ (.cons ?_ (.cons ?_ (.cons ?_ .nil))))))))))))))
              · intro D V zw1 a hR hI K hK
                obtain ⟨hM1, hB1, hG1⟩ := hI.1
                have ze7 := hR.frame.other (t := 7) (by kernel_rfl) rfl
                rw [if_pos (by rfl)]
                go_simp
                exact hK (.pointer (some ⟨gs, 0, none⟩)) _ (hI.next hR (by kernel_rfl) (Mod.refl _ _) (PB.quiet hI.1 (Mod.refl _ _) (HGs.out D 0 zw1 zw1 (hI.1).g (Mod.refl _ _))) (upd_same V 0 _))
              · intro D V zw1 a hR hI K hK
                obtain ⟨hM1, hB1, hG1⟩ := hI.1
                have zd0 := hR.pred 0 (by kernel_rfl)
                have zF0 : V 0 = .pointer (some ⟨gs, 0, none⟩) := hI.2 0 zd0 rfl
                have zf0 := zF0; clear zF0
                have ze19 := hR.frame.done (t := 19) (j := 0) (by kernel_rfl) hR.ok zd0
                have zx0 := hG1.cell 0; have zx1 := hG1.cell 1; have zx2 := hG1.cell 2; have zx3 := hG1.cell 3; have zx4 := hG1.cell 4; have zx5 := hG1.cell 5; have zx6 := hG1.cell 6
                simp at zx0 zx1 zx2 zx3 zx4 zx5 zx6
                rw [if_pos (by rfl)]
                go_simp
                exact hK (.string ⟨x.id.toArray⟩) _ (hI.next hR (by kernel_rfl) (Mod.refl _ _) (PB.quiet hI.1 (Mod.refl _ _) (HGs.out D 1 zw1 zw1 (hI.1).g (Mod.refl _ _))) (upd_same V 1 _))
              · intro D V zw1 a hR hI K hK
                obtain ⟨hM1, hB1, hG1⟩ := hI.1
                have ze6 := hR.frame.other (t := 6) (by kernel_rfl) rfl
                rw [if_pos (by rfl)]
                go_simp
                exact hK (.int .i64 (j : Int)) _ (hI.next hR (by kernel_rfl) (Mod.refl _ _) (PB.quiet hI.1 (Mod.refl _ _) (HGs.out D 2 zw1 zw1 (hI.1).g (Mod.refl _ _))) (upd_same V 2 _))
              · intro D V zw1 a hR hI K hK
                obtain ⟨hM1, hB1, hG1⟩ := hI.1
                have zd2 := hR.pred 2 (by kernel_rfl)
                have zF2 : V 2 = .int .i64 (j : Int) := hI.2 2 zd2 rfl
                have zf2 := zF2; clear zF2
                have ze21 := hR.frame.done (t := 21) (j := 2) (by kernel_rfl) hR.ok zd2
                rw [if_pos (by rfl)]
                go_simp
                refine (HID.out _).mono ?_
                rintro e zw2 ⟨rfl, hm2⟩
                exact hK (.string ⟨ij.toArray⟩) _ (hI.next hR (by kernel_rfl) hm2 (PB.quiet hI.1 hm2 (HGs.out D 3 _ _ (hI.1).g hm2)) (upd_same V 3 _))
              · intro D V zw1 a hR hI K hK
                obtain ⟨hM1, hB1, hG1⟩ := hI.1
                have zd1 := hR.pred 1 (by kernel_rfl)
                have zF1 : V 1 = .string ⟨x.id.toArray⟩ := hI.2 1 zd1 rfl
                have zf1 := zF1; clear zF1
                have zd3 := hR.pred 3 (by kernel_rfl)
                have zF3 : V 3 = .string ⟨ij.toArray⟩ := hI.2 3 zd3 rfl
                have zf3 := zF3; clear zF3
                have ze20 := hR.frame.done (t := 20) (j := 1) (by kernel_rfl) hR.ok zd1
                have ze22 := hR.frame.done (t := 22) (j := 3) (by kernel_rfl) hR.ok zd3
                have hbo := HBO.out
                rw [if_pos (by rfl)]
                go_simp
                exact hK (.bool false) _ (hI.next hR (by kernel_rfl) (Mod.refl _ _) (PB.quiet hI.1 (Mod.refl _ _) (HGs.out D 4 zw1 zw1 (hI.1).g (Mod.refl _ _))) (upd_same V 4 _))
              · intro D V zw1 a hR hI K hK
                obtain ⟨hM1, hB1, hG1⟩ := hI.1
                have zd4 := hR.pred 4 (by kernel_rfl)
                have zF4 : V 4 = .bool false := hI.2 4 zd4 rfl
                have zf4 := zF4; clear zF4
                have ze23 := hR.frame.done (t := 23) (j := 4) (by kernel_rfl) hR.ok zd4
                rw [if_pos (by rfl)]
                go_simp
                exact hK (.bool false) _ (hI.next hR (by kernel_rfl) (Mod.refl _ _) (PB.quiet hI.1 (Mod.refl _ _) (HGs.out D 5 zw1 zw1 (hI.1).g (Mod.refl _ _))) (upd_same V 5 _))
              · intro D V zw1 a hR hI K hK
                obtain ⟨hM1, hB1, hG1⟩ := hI.1
                have zd5 := hR.pred 5 (by kernel_rfl)
                have zF5 : V 5 = .bool false := hI.2 5 zd5 rfl
                have zf5 := zF5; clear zF5
                have ze7 := hR.frame.other (t := 7) (by kernel_rfl) rfl
                have ze24 := hR.frame.done (t := 24) (j := 5) (by kernel_rfl) hR.ok zd5
                rw [if_pos (by simp [Region.wanted, yielded, ze24, zf5])]
                go_simp
                exact hK (.pointer (some ⟨gs, 5, none⟩)) _ (hI.next hR (by kernel_rfl) (Mod.refl _ _) (PB.quiet hI.1 (Mod.refl _ _) (HGs.out D 6 zw1 zw1 (hI.1).g (Mod.refl _ _))) (upd_same V 6 _))
              · intro D V zw1 a hR hI K hK
                obtain ⟨hM1, hB1, hG1⟩ := hI.1
                have zd6 := hR.pred 6 (by kernel_rfl)
                have zF6 : V 6 = .pointer (some ⟨gs, 5, none⟩) := hI.2 6 zd6 rfl
                have zf6 := zF6; clear zF6
                have zd5 := hR.pred 5 (by kernel_rfl)
                have zF5 : V 5 = .bool false := hI.2 5 zd5 rfl
                have zf5 := zF5; clear zF5
                have ze25 := hR.frame.done (t := 25) (j := 6) (by kernel_rfl) hR.ok zd6
                have zx0 := hG1.cell 0; have zx1 := hG1.cell 1; have zx2 := hG1.cell 2; have zx3 := hG1.cell 3; have zx4 := hG1.cell 4; have zx5 := hG1.cell 5; have zx6 := hG1.cell 6
                simp at zx0 zx1 zx2 zx3 zx4 zx5 zx6
                have ze24 := hR.frame.done (t := 24) (j := 5) (by kernel_rfl) hR.ok zd5
                rw [if_pos (by simp [Region.wanted, yielded, ze24, zf5])]
                go_simp
                exact hK (.string ⟨x.par.toArray⟩) _ (hI.next hR (by kernel_rfl) (Mod.refl _ _) (PB.quiet hI.1 (Mod.refl _ _) (HGs.out D 7 zw1 zw1 (hI.1).g (Mod.refl _ _))) (upd_same V 7 _))
              · intro D V zw1 a hR hI K hK
                obtain ⟨hM1, hB1, hG1⟩ := hI.1
                have zd7 := hR.pred 7 (by kernel_rfl)
                have zF7 : V 7 = .string ⟨x.par.toArray⟩ := hI.2 7 zd7 rfl
                have zf7 := zF7; clear zF7
                have zd5 := hR.pred 5 (by kernel_rfl)
                have zF5 : V 5 = .bool false := hI.2 5 zd5 rfl
                have zf5 := zF5; clear zF5
                have ze26 := hR.frame.done (t := 26) (j := 7) (by kernel_rfl) hR.ok zd7
                have ze24 := hR.frame.done (t := 24) (j := 5) (by kernel_rfl) hR.ok zd5
                rw [if_pos (by simp [Region.wanted, yielded, ze24, zf5])]
                go_simp
                exact hK (.bool false) _ (hI.next hR (by kernel_rfl) (Mod.refl _ _) (PB.quiet hI.1 (Mod.refl _ _) (HGs.out D 8 zw1 zw1 (hI.1).g (Mod.refl _ _))) (upd_same V 8 _))
              · intro D V zw1 a hR hI K hK
                obtain ⟨hM1, hB1, hG1⟩ := hI.1
                have zd5 := hR.pred 5 (by kernel_rfl)
                have zF5 : V 5 = .bool false := hI.2 5 zd5 rfl
                have zf5 := zF5; clear zF5
                have zd8 := hR.pred 8 (by kernel_rfl)
                have zF8 : V 8 = .bool false := hI.2 8 zd8 rfl
                have zf8 := zF8; clear zF8
                have ze24 := hR.frame.done (t := 24) (j := 5) (by kernel_rfl) hR.ok zd5
                have ze27 := hR.frame.done (t := 27) (j := 8) (by kernel_rfl) hR.ok zd8
                rw [if_pos (by rfl)]
                go_simp
                exact hK (.bool false) _ (hI.next hR (by kernel_rfl) (Mod.refl _ _) (PB.quiet hI.1 (Mod.refl _ _) (HGs.out D 9 zw1 zw1 (hI.1).g (Mod.refl _ _))) (upd_same V 9 _))
              · intro D V zw1 a hR hI K hK
                obtain ⟨hM1, hB1, hG1⟩ := hI.1
                have zd9 := hR.pred 9 (by kernel_rfl)
                have zF9 : V 9 = .bool false := hI.2 9 zd9 rfl
                have zf9 := zF9; clear zF9
                have ze28 := hR.frame.done (t := 28) (j := 9) (by kernel_rfl) hR.ok zd9
                rw [if_pos (by rfl)]
                go_simp
                exact hK (.bool false) _ (hI.next hR (by kernel_rfl) (Mod.refl _ _) (PB.quiet hI.1 (Mod.refl _ _) (HGs.out D 10 zw1 zw1 (hI.1).g (Mod.refl _ _))) (upd_same V 10 _))
              · intro D V zw1 a hR hI K hK
                obtain ⟨hM1, hB1, hG1⟩ := hI.1
                have zd10 := hR.pred 10 (by kernel_rfl)
                have zF10 : V 10 = .bool false := hI.2 10 zd10 rfl
                have zf10 := zF10; clear zF10
                have ze7 := hR.frame.other (t := 7) (by kernel_rfl) rfl
                have zx0 := hG1.cell 0; have zx1 := hG1.cell 1; have zx2 := hG1.cell 2; have zx3 := hG1.cell 3; have zx4 := hG1.cell 4; have zx5 := hG1.cell 5; have zx6 := hG1.cell 6
                simp at zx0 zx1 zx2 zx3 zx4 zx5 zx6
                have ze29 := hR.frame.done (t := 29) (j := 10) (by kernel_rfl) hR.ok zd10
                rw [if_pos (by simp [Region.wanted, yielded, ze29, zf10])]
                go_simp
                exact hK (.agg #[.string ⟨x.id.toArray⟩, .string ⟨x.cust.toArray⟩, .int .i64 x.kind, .string ⟨x.name.toArray⟩, .int .i64 x.tm, .string ⟨x.par.toArray⟩, .string ⟨x.text.toArray⟩]) _ (hI.next hR (by kernel_rfl) (Mod.refl _ _) (PB.quiet hI.1 (Mod.refl _ _) (HGs.out D 11 zw1 zw1 (hI.1).g (Mod.refl _ _))) (upd_same V 11 _))
              · intro D V zw1 a hR hI K hK
                obtain ⟨hM1, hB1, hG1⟩ := hI.1
                have zd11 := hR.pred 11 (by kernel_rfl)
                have zF11 : V 11 = .agg #[.string ⟨x.id.toArray⟩, .string ⟨x.cust.toArray⟩, .int .i64 x.kind, .string ⟨x.name.toArray⟩, .int .i64 x.tm, .string ⟨x.par.toArray⟩, .string ⟨x.text.toArray⟩] := hI.2 11 zd11 rfl
                have zf11 := zF11; clear zF11
                have zd10 := hR.pred 10 (by kernel_rfl)
                have zF10 : V 10 = .bool false := hI.2 10 zd10 rfl
                have zf10 := zF10; clear zF10
                have ze30 := hR.frame.done (t := 30) (j := 11) (by kernel_rfl) hR.ok zd11
                have ze29 := hR.frame.done (t := 29) (j := 10) (by kernel_rfl) hR.ok zd10
                rw [if_pos (by simp [Region.wanted, yielded, ze29, zf10])]
                go_simp
                refine (HIF.out _ (m2.transp hM1)).mono ?_
                rintro e zw2 ⟨rfl, hm2⟩
                exact hK (.int .i64 e1) _ (hI.next hR (by kernel_rfl) hm2 (PB.quiet hI.1 hm2 (HGs.out D 12 _ _ (hI.1).g hm2)) (upd_same V 12 _))
              · intro D V zw1 a hR hI K hK
                obtain ⟨hM1, hB1, hG1⟩ := hI.1
                have zd12 := hR.pred 12 (by kernel_rfl)
                have zF12 : V 12 = .int .i64 e1 := hI.2 12 zd12 rfl
                have zf12 := zF12; clear zF12
                have zd10 := hR.pred 10 (by kernel_rfl)
                have zF10 : V 10 = .bool false := hI.2 10 zd10 rfl
                have zf10 := zF10; clear zF10
                have ze31 := hR.frame.done (t := 31) (j := 12) (by kernel_rfl) hR.ok zd12
                have hbe2 := hbe
                have ze29 := hR.frame.done (t := 29) (j := 10) (by kernel_rfl) hR.ok zd10
                rw [if_pos (by simp [Region.wanted, yielded, ze29, zf10])]
                go_simp
                exact hK (.bool bad) _ (hI.next hR (by kernel_rfl) (Mod.refl _ _) (PB.quiet hI.1 (Mod.refl _ _) (HGs.out D 13 zw1 zw1 (hI.1).g (Mod.refl _ _))) (upd_same V 13 _))
              · intro D V zw1 a hR hI K hK
                obtain ⟨hM1, hB1, hG1⟩ := hI.1
                have zd10 := hR.pred 10 (by kernel_rfl)
                have zF10 : V 10 = .bool false := hI.2 10 zd10 rfl
                have zf10 := zF10; clear zF10
                have zd13 := hR.pred 13 (by kernel_rfl)
                have zF13 : V 13 = .bool bad := hI.2 13 zd13 rfl
                have zf13 := zF13; clear zF13
                have ze29 := hR.frame.done (t := 29) (j := 10) (by kernel_rfl) hR.ok zd10
                have ze32 := hR.frame.done (t := 32) (j := 13) (by kernel_rfl) hR.ok zd13
                rw [if_pos (by rfl)]
                go_simp
                exact hK (.bool bad) _ (hI.next hR (by kernel_rfl) (Mod.refl _ _) (PB.quiet hI.1 (Mod.refl _ _) (HGs.out D 14 zw1 zw1 (hI.1).g (Mod.refl _ _))) (upd_same V 14 _))
            · intro D V w3 hD hI
              obtain ⟨hM1, hB1, hG1⟩ := hI.1
              have hMx := hM1
              clear hM1
              have hBx := hB1
              clear hB1
              have hGx := hG1
              clear hG1
              have zF0 : V 0 = .pointer (some ⟨gs, 0, none⟩) := hI.2 0 (hD 0 (by decide)) rfl
              have zf0 := zF0; clear zF0
              have zF1 : V 1 = .string ⟨x.id.toArray⟩ := hI.2 1 (hD 1 (by decide)) rfl
              have zf1 := zF1; clear zF1
              have zF2 : V 2 = .int .i64 (j : Int) := hI.2 2 (hD 2 (by decide)) rfl
              have zf2 := zF2; clear zF2
              have zF3 : V 3 = .string ⟨ij.toArray⟩ := hI.2 3 (hD 3 (by decide)) rfl
              have zf3 := zF3; clear zF3
              have zF4 : V 4 = .bool false := hI.2 4 (hD 4 (by decide)) rfl
              have zf4 := zF4; clear zF4
              have zF5 : V 5 = .bool false := hI.2 5 (hD 5 (by decide)) rfl
              have zf5 := zF5; clear zF5
              have zF6 : V 6 = .pointer (some ⟨gs, 5, none⟩) := hI.2 6 (hD 6 (by decide)) rfl
              have zf6 := zF6; clear zF6
              have zF7 : V 7 = .string ⟨x.par.toArray⟩ := hI.2 7 (hD 7 (by decide)) rfl
              have zf7 := zF7; clear zF7
              have zF8 : V 8 = .bool false := hI.2 8 (hD 8 (by decide)) rfl
              have zf8 := zF8; clear zF8
              have zF9 : V 9 = .bool false := hI.2 9 (hD 9 (by decide)) rfl
              have zf9 := zF9; clear zF9
              have zF10 : V 10 = .bool false := hI.2 10 (hD 10 (by decide)) rfl
              have zf10 := zF10; clear zF10
              have zF11 : V 11 = .agg #[.string ⟨x.id.toArray⟩, .string ⟨x.cust.toArray⟩, .int .i64 x.kind, .string ⟨x.name.toArray⟩, .int .i64 x.tm, .string ⟨x.par.toArray⟩, .string ⟨x.text.toArray⟩] := hI.2 11 (hD 11 (by decide)) rfl
              have zf11 := zF11; clear zF11
              have zF12 : V 12 = .int .i64 e1 := hI.2 12 (hD 12 (by decide)) rfl
              have zf12 := zF12; clear zF12
              have zF13 : V 13 = .bool bad := hI.2 13 (hD 13 (by decide)) rfl
              have zf13 := zF13; clear zF13
              have zF14 : V 14 = .bool bad := hI.2 14 (hD 14 (by decide)) rfl
              have zf14 := zF14; clear zF14
              clear hI hD HGs
              simp only [frAll, Act.put, List.setIfInBounds_toArray, List.set_cons_zero, List.set_cons_succ, Nat.zero_add, Nat.reduceAdd, zf0, zf1, zf2, zf3, zf4, zf5, zf6, zf7, zf8, zf9, zf10, zf11, zf12, zf13, zf14]
              clear zf0 zf1 zf2 zf3 zf4 zf5 zf6 zf7 zf8 zf9 zf10 zf11 zf12 zf13 zf14
              clear V D
              go_wp2_with fail
              go_meet
              exact ⟨rfl, hGx, hMx⟩
      case rest =>
        obtain ⟨rfl, B3, m3⟩ := hcut
        have own3 := own_pure own2 m3
        have hS3 := hS2.pure m3
        have mm3 := m2.transp m3
        have hsz3 := m3.size
        have HXZ2 : Hid (∀ y ∈ xs ++ [x], ItG y) := Lib.hid (fun y hy => by
          rcases List.mem_append.1 hy with hy | hy
          · exact HXZ.out y hy
          · rw [List.mem_singleton.1 hy]; exact HX.out)
        have HXV : Hid (itV (xs ++ [x]) = itV xs ++ [.string ⟨x.id.toArray⟩, .string ⟨x.cust.toArray⟩, .int .i64 x.kind, .string ⟨x.name.toArray⟩, .int .i64 x.tm, .string ⟨x.par.toArray⟩, .string ⟨x.text.toArray⟩]) := Lib.hid (itV_snoc xs x)
        clear HIF HX HBAD HBO HB0 Hm0 WS hS2 m2 own2 m3 HID
        cases bad
        · have c0 := B3.cell 0; have c1 := B3.cell 1; have c2 := B3.cell 2; have c3 := B3.cell 3; have c4 := B3.cell 4; have c5 := B3.cell 5; have c6 := B3.cell 6; simp at c0 c1 c2 c3 c4 c5 c6
          clear B3
          go_wp2_with (at_builtin; refine wpList_append_lies _ rfl _ _ _ rfl w.heap.size 71 i0 _ 7 96 Tryz.underlying26 hi0 hz0 hz1 hz2 rfl (by omega) (.slice A xs.length cap) xs.length (itV xs) rfl (own3.alloc _) ⟨wc.heap.size, 0, none⟩ 1 1 [.string ⟨x.id.toArray⟩, .string ⟨x.cust.toArray⟩, .int .i64 x.kind, .string ⟨x.name.toArray⟩, .int .i64 x.tm, .string ⟨x.par.toArray⟩, .string ⟨x.text.toArray⟩] rfl rfl (World.news_of_block (cs := #[.string ⟨x.id.toArray⟩, .string ⟨x.cust.toArray⟩, .int .i64 x.kind, .string ⟨x.name.toArray⟩, .int .i64 x.tm, .string ⟨x.par.toArray⟩, .string ⟨x.text.toArray⟩]) (t := 71) (fr := (0, 0)) (heap_alloc_new wc _)) (by simp [Value.oneCell']) (by omega) (by simp [maxLen]; omega) (by omega) (by have := mm3.size; simp; omega) (wc.heap.size + 1) (by simp) ?_; intro g5 cap5 w5 hown5 hgrow hat hlt5)
          go_roundg (m - (j + 1))
          case measure => omega
          case rel =>
            have hz5 := hgrow.size
            simp at hz5
            refine ⟨j + 1, xs ++ [x], some ⟨g5, 0, none⟩, cap5, rfl, by omega, by simp, by simp, by simp; omega, HXZ2.out, ?_, (hS3.alloc _ |>.mod (S := fun k => (Value.slice A xs.length cap).ownBlock = some k) ⟨hgrow.os, hgrow.tape, hgrow.output, hgrow.size, fun k hk hs => hgrow.block k hk (fun x => hs x.symm)⟩ (fun i hi hk => by have := own_block own3 i hk; omega)).more (by omega), (mm3.alloc _).grown hgrow (fun k hk => .inr (by have := own_block own3 k hk; omega)), by omega⟩
            rw [HXV.out]
            simpa using hown5
        · go_wp2_with fail
          go_roundg (m - (j + 1))
          case measure => omega
          case rel => exact ⟨j + 1, xs, A, cap, rfl, by omega, rfl, by simp, by omega, HXZ.out, own3, hS3.more (by omega), mm3, by omega⟩
    · obtain rfl : j = m := by omega
      by_cases h0 : xs.length = 0
      · have e0 : xs = [] := List.eq_nil_of_length_eq_zero h0
        subst e0
        have d0 : decide ((0 : Int) < 0) = false := rfl
        go_wp2_with fail
        go_loopg [41] 0 (fun gk i wx => i = .int .i64 0 ∧ gk = 0 ∧ wr = wx)
        case atStart => exact ⟨rfl, rfl, rfl⟩
        case round =>
          obtain ⟨rfl, rfl, rfl⟩ := hrel
          go_wp2_with fail
          go_ret
          exact ⟨.slice A 0 cap, [], rfl, by simp, le_nilI, hown, hS.more (by omega), hmm⟩
      · obtain ⟨g, cap', hform, hg1, hg2, hcap, hcap2⟩ := own_form7 hown (by omega)
        injection hform with hA _ hC
        subst hA hC
        have hownI : OwnI wr w.heap.size g xs.length cap xs := hown
        have hl20 : xs.length ≤ 20 := by omega
        have hxn := hxj
        clear hown hlt
        generalize hn : xs.length = n at *
        clear hn
        obtain ⟨base, hbase⟩ : ∃ base, base = w.heap.size := ⟨_, rfl⟩
        rw [← hbase] at hownI hg1
        have hba1 := Nat.le_of_eq hbase
        have hba2 := Nat.le_of_eq hbase.symm
        have HBA := Lib.hid hbase
        clear hbase
        go_wp2_with fail
        go_loopg [41] n (fun gk i wr => Ri2 w b (N + 140 * j) base g n cap gk i wr)
        case atStart => exact ⟨0, xs, rfl, by omega, rfl, hxz, hownI, hS.more (by omega), hmm⟩
        case round =>
          clear hxz hownI hS hmm hxj
          obtain ⟨k, ys, rfl, hk, rfl, hyz, hown, hS, hmm⟩ := hrel
          have hyl := hown.len
          have hgl := hown.ge
          have hbs := hS.lt
          by_cases hlt : k < n
          · have HYZ := Lib.hid hyz
            clear hyz
            go_wp2_with fail
            refine (flip_calls _ b _ _ hS (by omega) (by omega) (by omega)).mono ?_
            rintro e w1 ⟨fl, rfl, hS1, hM1⟩
            have own1 := hown.mod hM1 (by omega)
            have m1 := hmm.trans hM1
            clear hS hown hmm hM1
            cases fl
            · go_wp2_with fail
              refine (next_calls _ b _ _ hS1 (by omega) (by omega) (by omega)).mono ?_
              rintro e w2 ⟨q, hq0, hq1, rfl, hS2, hM2⟩
              obtain ⟨q, rfl⟩ := Int.eq_ofNat_of_zero_le hq0
              have own2 := own1.mod hM2 (by omega)
              have m2 := m1.trans hM2
              have hqn : q < n := by omega
              have hqy : q < ys.length := by omega
              have hky : k < ys.length := by omega
              have HI0 := Lib.hid (own2.cells hqy).1
              have HP0 := Lib.hid (own2.cells hky).2.2.2.2.2.1
              have HF0 := Lib.hid (own2.frozen (k * 7 + 5))
              have HO1 := Lib.hid (own2.setPar hky ys[q].id)
              have HZ1 : Hid (∀ x ∈ ys.set k { ys[k] with par := ys[q].id }, ItG x) := Lib.hid (set_all HYZ.out ((HYZ.out _ (List.getElem_mem hky)).par (by have := (HYZ.out _ (List.getElem_mem hqy)).1; omega)))
              have HZK := Lib.hid (HYZ.out _ (List.getElem_mem hky))
              have hsk : k < (ys.set k { ys[k] with par := ys[q].id }).length := by simpa using hky
              have HO2 := Lib.hid (fun (W : World) (h : OwnI W base g n cap (ys.set k { ys[k] with par := ys[q].id })) => h.setPar hsk ys[k].par)
              have HZ2 : Hid (∀ x ∈ (ys.set k { ys[k] with par := ys[q].id }).set k { (ys.set k { ys[k] with par := ys[q].id })[k] with par := ys[k].par }, ItG x) := Lib.hid (set_all HZ1.out ((HZ1.out _ (List.getElem_mem hsk)).par (by have := HZK.out.2.2.2.1; omega)))
              generalize (ys.set k { ys[k] with par := ys[q].id }).set k { (ys.set k { ys[k] with par := ys[q].id })[k] with par := ys[k].par } = y2 at *
              generalize ys.set k { ys[k] with par := ys[q].id } = y1 at *
              generalize ys[q].id = qid at *
              generalize ys[k].par = kpar at *
              clear hS1 m1 own1 hM2 own2 hq0 hq1 hqy hky hsk HZK HYZ hyl
              have j1 : (0 : Int) ≤ (k : Int) := by omega
              have j2 : (k : Int) < (n : Int) := by omega
              have j3 : (0 : Int) ≤ (q : Int) := by omega
              have j4 : (q : Int) < (n : Int) := by omega
              have c0 := HI0.out
              have c1 := HP0.out
              have c2 := HF0.out
              have HM2 := Lib.hid (m2.setCell (p := ⟨g, k * 7 + 5, none⟩) (.inr (by show _ ≤ g; omega)) (.string ⟨qid.toArray⟩))
              have HS2 := Lib.hid (hS2.setCell (p := ⟨g, k * 7 + 5, none⟩) (by show _ < g; omega) (.string ⟨qid.toArray⟩))
              have hown1 := HO1.out
              have hy1 := hown1.len
              have c3 := hown1.frozen (k * 7 + 5)
              have hky1 : k < y1.length := by omega
              have HIF := Lib.hid (fun W (h : Mod (· = b) w W) (h2 : OwnI W base g n cap y1) => itemsFault_calls W _ y1 h2.its (fun z h => (HZ1.out z h).b) (by omega) (HE.out W h))
              obtain ⟨e1, he1⟩ : ∃ e1, itsE itemE y1 = e1 := ⟨_, rfl⟩
              rw [he1] at HIF
              have HOW := Lib.hid hown1
              clear he1 HI0 HP0 HF0 HO1 hown1 hS2 m2
              have HC4 := Lib.hid (fun W (h : OwnI W base g n cap y1) => (h.cells hky1).2.2.2.2.2.1)
              have HG : Hid (b < g ∧ w.heap.size ≤ g) := Lib.hid ⟨by omega, by omega⟩
              have FIN : Hid (∀ W, Strm W b (N + 140 * j + 2 * k + 1 + 1) → Mod (· = b) w W → OwnI W base g n cap y1 → Strm (W.setCell ⟨g, k * 7 + 5, none⟩ (.string ⟨kpar.toArray⟩)) b (N + 140 * j + 2 * (k + 1)) ∧ Mod (· = b) w (W.setCell ⟨g, k * 7 + 5, none⟩ (.string ⟨kpar.toArray⟩)) ∧ OwnI (W.setCell ⟨g, k * 7 + 5, none⟩ (.string ⟨kpar.toArray⟩)) base g n cap y2) :=
                Lib.hid (fun W h1 h2 h3 => ⟨(h1.setCell (p := ⟨g, k * 7 + 5, none⟩) HG.out.1 _).more (by omega), h2.setCell (p := ⟨g, k * 7 + 5, none⟩) (.inr HG.out.2) _, HO2.out W h3⟩)
              by_cases hqk : q = k
              · have hqk' : ((q : Int) == (k : Int)) = true := by rw [hqk]; simp
                clear hqk HIF HC4
                go_wp2_with fail
                obtain ⟨f1, f2, f3⟩ := FIN.out _ HS2.out HM2.out HOW.out
                go_roundg (n - (k + 1))
                case measure => omega
                case rel => exact ⟨k + 1, y2, rfl, by omega, by simp, HZ2.out, f3, f1, f2⟩
              · have hqk' : ((q : Int) == (k : Int)) = false := by simp; omega
                clear hqk
                go_wp2_with fail
                refine (HIF.out _ HM2.out HOW.out).mono ?_
                rintro e w3 ⟨rfl, hm3⟩
                have m3 := HM2.out.transp hm3
                have hS3 := HS2.out.pure hm3
                have own3 := HOW.out.mod hm3 id
                have c5 := own3.frozen (k * 7 + 5)
                have H3 := Lib.hid own3
                clear HIF HM2 HS2 HOW own3 c0 c1 c2 c3 hm3
                by_cases he : e1 = 0
                · subst he
                  go_wp2_with fail
                  go_roundg (n - (k + 1))
                  case measure => omega
                  case rel => exact ⟨k + 1, y1, rfl, by omega, by simp, HZ1.out, H3.out, hS3.more (by omega), m3⟩
                · have he' : (e1 != 0) = true := by simpa using he
                  clear he
                  have hc4 := HC4.out _ H3.out
                  go_wp2_with fail
                  obtain ⟨f1, f2, f3⟩ := FIN.out _ hS3 m3 H3.out
                  go_roundg (n - (k + 1))
                  case measure => omega
                  case rel => exact ⟨k + 1, y2, rfl, by omega, by simp, HZ2.out, f3, f1, f2⟩
            · go_wp2_with fail
              go_roundg (n - (k + 1))
              case measure => omega
              case rel => exact ⟨k + 1, ys, rfl, by omega, by simp, HYZ.out, own1, hS1.more (by omega), m1⟩
          · obtain rfl : k = n := by omega
            go_wp2_with fail
            go_ret
            exact ⟨.slice (some ⟨g, 0, none⟩) k cap, ys, rfl, by omega, hyz, by rw [hyl, ← HBA.out]; exact hown, hS.more (by omega), hmm⟩

def ItemsPost (w : World) (b N m : Nat) (e : Ending) (w' : World) : Prop :=
  ∃ (v : Value) (xs : List Itm), e = .returned v ∧ xs.length ≤ m ∧ (∀ x ∈ xs, ItB x) ∧ w'.ownsRow w.heap.size 71 7 v xs.length (itV xs) ∧ Strm w' b N ∧ Mod (· = b) w w'
theorem ItemsPostG.b {w : World} {b N m : Nat} {e : Ending} {w' : World} (h : ItemsPostG w b N m e w') : ItemsPost w b N m e w' := by
  obtain ⟨v, xs, h1, h2, h3, h4⟩ := h
  exact ⟨v, xs, h1, h2, fun x hx => (h3 x hx).b, h4⟩
end Go.Proofs.YtofkkenmkflmiaaGreatDoor

/- The generators of items: Items. -/
namespace Go.Proofs.YtofkkenmkflmiaaGreatDoor
set_option linter.unusedVariables false
set_option linter.unusedSimpArgs false
open Go.RowKit

theorem OwnI.setFld {w : World} {base g n cap k : Nat} {xs : List Itm} (h : OwnI w base g n cap xs) (hk : k < xs.length) (d : Nat) (hd : d < 7) (u : Value) (x' : Itm) (hx : (itC xs[k]).set d u = itC x') : OwnI (w.setCell ⟨g, k * 7 + d, none⟩ u) base g n cap (xs.set k x') := by
  have h1 := (World.ownsRow.stored h (k * 7 + d) u).1
  rw [itV_set xs k x' d _ hk hd (by simpa [List.getD, hk] using hx)] at h1
  exact h1
/-- A store of a whole item. -/
theorem OwnI.setItem {w : World} {base g n cap k : Nat} {xs : List Itm} (h : OwnI w base g n cap xs) (hk : k < xs.length) (y : Itm) :
    OwnI (((((((w.setCell ⟨g, k * 7, none⟩ (.string ⟨y.id.toArray⟩)).setCell ⟨g, k * 7 + 1, none⟩ (.string ⟨y.cust.toArray⟩)).setCell ⟨g, k * 7 + 2, none⟩ (.int .i64 y.kind)).setCell ⟨g, k * 7 + 3, none⟩ (.string ⟨y.name.toArray⟩)).setCell ⟨g, k * 7 + 4, none⟩ (.int .i64 y.tm)).setCell ⟨g, k * 7 + 5, none⟩ (.string ⟨y.par.toArray⟩)).setCell ⟨g, k * 7 + 6, none⟩ (.string ⟨y.text.toArray⟩)) base g n cap (xs.set k y) := by
  obtain ⟨y0, y1, y2, y3, y4, y5, y6⟩ := y
  have h0 := h.setFld hk 0 (by omega) (.string ⟨y0.toArray⟩) { xs[k] with id := y0 } rfl
  have h1 := h0.setFld (by simpa using hk) 1 (by omega) (.string ⟨y1.toArray⟩) { xs[k] with id := y0, cust := y1 } (by simp [itC])
  have h2 := h1.setFld (by simpa using hk) 2 (by omega) (.int .i64 y2) { xs[k] with id := y0, cust := y1, kind := y2 } (by simp [itC])
  have h3 := h2.setFld (by simpa using hk) 3 (by omega) (.string ⟨y3.toArray⟩) { xs[k] with id := y0, cust := y1, kind := y2, name := y3 } (by simp [itC])
  have h4 := h3.setFld (by simpa using hk) 4 (by omega) (.int .i64 y4) { xs[k] with id := y0, cust := y1, kind := y2, name := y3, tm := y4 } (by simp [itC])
  have h5 := h4.setFld (by simpa using hk) 5 (by omega) (.string ⟨y5.toArray⟩) { xs[k] with id := y0, cust := y1, kind := y2, name := y3, tm := y4, par := y5 } (by simp [itC])
  have h6 := h5.setFld (by simpa using hk) 6 (by omega) (.string ⟨y6.toArray⟩) ⟨y0, y1, y2, y3, y4, y5, y6⟩ (by simp [itC])
  simpa using h6
theorem Mod.setR {w W : World} {b g : Nat} (h : Mod (· = b) w W) (hg : w.heap.size ≤ g) (j : Nat) (u : Value) : Mod (· = b) w (W.setCell ⟨g, j, none⟩ u) := h.setCell (p := ⟨g, j, none⟩) (.inr hg) u
theorem Strm.setR {W : World} {b N g : Nat} (h : Strm W b N) (hg : b < g) (j : Nat) (u : Value) : Strm (W.setCell ⟨g, j, none⟩ u) b N := h.setCell (p := ⟨g, j, none⟩) hg u
theorem itemIdZ_calls (w : World) (k : Int) (h0 : 0 ≤ k) (hk : k < 26) : Calls Tryz.prog 34 #[.int .i64 k] w (fun e w' => ∃ s : Str, s.length ≤ 100 ∧ e = .returned (.string ⟨s.toArray⟩) ∧ Pure w w') := by
  obtain ⟨i, rfl⟩ := Int.eq_ofNat_of_zero_le h0
  refine (itemId_calls w i (by omega)).mono ?_
  rintro e w' ⟨rfl, h⟩
  exact ⟨itS i, by simp [itS], rfl, h⟩
def Im4 (w : World) (b N base g n cap gk : Nat) (i : Value) (wr : World) : Prop :=
  ∃ (j : Nat) (xs : List Itm), 4 - j = gk ∧ j ≤ 4 ∧ i = .int .i64 (j : Int) ∧ (∀ x ∈ xs, ItG x) ∧ OwnI wr base g n cap xs ∧ Strm wr b (N + 2 * j) ∧ Mod (· = b) w wr

set_option maxRecDepth 100000 in
set_option maxHeartbeats 8000000 in
theorem items_callsG (w : World) (b N m : Nat) (mI : Int) (hmI : mI = (m : Int)) (hS : Strm w b N) (hN : N ≤ 600000000) (hm : m ≤ 20) (hE : ∀ W, Mod (· = b) w W → Env W) : Calls Tryz.prog 6 #[.pointer (some ⟨b, 0, none⟩), .int .i64 mI] w (ItemsPostG w b (N + 142 * m + 160) (m + 1)) := by
  obtain ⟨i0, hi0, hz0, hz1, hz2⟩ := info_parts info_item7
  have HRI := Lib.hid (rightItems_callsG w b N m hS (by omega) hm hE)
  rw [← hmI] at HRI
  have HMI := Lib.hid hmI
  clear hmI
  have hbl := hS.lt
  clear hE hS
  go_enter Tryz.func6, Tryz.ntmps6
  go_wp2_with fail
  refine HRI.out.mono ?_
  rintro e w1 ⟨v, xs, rfl, hxm, hxz, hown, hS1, m1⟩
  clear HRI
  have HXZ := Lib.hid hxz
  clear hxz
  by_cases h0 : xs.length = 0
  · have hform : ∃ A cap, v = .slice A 0 cap := by
      rw [h0] at hown
      rcases hown.2 with ⟨rfl, _⟩ | ⟨g, cap, cur, rfl, _⟩
      · exact ⟨_, _, rfl⟩
      · exact ⟨_, _, rfl⟩
    obtain ⟨A, cap, rfl⟩ := hform
    have HOW := Lib.hid hown
    clear hown h0
    go_wp2_with fail
    go_ret
    exact ⟨_, xs, rfl, by omega, HXZ.out, HOW.out, hS1.more (by omega), m1⟩
  obtain ⟨g, cap, rfl, hg1, hg2, hcap, hcap2⟩ := own_form7 hown (by omega)
  have hownI : OwnI w1 w.heap.size g xs.length cap xs := hown
  clear hown
  obtain ⟨n, hn⟩ : ∃ n, xs.length = n := ⟨_, rfl⟩
  rw [hn] at hownI hcap h0 hxm ⊢
  have hn1 := Nat.le_of_eq hn
  have hn2 := Nat.le_of_eq hn.symm
  have hn0 : (0 : Int) < (n : Int) := by omega
  clear hn h0
  go_wp2_with fail
  refine (flip_calls _ b _ _ hS1 (by omega) (by omega) (by omega)).mono ?_
  rintro e w2 ⟨fl, rfl, hS2, hM2⟩
  have own2 := hownI.mod hM2 (by omega)
  have m2 := m1.trans hM2
  have DONE : Hid (∀ (W : World) (zs : List Itm), (∀ x ∈ zs, ItG x) → OwnI W w.heap.size g n cap zs → Strm W b (N + 142 * m + 160) → Mod (· = b) w W → ItemsPostG w b (N + 142 * m + 160) (m + 1) (.returned (.slice (some ⟨g, 0, none⟩) n cap)) W) := Lib.hid (fun W zs h1 h2 h3 h4 => by
    have := h2.len
    exact ⟨_, zs, rfl, by omega, h1, by rw [this]; exact h2, h3, h4⟩)
  clear hS1 hownI m1 hM2
  cases fl
  · go_wp2_with fail
    go_ret
    exact DONE.out _ xs HXZ.out own2 (hS2.more (by omega)) m2
  go_wp2_with fail
  refine (next_calls _ b _ _ hS2 (by omega) (by omega) (by omega)).mono ?_
  rintro e w3 ⟨kk, hk0, hk1, rfl, hS3, hM3⟩
  obtain ⟨kk, rfl⟩ := Int.eq_ofNat_of_zero_le hk0
  have own3 := own2.mod hM3 (by omega)
  have m3 := m2.trans hM3
  have hkn : kk < n := by omega
  have hkx : kk < xs.length := by omega
  clear hS2 own2 m2 hM3 hk0 hk1
  go_wp2_with fail
  refine (next_calls _ b _ _ hS3 (by omega) (by omega) (by omega)).mono ?_
  rintro e w4 ⟨sw, hs0, hs1, rfl, hS4, hM4⟩
  have own4 := own3.mod hM4 (by omega)
  have m4 := m3.trans hM4
  clear hS3 own3 m3 hM4
  have i3 : (0 : Int) ≤ (kk : Int) := by omega
  have i4 : (kk : Int) < (n : Int) := by omega
  have hbg : b < g := by omega
  have hmg : w.heap.size ≤ g := by omega
  by_cases s0 : sw = 0
  · subst s0
    have hmi1 : 1 ≤ mI := by have := HMI.out; omega
    have hmi2 : mI ≤ 20 := by have := HMI.out; omega
    clear HMI
    go_upto_region 11 with (fail)
    obtain ⟨N1, hN1⟩ : ∃ N1, N1 = N + 142 * m + 1 + 1 + 1 := ⟨_, rfl⟩
    rw [← hN1] at hS4
    have hN1a := Nat.le_of_eq hN1
    have hN1b := Nat.le_of_eq hN1.symm
    clear hN1
    have hb4 := hS4.lt
    have HGs := Lib.hid (show ∀ (D : Nat → Bool) (zzi : Nat) (zq zq' : World), (fun _ zq => (fun Z => ∃ zs : List Itm, zs.length = n ∧ (∀ x ∈ zs, ItG x) ∧ OwnI Z w.heap.size g n cap zs) zq) D zq → Mod (· = b) zq zq' → (fun _ zq => (fun Z => ∃ zs : List Itm, zs.length = n ∧ (∀ x ∈ zs, ItG x) ∧ OwnI Z w.heap.size g n cap zs) zq) (upd D zzi true) zq' from by intro D zzi zq zq' h hm; (obtain ⟨zs, h1, h2, h3⟩ := h; exact ⟨zs, h1, h2, h3.mod hm (by omega)⟩))
    refine wp_region_inv (by kernel_rfl) (by kernel_rfl) (InvF (R := Mod (· = b)) [.is (.slice (some ⟨g, 0, none⟩) n cap),
        .is (.int .i64 (kk : Int)),
        .is (.pointer (some ⟨b, 0, none⟩)),
        .is (.pointer (some ⟨b, 0, none⟩)),
        .is (.int .i64 mI),
        .val (fun zv => ∃ (k_5 : Int), zv = .int .i64 k_5 ∧ 0 ≤ k_5 ∧ k_5 < mI),
        .val (fun zv => ∃ (s_6 : Str), zv = .string ⟨s_6.toArray⟩ ∧ s_6.length ≤ 100),
        .is (.slice (some ⟨g, 0, none⟩) n cap),
        .is (.int .i64 (kk : Int)),
        .is (.pointer (some ⟨g, kk * 7, none⟩)),
        .is (.pointer (some ⟨g, kk * 7, none⟩)),
        .val (fun zv => ∃ (s_11 : Str), zv = .string ⟨s_11.toArray⟩ ∧ s_11.length ≤ 100),
        ⟨fun zv zw => ∃ (s_12 : Str) (sa_12 : Str) (g_12 : Nat), zv = .slice (some ⟨g_12, 0, none⟩) 3 3 ∧ s_12.length ≤ 100 ∧ sa_12.length ≤ 100 ∧ w4.heap.size ≤ g_12 ∧ Blk zw g_12 9 #[(.string { data := #[105, 122, 122] }), .string ⟨s_12.toArray⟩, .string ⟨sa_12.toArray⟩], (by rintro zv zw zx ⟨s_12, sa_12, g_12, rfl, c0, c1, c2, q0⟩ hm; exact ⟨s_12, sa_12, g_12, rfl, c0, c1, c2, (q0.modb hm (by omega))⟩), none, some 13⟩,
        .val (fun zv => ∃ (s_13 : Str), zv = .string ⟨s_13.toArray⟩ ∧ s_13.length ≤ 100),
        .is (.pointer (some ⟨g, kk * 7, none⟩)),
        .is (.pointer (some ⟨g, kk * 7 + 5, none⟩)),
        .any]
        (GB w (· = b) w4.heap.size b (N1) (fun D => (D 5).toNat + (D 13).toNat) (fun _ zq => (fun Z => ∃ zs : List Itm, zs.length = n ∧ (∀ x ∈ zs, ItG x) ∧ OwnI Z w.heap.size g n cap zs) zq))) (InvF.start (GB.start hS4 m4 (Nat.le_refl _) (⟨xs, by omega, HXZ.out, own4⟩))) ?_ ?_
    · refine .cons ?_ (.cons ?_ (.cons ?_ (.cons ?_ (.cons ?_ (.cons ?_ (.cons ?_ (.cons ?_ (.cons ?_ (.cons ?_ (.cons ?_ (.cons ?_ (.cons ?_ (.cons ?_ (.cons ?_ (.cons ?_ (.cons ?_ .nil))))))))))))))))
      · intro D V zw1 a hR hI K hK
        obtain ⟨hS1, hM1, hB1, hG1⟩ := hI.1
        obtain ⟨zs, hG1a, hG1b, hG1d⟩ := hG1
        have ze5 := hR.frame.other (t := 5) (by kernel_rfl) rfl
        rw [if_pos (by rfl)]
        go_simp
        exact hK (.slice (some ⟨g, 0, none⟩) n cap) _ (hI.next hR (by kernel_rfl) (Mod.refl _ _) (GB.quiet hI.1 (Mod.refl _ _) (by have hn := hR.not; simp [upd, hn] <;> omega) (HGs.out D 0 zw1 zw1 (hI.1).g (Mod.refl _ _))) (upd_same V 0 _))
      · intro D V zw1 a hR hI K hK
        obtain ⟨hS1, hM1, hB1, hG1⟩ := hI.1
        obtain ⟨zs, hG1a, hG1b, hG1d⟩ := hG1
        have ze6 := hR.frame.other (t := 6) (by kernel_rfl) rfl
        rw [if_pos (by rfl)]
        go_simp
        exact hK (.int .i64 (kk : Int)) _ (hI.next hR (by kernel_rfl) (Mod.refl _ _) (GB.quiet hI.1 (Mod.refl _ _) (by have hn := hR.not; simp [upd, hn] <;> omega) (HGs.out D 1 zw1 zw1 (hI.1).g (Mod.refl _ _))) (upd_same V 1 _))
      · intro D V zw1 a hR hI K hK
        obtain ⟨hS1, hM1, hB1, hG1⟩ := hI.1
        obtain ⟨zs, hG1a, hG1b, hG1d⟩ := hG1
        have ze0 := hR.frame.other (t := 0) (by kernel_rfl) rfl
        rw [if_pos (by rfl)]
        go_simp
        exact hK (.pointer (some ⟨b, 0, none⟩)) _ (hI.next hR (by kernel_rfl) (Mod.refl _ _) (GB.quiet hI.1 (Mod.refl _ _) (by have hn := hR.not; simp [upd, hn] <;> omega) (HGs.out D 2 zw1 zw1 (hI.1).g (Mod.refl _ _))) (upd_same V 2 _))
      · intro D V zw1 a hR hI K hK
        obtain ⟨hS1, hM1, hB1, hG1⟩ := hI.1
        obtain ⟨zs, hG1a, hG1b, hG1d⟩ := hG1
        have ze0 := hR.frame.other (t := 0) (by kernel_rfl) rfl
        rw [if_pos (by rfl)]
        go_simp
        exact hK (.pointer (some ⟨b, 0, none⟩)) _ (hI.next hR (by kernel_rfl) (Mod.refl _ _) (GB.quiet hI.1 (Mod.refl _ _) (by have hn := hR.not; simp [upd, hn] <;> omega) (HGs.out D 3 zw1 zw1 (hI.1).g (Mod.refl _ _))) (upd_same V 3 _))
      · intro D V zw1 a hR hI K hK
        obtain ⟨hS1, hM1, hB1, hG1⟩ := hI.1
        obtain ⟨zs, hG1a, hG1b, hG1d⟩ := hG1
        have ze1 := hR.frame.other (t := 1) (by kernel_rfl) rfl
        rw [if_pos (by rfl)]
        go_simp
        exact hK (.int .i64 mI) _ (hI.next hR (by kernel_rfl) (Mod.refl _ _) (GB.quiet hI.1 (Mod.refl _ _) (by have hn := hR.not; simp [upd, hn] <;> omega) (HGs.out D 4 zw1 zw1 (hI.1).g (Mod.refl _ _))) (upd_same V 4 _))
      · intro D V zw1 a hR hI K hK
        obtain ⟨hS1, hM1, hB1, hG1⟩ := hI.1
        obtain ⟨zs, hG1a, hG1b, hG1d⟩ := hG1
        have zd3 := hR.pred 3 (by kernel_rfl)
        have zF3 : V 3 = .pointer (some ⟨b, 0, none⟩) := hI.2 3 zd3 rfl
        have zf3 := zF3; clear zF3
        have zd4 := hR.pred 4 (by kernel_rfl)
        have zF4 : V 4 = .int .i64 mI := hI.2 4 zd4 rfl
        have zf4 := zF4; clear zF4
        have ze48 := hR.frame.done (t := 48) (j := 3) (by kernel_rfl) hR.ok zd3
        have ze49 := hR.frame.done (t := 49) (j := 4) (by kernel_rfl) hR.ok zd4
        rw [if_pos (by rfl)]
        have := Bool.toNat_le (D 5)
        have := Bool.toNat_le (D 13)
        have hNB : N1 + ((D 5).toNat + (D 13).toNat) ≤ 1000000000 := by omega
        skip
        go_simp
        refine (next_calls _ _ _ _ hS1 hNB (by omega) (by omega)).mono ?_
        rintro e zw2 ⟨k_0, hk1, hk2, rfl, hS2, hm2⟩
        exact hK (.int .i64 k_0) _ (hI.next hR (by kernel_rfl) hm2 (GB.asks hI.1 (fun _ h _ => h) hS2 hm2 (by have hn := hR.not; simp [upd, hn] <;> omega) (HGs.out D 5 _ _ (hI.1).g hm2)) (⟨k_0, upd_same V 5 _, hk1, hk2⟩))
      · intro D V zw1 a hR hI K hK
        obtain ⟨hS1, hM1, hB1, hG1⟩ := hI.1
        obtain ⟨zs, hG1a, hG1b, hG1d⟩ := hG1
        have zd5 := hR.pred 5 (by kernel_rfl)
        have zF5 : ∃ (k_5 : Int), V 5 = .int .i64 k_5 ∧ 0 ≤ k_5 ∧ k_5 < mI := hI.2 5 zd5 rfl
        obtain ⟨k_5, zf5, c5_0, c5_1⟩ := zF5
        have ze50 := hR.frame.done (t := 50) (j := 5) (by kernel_rfl) hR.ok zd5
        rw [if_pos (by rfl)]
        have := Bool.toNat_le (D 5)
        have := Bool.toNat_le (D 13)
        have hNB : N1 + ((D 5).toNat + (D 13).toNat) ≤ 1000000000 := by omega
        skip
        go_simp
        refine (itemIdZ_calls _ k_5 c5_0 (by omega)).mono ?_
        rintro e zw2 ⟨s_0, hs, rfl, hm2⟩
        exact hK (.string ⟨s_0.toArray⟩) _ (hI.next hR (by kernel_rfl) (Mod.of_pure hm2) (GB.quiet hI.1 hm2 (by have hn := hR.not; simp [upd, hn] <;> omega) (HGs.out D 6 _ _ (hI.1).g (Mod.of_pure hm2))) (⟨s_0, upd_same V 6 _, hs⟩))
      · intro D V zw1 a hR hI K hK
        obtain ⟨hS1, hM1, hB1, hG1⟩ := hI.1
        obtain ⟨zs, hG1a, hG1b, hG1d⟩ := hG1
        have ze5 := hR.frame.other (t := 5) (by kernel_rfl) rfl
        rw [if_pos (by rfl)]
        go_simp
        exact hK (.slice (some ⟨g, 0, none⟩) n cap) _ (hI.next hR (by kernel_rfl) (Mod.refl _ _) (GB.quiet hI.1 (Mod.refl _ _) (by have hn := hR.not; simp [upd, hn] <;> omega) (HGs.out D 7 zw1 zw1 (hI.1).g (Mod.refl _ _))) (upd_same V 7 _))
      · intro D V zw1 a hR hI K hK
        obtain ⟨hS1, hM1, hB1, hG1⟩ := hI.1
        obtain ⟨zs, hG1a, hG1b, hG1d⟩ := hG1
        have ze6 := hR.frame.other (t := 6) (by kernel_rfl) rfl
        rw [if_pos (by rfl)]
        go_simp
        exact hK (.int .i64 (kk : Int)) _ (hI.next hR (by kernel_rfl) (Mod.refl _ _) (GB.quiet hI.1 (Mod.refl _ _) (by have hn := hR.not; simp [upd, hn] <;> omega) (HGs.out D 8 zw1 zw1 (hI.1).g (Mod.refl _ _))) (upd_same V 8 _))
      · intro D V zw1 a hR hI K hK
        obtain ⟨hS1, hM1, hB1, hG1⟩ := hI.1
        obtain ⟨zs, hG1a, hG1b, hG1d⟩ := hG1
        have zd7 := hR.pred 7 (by kernel_rfl)
        have zF7 : V 7 = .slice (some ⟨g, 0, none⟩) n cap := hI.2 7 zd7 rfl
        have zf7 := zF7; clear zF7
        have zd8 := hR.pred 8 (by kernel_rfl)
        have zF8 : V 8 = .int .i64 (kk : Int) := hI.2 8 zd8 rfl
        have zf8 := zF8; clear zF8
        have ze52 := hR.frame.done (t := 52) (j := 7) (by kernel_rfl) hR.ok zd7
        have ze53 := hR.frame.done (t := 53) (j := 8) (by kernel_rfl) hR.ok zd8
        rw [if_pos (by rfl)]
        go_simp
        exact hK (.pointer (some ⟨g, kk * 7, none⟩)) _ (hI.next hR (by kernel_rfl) (Mod.refl _ _) (GB.quiet hI.1 (Mod.refl _ _) (by have hn := hR.not; simp [upd, hn] <;> omega) (HGs.out D 9 zw1 zw1 (hI.1).g (Mod.refl _ _))) (upd_same V 9 _))
      · intro D V zw1 a hR hI K hK
        obtain ⟨hS1, hM1, hB1, hG1⟩ := hI.1
        obtain ⟨zs, hG1a, hG1b, hG1d⟩ := hG1
        have zd9 := hR.pred 9 (by kernel_rfl)
        have zF9 : V 9 = .pointer (some ⟨g, kk * 7, none⟩) := hI.2 9 zd9 rfl
        have zf9 := zF9; clear zF9
        have ze54 := hR.frame.done (t := 54) (j := 9) (by kernel_rfl) hR.ok zd9
        rw [if_pos (by rfl)]
        go_simp
        exact hK (.pointer (some ⟨g, kk * 7, none⟩)) _ (hI.next hR (by kernel_rfl) (Mod.refl _ _) (GB.quiet hI.1 (Mod.refl _ _) (by have hn := hR.not; simp [upd, hn] <;> omega) (HGs.out D 10 zw1 zw1 (hI.1).g (Mod.refl _ _))) (upd_same V 10 _))
      · intro D V zw1 a hR hI K hK
        obtain ⟨hS1, hM1, hB1, hG1⟩ := hI.1
        obtain ⟨zs, hG1a, hG1b, hG1d⟩ := hG1
        have zd10 := hR.pred 10 (by kernel_rfl)
        have zF10 : V 10 = .pointer (some ⟨g, kk * 7, none⟩) := hI.2 10 zd10 rfl
        have zf10 := zF10; clear zF10
        have ze55 := hR.frame.done (t := 55) (j := 10) (by kernel_rfl) hR.ok zd10
        have hkz : kk < zs.length := by omega
        have hcc := (hG1d.cells hkz).1
        rw [if_pos (by rfl)]
        go_simp
        exact hK (_) _ (hI.next hR (by kernel_rfl) (Mod.refl _ _) (GB.quiet hI.1 (Mod.refl _ _) (by have hn := hR.not; simp [upd, hn] <;> omega) (HGs.out D 11 zw1 zw1 (hI.1).g (Mod.refl _ _))) (⟨zs[kk].id, upd_same V 11 _, (hG1b _ (List.getElem_mem hkz)).1⟩))
      · intro D V zw1 a hR hI K hK
        obtain ⟨hS1, hM1, hB1, hG1⟩ := hI.1
        obtain ⟨zs, hG1a, hG1b, hG1d⟩ := hG1
        have zd6 := hR.pred 6 (by kernel_rfl)
        have zF6 : ∃ (s_6 : Str), V 6 = .string ⟨s_6.toArray⟩ ∧ s_6.length ≤ 100 := hI.2 6 zd6 rfl
        obtain ⟨s_6, zf6, c6_0⟩ := zF6
        have zd11 := hR.pred 11 (by kernel_rfl)
        have zF11 : ∃ (s_11 : Str), V 11 = .string ⟨s_11.toArray⟩ ∧ s_11.length ≤ 100 := hI.2 11 zd11 rfl
        obtain ⟨s_11, zf11, c11_0⟩ := zF11
        have ze51 := hR.frame.done (t := 51) (j := 6) (by kernel_rfl) hR.ok zd6
        have ze56 := hR.frame.done (t := 56) (j := 11) (by kernel_rfl) hR.ok zd11
        rw [if_pos (by rfl)]
        go_simp
        exact hK (_) _ (hI.next hR (by kernel_rfl) ((Mod.refl _ _).alloc _) (GB.quiet hI.1 (pure_alloc _ _) (by have hn := hR.not; simp [upd, hn] <;> omega) (HGs.out D 12 _ _ (hI.1).g ((Mod.refl _ _).alloc _))) (⟨s_6, s_11, _, upd_same V 12 _, (by first | assumption | omega), (by first | assumption | omega), (by omega), (Blk.new _ _ _)⟩))
      · intro D V zw1 a hR hI K hK
        obtain ⟨hS1, hM1, hB1, hG1⟩ := hI.1
        obtain ⟨zs, hG1a, hG1b, hG1d⟩ := hG1
        have zd2 := hR.pred 2 (by kernel_rfl)
        have zF2 : V 2 = .pointer (some ⟨b, 0, none⟩) := hI.2 2 zd2 rfl
        have zf2 := zF2; clear zF2
        have zd12 := hR.pred 12 (by kernel_rfl)
        have zF12 : ∃ (s_12 : Str) (sa_12 : Str) (g_12 : Nat), V 12 = .slice (some ⟨g_12, 0, none⟩) 3 3 ∧ s_12.length ≤ 100 ∧ sa_12.length ≤ 100 ∧ w4.heap.size ≤ g_12 ∧ Blk zw1 g_12 9 #[(.string { data := #[105, 122, 122] }), .string ⟨s_12.toArray⟩, .string ⟨sa_12.toArray⟩] := hI.2 12 zd12 (by show (!D 13) = true; rw [hR.not]; rfl)
        obtain ⟨s_12, sa_12, g_12, zf12, c12_0, c12_1, c12_2, b12_0⟩ := zF12
        have ze47 := hR.frame.done (t := 47) (j := 2) (by kernel_rfl) hR.ok zd2
        have ze57 := hR.frame.done (t := 57) (j := 12) (by kernel_rfl) hR.ok zd12
        rw [if_pos (by rfl)]
        have := Bool.toNat_le (D 5)
        have := Bool.toNat_le (D 13)
        have hNB : N1 + ((D 5).toNat + (D 13).toNat) ≤ 1000000000 := by omega
        skip
        go_simp
        refine (someb_calls _ b _ _ _ _ [[105, 122, 122], s_12, sa_12] 100 rfl (le_cons (by decide) (le_cons c12_0 (le_cons c12_1 le_nil))) hS1 hNB b12_0 (by omega) (by simp) (by simp)).mono ?_
        rintro e zw2 ⟨s_0, hs, rfl, hS2, hm2⟩
        exact hK (.string ⟨s_0.toArray⟩) _ (hI.next hR (by kernel_rfl) hm2 (GB.asks hI.1 (fun _ h _ => h) hS2 hm2 (by have hn := hR.not; simp [upd, hn] <;> omega) (HGs.out D 13 _ _ (hI.1).g hm2)) (⟨s_0, upd_same V 13 _, hs⟩))
      · intro D V zw1 a hR hI K hK
        obtain ⟨hS1, hM1, hB1, hG1⟩ := hI.1
        obtain ⟨zs, hG1a, hG1b, hG1d⟩ := hG1
        have zd0 := hR.pred 0 (by kernel_rfl)
        have zF0 : V 0 = .slice (some ⟨g, 0, none⟩) n cap := hI.2 0 zd0 rfl
        have zf0 := zF0; clear zF0
        have zd1 := hR.pred 1 (by kernel_rfl)
        have zF1 : V 1 = .int .i64 (kk : Int) := hI.2 1 zd1 rfl
        have zf1 := zF1; clear zF1
        have ze45 := hR.frame.done (t := 45) (j := 0) (by kernel_rfl) hR.ok zd0
        have ze46 := hR.frame.done (t := 46) (j := 1) (by kernel_rfl) hR.ok zd1
        rw [if_pos (by rfl)]
        go_simp
        exact hK (.pointer (some ⟨g, kk * 7, none⟩)) _ (hI.next hR (by kernel_rfl) (Mod.refl _ _) (GB.quiet hI.1 (Mod.refl _ _) (by have hn := hR.not; simp [upd, hn] <;> omega) (HGs.out D 14 zw1 zw1 (hI.1).g (Mod.refl _ _))) (upd_same V 14 _))
      · intro D V zw1 a hR hI K hK
        obtain ⟨hS1, hM1, hB1, hG1⟩ := hI.1
        obtain ⟨zs, hG1a, hG1b, hG1d⟩ := hG1
        have zd14 := hR.pred 14 (by kernel_rfl)
        have zF14 : V 14 = .pointer (some ⟨g, kk * 7, none⟩) := hI.2 14 zd14 rfl
        have zf14 := zF14; clear zF14
        have ze59 := hR.frame.done (t := 59) (j := 14) (by kernel_rfl) hR.ok zd14
        rw [if_pos (by rfl)]
        go_simp
        exact hK (.pointer (some ⟨g, kk * 7 + 5, none⟩)) _ (hI.next hR (by kernel_rfl) (Mod.refl _ _) (GB.quiet hI.1 (Mod.refl _ _) (by have hn := hR.not; simp [upd, hn] <;> omega) (HGs.out D 15 zw1 zw1 (hI.1).g (Mod.refl _ _))) (upd_same V 15 _))
      · intro D V zw1 a hR hI K hK
        obtain ⟨hS1, hM1, hB1, hG1⟩ := hI.1
        obtain ⟨zs, hG1a, hG1b, hG1d⟩ := hG1
        have zd15 := hR.pred 15 (by kernel_rfl)
        have zF15 : V 15 = .pointer (some ⟨g, kk * 7 + 5, none⟩) := hI.2 15 zd15 rfl
        have zf15 := zF15; clear zF15
        have zd13 := hR.pred 13 (by kernel_rfl)
        have zF13 : ∃ (s_13 : Str), V 13 = .string ⟨s_13.toArray⟩ ∧ s_13.length ≤ 100 := hI.2 13 zd13 rfl
        obtain ⟨s_13, zf13, c13_0⟩ := zF13
        have ze60 := hR.frame.done (t := 60) (j := 15) (by kernel_rfl) hR.ok zd15
        have ze58 := hR.frame.done (t := 58) (j := 13) (by kernel_rfl) hR.ok zd13
        rw [if_pos (by rfl)]
        have hkz : kk < zs.length := by omega
        have zy0 := hG1d.frozen (kk * 7 + 5)
        have zx0 := (hG1d.cells hkz).2.2.2.2.2.1
        go_simp
        refine hK undef _ (InvF.last ⟨(hS1.setR (by omega) _ _).more (by have hn := hR.not; simp [upd, hn] <;> omega), hM1.setR (by omega) _ _, (by simpa using hB1), ⟨_, (by simpa using hG1a), set_all hG1b ((hG1b _ (List.getElem_mem hkz)).par (s := s_13) (by omega)), hG1d.setPar hkz s_13⟩⟩ trivial ?_)
        intro k hk hDk hlv
        have hkl := hR.lt k hDk
        have hv := hI.2 k hDk (liveB_of hlv)
        match k, hk, hDk, hlv, hkl, hv with
        | 0, _, _, _, _, hv => exact hv
        | 1, _, _, _, _, hv => exact hv
        | 2, _, _, _, _, hv => exact hv
        | 3, _, _, _, _, hv => exact hv
        | 4, _, _, _, _, hv => exact hv
        | 5, _, _, _, _, hv => exact hv
        | 6, _, _, _, _, hv => exact hv
        | 7, _, _, _, _, hv => exact hv
        | 8, _, _, _, _, hv => exact hv
        | 9, _, _, _, _, hv => exact hv
        | 10, _, _, _, _, hv => exact hv
        | 11, _, _, _, _, hv => exact hv
        | 12, _, _, hlv, _, _ => exact absurd hlv (by show ¬ (!upd D 16 true 13) = true; rw [upd_ne _ _ (by omega), hR.pred 13 (by kernel_rfl)]; decide)
        | 13, _, _, _, _, hv => exact hv
        | 14, _, _, _, _, hv => exact hv
        | 15, _, _, _, _, hv => exact hv
        | 16, hk, _, _, _, _ => exact absurd rfl hk
        | k + 17, _, _, _, hkl, _ => exact absurd hkl (by simp)
    · intro D V w5 hD hI
      obtain ⟨hS1, hM1, hB1, hG1⟩ := hI.1
      have hSx : Strm w5 b (N1 + 2) := hS1.more (by show _ ≤ _; have := Bool.toNat_le (D 5); have := Bool.toNat_le (D 13); omega)
      clear hS1
      have hMx := hM1
      clear hM1
      have hBx := hB1
      clear hB1
      have hGx := hG1
      clear hG1
      have zF0 : V 0 = .slice (some ⟨g, 0, none⟩) n cap := hI.2 0 (hD 0 (by decide)) rfl
      have zf0 := zF0; clear zF0
      have zF1 : V 1 = .int .i64 (kk : Int) := hI.2 1 (hD 1 (by decide)) rfl
      have zf1 := zF1; clear zF1
      have zF2 : V 2 = .pointer (some ⟨b, 0, none⟩) := hI.2 2 (hD 2 (by decide)) rfl
      have zf2 := zF2; clear zF2
      have zF3 : V 3 = .pointer (some ⟨b, 0, none⟩) := hI.2 3 (hD 3 (by decide)) rfl
      have zf3 := zF3; clear zF3
      have zF4 : V 4 = .int .i64 mI := hI.2 4 (hD 4 (by decide)) rfl
      have zf4 := zF4; clear zF4
      have zF5 : ∃ (k_5 : Int), V 5 = .int .i64 k_5 ∧ 0 ≤ k_5 ∧ k_5 < mI := hI.2 5 (hD 5 (by decide)) rfl
      obtain ⟨k_5, zf5, c5_0, c5_1⟩ := zF5
      have zF6 : ∃ (s_6 : Str), V 6 = .string ⟨s_6.toArray⟩ ∧ s_6.length ≤ 100 := hI.2 6 (hD 6 (by decide)) rfl
      obtain ⟨s_6, zf6, c6_0⟩ := zF6
      have zF7 : V 7 = .slice (some ⟨g, 0, none⟩) n cap := hI.2 7 (hD 7 (by decide)) rfl
      have zf7 := zF7; clear zF7
      have zF8 : V 8 = .int .i64 (kk : Int) := hI.2 8 (hD 8 (by decide)) rfl
      have zf8 := zF8; clear zF8
      have zF9 : V 9 = .pointer (some ⟨g, kk * 7, none⟩) := hI.2 9 (hD 9 (by decide)) rfl
      have zf9 := zF9; clear zF9
      have zF10 : V 10 = .pointer (some ⟨g, kk * 7, none⟩) := hI.2 10 (hD 10 (by decide)) rfl
      have zf10 := zF10; clear zF10
      have zF11 : ∃ (s_11 : Str), V 11 = .string ⟨s_11.toArray⟩ ∧ s_11.length ≤ 100 := hI.2 11 (hD 11 (by decide)) rfl
      obtain ⟨s_11, zf11, c11_0⟩ := zF11
      have zF13 : ∃ (s_13 : Str), V 13 = .string ⟨s_13.toArray⟩ ∧ s_13.length ≤ 100 := hI.2 13 (hD 13 (by decide)) rfl
      obtain ⟨s_13, zf13, c13_0⟩ := zF13
      have zF14 : V 14 = .pointer (some ⟨g, kk * 7, none⟩) := hI.2 14 (hD 14 (by decide)) rfl
      have zf14 := zF14; clear zF14
      have zF15 : V 15 = .pointer (some ⟨g, kk * 7 + 5, none⟩) := hI.2 15 (hD 15 (by decide)) rfl
      have zf15 := zF15; clear zF15
      clear hI hD HGs
      simp only [frAll, Act.put, List.setIfInBounds_toArray, List.set_cons_zero, List.set_cons_succ, Nat.zero_add, Nat.reduceAdd, zf0, zf1, zf2, zf3, zf4, zf5, zf6, zf7, zf8, zf9, zf10, zf11, zf13, zf14, zf15]
      clear zf0 zf1 zf2 zf3 zf4 zf5 zf6 zf7 zf8 zf9 zf10 zf11 zf13 zf14 zf15
      generalize V 12 = u12
      clear V D
      obtain ⟨zs, _, hz, hz3⟩ := hGx
      have HZ := Lib.hid hz
      clear hz
      go_wp2_with fail
      go_ret
      exact DONE.out _ zs HZ.out hz3 (hSx.more (by omega)) hMx
  have s0' : (sw == 0) = false := by simpa using s0
  by_cases s1 : sw = 1
  · subst s1
    obtain ⟨c0, c1, c2, c3, c4, c5, c6⟩ := own4.cells hkx
    have HSI := Lib.hid (fun (W : World) (h : OwnI W w.heap.size g n cap xs) y => h.setItem hkx y)
    have HIZ := Lib.hid (HXZ.out _ (List.getElem_mem hkx)).1
    have HIC := Lib.hid (fun W => item_callsG W b (N + 142 * m + 1 + 1 + 1) xs[kk].id)
    have HCC := Lib.hid (fun (W : World) (h : OwnI W w.heap.size g n cap xs) => h.cells hkx)
    have hidl := HIZ.out
    generalize xs[kk].id = kid at *
    go_wp2_with fail
    refine (HIC.out _ hS4 (by omega) (by omega)).mono ?_
    rintro e w5 ⟨z, hz, rfl, hS5, hM5⟩
    have own5 := own4.mod hM5 (by omega)
    have m5 := m4.trans hM5
    clear hS4 own4 m4 hM5 c0 c1 c2 c3 c4 c5 c6
    obtain ⟨d0, d1, d2, d3, d4, d5, d6⟩ := HCC.out _ own5
    have f0 := own5.frozen (kk * 7)
    have f1 := own5.frozen (kk * 7 + 1)
    have f2 := own5.frozen (kk * 7 + 2)
    have f3 := own5.frozen (kk * 7 + 3)
    have f4 := own5.frozen (kk * 7 + 4)
    have f5 := own5.frozen (kk * 7 + 5)
    have f6 := own5.frozen (kk * 7 + 6)
    have HO := Lib.hid (HSI.out _ own5 z)
    have HZ : Hid (∀ x ∈ xs.set kk z, ItG x) := Lib.hid (set_all HXZ.out hz)
    clear own5 HSI HIC HCC hz hidl HIZ
    unfold itA
    go_wp2_with fail
    go_ret
    exact DONE.out _ _ HZ.out HO.out ((((((((hS5.setR hbg _ _).setR hbg _ _).setR hbg _ _).setR hbg _ _).setR hbg _ _).setR hbg _ _).setR hbg _ _).more (by omega)) (((((((m5.setR hmg _ _).setR hmg _ _).setR hmg _ _).setR hmg _ _).setR hmg _ _).setR hmg _ _).setR hmg _ _)
  have s1' : (sw == 1) = false := by simpa using s1
  by_cases s2 : sw = 2
  · subst s2
    have h0x : 0 < xs.length := by omega
    obtain ⟨c0, c1, c2, c3, c4, c5, c6⟩ := own4.cells h0x
    simp only [Nat.zero_mul, Nat.zero_add] at c0 c1 c2 c3 c4 c5 c6
    have HZ : Hid (∀ x ∈ xs ++ [xs[0]], ItG x) := Lib.hid (fun y hy => by
      rcases List.mem_append.1 hy with hy | hy
      · exact HXZ.out y hy
      · rw [List.mem_singleton.1 hy]; exact HXZ.out _ (List.getElem_mem h0x))
    have HXV := Lib.hid (itV_snoc xs xs[0])
    have HLN : Hid ((xs ++ [xs[0]]).length = n + 1) := Lib.hid (by simp; omega)
    unfold itC at HXV
    generalize xs[0] = z at *
    have j0 : (0 : Int) < (n : Int) := by omega
    have own4' : w4.ownsRow w.heap.size 71 7 (.slice (some ⟨g, 0, none⟩) n cap) n (itV xs) := own4
    go_wp2_with (at_builtin; refine wpList_append_lies _ rfl _ _ _ rfl w.heap.size 71 i0 _ 7 96 Tryz.underlying26 hi0 hz0 hz1 hz2 rfl (by omega) (.slice (some ⟨g, 0, none⟩) n cap) n (itV xs) rfl (own4'.alloc _) ⟨w4.heap.size, 0, none⟩ 1 1 [.string ⟨z.id.toArray⟩, .string ⟨z.cust.toArray⟩, .int .i64 z.kind, .string ⟨z.name.toArray⟩, .int .i64 z.tm, .string ⟨z.par.toArray⟩, .string ⟨z.text.toArray⟩] rfl rfl (World.news_of_block (cs := #[.string ⟨z.id.toArray⟩, .string ⟨z.cust.toArray⟩, .int .i64 z.kind, .string ⟨z.name.toArray⟩, .int .i64 z.tm, .string ⟨z.par.toArray⟩, .string ⟨z.text.toArray⟩]) (t := 71) (fr := (0, 0)) (heap_alloc_new w4 _)) (by simp [Value.oneCell']) (by omega) (by simp [maxLen]; omega) (by omega) (by have := m4.size; simp; omega) (w4.heap.size + 1) (by simp) ?_; intro g5 cap5 w5 hown5 hgrow hat hlt5)
    go_ret
    refine ⟨_, xs ++ [z], rfl, by rw [HLN.out]; omega, HZ.out, ?_, (hS4.alloc _ |>.mod (S := fun k => (Value.slice (some ⟨g, 0, none⟩) n cap).ownBlock = some k) ⟨hgrow.os, hgrow.tape, hgrow.output, hgrow.size, fun k hk hs => hgrow.block k hk (fun x => hs x.symm)⟩ (fun i hi hk => by have := own_block own4' i hk; omega)).more (by omega), (m4.alloc _).grown hgrow (fun k hk => .inr (by have := own_block own4' k hk; omega))⟩
    rw [HXV.out, HLN.out]
    simpa using hown5
  have s2' : (sw == 2) = false := by simpa using s2
  by_cases s3 : sw = 3
  · subst s3
    have c2 := (own4.cells hkx).2.2.1
    have HSI := Lib.hid (fun (W : World) (h : OwnI W w.heap.size g n cap xs) z => h.setKind hkx z)
    have HZ : Hid (∀ z, ∀ x ∈ xs.set kk { xs[kk] with kind := z }, ItG x) := Lib.hid (fun z => set_all HXZ.out ((HXZ.out _ (List.getElem_mem hkx)).kind z))
    have HCC := Lib.hid (fun (W : World) (h : OwnI W w.heap.size g n cap xs) => (h.cells hkx).2.2.1)
    go_wp2_with fail
    refine (odd_calls _ b _ _ _ hS4 (by omega) (by omega) (by omega) (by omega)).mono ?_
    rintro e w5 ⟨z, _, _, rfl, hS5, hM5⟩
    have own5 := own4.mod hM5 (by omega)
    have m5 := m4.trans hM5
    have d2 := HCC.out _ own5
    have f2 := own5.frozen (kk * 7 + 2)
    have HO := Lib.hid (HSI.out _ own5 z)
    have HZ2 := Lib.hid (HZ.out z)
    clear hS4 own4 m4 hM5 own5 HSI HCC HZ c2
    generalize xs.set kk { xs[kk] with kind := z } = ys at *
    go_wp2_with fail
    go_ret
    exact DONE.out _ _ HZ2.out HO.out ((hS5.setR hbg _ _).more (by omega)) (m5.setR hmg _ _)
  have s3' : (sw == 3) = false := by simpa using s3
  clear s0 s1 s2 s3 hkx hkn i3 i4
  obtain ⟨base, hbase⟩ : ∃ base, base = w.heap.size := ⟨_, rfl⟩
  rw [← hbase] at own4 DONE
  clear hbase
  go_wp2_with fail
  go_loopg [24] 4 (fun gk i wr => Im4 w b (N + 142 * m + 3) base g n cap gk i wr)
  case atStart => exact ⟨0, xs, rfl, by omega, rfl, HXZ.out, own4, hS4.more (by omega), m4⟩
  case round =>
    clear HXZ own4 hS4 m4 hn1 hn2
    obtain ⟨j, ys, rfl, hj, rfl, hyz, hown, hS, hmm⟩ := hrel
    have hyl := hown.len
    by_cases hlt : j < 4
    · have HYZ := Lib.hid hyz
      clear hyz
      go_wp2_with fail
      refine (next_calls _ b _ _ hS (by omega) (by omega) (by omega)).mono ?_
      rintro e w5 ⟨p, hp0, hp1, rfl, hS5, hM5⟩
      obtain ⟨p, rfl⟩ := Int.eq_ofNat_of_zero_le hp0
      have own5 := hown.mod hM5 (by omega)
      have m5 := hmm.trans hM5
      clear hS hown hmm hM5
      go_wp2_with fail
      refine (next_calls _ b _ _ hS5 (by omega) (by omega) (by omega)).mono ?_
      rintro e w6 ⟨q, hq0, hq1, rfl, hS6, hM6⟩
      obtain ⟨q, rfl⟩ := Int.eq_ofNat_of_zero_le hq0
      have own6 := own5.mod hM6 (by omega)
      have m6 := m5.trans hM6
      have hpy : p < ys.length := by omega
      have hqy : q < ys.length := by omega
      have c0 := (own6.cells hqy).1
      have c1 := (own6.cells hpy).2.2.2.2.2.1
      have c2 := own6.frozen (p * 7 + 5)
      have HO := Lib.hid (own6.setPar hpy ys[q].id)
      have HZ1 : Hid (∀ x ∈ ys.set p { ys[p] with par := ys[q].id }, ItG x) := Lib.hid (set_all HYZ.out ((HYZ.out _ (List.getElem_mem hpy)).par (by have := (HYZ.out _ (List.getElem_mem hqy)).1; omega)))
      clear hS5 own5 m5 hM6 own6 hp0 hq0 hyl HYZ
      generalize ys.set p { ys[p] with par := ys[q].id } = y1 at *
      generalize ys[q].id = qid at *
      generalize ys[p].par = ppar at *
      have j1 : (0 : Int) ≤ (p : Int) := by omega
      have j3 : (0 : Int) ≤ (q : Int) := by omega
      go_wp2_with fail
      go_roundg (4 - (j + 1))
      case measure => omega
      case rel => exact ⟨j + 1, y1, rfl, by omega, by simp, HZ1.out, HO.out, (hS6.setR hbg _ _).more (by omega), m6.setR hmg _ _⟩
    · obtain rfl : j = 4 := by omega
      have HYZ := Lib.hid hyz
      clear hyz
      go_wp2_with fail
      go_ret
      exact DONE.out _ ys HYZ.out hown (hS.more (by omega)) hmm

theorem items_calls (w : World) (b N m : Nat) (mI : Int) (hmI : mI = (m : Int)) (hS : Strm w b N) (hN : N ≤ 600000000) (hm : m ≤ 20) (hE : ∀ W, Mod (· = b) w W → Env W) : Calls Tryz.prog 6 #[.pointer (some ⟨b, 0, none⟩), .int .i64 mI] w (ItemsPost w b (N + 142 * m + 160) (m + 1)) :=
  (items_callsG w b N m mI hmI hS hN hm hE).mono fun _ _ h => h.b

end Go.Proofs.YtofkkenmkflmiaaGreatDoor

/- Why a filter leaves an item out: the program. -/
namespace Go.Proofs.YtofkkenmkflmiaaGreatDoor
set_option linter.unusedVariables false
set_option linter.unusedSimpArgs false
open Go.RowKit

theorem ints_lenV (xs : List Int) : (ints xs).length = xs.length := by simp [ints]

set_option maxRecDepth 100000 in
set_option maxHeartbeats 1000000 in
theorem indexKi_calls (w : World) (v : Value) (xs : List Int) (y : Int) (hv : Sl w 3 1 v (ints xs)) : Calls Tryz.prog 171 #[v, .int .i64 y] w (IntPost w (idxQ (fun x => y == x) xs 0)) := by
  obtain ⟨A, n, c, rfl, hc1, hc2, hl, hr⟩ := hv
  have hln : xs.length = n := by rw [ints_lenV] at hl; omega
  subst hln
  have HR := Lib.hid hr
  clear hl hr
  go_enter Tryz.func171, Tryz.ntmps171
  go_wp2_with fail
  go_loopg [8] xs.length (fun gk i wr => ∃ k : Nat, xs.length - k = gk ∧ k ≤ xs.length ∧ i = .int .i64 (k : Int) ∧ idxQ (fun x => y == x) xs 0 = idxQ (fun x => y == x) (xs.drop k) (k : Int) ∧ w = wr)
  case atStart => exact ⟨0, by omega, by omega, rfl, rfl, rfl⟩
  case round =>
    obtain ⟨k, rfl, hk, rfl, hix, rfl⟩ := hrel
    have HIX := Lib.hid hix
    clear hix
    by_cases hlt : k < xs.length
    · obtain ⟨g, off, rfl, hrow⟩ := HR.out (by omega)
      have hq := hrow.cell (ints_getV xs k hlt)
      have hd : xs.drop k = xs[k] :: xs.drop (k + 1) := List.drop_eq_getElem_cons hlt
      have hi2 : idxQ (fun x => y == x) xs 0 = if (fun x => y == x) xs[k] then (k : Int) else idxQ (fun x => y == x) (xs.drop (k + 1)) ((k : Int) + 1) := by rw [HIX.out, hd]; rfl
      have HI2 := Lib.hid hi2
      clear hd hi2 hrow HIX
      generalize xs[k] = x at *
      have heq : (y == x) = (y == x) := by first | rfl | (exact Bool.eq_iff_iff.2 (by simp; try omega))
      cases hp : (y == x)
      · have hp2 := heq.trans hp
        have HP := Lib.hid hp
        clear hp heq
        go_wp2_with fail
        go_roundg (xs.length - (k + 1))
        case measure => omega
        case rel => exact ⟨k + 1, rfl, hlt, by simp, by rw [HI2.out]; simp only [HP.out]; simp, rfl⟩
      · have hp2 := heq.trans hp
        have HP := Lib.hid hp
        clear hp heq
        go_wp2_with fail
        go_ret
        exact IntPost.of (by rw [HI2.out]; simp only [HP.out]; simp) (Mod.refl _ _)
    · have hke : k = xs.length := by omega
      subst hke
      go_wp2_with fail
      go_ret
      exact IntPost.of (by rw [HIX.out, List.drop_of_length_le (Nat.le_refl _)]; rfl) (Mod.refl _ _)


set_option maxRecDepth 100000 in
set_option maxHeartbeats 1000000 in
theorem containsKi_calls (w : World) (v : Value) (xs : List Int) (y : Int) (hv : Sl w 3 1 v (ints xs)) : Calls Tryz.prog 114 #[v, .int .i64 y] w (BoolPost w (xs.any (fun x => y == x))) := by
  have HC := Lib.hid (indexKi_calls w v xs y hv)
  have HI := Lib.hid (idxQ_any (fun x => y == x) xs 0 (by omega))
  obtain ⟨A, n, c, rfl⟩ := hv.form
  clear hv
  go_enter Tryz.func114, Tryz.ntmps114
  go_wp2_with fail
  refine HC.out.mono ?_
  rintro e w1 ⟨rfl, hm1⟩
  generalize idxQ (fun x => y == x) xs 0 = r at *
  go_wp2_with fail
  go_ret
  exact BoolPost.of HI.out.symm hm1


set_option maxRecDepth 100000 in
set_option maxHeartbeats 1000000 in
theorem indexKt_calls (w : World) (v : Value) (xs : List Str) (y : Str) (hv : Sl w 9 1 v (strsV xs)) : Calls Tryz.prog 73 #[v, .string ⟨y.toArray⟩] w (IntPost w (idxQ (fun x => y == x) xs 0)) := by
  obtain ⟨A, n, c, rfl, hc1, hc2, hl, hr⟩ := hv
  have hln : xs.length = n := by rw [strsV_len] at hl; omega
  subst hln
  have HR := Lib.hid hr
  clear hl hr
  go_enter Tryz.func73, Tryz.ntmps73
  go_wp2_with fail
  go_loopg [8] xs.length (fun gk i wr => ∃ k : Nat, xs.length - k = gk ∧ k ≤ xs.length ∧ i = .int .i64 (k : Int) ∧ idxQ (fun x => y == x) xs 0 = idxQ (fun x => y == x) (xs.drop k) (k : Int) ∧ w = wr)
  case atStart => exact ⟨0, by omega, by omega, rfl, rfl, rfl⟩
  case round =>
    obtain ⟨k, rfl, hk, rfl, hix, rfl⟩ := hrel
    have HIX := Lib.hid hix
    clear hix
    by_cases hlt : k < xs.length
    · obtain ⟨g, off, rfl, hrow⟩ := HR.out (by omega)
      have hq := hrow.cell (strsV_get xs k hlt)
      have hd : xs.drop k = xs[k] :: xs.drop (k + 1) := List.drop_eq_getElem_cons hlt
      have hi2 : idxQ (fun x => y == x) xs 0 = if (fun x => y == x) xs[k] then (k : Int) else idxQ (fun x => y == x) (xs.drop (k + 1)) ((k : Int) + 1) := by rw [HIX.out, hd]; rfl
      have HI2 := Lib.hid hi2
      clear hd hi2 hrow HIX
      generalize xs[k] = x at *
      have heq : (y == x) = (y == x) := by first | rfl | (exact Bool.eq_iff_iff.2 (by simp; try omega))
      cases hp : (y == x)
      · have hp2 := heq.trans hp
        have HP := Lib.hid hp
        clear hp heq
        go_wp2_with fail
        go_roundg (xs.length - (k + 1))
        case measure => omega
        case rel => exact ⟨k + 1, rfl, hlt, by simp, by rw [HI2.out]; simp only [HP.out]; simp, rfl⟩
      · have hp2 := heq.trans hp
        have HP := Lib.hid hp
        clear hp heq
        go_wp2_with fail
        go_ret
        exact IntPost.of (by rw [HI2.out]; simp only [HP.out]; simp) (Mod.refl _ _)
    · have hke : k = xs.length := by omega
      subst hke
      go_wp2_with fail
      go_ret
      exact IntPost.of (by rw [HIX.out, List.drop_of_length_le (Nat.le_refl _)]; rfl) (Mod.refl _ _)


set_option maxRecDepth 100000 in
set_option maxHeartbeats 1000000 in
theorem containsKt_calls (w : World) (v : Value) (xs : List Str) (y : Str) (hv : Sl w 9 1 v (strsV xs)) : Calls Tryz.prog 68 #[v, .string ⟨y.toArray⟩] w (BoolPost w (xs.any (fun x => y == x))) := by
  have HC := Lib.hid (indexKt_calls w v xs y hv)
  have HI := Lib.hid (idxQ_any (fun x => y == x) xs 0 (by omega))
  obtain ⟨A, n, c, rfl⟩ := hv.form
  clear hv
  go_enter Tryz.func68, Tryz.ntmps68
  go_wp2_with fail
  refine HC.out.mono ?_
  rintro e w1 ⟨rfl, hm1⟩
  generalize idxQ (fun x => y == x) xs 0 = r at *
  go_wp2_with fail
  go_ret
  exact BoolPost.of HI.out.symm hm1

theorem any_memG {α : Type} [BEq α] [LawfulBEq α] [DecidableEq α] (s : α) (xs : List α) : (xs.any fun x => s == x) = decide (s ∈ xs) := by
  rw [Bool.eq_iff_iff, decide_eq_true_eq, List.any_eq_true]
  constructor
  · rintro ⟨x, hx, h⟩
    rw [beq_iff_eq] at h
    subst h
    exact hx
  · intro h
    exact ⟨s, h, by simp⟩
def whK (f : Flt) (x : Itm) : Bool := decide (f.kinds ≠ []) && !decide (x.kind ∈ f.kinds)
def whC (f : Flt) (x : Itm) : Bool := decide (f.custs ≠ []) && !decide (x.cust ∈ f.custs)
theorem whyE_eq (f : Flt) (x : Itm) (s : Str) : whyE f x s = if whK f x = true then 1 else if whC f x = true then 2 else if x.tm < f.fr then 3 else if f.tl ≤ x.tm then 4 else if s ∈ f.known then 5 else 0 := by
  have h1 : (f.kinds ≠ [] ∧ x.kind ∉ f.kinds) ↔ whK f x = true := by unfold whK; simp
  have h2 : (f.custs ≠ [] ∧ x.cust ∉ f.custs) ↔ whC f x = true := by unfold whC; simp
  unfold whyE
  simp only [h1, h2]
def WhyCut (w1 : World) (b : Bool) (y : Value) (wx : World) : Prop := y = .bool b ∧ Pure w1 wx
theorem pos_of_ne {α : Type} {xs : List α} {n : Nat} (hn : xs.length = n) (h : xs ≠ []) : (0 : Int) < (n : Int) := by
  have := List.length_pos_iff.2 h
  omega
theorem not_of_nil {α : Type} {xs : List α} {n : Nat} (hn : xs.length = n) (h : xs = []) : ¬ (0 : Int) < (n : Int) := by
  subst h
  simp at hn
  omega

set_option maxRecDepth 100000 in
set_option maxHeartbeats 16000000 in
theorem why_calls (w : World) (x : Itm) (v : Value) (f : Flt) (hv : FlV w f v) (hz : ItB x) (hD : Deb w) : Calls Tryz.prog 47 #[itA x, v] w (IntPost w (whyE f x (sumS x))) := by
  obtain ⟨vk, vc, vs, rfl, h1, h2, h3⟩ := hv
  obtain ⟨A1, n1, c1, rfl⟩ := h1.form
  obtain ⟨A2, n2, c2, rfl⟩ := h2.form
  obtain ⟨A3, n3, c3, rfl⟩ := h3.form
  have hn1 : f.kinds.length = n1 := by
    obtain ⟨A, n, c, he, _, _, hl, _⟩ := h1
    cases he
    rw [ints_lenV] at hl
    omega
  have hn2 : f.custs.length = n2 := Sl.lenS h2
  have HP0 := Lib.hid ((pure_alloc w (.cells (itQ x) 71)).trans (pure_alloc (w.alloc (.cells (itQ x) 71)) (.cells #[.slice A1 n1 c1, .slice A2 n2 c2, .int .i64 f.fr, .int .i64 f.tl, .slice A3 n3 c3] 33)))
  have HBI := Lib.hid ((Blk.new w 71 (itQ x)).alloc (.cells #[.slice A1 n1 c1, .slice A2 n2 c2, .int .i64 f.fr, .int .i64 f.tl, .slice A3 n3 c3] 33))
  have HBF := Lib.hid (Blk.new (w.alloc (.cells (itQ x) 71)) 33 #[.slice A1 n1 c1, .slice A2 n2 c2, .int .i64 f.fr, .int .i64 f.tl, .slice A3 n3 c3])
  have HCK := Lib.hid (fun W (h : Pure w W) => containsKi_calls W _ f.kinds x.kind (h1.pure h))
  have HCC := Lib.hid (fun W (h : Pure w W) => containsKt_calls W _ f.custs x.cust (h2.pure h))
  have HCS := Lib.hid (fun W (h : Pure w W) => containsKt_calls W _ f.known (sumS x) (h3.pure h))
  have HSM := Lib.hid (fun W (h : Pure w W) => sum_calls W x hz (hD.pure h))
  have HWK : Hid (f.kinds = [] → whK f x = false) := Lib.hid (fun h => by unfold whK; rw [h]; rfl)
  have HWK2 : Hid (f.kinds ≠ [] → whK f x = !(f.kinds.any fun y => x.kind == y)) := Lib.hid (fun h => by unfold whK; rw [any_memG]; simp [h])
  have HWC : Hid (f.custs = [] → whC f x = false) := Lib.hid (fun h => by unfold whC; rw [h]; rfl)
  have HWC2 : Hid (f.custs ≠ [] → whC f x = !(f.custs.any fun y => x.cust == y)) := Lib.hid (fun h => by unfold whC; rw [any_memG]; simp [h])
  have HWE : Hid (whyE f x (sumS x) = if whK f x = true then 1 else if whC f x = true then 2 else if x.tm < f.fr then 3 else if f.tl ≤ x.tm then 4 else if (f.known.any fun y => sumS x == y) = true then 5 else 0) := Lib.hid (by rw [whyE_eq, any_memG]; simp only [decide_eq_true_eq])
  have HKZ := Lib.hid (fun h => not_of_nil hn1 h)
  have HKP := Lib.hid (fun h => pos_of_ne hn1 h)
  have HCZ := Lib.hid (fun h => not_of_nil hn2 h)
  have HCP := Lib.hid (fun h => pos_of_ne hn2 h)
  have HKD : Hid (f.kinds = [] ∨ f.kinds ≠ []) := Lib.hid (Classical.em _)
  have HCD : Hid (f.custs = [] ∨ f.custs ≠ []) := Lib.hid (Classical.em _)
  rw [World.size_alloc] at HBF
  clear h1 h2 h3 hz hD hn1 hn2
  generalize whyE f x (sumS x) = we at *
  generalize sumS x = sx at *
  generalize whK f x = bk at *
  generalize whC f x = bc at *
  unfold itQ at HP0 HBI HBF
  unfold itA at HSM ⊢
  generalize (f.kinds.any fun y => x.kind == y) = ak at *
  generalize (f.custs.any fun y => x.cust == y) = ac at *
  generalize (f.known.any fun y => sx == y) = as1 at *
  generalize f.kinds = fk at *
  generalize f.custs = fc at *
  generalize f.fr = fr at *
  generalize f.tl = tl at *
  go_enter Tryz.func47, Tryz.ntmps47
  go_upto_region 1 with (fail)
  generalize (World.alloc (World.alloc w _) _) = w1 at *
  generalize w.heap.size = gi at *
  obtain ⟨gf, hgf⟩ : ∃ gf, gf = gi + 1 := ⟨_, rfl⟩
  rw [← hgf] at HBF ⊢
  have hgf1 : gf < w1.heap.size := HBF.out.lt
  have HI : Hid (∀ W, Pure w1 W → _) := Lib.hid (fun W (h : Pure w1 W) => HBI.out.modp h)
  have HF : Hid (∀ W, Pure w1 W → _) := Lib.hid (fun W (h : Pure w1 W) => HBF.out.modp h)
  clear hgf HBI HBF
  go_cut [5] (fun y wx => WhyCut w1 bk y wx)
  case first =>
    have hI := HI.out w1 (Mod.refl _ _)
    have hF := HF.out w1 (Mod.refl _ _)
    have y0 := hI.cell 0; have y1 := hI.cell 1; have y2 := hI.cell 2; have y3 := hI.cell 3; have y4 := hI.cell 4; have y5 := hI.cell 5; have y6 := hI.cell 6; simp at y0 y1 y2 y3 y4 y5 y6
    have d0 := hF.cell 0; have d1 := hF.cell 1; have d2 := hF.cell 2; have d3 := hF.cell 3; have d4 := hF.cell 4; simp at d0 d1 d2 d3 d4
    clear hI hF
    rcases HKD.out with hk | hk
    · have l0 := HKZ.out hk
      have HB := Lib.hid (HWK.out hk)
      clear hk
      go_wp2_with fail
      go_meet
      exact ⟨by rw [HB.out], Mod.refl _ _⟩
    · have l0 := HKP.out hk
      have HB := Lib.hid (HWK2.out hk)
      clear hk
      go_wp2_with fail
      refine (HCK.out _ HP0.out).mono ?_
      rintro e w2 ⟨rfl, hm⟩
      go_wp2_with fail
      go_meet
      exact ⟨by rw [HB.out], hm⟩
  case rest =>
    obtain ⟨rfl, hm⟩ := hcut
    have HM := Lib.hid hm
    clear hm HKD HKZ HKP HWK HWK2 HCK
    cases bk
    · rw [if_neg (by simp)] at HWE
      go_upto_region 3 with (fail)
      go_cut [18] (fun y wx => WhyCut w1 bc y wx)
      case first =>
        have hI := HI.out _ HM.out
        have hF := HF.out _ HM.out
        have y0 := hI.cell 0; have y1 := hI.cell 1; have y2 := hI.cell 2; have y3 := hI.cell 3; have y4 := hI.cell 4; have y5 := hI.cell 5; have y6 := hI.cell 6; simp at y0 y1 y2 y3 y4 y5 y6
        have d0 := hF.cell 0; have d1 := hF.cell 1; have d2 := hF.cell 2; have d3 := hF.cell 3; have d4 := hF.cell 4; simp at d0 d1 d2 d3 d4
        clear hI hF
        rcases HCD.out with hk | hk
        · have l0 := HCZ.out hk
          have HB := Lib.hid (HWC.out hk)
          clear hk
          go_wp2_with fail
          go_meet
          exact ⟨by rw [HB.out], HM.out⟩
        · have l0 := HCP.out hk
          have HB := Lib.hid (HWC2.out hk)
          clear hk
          go_wp2_with fail
          refine (HCC.out _ (HP0.out.trans HM.out)).mono ?_
          rintro e w2 ⟨rfl, hm⟩
          go_wp2_with fail
          go_meet
          exact ⟨by rw [HB.out], HM.out.trans hm⟩
      case rest =>
        obtain ⟨rfl, hm⟩ := hcut
        have HM2 := Lib.hid hm
        have hI := HI.out _ hm
        have hF := HF.out _ hm
        have y0 := hI.cell 0; have y1 := hI.cell 1; have y2 := hI.cell 2; have y3 := hI.cell 3; have y4 := hI.cell 4; have y5 := hI.cell 5; have y6 := hI.cell 6; simp at y0 y1 y2 y3 y4 y5 y6
        have d0 := hF.cell 0; have d1 := hF.cell 1; have d2 := hF.cell 2; have d3 := hF.cell 3; have d4 := hF.cell 4; simp at d0 d1 d2 d3 d4
        clear hI hF hm HM HCD HCZ HCP HWC HWC2 HCC
        cases bc
        · rw [if_neg (by simp)] at HWE
          by_cases h3 : x.tm < fr
          · have HE : Hid (we = 3) := Lib.hid (by rw [HWE.out, if_pos h3])
            clear HWE
            go_wp2_with fail
            go_ret
            exact IntPost.of HE.out (HP0.out.trans HM2.out)
          · rw [if_neg h3] at HWE
            by_cases h4 : tl ≤ x.tm
            · have HE : Hid (we = 4) := Lib.hid (by rw [HWE.out, if_pos h4])
              clear HWE
              go_wp2_with fail
              go_ret
              exact IntPost.of HE.out (HP0.out.trans HM2.out)
            · rw [if_neg h4] at HWE
              go_upto_region 9 with (fail)
              clear y0 y1 y2 y3 y4 y5 y6 d0 d1 d2 d3 d4
              have hgc : gf < wc.heap.size := by have := HM2.out.size; omega
              have HI2 : Hid (∀ W, Pure wc W → _) := Lib.hid (fun W (h : Pure wc W) => HI.out W (HM2.out.trans h))
              have HF2 : Hid (∀ W, Pure wc W → _) := Lib.hid (fun W (h : Pure wc W) => HF.out W (HM2.out.trans h))
              have HPW : Hid (∀ W, Pure wc W → Pure w W) := Lib.hid (fun W h => HP0.out.trans (HM2.out.trans h))
              clear HI HF h3 h4
              have HGs := Lib.hid (show ∀ (D : Nat → Bool) (zzi : Nat) (zq zq' : World), (fun _ zq => (fun Z => gf < Z.heap.size) zq) D zq → Mod (fun _ => False) zq zq' → (fun _ zq => (fun Z => gf < Z.heap.size) zq) (upd D zzi true) zq' from by intro D zzi zq zq' h hm; (exact Nat.lt_of_lt_of_le h hm.size))
              refine wp_region_inv (by kernel_rfl) (by kernel_rfl) (InvF (R := Mod (fun _ => False)) [.is (.pointer (some ⟨gf, 4, none⟩)),
                  .is (.slice A3 n3 c3),
                  .is (.agg #[.string ⟨x.id.toArray⟩, .string ⟨x.cust.toArray⟩, .int .i64 x.kind, .string ⟨x.name.toArray⟩, .int .i64 x.tm, .string ⟨x.par.toArray⟩, .string ⟨x.text.toArray⟩]),
                  .is (.string ⟨sx.toArray⟩),
                  .is (.bool as1),
                  .is (.bool as1)]
                  (PB wc (fun _ => False) wc.heap.size (fun _ zq => (fun Z => gf < Z.heap.size) zq))) (InvF.start (PB.start (Mod.refl _ _) (Nat.le_refl _) (hgc))) ?_ ?_
              · refine .cons ?_ (.cons ?_ (.cons ?_ (.cons ?_ (.cons ?_ (.cons ?_ .nil)))))
                · intro D V zw1 a hR hI K hK
                  obtain ⟨hM1, hB1, hG1⟩ := hI.1
                  have ze3 := hR.frame.other (t := 3) (by kernel_rfl) rfl
                  rw [if_pos (by rfl)]
                  go_simp
                  exact hK (.pointer (some ⟨gf, 4, none⟩)) _ (hI.next hR (by kernel_rfl) (Mod.refl _ _) (PB.quiet hI.1 (Mod.refl _ _) (HGs.out D 0 zw1 zw1 (hI.1).g (Mod.refl _ _))) (upd_same V 0 _))
                · intro D V zw1 a hR hI K hK
                  obtain ⟨hM1, hB1, hG1⟩ := hI.1
                  have zd0 := hR.pred 0 (by kernel_rfl)
                  have zF0 : V 0 = .pointer (some ⟨gf, 4, none⟩) := hI.2 0 zd0 rfl
                  have zf0 := zF0; clear zF0
                  have ze46 := hR.frame.done (t := 46) (j := 0) (by kernel_rfl) hR.ok zd0
                  have zx4 := (HF2.out zw1 hM1).cell 4; have zy4 := (HF2.out zw1 hM1).frozen 4; simp at zx4
                  rw [if_pos (by rfl)]
                  go_simp
                  exact hK (.slice A3 n3 c3) _ (hI.next hR (by kernel_rfl) (Mod.refl _ _) (PB.quiet hI.1 (Mod.refl _ _) (HGs.out D 1 zw1 zw1 (hI.1).g (Mod.refl _ _))) (upd_same V 1 _))
                · intro D V zw1 a hR hI K hK
                  obtain ⟨hM1, hB1, hG1⟩ := hI.1
                  have ze2 := hR.frame.other (t := 2) (by kernel_rfl) rfl
                  have zx0 := (HI2.out zw1 hM1).cell 0; have zy0 := (HI2.out zw1 hM1).frozen 0; simp at zx0
                  have zx1 := (HI2.out zw1 hM1).cell 1; have zy1 := (HI2.out zw1 hM1).frozen 1; simp at zx1
                  have zx2 := (HI2.out zw1 hM1).cell 2; have zy2 := (HI2.out zw1 hM1).frozen 2; simp at zx2
                  have zx3 := (HI2.out zw1 hM1).cell 3; have zy3 := (HI2.out zw1 hM1).frozen 3; simp at zx3
                  have zx4 := (HI2.out zw1 hM1).cell 4; have zy4 := (HI2.out zw1 hM1).frozen 4; simp at zx4
                  have zx5 := (HI2.out zw1 hM1).cell 5; have zy5 := (HI2.out zw1 hM1).frozen 5; simp at zx5
                  have zx6 := (HI2.out zw1 hM1).cell 6; have zy6 := (HI2.out zw1 hM1).frozen 6; simp at zx6
                  rw [if_pos (by rfl)]
                  go_simp
                  exact hK (.agg #[.string ⟨x.id.toArray⟩, .string ⟨x.cust.toArray⟩, .int .i64 x.kind, .string ⟨x.name.toArray⟩, .int .i64 x.tm, .string ⟨x.par.toArray⟩, .string ⟨x.text.toArray⟩]) _ (hI.next hR (by kernel_rfl) (Mod.refl _ _) (PB.quiet hI.1 (Mod.refl _ _) (HGs.out D 2 zw1 zw1 (hI.1).g (Mod.refl _ _))) (upd_same V 2 _))
                · intro D V zw1 a hR hI K hK
                  obtain ⟨hM1, hB1, hG1⟩ := hI.1
                  have zd2 := hR.pred 2 (by kernel_rfl)
                  have zF2 : V 2 = .agg #[.string ⟨x.id.toArray⟩, .string ⟨x.cust.toArray⟩, .int .i64 x.kind, .string ⟨x.name.toArray⟩, .int .i64 x.tm, .string ⟨x.par.toArray⟩, .string ⟨x.text.toArray⟩] := hI.2 2 zd2 rfl
                  have zf2 := zF2; clear zF2
                  have ze48 := hR.frame.done (t := 48) (j := 2) (by kernel_rfl) hR.ok zd2
                  rw [if_pos (by rfl)]
                  go_simp
                  refine (HSM.out zw1 (HPW.out zw1 hM1)).mono ?_
                  rintro e zw2 ⟨rfl, hm2⟩
                  exact hK (.string ⟨sx.toArray⟩) _ (hI.next hR (by kernel_rfl) hm2 (PB.quiet hI.1 hm2 (HGs.out D 3 _ _ (hI.1).g hm2)) (upd_same V 3 _))
                · intro D V zw1 a hR hI K hK
                  obtain ⟨hM1, hB1, hG1⟩ := hI.1
                  have zd1 := hR.pred 1 (by kernel_rfl)
                  have zF1 : V 1 = .slice A3 n3 c3 := hI.2 1 zd1 rfl
                  have zf1 := zF1; clear zF1
                  have zd3 := hR.pred 3 (by kernel_rfl)
                  have zF3 : V 3 = .string ⟨sx.toArray⟩ := hI.2 3 zd3 rfl
                  have zf3 := zF3; clear zF3
                  have ze47 := hR.frame.done (t := 47) (j := 1) (by kernel_rfl) hR.ok zd1
                  have ze49 := hR.frame.done (t := 49) (j := 3) (by kernel_rfl) hR.ok zd3
                  rw [if_pos (by rfl)]
                  go_simp
                  refine (HCS.out zw1 (HPW.out zw1 hM1)).mono ?_
                  rintro e zw2 ⟨rfl, hm2⟩
                  exact hK (.bool as1) _ (hI.next hR (by kernel_rfl) hm2 (PB.quiet hI.1 hm2 (HGs.out D 4 _ _ (hI.1).g hm2)) (upd_same V 4 _))
                · intro D V zw1 a hR hI K hK
                  obtain ⟨hM1, hB1, hG1⟩ := hI.1
                  have zd4 := hR.pred 4 (by kernel_rfl)
                  have zF4 : V 4 = .bool as1 := hI.2 4 zd4 rfl
                  have zf4 := zF4; clear zF4
                  have ze50 := hR.frame.done (t := 50) (j := 4) (by kernel_rfl) hR.ok zd4
                  rw [if_pos (by rfl)]
                  go_simp
                  exact hK (.bool as1) _ (hI.next hR (by kernel_rfl) (Mod.refl _ _) (PB.quiet hI.1 (Mod.refl _ _) (HGs.out D 5 zw1 zw1 (hI.1).g (Mod.refl _ _))) (upd_same V 5 _))
              · intro D V w6 hD hI
                obtain ⟨hM1, hB1, hG1⟩ := hI.1
                have hMx := hM1
                clear hM1
                have hBx := hB1
                clear hB1
                have hGx := hG1
                clear hG1
                have zF0 : V 0 = .pointer (some ⟨gf, 4, none⟩) := hI.2 0 (hD 0 (by decide)) rfl
                have zf0 := zF0; clear zF0
                have zF1 : V 1 = .slice A3 n3 c3 := hI.2 1 (hD 1 (by decide)) rfl
                have zf1 := zF1; clear zF1
                have zF2 : V 2 = .agg #[.string ⟨x.id.toArray⟩, .string ⟨x.cust.toArray⟩, .int .i64 x.kind, .string ⟨x.name.toArray⟩, .int .i64 x.tm, .string ⟨x.par.toArray⟩, .string ⟨x.text.toArray⟩] := hI.2 2 (hD 2 (by decide)) rfl
                have zf2 := zF2; clear zF2
                have zF3 : V 3 = .string ⟨sx.toArray⟩ := hI.2 3 (hD 3 (by decide)) rfl
                have zf3 := zF3; clear zF3
                have zF4 : V 4 = .bool as1 := hI.2 4 (hD 4 (by decide)) rfl
                have zf4 := zF4; clear zF4
                have zF5 : V 5 = .bool as1 := hI.2 5 (hD 5 (by decide)) rfl
                have zf5 := zF5; clear zF5
                clear hI hD HGs
                simp only [frAll, Act.put, List.setIfInBounds_toArray, List.set_cons_zero, List.set_cons_succ, Nat.zero_add, Nat.reduceAdd, zf0, zf1, zf2, zf3, zf4, zf5]
                clear zf0 zf1 zf2 zf3 zf4 zf5
                clear V D
                have HM6 := Lib.hid (HPW.out _ hMx)
                clear hMx HSM HCS HI2 HF2 HPW
                cases as1
                · have HE : Hid (we = 0) := Lib.hid (by rw [HWE.out, if_neg (by simp)])
                  clear HWE
                  go_wp2_with fail
                  go_ret
                  exact IntPost.of HE.out HM6.out
                · have HE : Hid (we = 5) := Lib.hid (by rw [HWE.out, if_pos rfl])
                  clear HWE
                  go_wp2_with fail
                  go_ret
                  exact IntPost.of HE.out HM6.out
        · have HE : Hid (we = 2) := Lib.hid (by rw [HWE.out, if_pos rfl])
          clear HWE
          go_wp2_with fail
          go_ret
          exact IntPost.of HE.out (HP0.out.trans HM2.out)
    · have HE : Hid (we = 1) := Lib.hid (by rw [HWE.out, if_pos rfl])
      have hI := HI.out _ HM.out
      have hF := HF.out _ HM.out
      have y0 := hI.cell 0; have y1 := hI.cell 1; have y2 := hI.cell 2; have y3 := hI.cell 3; have y4 := hI.cell 4; have y5 := hI.cell 5; have y6 := hI.cell 6; simp at y0 y1 y2 y3 y4 y5 y6
      have d0 := hF.cell 0; have d1 := hF.cell 1; have d2 := hF.cell 2; have d3 := hF.cell 3; have d4 := hF.cell 4; simp at d0 d1 d2 d3 d4
      clear hI hF HWE
      go_wp2_with fail
      go_ret
      exact IntPost.of HE.out (HP0.out.trans HM.out)

end Go.Proofs.YtofkkenmkflmiaaGreatDoor
