/- Texts of the proof of StoreJoins, put together: StoA. -/
import Derived.Test.YtbdeicbdehgeiaaGreatDoorStoreJoinsZ15
import Derived.Test.YtbdeicbdehgeiaaGreatDoorStoreJoinsZ21
import Derived.Test.YtbdeicbdehgeiaaGreatDoorStoreJoinsZ25
import Derived.Test.YtbdeicbdehgeiaaGreatDoorStoreJoinsZ28
import Derived.Test.YtbdeicbdehgeiaaGreatDoorStoreJoinsZ36
/- Stores: complete items (the program's). -/
namespace Go.Proofs.YtbdeicbdehgeiaaGreatDoor
set_option linter.unusedVariables false
set_option linter.unusedSimpArgs false
open Go.RowKit Go.Sort

theorem Ups.end_ {l : List Itm} {i q : Nat} {out : List Nat} (h : Ups l i out q) (hu : upI l q = none) (hm : out.length ≤ l.length) : endI l i = q := by
  unfold endI
  rw [h.top hu hm]
  rcases List.eq_nil_or_concat out with e | ⟨r, x, e⟩
  · subst e
    have := h.at_
    simp [stp] at this
    simp [this]
  · rw [List.concat_eq_append] at e
    subst e
    have h1 := h.get r.length (by simp)
    rw [List.getElem?_append_right (Nat.le_refl _)] at h1
    simp only [Nat.sub_self, List.getElem?_cons_zero] at h1
    have h2 := h.at_
    rw [List.length_append, List.length_singleton] at h2
    rw [h2] at h1
    injection h1 with h1
    simp [h1]
theorem cplB_end {l : List Itm} {i q : Nat} (h : endI l i = q) (hq : q < l.length) : cplB l i = decide (l[q].par = []) := by
  unfold cplB
  rw [h, List.getElem?_eq_getElem hq]
/-- Without loops the way is never as long as the list. -/
theorem Ups.lt_ {l : List Itm} {i q : Nat} {out : List Nat} (h : Ups l i out q) (hi : i < l.length) (hno : ∀ i, i < l.length → lpB l i = false) : out.length < l.length := by
  have h1 := noloop_end l (fun i hi hl => by have := (lpB_iff l i).2 hl; rw [hno i hi] at this; cases this) i hi
  refine Nat.lt_of_not_le fun hle => ?_
  obtain ⟨d, hd⟩ := Nat.exists_eq_add_of_le hle
  have h2 := h.at_
  rw [hd] at h2
  obtain ⟨j, hj, _⟩ := stp_some l h2
  rw [h1] at hj
  cases hj
def CpRel (w : World) (gb : Nat) (l : List Itm) (i gk : Nat) (wr : World) : Prop :=
  ∃ (out : List Nat) (q : Nat) (y : Itm), l.length - out.length = gk ∧ out.length < l.length ∧ Ups l i out q ∧ l[q]? = some y ∧ Blk wr gb 59 (itQ y) ∧ Pure w wr

set_option maxRecDepth 100000 in
set_option maxHeartbeats 4000000 in
theorem pcomplete_calls (w : World) (gx b : Nat) (l : List Itm) (x : Itm) (i : Nat) (hx : l[i]? = some x) (hB : Blk w gx 131 #[.map (some b)]) (hM : MapX w b l.length (byF l)) (hz : ∀ x ∈ l, ItB x) (hd : Dst l) (hno : ∀ i, i < l.length → lpB l i = false) (hl : l.length ≤ 100000) :
    Calls Tryz.prog 136 #[.pointer (some ⟨gx, 0, none⟩), itA x] w (BoolPost w (cplB l i)) := by
  have hi : i < l.length := by
    rcases Nat.lt_or_ge i l.length with h | h
    · exact h
    · rw [List.getElem?_eq_none h] at hx; cases hx
  have HX := Lib.hid hx
  have HZ := Lib.hid hz
  have HNO := Lib.hid hno
  have m0 := pure_alloc w (.cells (itQ x) 59)
  have HB0 := Lib.hid (Blk.new w 59 (itQ x))
  have HPB : Hid (∀ W, Pure w W → Blk W gx 131 #[.map (some b)] ∧ MapX W b l.length (byF l)) := Lib.hid (fun W h => ⟨hB.modp h, hM.pure h⟩)
  have hgx := hB.lt
  have Hm0 := Lib.hid m0
  clear hx hz hB hM hno m0
  unfold itA
  unfold itQ at HB0 Hm0
  go_enter Tryz.func136, Tryz.ntmps136
  go_wp2_with fail
  obtain ⟨gb, hgb⟩ : ∃ gb, gb = w.heap.size := ⟨_, rfl⟩
  rw [← hgb] at HB0 ⊢
  have hg1 := Nat.le_of_eq hgb
  have hg2 := Nat.le_of_eq hgb.symm
  clear hgb
  generalize (w.alloc (.cells #[.string ⟨x.id.toArray⟩, .string ⟨x.cust.toArray⟩, .int .i64 x.kind, .string ⟨x.name.toArray⟩, .int .i64 x.tm, .string ⟨x.par.toArray⟩, .string ⟨x.text.toArray⟩] 59)) = W at *
  go_loopg [] l.length (fun gk wr => CpRel w gb l i gk wr)
  case atStart => exact ⟨[], i, x, by simp, by simp; omega, Ups.start l i, HX.out, HB0.out, Hm0.out⟩
  case round =>
    clear HB0 Hm0 W
    obtain ⟨out, q, y, rfl, hol, hup, hqy, hBy, hm⟩ := hrel
    obtain ⟨hq, hyq⟩ := List.getElem?_eq_some_iff.1 hqy
    have hU := up_fnd hq
    rw [hyq] at hU
    obtain ⟨_, _, _, hzp, _⟩ := HZ.out y (by rw [← hyq]; exact List.getElem_mem hq)
    obtain ⟨hBx, hM⟩ := HPB.out wr hm
    have hlook := hM.look_ok Tryz.underlying92 zero_item y.par (by omega)
    unfold byF at hlook
    obtain ⟨p, bd, hpb⟩ : ∃ (p : Itm) (bd : Bool), ((fnd l y.par = none ∧ bd = false ∧ itZ = itA p) ∨ (fnd l y.par = some p ∧ bd = true)) := by
      cases hf : fnd l y.par with
      | none => exact ⟨⟨[], [], 0, [], 0, [], []⟩, false, .inl ⟨rfl, rfl, rfl⟩⟩
      | some p => exact ⟨p, true, .inr ⟨rfl, rfl⟩⟩
    have HPD := Lib.hid hpb
    have HLK : Hid (∀ W, Pure wr W → (Instr.lookup 92 (.map (some b)) (.string ⟨y.par.toArray⟩) true).run Tryz.prog W = .ok (.tuple #[itA p, .bool bd]) W) := Lib.hid (fun W h => by
      have hlook := (HPB.out W (hm.trans h)).2.look_ok Tryz.underlying92 zero_item y.par (by omega)
      rw [hlook]
      unfold byF
      rcases hpb with ⟨h1, h2, h3⟩ | ⟨h1, h2⟩
      · rw [h1, h2]; simp [h3]
      · rw [h1, h2]; simp)
    unfold itQ at hBy
    have c0 := hBy.cell 0; have cf0 := hBy.frozen 0; have c1 := hBy.cell 1; have cf1 := hBy.frozen 1; have c2 := hBy.cell 2; have cf2 := hBy.frozen 2; have c3 := hBy.cell 3; have cf3 := hBy.frozen 3; have c4 := hBy.cell 4; have cf4 := hBy.frozen 4; have c5 := hBy.cell 5; have cf5 := hBy.frozen 5; have c6 := hBy.cell 6; have cf6 := hBy.frozen 6; simp at c0 c1 c2 c3 c4 c5 c6
    have HPX : Hid (∀ W, Pure wr W → Blk W gx 131 #[.map (some b)]) := Lib.hid (fun W h => (HPB.out W (hm.trans h)).1)
    have HUP := Lib.hid hup
    have HU := Lib.hid hU
    have HYQ := Lib.hid hyq
    have HBY := Lib.hid hBy
    have hgbl := hBy.lt
    clear hup hU hyq hqy hBy hBx hM hpb
    unfold itA at HLK
    cases he : y.par.isEmpty
    · go_wp2_with fail
      have HGs := Lib.hid (show ∀ (D : Nat → Bool) (zzi : Nat) (zq zq' : World), (fun _ zq => (fun Z => gb < Z.heap.size) zq) D zq → Mod (fun _ => False) zq zq' → (fun _ zq => (fun Z => gb < Z.heap.size) zq) (upd D zzi true) zq' from by intro D zzi zq zq' h hm; (exact Nat.lt_of_lt_of_le h hm.size))
      refine wp_region_inv (by kernel_rfl) (by kernel_rfl) (InvF (R := Mod (fun _ => False)) [.is (.pointer (some ⟨gx, 0, none⟩)),
          .is (.pointer (some ⟨gx, 0, none⟩)),
          .is (.pointer (some ⟨gx, 0, none⟩)),
          .is (.map (some b)),
          .is (.pointer (some ⟨gb, 5, none⟩)),
          .is (.string ⟨y.par.toArray⟩),
          .is (.tuple #[.agg #[.string ⟨p.id.toArray⟩, .string ⟨p.cust.toArray⟩, .int .i64 p.kind, .string ⟨p.name.toArray⟩, .int .i64 p.tm, .string ⟨p.par.toArray⟩, .string ⟨p.text.toArray⟩], .bool bd]),
          .is (.tuple #[.agg #[.string ⟨p.id.toArray⟩, .string ⟨p.cust.toArray⟩, .int .i64 p.kind, .string ⟨p.name.toArray⟩, .int .i64 p.tm, .string ⟨p.par.toArray⟩, .string ⟨p.text.toArray⟩], .bool bd]),
          .is (.agg #[.string ⟨p.id.toArray⟩, .string ⟨p.cust.toArray⟩, .int .i64 p.kind, .string ⟨p.name.toArray⟩, .int .i64 p.tm, .string ⟨p.par.toArray⟩, .string ⟨p.text.toArray⟩]),
          .is (.bool bd),
          ⟨fun zv zw => ∃ (g_10 : Nat), zv = .pointer (some ⟨g_10, 0, none⟩) ∧ wr.heap.size ≤ g_10 ∧ Blk zw g_10 59 #[.string ⟨#[]⟩, .string ⟨#[]⟩, .int .i64 0, .string ⟨#[]⟩, .int .i64 0, .string ⟨#[]⟩, .string ⟨#[]⟩], (by rintro zv zw zx ⟨g_10, rfl, c0, q0⟩ hm; exact ⟨g_10, rfl, c0, (q0.modp hm)⟩), none, some 11⟩,
          ⟨fun zv zw => ∃ (g_11 : Nat), zv = .pointer (some ⟨g_11, 0, none⟩) ∧ wr.heap.size ≤ g_11 ∧ Blk zw g_11 59 #[.string ⟨p.id.toArray⟩, .string ⟨p.cust.toArray⟩, .int .i64 p.kind, .string ⟨p.name.toArray⟩, .int .i64 p.tm, .string ⟨p.par.toArray⟩, .string ⟨p.text.toArray⟩], (by rintro zv zw zx ⟨g_11, rfl, c0, q0⟩ hm; exact ⟨g_11, rfl, c0, (q0.modp hm)⟩), some 10, none⟩,
          .is (.bool bd)]
          (PB wr (fun _ => False) wr.heap.size (fun _ zq => (fun Z => gb < Z.heap.size) zq))) (InvF.start (PB.start (Mod.refl _ _) (Nat.le_refl _) (hgbl))) ?_ ?_
      · refine .cons ?_ (.cons ?_ (.cons ?_ (.cons ?_ (.cons ?_ (.cons ?_ (.cons ?_ (.cons ?_ (.cons ?_ (.cons ?_ (.cons ?_ (.cons ?_ (.cons ?_ .nil))))))))))))
        · intro D V zw1 a hR hI K hK   -- 0: Op.move (Operand.tmp 0)
          obtain ⟨hM1, hB1, hG1⟩ := hI.1
          have ze0 := hR.frame.other (t := 0) (by kernel_rfl) rfl
          rw [if_pos (by rfl)]
          go_simp
          exact hK (.pointer (some ⟨gx, 0, none⟩)) _ (hI.next hR (by kernel_rfl) (Mod.refl _ _) (PB.quiet hI.1 (Mod.refl _ _) (HGs.out D 0 zw1 zw1 (hI.1).g (Mod.refl _ _))) (upd_same V 0 _))
        · intro D V zw1 a hR hI K hK   -- 1: Op.nilCheck (Operand.tmp 11)
          obtain ⟨hM1, hB1, hG1⟩ := hI.1
          have zd0 := hR.pred 0 (by kernel_rfl)
          have zF0 : V 0 = .pointer (some ⟨gx, 0, none⟩) := hI.2 0 zd0 rfl
          have zf0 := zF0; clear zF0
          have ze11 := hR.frame.done (t := 11) (j := 0) (by kernel_rfl) hR.ok zd0
          rw [if_pos (by rfl)]
          go_simp
          exact hK (.pointer (some ⟨gx, 0, none⟩)) _ (hI.next hR (by kernel_rfl) (Mod.refl _ _) (PB.quiet hI.1 (Mod.refl _ _) (HGs.out D 1 zw1 zw1 (hI.1).g (Mod.refl _ _))) (upd_same V 1 _))
        · intro D V zw1 a hR hI K hK   -- 2: Op.fieldAddr 131 (Operand.tmp 12) 0
          obtain ⟨hM1, hB1, hG1⟩ := hI.1
          have zd1 := hR.pred 1 (by kernel_rfl)
          have zF1 : V 1 = .pointer (some ⟨gx, 0, none⟩) := hI.2 1 zd1 rfl
          have zf1 := zF1; clear zF1
          have ze12 := hR.frame.done (t := 12) (j := 1) (by kernel_rfl) hR.ok zd1
          rw [if_pos (by rfl)]
          go_simp
          exact hK (.pointer (some ⟨gx, 0, none⟩)) _ (hI.next hR (by kernel_rfl) (Mod.refl _ _) (PB.quiet hI.1 (Mod.refl _ _) (HGs.out D 2 zw1 zw1 (hI.1).g (Mod.refl _ _))) (upd_same V 2 _))
        · intro D V zw1 a hR hI K hK   -- 3: Op.load 92 (Operand.tmp 13)
          obtain ⟨hM1, hB1, hG1⟩ := hI.1
          have zd2 := hR.pred 2 (by kernel_rfl)
          have zF2 : V 2 = .pointer (some ⟨gx, 0, none⟩) := hI.2 2 zd2 rfl
          have zf2 := zF2; clear zF2
          have ze13 := hR.frame.done (t := 13) (j := 2) (by kernel_rfl) hR.ok zd2
          have zx0 := (HPX.out zw1 hM1).cell 0; have zy0 := (HPX.out zw1 hM1).frozen 0; simp at zx0
          rw [if_pos (by rfl)]
          go_simp
          exact hK (.map (some b)) _ (hI.next hR (by kernel_rfl) (Mod.refl _ _) (PB.quiet hI.1 (Mod.refl _ _) (HGs.out D 3 zw1 zw1 (hI.1).g (Mod.refl _ _))) (upd_same V 3 _))
        · intro D V zw1 a hR hI K hK   -- 4: Op.fieldAddr 59 (Operand.tmp 3) 5
          obtain ⟨hM1, hB1, hG1⟩ := hI.1
          have ze3 := hR.frame.other (t := 3) (by kernel_rfl) rfl
          rw [if_pos (by rfl)]
          go_simp
          exact hK (.pointer (some ⟨gb, 5, none⟩)) _ (hI.next hR (by kernel_rfl) (Mod.refl _ _) (PB.quiet hI.1 (Mod.refl _ _) (HGs.out D 4 zw1 zw1 (hI.1).g (Mod.refl _ _))) (upd_same V 4 _))
        · intro D V zw1 a hR hI K hK   -- 5: Op.load 9 (Operand.tmp 15)
          obtain ⟨hM1, hB1, hG1⟩ := hI.1
          have zd4 := hR.pred 4 (by kernel_rfl)
          have zF4 : V 4 = .pointer (some ⟨gb, 5, none⟩) := hI.2 4 zd4 rfl
          have zf4 := zF4; clear zF4
          have ze15 := hR.frame.done (t := 15) (j := 4) (by kernel_rfl) hR.ok zd4
          have zx5 := (HBY.out.modp hM1).cell 5; have zy5 := (HBY.out.modp hM1).frozen 5; simp at zx5
          rw [if_pos (by rfl)]
          go_simp
          exact hK (.string ⟨y.par.toArray⟩) _ (hI.next hR (by kernel_rfl) (Mod.refl _ _) (PB.quiet hI.1 (Mod.refl _ _) (HGs.out D 5 zw1 zw1 (hI.1).g (Mod.refl _ _))) (upd_same V 5 _))
        · intro D V zw1 a hR hI K hK   -- 6: Op.lookup 92 (Operand.tmp 14) (Operand.tmp 16) true
          obtain ⟨hM1, hB1, hG1⟩ := hI.1
          have zd3 := hR.pred 3 (by kernel_rfl)
          have zF3 : V 3 = .map (some b) := hI.2 3 zd3 rfl
          have zf3 := zF3; clear zF3
          have zd5 := hR.pred 5 (by kernel_rfl)
          have zF5 : V 5 = .string ⟨y.par.toArray⟩ := hI.2 5 zd5 rfl
          have zf5 := zF5; clear zF5
          have ze14 := hR.frame.done (t := 14) (j := 3) (by kernel_rfl) hR.ok zd3
          have ze16 := hR.frame.done (t := 16) (j := 5) (by kernel_rfl) hR.ok zd5
          have hq := HLK.out zw1 hM1
          rw [if_pos (by rfl)]
          go_simp
          exact hK (.tuple #[.agg #[.string ⟨p.id.toArray⟩, .string ⟨p.cust.toArray⟩, .int .i64 p.kind, .string ⟨p.name.toArray⟩, .int .i64 p.tm, .string ⟨p.par.toArray⟩, .string ⟨p.text.toArray⟩], .bool bd]) _ (hI.next hR (by kernel_rfl) (Mod.refl _ _) (PB.quiet hI.1 (Mod.refl _ _) (HGs.out D 6 zw1 zw1 (hI.1).g (Mod.refl _ _))) (upd_same V 6 _))
        · intro D V zw1 a hR hI K hK   -- 7: Op.move (Operand.tmp 17)
          obtain ⟨hM1, hB1, hG1⟩ := hI.1
          have zd6 := hR.pred 6 (by kernel_rfl)
          have zF6 : V 6 = .tuple #[.agg #[.string ⟨p.id.toArray⟩, .string ⟨p.cust.toArray⟩, .int .i64 p.kind, .string ⟨p.name.toArray⟩, .int .i64 p.tm, .string ⟨p.par.toArray⟩, .string ⟨p.text.toArray⟩], .bool bd] := hI.2 6 zd6 rfl
          have zf6 := zF6; clear zF6
          have ze17 := hR.frame.done (t := 17) (j := 6) (by kernel_rfl) hR.ok zd6
          rw [if_pos (by rfl)]
          go_simp
          exact hK (.tuple #[.agg #[.string ⟨p.id.toArray⟩, .string ⟨p.cust.toArray⟩, .int .i64 p.kind, .string ⟨p.name.toArray⟩, .int .i64 p.tm, .string ⟨p.par.toArray⟩, .string ⟨p.text.toArray⟩], .bool bd]) _ (hI.next hR (by kernel_rfl) (Mod.refl _ _) (PB.quiet hI.1 (Mod.refl _ _) (HGs.out D 7 zw1 zw1 (hI.1).g (Mod.refl _ _))) (upd_same V 7 _))
        · intro D V zw1 a hR hI K hK   -- 8: Op.extract (Operand.tmp 10) 0
          obtain ⟨hM1, hB1, hG1⟩ := hI.1
          have zd7 := hR.pred 7 (by kernel_rfl)
          have zF7 : V 7 = .tuple #[.agg #[.string ⟨p.id.toArray⟩, .string ⟨p.cust.toArray⟩, .int .i64 p.kind, .string ⟨p.name.toArray⟩, .int .i64 p.tm, .string ⟨p.par.toArray⟩, .string ⟨p.text.toArray⟩], .bool bd] := hI.2 7 zd7 rfl
          have zf7 := zF7; clear zF7
          have ze10 := hR.frame.done (t := 10) (j := 7) (by kernel_rfl) hR.ok zd7
          rw [if_pos (by rfl)]
          go_simp
          exact hK (.agg #[.string ⟨p.id.toArray⟩, .string ⟨p.cust.toArray⟩, .int .i64 p.kind, .string ⟨p.name.toArray⟩, .int .i64 p.tm, .string ⟨p.par.toArray⟩, .string ⟨p.text.toArray⟩]) _ (hI.next hR (by kernel_rfl) (Mod.refl _ _) (PB.quiet hI.1 (Mod.refl _ _) (HGs.out D 8 zw1 zw1 (hI.1).g (Mod.refl _ _))) (upd_same V 8 _))
        · intro D V zw1 a hR hI K hK   -- 9: Op.extract (Operand.tmp 10) 1
          obtain ⟨hM1, hB1, hG1⟩ := hI.1
          have zd7 := hR.pred 7 (by kernel_rfl)
          have zF7 : V 7 = .tuple #[.agg #[.string ⟨p.id.toArray⟩, .string ⟨p.cust.toArray⟩, .int .i64 p.kind, .string ⟨p.name.toArray⟩, .int .i64 p.tm, .string ⟨p.par.toArray⟩, .string ⟨p.text.toArray⟩], .bool bd] := hI.2 7 zd7 rfl
          have zf7 := zF7; clear zF7
          have ze10 := hR.frame.done (t := 10) (j := 7) (by kernel_rfl) hR.ok zd7
          rw [if_pos (by rfl)]
          go_simp
          exact hK (.bool bd) _ (hI.next hR (by kernel_rfl) (Mod.refl _ _) (PB.quiet hI.1 (Mod.refl _ _) (HGs.out D 9 zw1 zw1 (hI.1).g (Mod.refl _ _))) (upd_same V 9 _))
        · intro D V zw1 a hR hI K hK   -- 10: Op.alloc 59
          obtain ⟨hM1, hB1, hG1⟩ := hI.1
          rw [if_pos (by rfl)]
          go_simp
          exact hK (_) _ (hI.next hR (by kernel_rfl) ((Mod.refl _ _).alloc _) (PB.quiet hI.1 (pure_alloc _ _) (HGs.out D 10 _ _ (hI.1).g ((Mod.refl _ _).alloc _))) (⟨_, upd_same V 10 _, (by omega), (Blk.new _ _ _)⟩))
        · intro D V zw1 a hR hI K hK   -- 11: Op.store 59 (Operand.tmp 5) (Operand.tmp 18)
          obtain ⟨hM1, hB1, hG1⟩ := hI.1
          have zd10 := hR.pred 10 (by kernel_rfl)
          have zF10 : ∃ (g_10 : Nat), V 10 = .pointer (some ⟨g_10, 0, none⟩) ∧ wr.heap.size ≤ g_10 ∧ Blk zw1 g_10 59 #[.string ⟨#[]⟩, .string ⟨#[]⟩, .int .i64 0, .string ⟨#[]⟩, .int .i64 0, .string ⟨#[]⟩, .string ⟨#[]⟩] := hI.2 10 zd10 (by show (!D 11) = true; rw [hR.not]; rfl)
          obtain ⟨g_10, zf10, c10_0, b10_0⟩ := zF10
          have zd8 := hR.pred 8 (by kernel_rfl)
          have zF8 : V 8 = .agg #[.string ⟨p.id.toArray⟩, .string ⟨p.cust.toArray⟩, .int .i64 p.kind, .string ⟨p.name.toArray⟩, .int .i64 p.tm, .string ⟨p.par.toArray⟩, .string ⟨p.text.toArray⟩] := hI.2 8 zd8 rfl
          have zf8 := zF8; clear zF8
          have ze5 := hR.frame.done (t := 5) (j := 10) (by kernel_rfl) hR.ok zd10
          have ze18 := hR.frame.done (t := 18) (j := 8) (by kernel_rfl) hR.ok zd8
          rw [if_pos (by rfl)]
          have zx0 := b10_0.cell 0; have zy0 := b10_0.frozen 0
          have zx1 := b10_0.cell 1; have zy1 := b10_0.frozen 1
          have zx2 := b10_0.cell 2; have zy2 := b10_0.frozen 2
          have zx3 := b10_0.cell 3; have zy3 := b10_0.frozen 3
          have zx4 := b10_0.cell 4; have zy4 := b10_0.frozen 4
          have zx5 := b10_0.cell 5; have zy5 := b10_0.frozen 5
          have zx6 := b10_0.cell 6; have zy6 := b10_0.frozen 6
          simp at zx0 zy0 zx1 zy1 zx2 zy2 zx3 zy3 zx4 zy4 zx5 zy5 zx6 zy6
          go_simp
          refine hK undef _ (InvF.last ?_ ?_ ?_)
          · exact ⟨(((((((hM1.setCell (.inr (by show _ ≤ g_10; omega)) _).setCell (.inr (by show _ ≤ g_10; omega)) _).setCell (.inr (by show _ ≤ g_10; omega)) _).setCell (.inr (by show _ ≤ g_10; omega)) _).setCell (.inr (by show _ ≤ g_10; omega)) _).setCell (.inr (by show _ ≤ g_10; omega)) _).setCell (.inr (by show _ ≤ g_10; omega)) _), (by simpa using hB1), (by simpa using hG1)⟩
          · exact ⟨g_10, (upd_ne V (i := 11) (k := 10) undef (by omega)).trans zf10, (by first | assumption | omega), (by have hset := (((((((b10_0.set 0 (.string ⟨p.id.toArray⟩)).set 1 (.string ⟨p.cust.toArray⟩)).set 2 (.int .i64 p.kind)).set 3 (.string ⟨p.name.toArray⟩)).set 4 (.int .i64 p.tm)).set 5 (.string ⟨p.par.toArray⟩)).set 6 (.string ⟨p.text.toArray⟩)); simpa using hset)⟩
          · intro k hk hDk hlv
            have hkl := hR.lt k hDk
            have hv := hI.2 k hDk (liveB_of hlv)
            match k, hk, hDk, hlv, hkl, hv with
            | 0, _, _, _, _, hv => exact hv
            | 1, _, _, _, _, hv => exact hv
            | 2, _, _, _, _, hv => exact hv
            | 3, _, _, _, _, hv => exact hv
            | 4, _, _, _, _, hv => exact hv
            | 5, _, _, _, _, hv => exact hv
            | 6, _, _, _, _, hv => exact hv
            | 7, _, _, _, _, hv => exact hv
            | 8, _, _, _, _, hv => exact hv
            | 9, _, _, _, _, hv => exact hv
            | 10, _, _, hlv, _, _ => exact absurd hlv (by show ¬ (!upd D 11 true 11) = true; rw [upd_same]; decide)
            | 11, hk, _, _, _, _ => exact absurd rfl hk
            | 12, _, _, _, _, hv => exact hv
            | k + 13, _, _, _, hkl, _ => exact absurd hkl (by simp)
        · intro D V zw1 a hR hI K hK   -- 12: Op.assign (Operand.tmp 19)
          obtain ⟨hM1, hB1, hG1⟩ := hI.1
          have zd9 := hR.pred 9 (by kernel_rfl)
          have zF9 : V 9 = .bool bd := hI.2 9 zd9 rfl
          have zf9 := zF9; clear zF9
          have ze19 := hR.frame.done (t := 19) (j := 9) (by kernel_rfl) hR.ok zd9
          rw [if_pos (by rfl)]
          go_simp
          exact hK (.bool bd) _ (hI.next hR (by kernel_rfl) (Mod.refl _ _) (PB.quiet hI.1 (Mod.refl _ _) (HGs.out D 12 zw1 zw1 (hI.1).g (Mod.refl _ _))) (upd_same V 12 _))
      · intro D V w2 hD hI
        obtain ⟨hM1, hB1, hG1⟩ := hI.1
        have hMx := hM1
        clear hM1
        have hBx := hB1
        clear hB1
        have hGx := hG1
        clear hG1
        have zF0 : V 0 = .pointer (some ⟨gx, 0, none⟩) := hI.2 0 (hD 0 (by decide)) rfl
        have zf0 := zF0; clear zF0
        have zF1 : V 1 = .pointer (some ⟨gx, 0, none⟩) := hI.2 1 (hD 1 (by decide)) rfl
        have zf1 := zF1; clear zF1
        have zF2 : V 2 = .pointer (some ⟨gx, 0, none⟩) := hI.2 2 (hD 2 (by decide)) rfl
        have zf2 := zF2; clear zF2
        have zF3 : V 3 = .map (some b) := hI.2 3 (hD 3 (by decide)) rfl
        have zf3 := zF3; clear zF3
        have zF4 : V 4 = .pointer (some ⟨gb, 5, none⟩) := hI.2 4 (hD 4 (by decide)) rfl
        have zf4 := zF4; clear zF4
        have zF5 : V 5 = .string ⟨y.par.toArray⟩ := hI.2 5 (hD 5 (by decide)) rfl
        have zf5 := zF5; clear zF5
        have zF6 : V 6 = .tuple #[.agg #[.string ⟨p.id.toArray⟩, .string ⟨p.cust.toArray⟩, .int .i64 p.kind, .string ⟨p.name.toArray⟩, .int .i64 p.tm, .string ⟨p.par.toArray⟩, .string ⟨p.text.toArray⟩], .bool bd] := hI.2 6 (hD 6 (by decide)) rfl
        have zf6 := zF6; clear zF6
        have zF7 : V 7 = .tuple #[.agg #[.string ⟨p.id.toArray⟩, .string ⟨p.cust.toArray⟩, .int .i64 p.kind, .string ⟨p.name.toArray⟩, .int .i64 p.tm, .string ⟨p.par.toArray⟩, .string ⟨p.text.toArray⟩], .bool bd] := hI.2 7 (hD 7 (by decide)) rfl
        have zf7 := zF7; clear zF7
        have zF8 : V 8 = .agg #[.string ⟨p.id.toArray⟩, .string ⟨p.cust.toArray⟩, .int .i64 p.kind, .string ⟨p.name.toArray⟩, .int .i64 p.tm, .string ⟨p.par.toArray⟩, .string ⟨p.text.toArray⟩] := hI.2 8 (hD 8 (by decide)) rfl
        have zf8 := zF8; clear zF8
        have zF9 : V 9 = .bool bd := hI.2 9 (hD 9 (by decide)) rfl
        have zf9 := zF9; clear zF9
        have zF11 : ∃ (g_11 : Nat), V 10 = .pointer (some ⟨g_11, 0, none⟩) ∧ wr.heap.size ≤ g_11 ∧ Blk w2 g_11 59 #[.string ⟨p.id.toArray⟩, .string ⟨p.cust.toArray⟩, .int .i64 p.kind, .string ⟨p.name.toArray⟩, .int .i64 p.tm, .string ⟨p.par.toArray⟩, .string ⟨p.text.toArray⟩] := hI.2 11 (hD 11 (by decide)) rfl
        obtain ⟨g_11, zf11, c11_0, b11_0⟩ := zF11
        have zF12 : V 12 = .bool bd := hI.2 12 (hD 12 (by decide)) rfl
        have zf12 := zF12; clear zF12
        clear hI hD HGs
        simp only [frAll, Act.put, List.setIfInBounds_toArray, List.set_cons_zero, List.set_cons_succ, Nat.zero_add, Nat.reduceAdd, zf0, zf1, zf2, zf3, zf4, zf5, zf6, zf7, zf8, zf9, zf11, zf12]
        clear zf0 zf1 zf2 zf3 zf4 zf5 zf6 zf7 zf8 zf9 zf11 zf12
        clear V D
        have HPX2 := Lib.hid (hm.trans hMx)
        have HBY2 := Lib.hid (HBY.out.modp hMx)
        clear HLK HPX c0 c1 c2 c3 c4 c5 c6 cf0 cf1 cf2 cf3 cf4 cf5 cf6
        cases bd
        · have HQ : Hid (cplB l i = false) := Lib.hid (by
            have hn : fnd l y.par = none := by
              rcases HPD.out with ⟨h, _⟩ | ⟨_, h⟩
              · exact h
              · cases h
            have hu : upI l q = none := by
              rcases HU.out with ⟨h, _⟩ | ⟨_, h, _⟩ | ⟨k, hk, _, _, h⟩
              · rw [h] at he; cases he
              · exact h
              · rw [hn] at h; cases h
            rw [cplB_end (HUP.out.end_ hu (by omega)) hq, HYQ.out]
            simpa using he)
          clear HU HPD b11_0
          go_wp2_with fail
          go_ret
          exact ⟨by rw [HQ.out]; rfl, HPX2.out⟩
        · obtain ⟨k, hk, hu, hpk⟩ : ∃ k, ∃ hk : k < l.length, upI l q = some k ∧ l[k] = p := by
            rcases HPD.out with ⟨_, h, _⟩ | ⟨h, _⟩
            · cases h
            · rcases HU.out with ⟨h1, _⟩ | ⟨_, _, h1⟩ | ⟨k, hk, _, h1, h2⟩
              · rw [h1] at he; cases he
              · rw [h] at h1; cases h1
              · rw [h] at h2
                injection h2 with h2
                exact ⟨k, hk, h1, h2.symm⟩
          have HN := Lib.hid (HUP.out.step hu)
          have HK := Lib.hid hpk
          have hBY := HBY2.out
          have c0 := hBY.cell 0; have cf0 := hBY.frozen 0; have c1 := hBY.cell 1; have cf1 := hBY.frozen 1; have c2 := hBY.cell 2; have cf2 := hBY.frozen 2; have c3 := hBY.cell 3; have cf3 := hBY.frozen 3; have c4 := hBY.cell 4; have cf4 := hBY.frozen 4; have c5 := hBY.cell 5; have cf5 := hBY.frozen 5; have c6 := hBY.cell 6; have cf6 := hBY.frozen 6; simp at c0 c1 c2 c3 c4 c5 c6
          have d0 := b11_0.cell 0; have d1 := b11_0.cell 1; have d2 := b11_0.cell 2; have d3 := b11_0.cell 3; have d4 := b11_0.cell 4; have d5 := b11_0.cell 5; have d6 := b11_0.cell 6; simp at d0 d1 d2 d3 d4 d5 d6
          have hol2 : (out ++ [k]).length < l.length := HN.out.lt_ hi HNO.out
          have hol3 : (out ++ [k]).length = out.length + 1 := by simp
          have HOL := Lib.hid hol2
          have HOL3 := Lib.hid hol3
          have hgl2 : out.length + 1 < l.length := by omega
          clear HU HPD HUP hu hpk hol2 hol3 b11_0 hBY
          go_wp2_with fail
          go_roundg (l.length - (out.length + 1))
          case measure => omega
          case rel =>
            refine ⟨out ++ [k], k, p, by rw [HOL3.out], HOL.out, HN.out, by rw [List.getElem?_eq_getElem hk, HK.out], HBY2.out.set7, ?_⟩
            exact HPX2.out.trans' (Mod.set7 w2 gb (.string ⟨p.id.toArray⟩) (.string ⟨p.cust.toArray⟩) (.int .i64 p.kind) (.string ⟨p.name.toArray⟩) (.int .i64 p.tm) (.string ⟨p.par.toArray⟩) (.string ⟨p.text.toArray⟩)) (fun i hi hl => by omega)
    · have HQ : Hid (cplB l i = true) := Lib.hid (by
        have hu : upI l q = none := by
          rcases HU.out with ⟨_, h⟩ | ⟨h, _⟩ | ⟨k, hk, h, _⟩
          · exact h
          · rw [List.isEmpty_iff] at he; exact absurd he h
          · rw [List.isEmpty_iff] at he; exact absurd he h
        rw [cplB_end (HUP.out.end_ hu (by omega)) hq, HYQ.out]
        simpa using he)
      have HM := Lib.hid hm
      clear HU HPD HLK HPX HUP
      go_wp2_with fail
      go_ret
      exact ⟨by rw [HQ.out]; rfl, HM.out⟩

end Go.Proofs.YtbdeicbdehgeiaaGreatDoor
