/- Texts of the proof of SampleStrata, put together: StrB. -/
import Derived.Test.YtkchninlhemioaaGreatDoorSampleStrataZ27
import Derived.Deep.DeepCutAuto
import Derived.Deep.CutBlock
/- Strata: strataError of package sample, StrataFault of the reference. -/
namespace Go.Proofs.YtkchninlhemioaaGreatDoor
set_option linter.unusedVariables false
set_option linter.unusedSimpArgs false
open Go.RowKit

set_option maxRecDepth 100000 in
set_option maxHeartbeats 400000 in
theorem when_any (b : Bool) (n : Int) (w : World) : Calls Tryz.prog 57 #[.bool b, .int .i64 n] w fun e w' => e = .returned (.int .i64 (if b then n else 0)) ∧ w = w' := by
  cases b
  · exact (when_f _ _).mono fun e w' h => h
  · exact (when_t _ _).mono fun e w' h => h
theorem firstErr_zero2 : ∀ {l : List Int}, firstErr l = 0 → ∀ x ∈ l, x = 0
  | [], _, x, hx => absurd hx (by simp)
  | e :: l, h, x, hx => by
    unfold firstErr at h
    split at h
    · rename_i he
      rcases List.mem_cons.1 hx with rfl | hx
      · exact he
      · exact firstErr_zero2 h x hx
    · rename_i he
      exact absurd h he
def StE (w : World) (xs : List Stm) (b1 b2 gI gk : Nat) (i : Value) (wr : World) : Prop :=
  ∃ k n2 : Nat, xs.length - k = gk ∧ k ≤ xs.length ∧ i = .int .i64 (k : Int) ∧ n2 ≤ k * 2000 ∧ strE (namesOf (xs.take k)) (idsOf (xs.take k)) (xs.drop k) = strE [] [] xs ∧
    SetS wr b1 k (namesOf (xs.take k)) ∧ SetS wr b2 n2 (idsOf (xs.take k)) ∧ Blk wr gI 77 #[.map (some b2)] ∧ Pure w wr
def StI (w3 : World) (ids S2 : List Str) (b2 n2 gk : Nat) (i : Value) (wr : World) : Prop :=
  ∃ j : Nat, ids.length - j = gk ∧ j ≤ ids.length ∧ i = .int .i64 (j : Int) ∧ SetS wr b2 (n2 + j) (S2 ++ ids.take j) ∧ Mod (· = b2) w3 wr
theorem SetS.ne_row {w : World} {b n g off : Nat} {S : List Str} {e : TypeId} {xs : List Value} (h : SetS w b n S) (hr : RowAt w e g off xs) : g ≠ b := by
  rintro rfl
  obtain ⟨D, ⟨es, clock, hh, _⟩, _⟩ := h
  obtain ⟨arr, fr, h1, _⟩ := hr
  rw [hh] at h1
  cases h1
theorem Sl.lenS {w : World} {A : Option Addr} {n c : Nat} {xs : List Str} (h : Sl w 9 1 (.slice A n c) (strsV xs)) : xs.length = n := by
  obtain ⟨A', n', c', hf, _, _, hl, _⟩ := h
  injection hf with _ h2 _
  simp [strsV] at hl
  omega
theorem Sl.rowS {w : World} {A : Option Addr} {n c : Nat} {e : TypeId} {xs : List Value} (h : Sl w e 1 (.slice A n c) xs) (hn : 0 < n) : ∃ g off, A = some ⟨g, off, none⟩ ∧ RowAt w e g off xs := by
  obtain ⟨A', n', c', hf, _, _, hl, hr⟩ := h
  injection hf with h1 h2 _
  subst h1 h2
  exact hr hn
theorem strE_first {nm : Str} {N1 ids : List Str} {bm : Bool} {e1 e2 e3 er X : Int} (hb : decide (nm ∈ N1) = bm) (h1 : keyErr nm = e1) (h2 : (if bm = true then (6 : Int) else 0) = e2) (h3 : idsE keyE ids = e3) (her : firstErr [e1, e2, e3] = er) (hne : er ≠ 0) :
    (if keyE nm ≠ 0 then 5 else if nm ∈ N1 then 6 else if idsE keyE ids ≠ 0 then idsE keyE ids else X) = er := by
  have a4 : keyE nm = keyErr nm := rfl
  rw [a4]
  unfold keyErr at h1 ⊢
  cases hk : keyB nm
  · rw [hk] at h1
    simp at h1
    subst h1
    simp [firstErr] at her
    subst her
    simp
  · rw [hk] at h1
    simp at h1
    subst h1
    by_cases hm : nm ∈ N1
    · have : bm = true := by rw [← hb]; simpa using hm
      subst this
      simp at h2
      subst h2
      simp [firstErr] at her
      simp [hm, her]
    · have : bm = false := by rw [← hb]; simpa using hm
      subst this
      simp at h2
      subst h2
      rw [h3]
      simp only [firstErr] at her
      by_cases h0 : e3 = 0
      · simp [h0] at her
        exact absurd her.symm hne
      · simp [h0] at her
        subst her
        simp [hm, h0]
theorem info_st2 : (Tryz.prog.info? 49).map (fun i => (i.zero, i.size, i.bytes)) = some (some (.agg #[.string ⟨#[]⟩, .slice none 0 0]), 2, 40) := by kernel_rfl

set_option maxRecDepth 100000 in
set_option maxHeartbeats 8000000 in
theorem strataError_calls (w : World) (v : Value) (xs : List Stm) (hv : StR w v xs) (hl : xs.length ≤ 10) (hz : ∀ p ∈ xs, p.1.length ≤ 1000 ∧ p.2.2.length ≤ 1000 ∧ ∀ s ∈ p.2.2, s.length ≤ 1000) :
    Calls Tryz.prog 49 #[v] w (IntPost w (strataE xs)) := by
  have hmm := @run_makeMap Tryz.prog
  obtain ⟨hv1, hv2⟩ := hv
  obtain ⟨A, n, c, rfl, hc1, hc2, hl2, hr⟩ := hv1
  have hln : xs.length = n := by rw [stV_len] at hl2; omega
  subst hln
  have HR := Lib.hid hr
  have HV := Lib.hid hv2
  have HZ := Lib.hid hz
  have HE : Hid (strataE xs = strE [] [] xs) := Lib.hid (by unfold strataE; rw [if_neg (by omega)])
  have n1 : ¬ ((20 : Int) < (xs.length : Int)) := by omega
  clear hl2 hr hv2 hz
  have S1 := SetS.made w
  have S2 := SetS.made (w.alloc (.map #[] 0))
  have S1' := (S1.pure (pure_alloc _ (.map #[] 0))).pure (pure_alloc _ (.cells #[.map (some (w.heap.size + 1))] 77))
  have S2' := S2.pure (pure_alloc _ (.cells #[.map (some (w.heap.size + 1))] 77))
  rw [World.size_alloc] at S2'
  have B0 := Blk.thd w (.map #[] 0) (.map #[] 0) 77 #[.map (some (w.heap.size + 1))]
  have m0 : Pure w (((w.alloc (.map #[] 0)).alloc (.map #[] 0)).alloc (.cells #[.map (some (w.heap.size + 1))] 77)) := (((Mod.refl _ _).alloc _).alloc _).alloc _
  have HS1 := Lib.hid S1'
  have HS2 := Lib.hid S2'
  have HB0 := Lib.hid B0
  have HM0 := Lib.hid m0
  clear S1 S2 S1' S2' B0 m0
  go_enter Tryz.func49, Tryz.ntmps49
  go_wp2_with fail
  clear hmm
  generalize hdb : w.heap.size = b1 at *
  have hb1 := Nat.le_of_eq hdb.symm
  have hb1' := Nat.le_of_eq hdb
  clear hdb
  generalize (((w.alloc (.map #[] 0)).alloc (.map #[] 0)).alloc (.cells #[.map (some (b1 + 1))] 77)) = W at *
  obtain ⟨b2, hb2⟩ : ∃ b2, b2 = b1 + 1 := ⟨_, rfl⟩
  obtain ⟨gI, hgI⟩ : ∃ gI, gI = b1 + 1 + 1 := ⟨_, rfl⟩
  rw [← hgI] at HB0 ⊢
  rw [← hb2] at HS2 HB0
  have hlt1 : b1 < b2 := by omega
  have hlt2 : b2 < gI := by omega
  clear hb2 hgI
  go_loopg [17] xs.length (fun gk i wr => StE w xs b1 b2 gI gk i wr)
  case atStart => exact ⟨0, 0, by omega, by omega, rfl, by omega, rfl, HS1.out, HS2.out, HB0.out, HM0.out⟩
  case round =>
    clear HS1 HS2 HB0 HM0 W
    obtain ⟨k, n2, rfl, hk, rfl, hn2, hst, hS1, hS2, hB, hm⟩ := hrel
    have HST := Lib.hid hst
    clear hst
    by_cases hlt : k < xs.length
    · obtain ⟨g, off, rfl, hrow⟩ := HR.out (by omega)
      have hget := stV_get xs k hlt
      have hq0 := (hrow.mod hm id).cell hget.1
      have hq1 := (hrow.mod hm id).cell hget.2
      rw [← Nat.add_assoc] at hq1
      have HSTEP := Lib.hid (strE_step hlt (namesOf (xs.take k)) (idsOf (xs.take k)))
      rw [HST.out] at HSTEP
      have HNT := Lib.hid (names_take hlt)
      have HIT := Lib.hid (ids_take hlt)
      obtain ⟨hz1, hz2, hz3⟩ := HZ.out _ (List.getElem_mem hlt)
      have hsl := (HV.out _ (List.getElem_mem hlt)).pure hm
      have HSL := Lib.hid hsl
      have HZ3 := Lib.hid hz3
      clear hget hrow HST hsl hz3
      generalize hxk : xs[k] = x at *
      clear hxk
      obtain ⟨nm, vi, ids⟩ := x
      simp only at hq0 hq1 HSTEP HNT HIT hz1 hz2 HSL HZ3
      obtain ⟨Ai, ni, ci, rfl⟩ := HSL.out.form
      have hni := HSL.out.lenS
      subst hni
      generalize namesOf (xs.take k) = N1 at *
      generalize idsOf (xs.take k) = N2 at *
      have BS := Blk.new wr 49 #[.string ⟨nm.toArray⟩, .slice Ai ids.length ci]
      have mS := pure_alloc wr (.cells #[.string ⟨nm.toArray⟩, .slice Ai ids.length ci] 49)
      have HBS := Lib.hid BS
      have HMS := Lib.hid mS
      clear BS mS
      obtain ⟨bm, hbm⟩ : ∃ bm, decide (nm ∈ N1) = bm := ⟨_, rfl⟩
      obtain ⟨e2, he2⟩ : ∃ e2 : Int, (if bm = true then 6 else 0) = e2 := ⟨_, rfl⟩
      obtain ⟨e1, he1⟩ : ∃ e1, keyErr nm = e1 := ⟨_, rfl⟩
      obtain ⟨e3, he3⟩ : ∃ e3, idsE keyE ids = e3 := ⟨_, rfl⟩
      obtain ⟨er, her⟩ : ∃ er, firstErr [e1, e2, e3] = er := ⟨_, rfl⟩
      have HBM := Lib.hid hbm
      have HE2 := Lib.hid he2
      have HE1 := Lib.hid he1
      have HE3 := Lib.hid he3
      have HER := Lib.hid her
      have y1 : (⟨nm.toArray⟩ : ByteArray).size ≤ 1000000 := by simp [ByteArray.size]; omega
      have HKE := Lib.hid (fun W => keyError_calls W ⟨nm.toArray⟩ y1)
      simp only at HKE
      rw [he1] at HKE
      have HW := Lib.hid (fun W => when_any bm 6 W)
      rw [he2] at HW
      have HID := Lib.hid (fun W (h : Pure wr W) => idsError_calls W _ ids (HSL.out.pure h) HZ3.out (by omega))
      rw [he3] at HID
      have HFE := Lib.hid (fun (W : World) (g c : Nat) (h : Blk W g 34 #[.int .i64 e1, .int .i64 e2, .int .i64 e3]) => firstE_calls W g c [e1, e2, e3] h.row0 (by simp))
      rw [her] at HFE
      have HHAS := Lib.hid (fun W (h : SetS W b1 k N1) => h.has Tryz.underlying77 zero_bool nm (by omega))
      rw [hbm] at HHAS
      clear hbm he1 he2 he3 her y1
      go_wp2_with fail
      go_upto_region 7 with (fail)
      generalize (wr.alloc (.cells #[.string ⟨nm.toArray⟩, .slice Ai ids.length ci] 49)) = WS at *
      have hgsz := hm.size
      have hlt3 := hS1.lt
      have hlt4 := hB.lt
      generalize hgs : wr.heap.size = gs at *
      have hgs1 := Nat.le_of_eq hgs
      clear hgs
      have hS1s := hS1.pure HMS.out
      go_cut [7] (fun p wx => p = .int .i64 er ∧ Blk wx gs 49 #[.string ⟨nm.toArray⟩, .slice Ai ids.length ci] ∧ Pure wr wx)
      case first =>
        have HGs := Lib.hid (show ∀ (D : Nat → Bool) (i : Nat) (zq zq' : World), (fun _ zq => (fun Z => Blk Z gs 49 #[.string ⟨nm.toArray⟩, .slice Ai ids.length ci] ∧ SetS Z b1 k N1) zq) D zq → Mod (fun _ => False) zq zq' → (fun _ zq => (fun Z => Blk Z gs 49 #[.string ⟨nm.toArray⟩, .slice Ai ids.length ci] ∧ SetS Z b1 k N1) zq) (upd D i true) zq' from by intro D i zq zq' h hm; (exact ⟨h.1.modp hm, h.2.pure hm⟩))
        refine wp_region_inv (by kernel_rfl) (by kernel_rfl) (InvF (R := Mod (fun _ => False)) [.is (.pointer (some ⟨gs, 0, none⟩)),
            .is (.string ⟨nm.toArray⟩),
            .is (.int .i64 e1),
            .is (.map (some b1)),
            .is (.pointer (some ⟨gs, 0, none⟩)),
            .is (.string ⟨nm.toArray⟩),
            .is (.bool bm),
            .is (.int .i64 e2),
            .is (.pointer (some ⟨gs, 1, none⟩)),
            .is (.slice Ai ids.length ci),
            .is (.int .i64 e3),
            ⟨fun zv zw => ∃ (g_11 : Nat), zv = .slice (some ⟨g_11, 0, none⟩) 3 3 ∧ WS.heap.size ≤ g_11 ∧ Blk zw g_11 34 #[.int .i64 e1, .int .i64 e2, .int .i64 e3], (by rintro zv zw zx ⟨g_11, rfl, c0, q0⟩ hm; exact ⟨g_11, rfl, c0, (q0.modp hm)⟩), none, some 12⟩,
            .is (.int .i64 er),
            .is (.int .i64 er)]
            (PB wr (fun _ => False) WS.heap.size (fun _ zq => (fun Z => Blk Z gs 49 #[.string ⟨nm.toArray⟩, .slice Ai ids.length ci] ∧ SetS Z b1 k N1) zq))) (InvF.start (PB.start HMS.out (Nat.le_refl _) (⟨HBS.out.drew, hS1s⟩))) ?_ ?_
        · refine .cons ?_ (.cons ?_ (.cons ?_ (.cons ?_ (.cons ?_ (.cons ?_ (.cons ?_ (.cons ?_ (.cons ?_ (.cons ?_ (.cons ?_ (.cons ?_ (.cons ?_ (.cons ?_ .nil)))))))))))))
          · intro D V zw1 a hR hI K hK   -- 0: Op.fieldAddr 49 (Operand.tmp 6) 0
            obtain ⟨hM1, hB1, hG1⟩ := hI.1
            obtain ⟨hG1a, hG1b⟩ := hG1
            have ze6 := hR.frame.other (t := 6) (by kernel_rfl) rfl
            rw [if_pos (by rfl)]
            go_simp
            exact hK (.pointer (some ⟨gs, 0, none⟩)) _ (hI.next hR (by kernel_rfl) (Mod.refl _ _) (PB.quiet hI.1 (Mod.refl _ _) (HGs.out D 0 zw1 zw1 (hI.1).g (Mod.refl _ _))) (upd_same V 0 _))
          · intro D V zw1 a hR hI K hK   -- 1: Op.load 9 (Operand.tmp 21)
            obtain ⟨hM1, hB1, hG1⟩ := hI.1
            obtain ⟨hG1a, hG1b⟩ := hG1
            have zd0 := hR.pred 0 (by kernel_rfl)
            have zF0 : V 0 = .pointer (some ⟨gs, 0, none⟩) := hI.2 0 zd0 rfl
            have zf0 := zF0; clear zF0
            have ze21 := hR.frame.done (t := 21) (j := 0) (by kernel_rfl) hR.ok zd0
            have zx0 := hG1a.cell 0; have zx1 := hG1a.cell 1
            simp at zx0 zx1
            rw [if_pos (by rfl)]
            go_simp
            exact hK (.string ⟨nm.toArray⟩) _ (hI.next hR (by kernel_rfl) (Mod.refl _ _) (PB.quiet hI.1 (Mod.refl _ _) (HGs.out D 1 zw1 zw1 (hI.1).g (Mod.refl _ _))) (upd_same V 1 _))
          · intro D V zw1 a hR hI K hK   -- 2: Op.call { callee := Callee.value (Operand.func 33), args := #[Operand.
            obtain ⟨hM1, hB1, hG1⟩ := hI.1
            obtain ⟨hG1a, hG1b⟩ := hG1
            have zd1 := hR.pred 1 (by kernel_rfl)
            have zF1 : V 1 = .string ⟨nm.toArray⟩ := hI.2 1 zd1 rfl
            have zf1 := zF1; clear zF1
            have ze22 := hR.frame.done (t := 22) (j := 1) (by kernel_rfl) hR.ok zd1
            rw [if_pos (by rfl)]
            go_simp
            refine (HKE.out _).mono ?_
            rintro e zw2 ⟨rfl, rfl⟩
            have hm2 : Pure zw1 zw1 := Mod.refl _ _
            exact hK (.int .i64 e1) _ (hI.next hR (by kernel_rfl) hm2 (PB.quiet hI.1 hm2 (HGs.out D 2 _ _ (hI.1).g hm2)) (upd_same V 2 _))
          · intro D V zw1 a hR hI K hK   -- 3: Op.move (Operand.tmp 3)
            obtain ⟨hM1, hB1, hG1⟩ := hI.1
            obtain ⟨hG1a, hG1b⟩ := hG1
            have ze3 := hR.frame.other (t := 3) (by kernel_rfl) rfl
            rw [if_pos (by rfl)]
            go_simp
            exact hK (.map (some b1)) _ (hI.next hR (by kernel_rfl) (Mod.refl _ _) (PB.quiet hI.1 (Mod.refl _ _) (HGs.out D 3 zw1 zw1 (hI.1).g (Mod.refl _ _))) (upd_same V 3 _))
          · intro D V zw1 a hR hI K hK   -- 4: Op.fieldAddr 49 (Operand.tmp 6) 0
            obtain ⟨hM1, hB1, hG1⟩ := hI.1
            obtain ⟨hG1a, hG1b⟩ := hG1
            have ze6 := hR.frame.other (t := 6) (by kernel_rfl) rfl
            rw [if_pos (by rfl)]
            go_simp
            exact hK (.pointer (some ⟨gs, 0, none⟩)) _ (hI.next hR (by kernel_rfl) (Mod.refl _ _) (PB.quiet hI.1 (Mod.refl _ _) (HGs.out D 4 zw1 zw1 (hI.1).g (Mod.refl _ _))) (upd_same V 4 _))
          · intro D V zw1 a hR hI K hK   -- 5: Op.load 9 (Operand.tmp 25)
            obtain ⟨hM1, hB1, hG1⟩ := hI.1
            obtain ⟨hG1a, hG1b⟩ := hG1
            have zd4 := hR.pred 4 (by kernel_rfl)
            have zF4 : V 4 = .pointer (some ⟨gs, 0, none⟩) := hI.2 4 zd4 rfl
            have zf4 := zF4; clear zF4
            have ze25 := hR.frame.done (t := 25) (j := 4) (by kernel_rfl) hR.ok zd4
            have zx0 := hG1a.cell 0; have zx1 := hG1a.cell 1
            simp at zx0 zx1
            rw [if_pos (by rfl)]
            go_simp
            exact hK (.string ⟨nm.toArray⟩) _ (hI.next hR (by kernel_rfl) (Mod.refl _ _) (PB.quiet hI.1 (Mod.refl _ _) (HGs.out D 5 zw1 zw1 (hI.1).g (Mod.refl _ _))) (upd_same V 5 _))
          · intro D V zw1 a hR hI K hK   -- 6: Op.lookup 77 (Operand.tmp 24) (Operand.tmp 26) false
            obtain ⟨hM1, hB1, hG1⟩ := hI.1
            obtain ⟨hG1a, hG1b⟩ := hG1
            have zd3 := hR.pred 3 (by kernel_rfl)
            have zF3 : V 3 = .map (some b1) := hI.2 3 zd3 rfl
            have zf3 := zF3; clear zF3
            have zd5 := hR.pred 5 (by kernel_rfl)
            have zF5 : V 5 = .string ⟨nm.toArray⟩ := hI.2 5 zd5 rfl
            have zf5 := zF5; clear zF5
            have ze24 := hR.frame.done (t := 24) (j := 3) (by kernel_rfl) hR.ok zd3
            have ze26 := hR.frame.done (t := 26) (j := 5) (by kernel_rfl) hR.ok zd5
            have hrun := HHAS.out _ hG1b
            rw [if_pos (by rfl)]
            go_simp
            exact hK (.bool bm) _ (hI.next hR (by kernel_rfl) (Mod.refl _ _) (PB.quiet hI.1 (Mod.refl _ _) (HGs.out D 6 zw1 zw1 (hI.1).g (Mod.refl _ _))) (upd_same V 6 _))
          · intro D V zw1 a hR hI K hK   -- 7: Op.call { callee := Callee.value (Operand.func 57), args := #[Operand.
            obtain ⟨hM1, hB1, hG1⟩ := hI.1
            obtain ⟨hG1a, hG1b⟩ := hG1
            have zd6 := hR.pred 6 (by kernel_rfl)
            have zF6 : V 6 = .bool bm := hI.2 6 zd6 rfl
            have zf6 := zF6; clear zF6
            have ze27 := hR.frame.done (t := 27) (j := 6) (by kernel_rfl) hR.ok zd6
            rw [if_pos (by rfl)]
            go_simp
            refine (HW.out _).mono ?_
            rintro e zw2 ⟨rfl, rfl⟩
            have hm2 : Pure zw1 zw1 := Mod.refl _ _
            exact hK (.int .i64 e2) _ (hI.next hR (by kernel_rfl) hm2 (PB.quiet hI.1 hm2 (HGs.out D 7 _ _ (hI.1).g hm2)) (upd_same V 7 _))
          · intro D V zw1 a hR hI K hK   -- 8: Op.fieldAddr 49 (Operand.tmp 6) 1
            obtain ⟨hM1, hB1, hG1⟩ := hI.1
            obtain ⟨hG1a, hG1b⟩ := hG1
            have ze6 := hR.frame.other (t := 6) (by kernel_rfl) rfl
            rw [if_pos (by rfl)]
            go_simp
            exact hK (.pointer (some ⟨gs, 1, none⟩)) _ (hI.next hR (by kernel_rfl) (Mod.refl _ _) (PB.quiet hI.1 (Mod.refl _ _) (HGs.out D 8 zw1 zw1 (hI.1).g (Mod.refl _ _))) (upd_same V 8 _))
          · intro D V zw1 a hR hI K hK   -- 9: Op.load 26 (Operand.tmp 29)
            obtain ⟨hM1, hB1, hG1⟩ := hI.1
            obtain ⟨hG1a, hG1b⟩ := hG1
            have zd8 := hR.pred 8 (by kernel_rfl)
            have zF8 : V 8 = .pointer (some ⟨gs, 1, none⟩) := hI.2 8 zd8 rfl
            have zf8 := zF8; clear zF8
            have ze29 := hR.frame.done (t := 29) (j := 8) (by kernel_rfl) hR.ok zd8
            have zx0 := hG1a.cell 0; have zx1 := hG1a.cell 1
            simp at zx0 zx1
            rw [if_pos (by rfl)]
            go_simp
            exact hK (.slice Ai ids.length ci) _ (hI.next hR (by kernel_rfl) (Mod.refl _ _) (PB.quiet hI.1 (Mod.refl _ _) (HGs.out D 9 zw1 zw1 (hI.1).g (Mod.refl _ _))) (upd_same V 9 _))
          · intro D V zw1 a hR hI K hK   -- 10: Op.call { callee := Callee.value (Operand.func 32), args := #[Operand.
            obtain ⟨hM1, hB1, hG1⟩ := hI.1
            obtain ⟨hG1a, hG1b⟩ := hG1
            have zd9 := hR.pred 9 (by kernel_rfl)
            have zF9 : V 9 = .slice Ai ids.length ci := hI.2 9 zd9 rfl
            have zf9 := zF9; clear zF9
            have ze30 := hR.frame.done (t := 30) (j := 9) (by kernel_rfl) hR.ok zd9
            rw [if_pos (by rfl)]
            go_simp
            refine (HID.out _ hM1).mono ?_
            rintro e zw2 ⟨rfl, hm2⟩
            exact hK (.int .i64 e3) _ (hI.next hR (by kernel_rfl) hm2 (PB.quiet hI.1 hm2 (HGs.out D 10 _ _ (hI.1).g hm2)) (upd_same V 10 _))
          · intro D V zw1 a hR hI K hK   -- 11: Op.buildSlice 66 3 #[(0, Operand.tmp 23), (1, Operand.tmp 28), (2, Ope
            obtain ⟨hM1, hB1, hG1⟩ := hI.1
            obtain ⟨hG1a, hG1b⟩ := hG1
            have zd2 := hR.pred 2 (by kernel_rfl)
            have zF2 : V 2 = .int .i64 e1 := hI.2 2 zd2 rfl
            have zf2 := zF2; clear zF2
            have zd7 := hR.pred 7 (by kernel_rfl)
            have zF7 : V 7 = .int .i64 e2 := hI.2 7 zd7 rfl
            have zf7 := zF7; clear zF7
            have zd10 := hR.pred 10 (by kernel_rfl)
            have zF10 : V 10 = .int .i64 e3 := hI.2 10 zd10 rfl
            have zf10 := zF10; clear zF10
            have ze23 := hR.frame.done (t := 23) (j := 2) (by kernel_rfl) hR.ok zd2
            have ze28 := hR.frame.done (t := 28) (j := 7) (by kernel_rfl) hR.ok zd7
            have ze31 := hR.frame.done (t := 31) (j := 10) (by kernel_rfl) hR.ok zd10
            rw [if_pos (by rfl)]
            go_simp
            exact hK (_) _ (hI.next hR (by kernel_rfl) ((Mod.refl _ _).alloc _) (PB.quiet hI.1 (pure_alloc _ _) (HGs.out D 11 _ _ (hI.1).g ((Mod.refl _ _).alloc _))) (⟨_, upd_same V 11 _, (by omega), (Blk.new _ _ _)⟩))
          · intro D V zw1 a hR hI K hK   -- 12: Op.call { callee := Callee.value (Operand.func 31), args := #[Operand.
            obtain ⟨hM1, hB1, hG1⟩ := hI.1
            obtain ⟨hG1a, hG1b⟩ := hG1
            have zd11 := hR.pred 11 (by kernel_rfl)
            have zF11 : ∃ (g_11 : Nat), V 11 = .slice (some ⟨g_11, 0, none⟩) 3 3 ∧ WS.heap.size ≤ g_11 ∧ Blk zw1 g_11 34 #[.int .i64 e1, .int .i64 e2, .int .i64 e3] := hI.2 11 zd11 (by show (!D 12) = true; rw [hR.not]; rfl)
            obtain ⟨g_11, zf11, c11_0, b11_0⟩ := zF11
            have ze32 := hR.frame.done (t := 32) (j := 11) (by kernel_rfl) hR.ok zd11
            rw [if_pos (by rfl)]
            go_simp
            refine (HFE.out _ _ _ b11_0).mono ?_
            rintro e zw2 ⟨rfl, hm2⟩
            exact hK (.int .i64 er) _ (hI.next hR (by kernel_rfl) hm2 (PB.quiet hI.1 hm2 (HGs.out D 12 _ _ (hI.1).g hm2)) (upd_same V 12 _))
          · intro D V zw1 a hR hI K hK   -- 13: Op.assign (Operand.tmp 33)
            obtain ⟨hM1, hB1, hG1⟩ := hI.1
            obtain ⟨hG1a, hG1b⟩ := hG1
            have zd12 := hR.pred 12 (by kernel_rfl)
            have zF12 : V 12 = .int .i64 er := hI.2 12 zd12 rfl
            have zf12 := zF12; clear zF12
            have ze33 := hR.frame.done (t := 33) (j := 12) (by kernel_rfl) hR.ok zd12
            rw [if_pos (by rfl)]
            go_simp
            exact hK (.int .i64 er) _ (hI.next hR (by kernel_rfl) (Mod.refl _ _) (PB.quiet hI.1 (Mod.refl _ _) (HGs.out D 13 zw1 zw1 (hI.1).g (Mod.refl _ _))) (upd_same V 13 _))
        · intro D V w1 hD hI
          obtain ⟨hM1, hB1, hG1⟩ := hI.1
          have hMx := hM1
          clear hM1
          have hBx := hB1
          clear hB1
          have hGx := hG1
          clear hG1
          have zF0 : V 0 = .pointer (some ⟨gs, 0, none⟩) := hI.2 0 (hD 0 (by decide)) rfl
          have zf0 := zF0; clear zF0
          have zF1 : V 1 = .string ⟨nm.toArray⟩ := hI.2 1 (hD 1 (by decide)) rfl
          have zf1 := zF1; clear zF1
          have zF2 : V 2 = .int .i64 e1 := hI.2 2 (hD 2 (by decide)) rfl
          have zf2 := zF2; clear zF2
          have zF3 : V 3 = .map (some b1) := hI.2 3 (hD 3 (by decide)) rfl
          have zf3 := zF3; clear zF3
          have zF4 : V 4 = .pointer (some ⟨gs, 0, none⟩) := hI.2 4 (hD 4 (by decide)) rfl
          have zf4 := zF4; clear zF4
          have zF5 : V 5 = .string ⟨nm.toArray⟩ := hI.2 5 (hD 5 (by decide)) rfl
          have zf5 := zF5; clear zF5
          have zF6 : V 6 = .bool bm := hI.2 6 (hD 6 (by decide)) rfl
          have zf6 := zF6; clear zF6
          have zF7 : V 7 = .int .i64 e2 := hI.2 7 (hD 7 (by decide)) rfl
          have zf7 := zF7; clear zF7
          have zF8 : V 8 = .pointer (some ⟨gs, 1, none⟩) := hI.2 8 (hD 8 (by decide)) rfl
          have zf8 := zF8; clear zF8
          have zF9 : V 9 = .slice Ai ids.length ci := hI.2 9 (hD 9 (by decide)) rfl
          have zf9 := zF9; clear zF9
          have zF10 : V 10 = .int .i64 e3 := hI.2 10 (hD 10 (by decide)) rfl
          have zf10 := zF10; clear zF10
          have zF12 : V 12 = .int .i64 er := hI.2 12 (hD 12 (by decide)) rfl
          have zf12 := zF12; clear zF12
          have zF13 : V 13 = .int .i64 er := hI.2 13 (hD 13 (by decide)) rfl
          have zf13 := zF13; clear zF13
          clear hI hD HGs
          simp only [frAll, Act.put, List.setIfInBounds_toArray, List.set_cons_zero, List.set_cons_succ, Nat.zero_add, Nat.reduceAdd, zf0, zf1, zf2, zf3, zf4, zf5, zf6, zf7, zf8, zf9, zf10, zf12, zf13]
          clear zf0 zf1 zf2 zf3 zf4 zf5 zf6 zf7 zf8 zf9 zf10 zf12 zf13
          generalize V 11 = u11
          clear V D
          go_wp2_with fail
          go_meet
          exact ⟨rfl, hGx.1, hMx⟩
      case rest =>
        obtain ⟨rfl, B1, m1⟩ := hcut
        generalize wc = w1 at *
        clear HKE HW HID HFE HHAS HBS HMS hS1s WS hq0 hq1
        have hS1a := hS1.pure m1
        have hS2a := hS2.pure m1
        have hBa := hB.modp m1
        have ma := hm.trans m1
        have HSLa := Lib.hid (HSL.out.pure m1)
        clear hS1 hS2 hB hm m1 HSL
        by_cases h0 : er = 0
        · subst h0
          obtain ⟨z1, z2, z3⟩ : e1 = 0 ∧ e2 = 0 ∧ e3 = 0 := ⟨firstErr_zero2 HER.out _ (by simp), firstErr_zero2 HER.out _ (by simp), firstErr_zero2 HER.out _ (by simp)⟩
          subst z1 z2 z3
          have hnm : nm ∉ N1 := by
            intro h
            have h1 := HBM.out
            have h2 := HE2.out
            rw [decide_eq_true h] at h1
            subst h1
            simp at h2
          have HS2 : Hid (strE [] [] xs = if ids.any (fun s => decide (s ∈ N2)) then 6 else strE (N1 ++ [nm]) (N2 ++ ids) (xs.drop (k + 1))) := Lib.hid (by
            rw [HSTEP.out, if_neg (by show ¬ (keyErr nm ≠ 0); simpa using HE1.out), if_neg hnm, if_neg (by simpa using HE3.out)])
          have HCF := Lib.hid (containsS1_calls w1 _ ids 70 (.pointer (some ⟨gI, 0, none⟩)) (fun s => decide (s ∈ N2)) HSLa.out (fun _ _ => rfl) (fun s W hs hW => strataError1_calls W gI b2 n2 N2 s (HZ3.out s hs) (hBa.modp hW) (hS2a.pure hW)))
          obtain ⟨ba, hba⟩ : ∃ ba, ids.any (fun s => decide (s ∈ N2)) = ba := ⟨_, rfl⟩
          rw [hba] at HS2 HCF
          clear HSTEP HBM HE1 HE2 HE3 HER hnm hba
          have q0 := B1.cell 0; have q1 := B1.cell 1; simp at q0 q1
          go_wp2_with fail
          refine HCF.out.mono ?_
          rintro e w2 ⟨rfl, hm2⟩
          have hS1b := hS1a.pure hm2
          have hS2b := hS2a.pure hm2
          have hBb := hBa.modp hm2
          have mb := ma.trans hm2
          have B2 := B1.modp hm2
          have HSLb := Lib.hid (HSLa.out.pure hm2)
          clear HCF hS1a hS2a hBa ma B1 HSLa hm2 q0 q1
          cases ba
          · obtain ⟨w3, hrun, hS1c, hM3⟩ := hS1b.add Tryz.underlying77 (by omega) nm (by omega)
            have hz2 := mb.size
            have hne1 : b1 ≠ gs := by omega
            have hS2c := hS2b.mod hM3 (by omega)
            have hBc := hBb.mod hM3 (by omega)
            have B3 := B2.mod hM3 (by omega)
            have mc : Pure w w3 := mb.trans' hM3 (fun i hi hlt => by omega)
            have HSLc := Lib.hid (HSLb.out.mod hM3 (fun g arr fr hg hgb => by
              subst hgb
              obtain ⟨D, ⟨es, clock, hh, _⟩, _⟩ := hS1b
              rw [hh] at hg
              cases hg))
            have HS1c := Lib.hid hS1c
            have HS2c := Lib.hid hS2c
            clear hS1b hS2b hBb mb HSLb hM3 hS1c hS2c
            have q0 := B2.cell 0; have q1 := B2.cell 1; simp at q0 q1
            have r0 := B3.cell 0; have r1 := B3.cell 1; simp at r0 r1
            go_wp2_with fail
            clear q0 q1 r0 r1 hrun
            go_loopg [47] ids.length (fun gk i wr => StI w3 ids N2 b2 n2 gk i wr)
            case atStart => exact ⟨0, by omega, by omega, rfl, by simpa using HS2c.out, Mod.refl _ _⟩
            case round =>
              obtain ⟨j, rfl, hj, rfl, hSr, hMr⟩ := hrel
              have hBr := hBc.mod hMr (by omega)
              by_cases hlj : j < ids.length
              · obtain ⟨gr, offr, rfl, hrow⟩ := HSLc.out.rowS (by omega)
                have hq := (hrow.mod hMr (HS2c.out.ne_row hrow)).cell (strsV_get ids j hlj)
                have hzj := HZ3.out _ (List.getElem_mem hlj)
                obtain ⟨w4, hrun, hS4, hM4⟩ := hSr.add Tryz.underlying77 (by omega) ids[j] (by omega)
                have HT : Hid (N2 ++ ids.take (j + 1) = N2 ++ ids.take j ++ [ids[j]]) := Lib.hid (by rw [List.take_succ_eq_append_getElem hlj, List.append_assoc])
                have HS4 := Lib.hid hS4
                clear hrow hS4 hzj
                generalize ids[j] = s at *
                have t0 := hBr.cell 0; simp at t0
                go_wp2_with fail
                go_roundg (ids.length - (j + 1))
                case measure => omega
                case rel => exact ⟨j + 1, rfl, by omega, by simp, by rw [HT.out]; exact HS4.out, hMr.trans hM4⟩
              · obtain rfl : j = ids.length := by omega
                have hS1r := HS1c.out.mod hMr (by omega)
                have HSr := Lib.hid hSr
                rw [List.take_length] at HSr
                clear hSr
                go_wp2_with fail
                go_roundg (xs.length - (k + 1))
                case measure => omega
                case rel => exact ⟨k + 1, n2 + ids.length, rfl, by omega, by simp, by omega, by rw [HNT.out, HIT.out, HS2.out]; rfl, by rw [HNT.out]; exact hS1r, by rw [HIT.out]; exact HSr.out, hBr, mc.trans' hMr (fun i hi hlt => by omega)⟩
          · go_wp2_with fail
            go_ret
            exact IntPost.of (by rw [HE.out, HS2.out]; rfl) mb
        · have hne : (er != 0) = true := by simpa using h0
          have HFIN : Hid (strE [] [] xs = er) := Lib.hid (by rw [HSTEP.out]; exact strE_first HBM.out HE1.out HE2.out HE3.out HER.out h0)
          go_wp2_with fail
          go_ret
          exact IntPost.of (by rw [HE.out, HFIN.out]) ma
    · obtain rfl : k = xs.length := by omega
      have e1 : xs.drop xs.length = [] := List.drop_of_length_le (Nat.le_refl _)
      rw [e1] at HST
      go_wp2_with fail
      go_ret
      exact IntPost.of (by rw [HE.out, ← HST.out]; rfl) hm

def FtE (w : World) (xs : List Stm) (b gk : Nat) (i : Value) (wr : World) : Prop :=
  ∃ k n2 : Nat, xs.length - k = gk ∧ k ≤ xs.length ∧ i = .int .i64 (k : Int) ∧ n2 ≤ k * 2000 ∧ strE (namesOf (xs.take k)) (idsOf (xs.take k)) (xs.drop k) = strE [] [] xs ∧ SetS wr b n2 (idsOf (xs.take k)) ∧ Pure w wr
theorem any_names (xs : List Stm) (nm : Str) : (xs.any fun x => x.1 == nm) = decide (nm ∈ namesOf xs) := by
  unfold namesOf
  rw [Bool.eq_iff_iff]
  simp only [List.any_eq_true, decide_eq_true_eq, List.mem_map]
  constructor
  · rintro ⟨x, hx, h⟩
    exact ⟨x, hx, by simpa using h⟩
  · rintro ⟨x, hx, h⟩
    exact ⟨x, hx, by simpa using h⟩
theorem stV_take (xs : List Stm) (k : Nat) : (stV xs).take (k * 2) = stV (xs.take k) := by
  induction xs generalizing k with
  | nil => simp [stV]
  | cons x xs ih =>
    cases k with
    | zero => simp [stV]
    | succ k =>
      have e : (k + 1) * 2 = k * 2 + 1 + 1 := by omega
      have := ih k
      simp only [stV, List.flatMap_cons, List.cons_append, List.nil_append, e, List.take_succ_cons] at *
      rw [this]
theorem Sl.takeSt {w : World} {A : Option Addr} {n c k : Nat} {xs : List Stm} (h : Sl w 49 2 (.slice A n c) (stV xs)) (hk : k ≤ n) : Sl w 49 2 (.slice A k c) (stV (xs.take k)) := by
  obtain ⟨A', n', c', hf, h1, h2, h3, h4⟩ := h
  injection hf with e1 e2 e3
  subst e1 e2 e3
  rw [stV_len] at h3
  refine ⟨_, k, _, rfl, by omega, h2, by rw [stV_len, List.length_take]; omega, fun hk0 => ?_⟩
  obtain ⟨g, off, rfl, arr, fr, hh, hr⟩ := h4 (by omega)
  refine ⟨g, off, rfl, arr, fr, hh, fun i u hu => hr i u ?_⟩
  rw [← stV_take, List.getElem?_take] at hu
  split at hu
  · exact hu
  · cases hu

set_option maxRecDepth 100000 in
set_option maxHeartbeats 8000000 in
theorem strataFault_calls (w : World) (v : Value) (xs : List Stm) (hv : StR w v xs) (hl : xs.length ≤ 10) (hz : ∀ p ∈ xs, p.1.length ≤ 1000 ∧ p.2.2.length ≤ 1000 ∧ ∀ s ∈ p.2.2, s.length ≤ 1000) :
    Calls Tryz.prog 23 #[v] w (IntPost w (strataE xs)) := by
  have hmm := @run_makeMap Tryz.prog
  obtain ⟨hv1, hv2⟩ := hv
  have HV1 := Lib.hid hv1
  obtain ⟨A, n, c, rfl, hc1, hc2, hl2, hr⟩ := hv1
  have hln : xs.length = n := by rw [stV_len] at hl2; omega
  subst hln
  have HR := Lib.hid hr
  have HV := Lib.hid hv2
  have HZ := Lib.hid hz
  have HE : Hid (strataE xs = strE [] [] xs) := Lib.hid (by unfold strataE; rw [if_neg (by omega)])
  have n1 : ¬ ((20 : Int) < (xs.length : Int)) := by omega
  clear hl2 hr hv2 hz
  have HS1 := Lib.hid (SetS.made w)
  have HM0 := Lib.hid (pure_alloc w (.map #[] 0))
  go_enter Tryz.func23, Tryz.ntmps23
  go_wp2_with fail
  clear hmm
  generalize (w.alloc (.map #[] 0)) = W at *
  generalize hdb : w.heap.size = b at *
  have hb1' := Nat.le_of_eq hdb
  clear hdb
  go_loopg [17] xs.length (fun gk i wr => FtE w xs b gk i wr)
  case atStart => exact ⟨0, 0, by omega, by omega, rfl, by omega, rfl, HS1.out, HM0.out⟩
  case round =>
    clear HS1 HM0 W
    obtain ⟨k, n2, rfl, hk, rfl, hn2, hst, hS, hm⟩ := hrel
    have HST := Lib.hid hst
    clear hst
    by_cases hlt : k < xs.length
    · obtain ⟨g, off, rfl, hrow⟩ := HR.out (by omega)
      have hget := stV_get xs k hlt
      have hq0 := (hrow.mod hm id).cell hget.1
      have hq1 := (hrow.mod hm id).cell hget.2
      rw [← Nat.add_assoc] at hq1
      have HSTEP := Lib.hid (strE_step hlt (namesOf (xs.take k)) (idsOf (xs.take k)))
      rw [HST.out] at HSTEP
      have HNT := Lib.hid (names_take hlt)
      have HIT := Lib.hid (ids_take hlt)
      obtain ⟨hz1, hz2, hz3⟩ := HZ.out _ (List.getElem_mem hlt)
      have hsl := (HV.out _ (List.getElem_mem hlt)).pure hm
      have HSL := Lib.hid hsl
      have HZ3 := Lib.hid hz3
      have HAN := Lib.hid (any_names (xs.take k))
      have HVT := Lib.hid ((HV1.out.pure hm).takeSt hk)
      clear hget hrow HST hsl hz3
      generalize hxk : xs[k] = x at *
      clear hxk
      obtain ⟨nm, vi, ids⟩ := x
      simp only at hq0 hq1 HSTEP HNT HIT hz1 hz2 HSL HZ3
      obtain ⟨Ai, ni, ci, rfl⟩ := HSL.out.form
      have hni := HSL.out.lenS
      subst hni
      have HA2 := Lib.hid (HAN.out nm)
      clear HAN
      generalize namesOf (xs.take k) = N1 at *
      generalize idsOf (xs.take k) = N2 at *
      have BS := Blk.new wr 49 #[.string ⟨nm.toArray⟩, .slice Ai ids.length ci]
      have mS := pure_alloc wr (.cells #[.string ⟨nm.toArray⟩, .slice Ai ids.length ci] 49)
      have HBS := Lib.hid BS
      have HMS := Lib.hid mS
      have y1 : (⟨nm.toArray⟩ : ByteArray).size ≤ 1000000 := by simp [ByteArray.size]; omega
      clear BS mS
      go_wp2_with fail
      refine (rkey_calls _ _ y1).mono ?_
      rintro e w1 ⟨rfl, hm1⟩
      rw [show (⟨nm.toArray⟩ : ByteArray).data.toList = nm from rfl]
      have pa : Pure wr w1 := HMS.out.trans hm1
      have B1 := HBS.out.modp hm1
      have hS1 := hS.pure pa
      have m1 := hm.trans pa
      have HSL1 := Lib.hid (HSL.out.pure pa)
      have HVT1 := Lib.hid (HVT.out.pure pa)
      clear hq0 hq1 HBS HMS hm1 hS hm HSL HVT pa y1
      have hgsz := m1.size
      generalize wr.heap.size = gs at *
      have q0 := B1.cell 0; have q1 := B1.cell 1; simp at q0 q1
      cases hkb : keyB nm
      · have HFIN : Hid (strE [] [] xs = 5) := Lib.hid (by rw [HSTEP.out, if_pos (by unfold keyE; rw [hkb]; decide)])
        go_wp2_with fail
        go_ret
        exact IntPost.of (by rw [HE.out, HFIN.out]) m1
      · have HSTEP2 : Hid (strE [] [] xs = if nm ∈ N1 then 6 else if idsE keyE ids ≠ 0 then idsE keyE ids else if ids.any (fun s => decide (s ∈ N2)) then 6 else strE (N1 ++ [nm]) (N2 ++ ids) (xs.drop (k + 1))) := Lib.hid (by rw [HSTEP.out, if_neg (by unfold keyE; rw [hkb]; decide)])
        have HCF := Lib.hid (containsSt1_calls w1 _ (xs.take k) 52 (.pointer (some ⟨gs, 0, none⟩)) (fun x => x.1 == nm) HVT1.out (fun _ _ => rfl) (fun x W hx hW => strataFault1_calls W gs nm _ x (B1.modp hW)))
        rw [HA2.out] at HCF
        clear HSTEP HA2 hkb HVT1
        go_wp2_with fail
        refine HCF.out.mono ?_
        rintro e w2 ⟨rfl, hm2⟩
        have B2 := B1.modp hm2
        have hS2 := hS1.pure hm2
        have m2 := m1.trans hm2
        have HSL2 := Lib.hid (HSL1.out.pure hm2)
        clear HCF B1 hS1 m1 HSL1 hm2 q0 q1
        have q0 := B2.cell 0; have q1 := B2.cell 1; simp at q0 q1
        by_cases hmem : nm ∈ N1
        · have hd : decide (nm ∈ N1) = true := by simpa using hmem
          have HFIN : Hid (strE [] [] xs = 6) := Lib.hid (by rw [HSTEP2.out, if_pos hmem])
          rw [hd]
          clear hd hmem
          go_wp2_with fail
          go_ret
          exact IntPost.of (by rw [HE.out, HFIN.out]) m2
        · have hd : decide (nm ∈ N1) = false := by simpa using hmem
          have HSTEP3 : Hid (strE [] [] xs = if idsE keyE ids ≠ 0 then idsE keyE ids else if ids.any (fun s => decide (s ∈ N2)) then 6 else strE (N1 ++ [nm]) (N2 ++ ids) (xs.drop (k + 1))) := Lib.hid (by rw [HSTEP2.out, if_neg hmem])
          rw [hd]
          clear hd hmem HSTEP2
          have HIF := Lib.hid (idsFault_calls w2 _ ids HSL2.out HZ3.out (by omega))
          obtain ⟨e3, he3⟩ : ∃ e3, idsE keyE ids = e3 := ⟨_, rfl⟩
          rw [he3] at HSTEP3 HIF
          clear he3
          go_wp2_with fail
          refine HIF.out.mono ?_
          rintro e w3 ⟨rfl, hm3⟩
          have B3 := B2.modp hm3
          have hS3 := hS2.pure hm3
          have m3 := m2.trans hm3
          have HSL3 := Lib.hid (HSL2.out.pure hm3)
          clear HIF B2 hS2 m2 HSL2 hm3 q0 q1
          have q0 := B3.cell 0; have q1 := B3.cell 1; simp at q0 q1
          by_cases h0 : e3 = 0
          · subst h0
            have HSTEP4 : Hid (strE [] [] xs = if ids.any (fun s => decide (s ∈ N2)) then 6 else strE (N1 ++ [nm]) (N2 ++ ids) (xs.drop (k + 1))) := Lib.hid (by rw [HSTEP3.out, if_neg (by simp)])
            clear HSTEP3
            go_wp2_with fail
            go_loopg [42] ids.length (fun gk i wr => ∃ j : Nat, ids.length - j = gk ∧ j ≤ ids.length ∧ i = .int .i64 (j : Int) ∧ (∀ s ∈ ids.take j, s ∉ N2) ∧ w3 = wr)
            case atStart => exact ⟨0, by omega, by omega, rfl, by simp, rfl⟩
            case round =>
              obtain ⟨j, rfl, hj, rfl, hnone, rfl⟩ := hrel
              have HNO := Lib.hid hnone
              clear hnone
              by_cases hlj : j < ids.length
              · obtain ⟨gr, offr, rfl, hrow⟩ := HSL3.out.rowS (by omega)
                have hq := hrow.cell (strsV_get ids j hlj)
                have hzj := HZ3.out _ (List.getElem_mem hlj)
                have hrun := hS3.has Tryz.underlying77 zero_bool ids[j] (by omega)
                have HT : Hid (∀ s ∈ ids.take (j + 1), s ∈ ids.take j ∨ s = ids[j]) := Lib.hid (by
                  intro s hs
                  rw [List.take_succ_eq_append_getElem hlj] at hs
                  rcases List.mem_append.1 hs with h | h
                  · exact .inl h
                  · exact .inr (List.mem_singleton.1 h))
                have HMEM := Lib.hid (List.getElem_mem hlj)
                clear hrow hzj
                generalize ids[j] = s at *
                by_cases hsN : s ∈ N2
                · have hd : decide (s ∈ N2) = true := by simpa using hsN
                  rw [hd] at hrun
                  have HFIN : Hid (strE [] [] xs = 6) := Lib.hid (by rw [HSTEP4.out, if_pos (List.any_eq_true.2 ⟨s, HMEM.out, hd⟩)])
                  clear hd hsN
                  go_wp2_with fail
                  go_ret
                  exact IntPost.of (by rw [HE.out, HFIN.out]) m3
                · have hd : decide (s ∈ N2) = false := by simpa using hsN
                  rw [hd] at hrun
                  have HNO2 : Hid (∀ s ∈ ids.take (j + 1), s ∉ N2) := Lib.hid (by
                    intro t ht
                    rcases HT.out t ht with h | h
                    · exact HNO.out t h
                    · rw [h]; exact hsN)
                  clear hd hsN
                  go_wp2_with fail
                  go_roundg (ids.length - (j + 1))
                  case measure => omega
                  case rel => exact ⟨j + 1, rfl, by omega, by simp, HNO2.out, rfl⟩
              · obtain rfl : j = ids.length := by omega
                have HFIN : Hid (strE (N1 ++ [nm]) (N2 ++ ids) (xs.drop (k + 1)) = strE [] [] xs) := Lib.hid (by
                  rw [HSTEP4.out, if_neg]
                  intro h
                  obtain ⟨s, hs, h2⟩ := List.any_eq_true.1 h
                  exact HNO.out s (by rw [List.take_length]; exact hs) (by simpa using h2))
                clear HNO HSTEP4 hj hlj
                go_wp2_with fail
                clear q0 q1
                go_loopg [53] ids.length (fun gk i wr => StI w3 ids N2 b n2 gk i wr)
                case atStart => exact ⟨0, by omega, by omega, rfl, by simpa using hS3, Mod.refl _ _⟩
                case round =>
                  obtain ⟨j, rfl, hj, rfl, hSr, hMr⟩ := hrel
                  by_cases hlj : j < ids.length
                  · obtain ⟨gr, offr, rfl, hrow⟩ := HSL3.out.rowS (by omega)
                    have hq := (hrow.mod hMr (hS3.ne_row hrow)).cell (strsV_get ids j hlj)
                    have hzj := HZ3.out _ (List.getElem_mem hlj)
                    obtain ⟨w4, hrun, hS4, hM4⟩ := hSr.add Tryz.underlying77 (by omega) ids[j] (by omega)
                    have HT : Hid (N2 ++ ids.take (j + 1) = N2 ++ ids.take j ++ [ids[j]]) := Lib.hid (by rw [List.take_succ_eq_append_getElem hlj, List.append_assoc])
                    have HS4 := Lib.hid hS4
                    clear hrow hS4 hzj
                    generalize ids[j] = s at *
                    go_wp2_with fail
                    go_roundg (ids.length - (j + 1))
                    case measure => omega
                    case rel => exact ⟨j + 1, rfl, by omega, by simp, by rw [HT.out]; exact HS4.out, hMr.trans hM4⟩
                  · obtain rfl : j = ids.length := by omega
                    have HSr := Lib.hid hSr
                    rw [List.take_length] at HSr
                    clear hSr
                    go_wp2_with fail
                    go_roundg (xs.length - (k + 1))
                    case measure => omega
                    case rel => exact ⟨k + 1, n2 + ids.length, rfl, by omega, by simp, by omega, by rw [HNT.out, HIT.out, HFIN.out], by rw [HIT.out]; exact HSr.out, m3.trans' hMr (fun i hi hlt => by omega)⟩
          · have hne : (e3 != 0) = true := by simpa using h0
            have HFIN : Hid (strE [] [] xs = e3) := Lib.hid (by rw [HSTEP3.out, if_pos h0])
            clear h0
            go_wp2_with fail
            go_ret
            exact IntPost.of (by rw [HE.out, HFIN.out]) m3
    · obtain rfl : k = xs.length := by omega
      have e1 : xs.drop xs.length = [] := List.drop_of_length_le (Nat.le_refl _)
      rw [e1] at HST
      go_wp2_with fail
      go_ret
      exact IntPost.of (by rw [HE.out, ← HST.out]; rfl) hm

end Go.Proofs.YtkchninlhemioaaGreatDoor
