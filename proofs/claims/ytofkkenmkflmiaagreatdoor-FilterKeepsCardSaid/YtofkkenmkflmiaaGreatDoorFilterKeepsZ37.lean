/- Texts of the proof of FilterKeeps, put together: ItmG, EqS. -/
import Derived.Test.YtofkkenmkflmiaaGreatDoorFilterKeepsZ17
import Derived.Test.YtofkkenmkflmiaaGreatDoorFilterKeepsZ36
import Derived.Sort.Walk0
import Derived.Deep.DeepCutAuto
/- Check of package intake. -/
namespace Go.Proofs.YtofkkenmkflmiaaGreatDoor
set_option linter.unusedVariables false
set_option linter.unusedSimpArgs false
open Go.RowKit

theorem leS_iff {a b : Str} : leS a b = true ↔ a ≤ b := by
  unfold leS
  rw [bytesLess_eq]
  simp only [Bool.or_eq_true, decide_eq_true_eq]
  constructor
  · rintro (h | h)
    · exact List.le_of_lt h
    · rw [eq_of_beq h]; exact List.le_refl _
  · intro h
    by_cases hlt : a < b
    · exact .inl hlt
    · exact .inr (by rw [str_total hlt (List.not_lt.2 h)]; simp)
/-- The id ahead of place k. -/
def pid (xs : List Itm) : Nat → Str
  | 0 => []
  | k + 1 => match xs[k]? with | some x => x.id | none => []
theorem pid_succ {xs : List Itm} {k : Nat} (h : k < xs.length) : pid xs (k + 1) = xs[k].id := by
  simp [pid, h]
theorem firstErr2 {e1 e2 er : Int} (h : firstErr [e1, e2] = er) : er = if e1 ≠ 0 then e1 else e2 := by
  rw [← h]
  unfold firstErr
  by_cases h1 : e1 = 0
  · simp only [h1, if_true]
    unfold firstErr
    by_cases h2 : e2 = 0
    · simp [h2, firstErr]
    · simp [h2]
  · simp [h1]
theorem ids_of_ordE {l : List Itm} (h : ordE itemE [] l = 0) : l.Pairwise fun x y => x.id ≠ y.id := ordE_ne h
theorem any_take_snoc {α : Type} (p : α → Bool) (l : List α) (k : Nat) (h : k < l.length) : (l.take (k + 1)).any p = ((l.take k).any p || p l[k]) := by
  rw [List.take_succ_eq_append_getElem h, List.any_append]
  simp
theorem any_of_at {α : Type} {p : α → Bool} {l : List α} {k : Nat} (h : k < l.length) (hp : p l[k] = true) : l.any p = true := List.any_eq_true.2 ⟨_, List.getElem_mem h, hp⟩
theorem missB_fnd (l : List Itm) (x : Itm) : missB l x = (!x.par.isEmpty && !(fnd l x.par).isSome) := by
  unfold missB
  rw [fnd_isSome, show decide (x.par ≠ []) = !x.par.isEmpty by cases x.par <;> simp]
  cases plc l x.par <;> rfl

def Ck1 (w : World) (xs : List Itm) (gk : Nat) (i : Value) (wr : World) : Prop := ∃ k : Nat, xs.length - k = gk ∧ k ≤ xs.length ∧ i = .int .i64 (k : Int) ∧ ordE itemE (pid xs k) (xs.drop k) = ordE itemE [] xs ∧ Pure w wr
def Ck2 (w : World) (b : Nat) (xs : List Itm) (gk : Nat) (i : Value) (wr : World) : Prop := ∃ k : Nat, xs.length - k = gk ∧ k ≤ xs.length ∧ i = .int .i64 (k : Int) ∧ (xs.take k).any (missB xs) = false ∧ MapX wr b xs.length (byF xs) ∧ Pure w wr
def Ck3 (w : World) (b : Nat) (xs : List Itm) (gk : Nat) (i : Value) (wr : World) : Prop := ∃ k : Nat, xs.length - k = gk ∧ k ≤ xs.length ∧ i = .int .i64 (k : Int) ∧ (∀ j, j < k → lpB xs j = false) ∧ MapX wr b xs.length (byF xs) ∧ Pure w wr
def Ck4 (w : World) (b : Nat) (xs : List Itm) (gk : Nat) (i : Value) (wr : World) : Prop := ∃ k : Nat, xs.length - k = gk ∧ k ≤ xs.length ∧ i = .int .i64 (k : Int) ∧ firstE (depE xs) k (xs.length - k) = firstE (depE xs) 0 xs.length ∧ MapX wr b xs.length (byF xs) ∧ Pure w wr

set_option maxRecDepth 100000 in
set_option maxHeartbeats 8000000 in
theorem check_calls (w : World) (v : Value) (xs : List Itm) (hv : Its w v xs) (hz : ∀ x ∈ xs, ItB x) (hl : xs.length ≤ 2000) (hE : Env w) : Calls Tryz.prog 45 #[v] w (IntPost w (itsE itemE xs)) := by
  obtain ⟨A, n, c, rfl, hc1, hc2, hl2, hr⟩ := hv
  have hln : xs.length = n := by rw [itV_len] at hl2; omega
  subst hln
  have HBY := Lib.hid (fun W (h : Pure w W) hd => byId_calls W (.slice A xs.length c) xs (Its.pure ⟨A, xs.length, c, rfl, hc1, hc2, hl2, hr⟩ h) hz hd (by omega))
  have HR := Lib.hid hr
  have HZ := Lib.hid hz
  have HE := Lib.hid hE
  have HIE : Hid (itsE itemE xs = if ordE itemE [] xs ≠ 0 then ordE itemE [] xs else if xs.any (missB xs) then 8 else treeE xs) := Lib.hid (by unfold itsE; rw [if_neg (by omega)])
  have n1 : ¬ ((2000 : Int) < (xs.length : Int)) := by omega
  have m0 : Pure w w := Mod.refl _ _
  clear hl2 hr hz hE
  go_enter Tryz.func45, Tryz.ntmps45
  go_wp2_with fail
  go_loopg [23] xs.length (fun gk i wr => Ck1 w xs gk i wr)
  case atStart => exact ⟨0, by omega, by omega, rfl, rfl, m0⟩
  case round =>
    clear m0
    obtain ⟨k, rfl, hk, rfl, hord, hm⟩ := hrel
    by_cases hlt : k < xs.length
    · obtain ⟨g, off, rfl, hrow⟩ := HR.out (by omega)
      have hrow1 := hrow.mod hm id
      obtain ⟨q0, q1, q2, q3, q4, q5, q6⟩ := item_cells hrow1 hlt
      have HST := Lib.hid (ordE_step (E := itemE) hlt (pid xs k))
      rw [hord] at HST
      have HPI := Lib.hid (pid_succ hlt)
      have hzx := HZ.out _ (List.getElem_mem hlt)
      have HCI := Lib.hid (fun W (h : Pure w W) => checkItem_calls W xs[k] hzx (HE.out.pure h))
      have HKN : Hid (itemE xs[k] = 0 → xs[k].id ≠ []) := Lib.hid (fun h e => by have := itemE_id h; rw [e] at this; cases this)
      have HXK : Hid (∃ x, x = xs[k]) := Lib.hid ⟨_, rfl⟩
      clear hord
      have HB0 := Lib.hid (Blk.new wr 71 (itQ xs[k]))
      have Hm0 := Lib.hid (pure_alloc wr (.cells (itQ xs[k]) 71))
      by_cases h0 : k = 0
      · subst h0
        have HST0 : Hid (ordE itemE [] xs = if itemE xs[0] ≠ 0 then itemE xs[0] else ordE itemE xs[0].id (xs.drop (0 + 1))) := Lib.hid (by
          rw [HST.out]
          show (if itemE xs[0] ≠ 0 then itemE xs[0] else if xs[0].id ≤ [] then 7 else ordE itemE xs[0].id (xs.drop (0 + 1))) = _
          by_cases he : itemE xs[0] = 0
          · have h3 : ¬ xs[0].id ≤ [] := by
              intro h
              have h1 := HKN.out he
              cases hh : xs[0].id with
              | nil => exact h1 hh
              | cons a t =>
                rw [hh] at h
                exact absurd (List.nil_lt_cons a t) (List.not_lt.2 h)
            rw [if_neg h3]
          · rw [if_pos he, if_pos he])
        obtain ⟨e1, he1⟩ : ∃ e1, itemE xs[0] = e1 := ⟨_, rfl⟩
        obtain ⟨er, her⟩ : ∃ er, firstErr [e1, 0] = er := ⟨_, rfl⟩
        rw [he1] at HCI HST0
        have HER := Lib.hid her
        have HFE := Lib.hid (fun (W : World) (g c : Nat) (h : Blk W g 35 #[.int .i64 e1, .int .i64 0]) => firstE_calls W g c [e1, 0] h.row0 (by simp))
        rw [her] at HFE
        have HWF := Lib.hid (fun W => when_f 7 W)
        clear hrow hrow1 HST HKN he1 her HXK
        simp only [Nat.zero_mul, Nat.add_zero] at q0 q1 q2 q3 q4 q5 q6
        generalize xs[0] = x at *
        unfold itQ at HB0 Hm0
        unfold itA at HCI
        go_wp2_with fail
        go_upto_region 6 with (fail)
        generalize (wr.alloc (.cells #[.string ⟨x.id.toArray⟩, .string ⟨x.cust.toArray⟩, .int .i64 x.kind, .string ⟨x.name.toArray⟩, .int .i64 x.tm, .string ⟨x.par.toArray⟩, .string ⟨x.text.toArray⟩] 71)) = WS at *
        have hgsz := hm.size
        generalize hgs : wr.heap.size = gs at *
        have hgs1 := Nat.le_of_eq hgs
        clear hgs q0 q1 q2 q3 q4 q5 q6
        go_cut [5] (fun p wx => p = .int .i64 er ∧ Pure wr wx)
        case first =>
          have HGs := Lib.hid (show ∀ (D : Nat → Bool) (zzi : Nat) (zq zq' : World), (fun _ zq => (fun Z => Blk Z gs 71 #[.string ⟨x.id.toArray⟩, .string ⟨x.cust.toArray⟩, .int .i64 x.kind, .string ⟨x.name.toArray⟩, .int .i64 x.tm, .string ⟨x.par.toArray⟩, .string ⟨x.text.toArray⟩]) zq) D zq → Mod (fun _ => False) zq zq' → (fun _ zq => (fun Z => Blk Z gs 71 #[.string ⟨x.id.toArray⟩, .string ⟨x.cust.toArray⟩, .int .i64 x.kind, .string ⟨x.name.toArray⟩, .int .i64 x.tm, .string ⟨x.par.toArray⟩, .string ⟨x.text.toArray⟩]) zq) (upd D zzi true) zq' from by intro D zzi zq zq' h hm; (exact h.modp hm))
          refine wp_region_inv (by kernel_rfl) (by kernel_rfl) (InvF (R := Mod (fun _ => False)) [.is (.agg #[.string ⟨x.id.toArray⟩, .string ⟨x.cust.toArray⟩, .int .i64 x.kind, .string ⟨x.name.toArray⟩, .int .i64 x.tm, .string ⟨x.par.toArray⟩, .string ⟨x.text.toArray⟩]),
              .is (.int .i64 e1),
              .is (.int .i64 0),
              .is (.bool false),
              .is (.bool false),
              .is (undef),
              .is (undef),
              .is (undef),
              .is (undef),
              .is (undef),
              .is (undef),
              .is (undef),
              .is (undef),
              .is (undef),
              .is (undef),
              .is (.bool false),
              .is (.int .i64 0),
              ⟨fun zv zw => ∃ (g_17 : Nat), zv = .slice (some ⟨g_17, 0, none⟩) 2 2 ∧ WS.heap.size ≤ g_17 ∧ Blk zw g_17 35 #[.int .i64 e1, .int .i64 0], (by rintro zv zw zx ⟨g_17, rfl, c0, q0⟩ hm; exact ⟨g_17, rfl, c0, (q0.modp hm)⟩), none, some 18⟩,
              .is (.int .i64 er),
              .is (.int .i64 er)]
              (PB wr (fun _ => False) WS.heap.size (fun _ zq => (fun Z => Blk Z gs 71 #[.string ⟨x.id.toArray⟩, .string ⟨x.cust.toArray⟩, .int .i64 x.kind, .string ⟨x.name.toArray⟩, .int .i64 x.tm, .string ⟨x.par.toArray⟩, .string ⟨x.text.toArray⟩]) zq))) (InvF.start (PB.start Hm0.out (Nat.le_refl _) (HB0.out.drew))) ?_ ?_
          · refine .cons ?_ (.cons ?_ (.cons ?_ (.cons ?_ (.cons ?_ (.cons ?_ (.cons ?_ (.cons ?_ (.cons ?_ (.cons ?_ (.cons ?_ (.cons ?_ (.cons ?_ (.cons ?_ (.cons ?_ (.cons ?_ (.cons ?_ (.cons ?_ (.cons ?_ (.cons ?_ .nil)))))))))))))))))))
            · intro D V zw1 a hR hI K hK
              obtain ⟨hM1, hB1, hG1⟩ := hI.1
              have ze4 := hR.frame.other (t := 4) (by kernel_rfl) rfl
              have zx0 := hG1.cell 0; have zx1 := hG1.cell 1; have zx2 := hG1.cell 2; have zx3 := hG1.cell 3; have zx4 := hG1.cell 4; have zx5 := hG1.cell 5; have zx6 := hG1.cell 6
              simp at zx0 zx1 zx2 zx3 zx4 zx5 zx6
              rw [if_pos (by rfl)]
              go_simp
              exact hK (.agg #[.string ⟨x.id.toArray⟩, .string ⟨x.cust.toArray⟩, .int .i64 x.kind, .string ⟨x.name.toArray⟩, .int .i64 x.tm, .string ⟨x.par.toArray⟩, .string ⟨x.text.toArray⟩]) _ (hI.next hR (by kernel_rfl) (Mod.refl _ _) (PB.quiet hI.1 (Mod.refl _ _) (HGs.out D 0 zw1 zw1 (hI.1).g (Mod.refl _ _))) (upd_same V 0 _))
            · intro D V zw1 a hR hI K hK
              obtain ⟨hM1, hB1, hG1⟩ := hI.1
              have zd0 := hR.pred 0 (by kernel_rfl)
              have zF0 : V 0 = .agg #[.string ⟨x.id.toArray⟩, .string ⟨x.cust.toArray⟩, .int .i64 x.kind, .string ⟨x.name.toArray⟩, .int .i64 x.tm, .string ⟨x.par.toArray⟩, .string ⟨x.text.toArray⟩] := hI.2 0 zd0 rfl
              have zf0 := zF0; clear zF0
              have ze28 := hR.frame.done (t := 28) (j := 0) (by kernel_rfl) hR.ok zd0
              rw [if_pos (by rfl)]
              go_simp
              refine (HCI.out _ (hm.trans hM1)).mono ?_
              rintro e zw2 ⟨rfl, hm2⟩
              exact hK (.int .i64 e1) _ (hI.next hR (by kernel_rfl) hm2 (PB.quiet hI.1 hm2 (HGs.out D 1 _ _ (hI.1).g hm2)) (upd_same V 1 _))
            · intro D V zw1 a hR hI K hK
              obtain ⟨hM1, hB1, hG1⟩ := hI.1
              have ze3 := hR.frame.other (t := 3) (by kernel_rfl) rfl
              rw [if_pos (by rfl)]
              go_simp
              exact hK (.int .i64 0) _ (hI.next hR (by kernel_rfl) (Mod.refl _ _) (PB.quiet hI.1 (Mod.refl _ _) (HGs.out D 2 zw1 zw1 (hI.1).g (Mod.refl _ _))) (upd_same V 2 _))
            · intro D V zw1 a hR hI K hK
              obtain ⟨hM1, hB1, hG1⟩ := hI.1
              have zd2 := hR.pred 2 (by kernel_rfl)
              have zF2 : V 2 = .int .i64 0 := hI.2 2 zd2 rfl
              have zf2 := zF2; clear zF2
              have ze30 := hR.frame.done (t := 30) (j := 2) (by kernel_rfl) hR.ok zd2
              rw [if_pos (by rfl)]
              go_simp
              exact hK (.bool false) _ (hI.next hR (by kernel_rfl) (Mod.refl _ _) (PB.quiet hI.1 (Mod.refl _ _) (HGs.out D 3 zw1 zw1 (hI.1).g (Mod.refl _ _))) (upd_same V 3 _))
            · intro D V zw1 a hR hI K hK
              obtain ⟨hM1, hB1, hG1⟩ := hI.1
              have zd3 := hR.pred 3 (by kernel_rfl)
              have zF3 : V 3 = .bool false := hI.2 3 zd3 rfl
              have zf3 := zF3; clear zF3
              have ze31 := hR.frame.done (t := 31) (j := 3) (by kernel_rfl) hR.ok zd3
              rw [if_pos (by rfl)]
              go_simp
              exact hK (.bool false) _ (hI.next hR (by kernel_rfl) (Mod.refl _ _) (PB.quiet hI.1 (Mod.refl _ _) (HGs.out D 4 zw1 zw1 (hI.1).g (Mod.refl _ _))) (upd_same V 4 _))
            · intro D V zw1 a hR hI K hK
              obtain ⟨hM1, hB1, hG1⟩ := hI.1
              have zd4 := hR.pred 4 (by kernel_rfl)
              have zF4 : V 4 = .bool false := hI.2 4 zd4 rfl
              have zf4 := zF4; clear zF4
              have ze32 := hR.frame.done (t := 32) (j := 4) (by kernel_rfl) hR.ok zd4
              rw [if_neg (by simp [Region.wanted, yielded, ze32, zf4])]
              exact hK undef _ (hI.next hR (by kernel_rfl) (Mod.refl _ _) (PB.quiet hI.1 (Mod.refl _ _) (HGs.out D 5 zw1 zw1 (hI.1).g (Mod.refl _ _))) (upd_same V 5 _))
            · intro D V zw1 a hR hI K hK
              obtain ⟨hM1, hB1, hG1⟩ := hI.1
              have zd4 := hR.pred 4 (by kernel_rfl)
              have zF4 : V 4 = .bool false := hI.2 4 zd4 rfl
              have zf4 := zF4; clear zF4
              have ze32 := hR.frame.done (t := 32) (j := 4) (by kernel_rfl) hR.ok zd4
              rw [if_neg (by simp [Region.wanted, yielded, ze32, zf4])]
              exact hK undef _ (hI.next hR (by kernel_rfl) (Mod.refl _ _) (PB.quiet hI.1 (Mod.refl _ _) (HGs.out D 6 zw1 zw1 (hI.1).g (Mod.refl _ _))) (upd_same V 6 _))
            · intro D V zw1 a hR hI K hK
              obtain ⟨hM1, hB1, hG1⟩ := hI.1
              have zd4 := hR.pred 4 (by kernel_rfl)
              have zF4 : V 4 = .bool false := hI.2 4 zd4 rfl
              have zf4 := zF4; clear zF4
              have ze32 := hR.frame.done (t := 32) (j := 4) (by kernel_rfl) hR.ok zd4
              rw [if_neg (by simp [Region.wanted, yielded, ze32, zf4])]
              exact hK undef _ (hI.next hR (by kernel_rfl) (Mod.refl _ _) (PB.quiet hI.1 (Mod.refl _ _) (HGs.out D 7 zw1 zw1 (hI.1).g (Mod.refl _ _))) (upd_same V 7 _))
            · intro D V zw1 a hR hI K hK
              obtain ⟨hM1, hB1, hG1⟩ := hI.1
              have zd4 := hR.pred 4 (by kernel_rfl)
              have zF4 : V 4 = .bool false := hI.2 4 zd4 rfl
              have zf4 := zF4; clear zF4
              have ze32 := hR.frame.done (t := 32) (j := 4) (by kernel_rfl) hR.ok zd4
              rw [if_neg (by simp [Region.wanted, yielded, ze32, zf4])]
              exact hK undef _ (hI.next hR (by kernel_rfl) (Mod.refl _ _) (PB.quiet hI.1 (Mod.refl _ _) (HGs.out D 8 zw1 zw1 (hI.1).g (Mod.refl _ _))) (upd_same V 8 _))
            · intro D V zw1 a hR hI K hK
              obtain ⟨hM1, hB1, hG1⟩ := hI.1
              have zd4 := hR.pred 4 (by kernel_rfl)
              have zF4 : V 4 = .bool false := hI.2 4 zd4 rfl
              have zf4 := zF4; clear zF4
              have ze32 := hR.frame.done (t := 32) (j := 4) (by kernel_rfl) hR.ok zd4
              rw [if_neg (by simp [Region.wanted, yielded, ze32, zf4])]
              exact hK undef _ (hI.next hR (by kernel_rfl) (Mod.refl _ _) (PB.quiet hI.1 (Mod.refl _ _) (HGs.out D 9 zw1 zw1 (hI.1).g (Mod.refl _ _))) (upd_same V 9 _))
            · intro D V zw1 a hR hI K hK
              obtain ⟨hM1, hB1, hG1⟩ := hI.1
              have zd4 := hR.pred 4 (by kernel_rfl)
              have zF4 : V 4 = .bool false := hI.2 4 zd4 rfl
              have zf4 := zF4; clear zF4
              have ze32 := hR.frame.done (t := 32) (j := 4) (by kernel_rfl) hR.ok zd4
              rw [if_neg (by simp [Region.wanted, yielded, ze32, zf4])]
              exact hK undef _ (hI.next hR (by kernel_rfl) (Mod.refl _ _) (PB.quiet hI.1 (Mod.refl _ _) (HGs.out D 10 zw1 zw1 (hI.1).g (Mod.refl _ _))) (upd_same V 10 _))
            · intro D V zw1 a hR hI K hK
              obtain ⟨hM1, hB1, hG1⟩ := hI.1
              have zd4 := hR.pred 4 (by kernel_rfl)
              have zF4 : V 4 = .bool false := hI.2 4 zd4 rfl
              have zf4 := zF4; clear zF4
              have ze32 := hR.frame.done (t := 32) (j := 4) (by kernel_rfl) hR.ok zd4
              rw [if_neg (by simp [Region.wanted, yielded, ze32, zf4])]
              exact hK undef _ (hI.next hR (by kernel_rfl) (Mod.refl _ _) (PB.quiet hI.1 (Mod.refl _ _) (HGs.out D 11 zw1 zw1 (hI.1).g (Mod.refl _ _))) (upd_same V 11 _))
            · intro D V zw1 a hR hI K hK
              obtain ⟨hM1, hB1, hG1⟩ := hI.1
              have zd4 := hR.pred 4 (by kernel_rfl)
              have zF4 : V 4 = .bool false := hI.2 4 zd4 rfl
              have zf4 := zF4; clear zF4
              have ze32 := hR.frame.done (t := 32) (j := 4) (by kernel_rfl) hR.ok zd4
              rw [if_neg (by simp [Region.wanted, yielded, ze32, zf4])]
              exact hK undef _ (hI.next hR (by kernel_rfl) (Mod.refl _ _) (PB.quiet hI.1 (Mod.refl _ _) (HGs.out D 12 zw1 zw1 (hI.1).g (Mod.refl _ _))) (upd_same V 12 _))
            · intro D V zw1 a hR hI K hK
              obtain ⟨hM1, hB1, hG1⟩ := hI.1
              have zd4 := hR.pred 4 (by kernel_rfl)
              have zF4 : V 4 = .bool false := hI.2 4 zd4 rfl
              have zf4 := zF4; clear zF4
              have ze32 := hR.frame.done (t := 32) (j := 4) (by kernel_rfl) hR.ok zd4
              rw [if_neg (by simp [Region.wanted, yielded, ze32, zf4])]
              exact hK undef _ (hI.next hR (by kernel_rfl) (Mod.refl _ _) (PB.quiet hI.1 (Mod.refl _ _) (HGs.out D 13 zw1 zw1 (hI.1).g (Mod.refl _ _))) (upd_same V 13 _))
            · intro D V zw1 a hR hI K hK
              obtain ⟨hM1, hB1, hG1⟩ := hI.1
              have zd4 := hR.pred 4 (by kernel_rfl)
              have zF4 : V 4 = .bool false := hI.2 4 zd4 rfl
              have zf4 := zF4; clear zF4
              have ze32 := hR.frame.done (t := 32) (j := 4) (by kernel_rfl) hR.ok zd4
              rw [if_neg (by simp [Region.wanted, yielded, ze32, zf4])]
              exact hK undef _ (hI.next hR (by kernel_rfl) (Mod.refl _ _) (PB.quiet hI.1 (Mod.refl _ _) (HGs.out D 14 zw1 zw1 (hI.1).g (Mod.refl _ _))) (upd_same V 14 _))
            · intro D V zw1 a hR hI K hK
              obtain ⟨hM1, hB1, hG1⟩ := hI.1
              have zd4 := hR.pred 4 (by kernel_rfl)
              have zF4 : V 4 = .bool false := hI.2 4 zd4 rfl
              have zf4 := zF4; clear zF4
              have zd14 := hR.pred 14 (by kernel_rfl)
              have zF14 : V 14 = undef := hI.2 14 zd14 rfl
              have zf14 := zF14; clear zF14
              have ze32 := hR.frame.done (t := 32) (j := 4) (by kernel_rfl) hR.ok zd4
              have ze42 := hR.frame.done (t := 42) (j := 14) (by kernel_rfl) hR.ok zd14
              rw [if_pos (by rfl)]
              go_simp
              exact hK (.bool false) _ (hI.next hR (by kernel_rfl) (Mod.refl _ _) (PB.quiet hI.1 (Mod.refl _ _) (HGs.out D 15 zw1 zw1 (hI.1).g (Mod.refl _ _))) (upd_same V 15 _))
            · intro D V zw1 a hR hI K hK
              obtain ⟨hM1, hB1, hG1⟩ := hI.1
              have zd15 := hR.pred 15 (by kernel_rfl)
              have zF15 : V 15 = .bool false := hI.2 15 zd15 rfl
              have zf15 := zF15; clear zF15
              have ze43 := hR.frame.done (t := 43) (j := 15) (by kernel_rfl) hR.ok zd15
              rw [if_pos (by rfl)]
              go_simp
              refine (HWF.out _).mono ?_
              rintro e zw2 ⟨rfl, rfl⟩
              have hm2 : Pure zw1 zw1 := Mod.refl _ _
              exact hK (.int .i64 0) _ (hI.next hR (by kernel_rfl) hm2 (PB.quiet hI.1 hm2 (HGs.out D 16 _ _ (hI.1).g hm2)) (upd_same V 16 _))
            · intro D V zw1 a hR hI K hK
              obtain ⟨hM1, hB1, hG1⟩ := hI.1
              have zd1 := hR.pred 1 (by kernel_rfl)
              have zF1 : V 1 = .int .i64 e1 := hI.2 1 zd1 rfl
              have zf1 := zF1; clear zF1
              have zd16 := hR.pred 16 (by kernel_rfl)
              have zF16 : V 16 = .int .i64 0 := hI.2 16 zd16 rfl
              have zf16 := zF16; clear zF16
              have ze29 := hR.frame.done (t := 29) (j := 1) (by kernel_rfl) hR.ok zd1
              have ze44 := hR.frame.done (t := 44) (j := 16) (by kernel_rfl) hR.ok zd16
              rw [if_pos (by rfl)]
              go_simp
              exact hK (_) _ (hI.next hR (by kernel_rfl) ((Mod.refl _ _).alloc _) (PB.quiet hI.1 (pure_alloc _ _) (HGs.out D 17 _ _ (hI.1).g ((Mod.refl _ _).alloc _))) (⟨_, upd_same V 17 _, (by omega), (Blk.new _ _ _)⟩))
            · intro D V zw1 a hR hI K hK
              obtain ⟨hM1, hB1, hG1⟩ := hI.1
              have zd17 := hR.pred 17 (by kernel_rfl)
              have zF17 : ∃ (g_17 : Nat), V 17 = .slice (some ⟨g_17, 0, none⟩) 2 2 ∧ WS.heap.size ≤ g_17 ∧ Blk zw1 g_17 35 #[.int .i64 e1, .int .i64 0] := hI.2 17 zd17 (by show (!D 18) = true; rw [hR.not]; rfl)
              obtain ⟨g_17, zf17, c17_0, b17_0⟩ := zF17
              have ze45 := hR.frame.done (t := 45) (j := 17) (by kernel_rfl) hR.ok zd17
              rw [if_pos (by rfl)]
              go_simp
              refine (HFE.out _ _ _ b17_0).mono ?_
              rintro e zw2 ⟨rfl, hm2⟩
              exact hK (.int .i64 er) _ (hI.next hR (by kernel_rfl) hm2 (PB.quiet hI.1 hm2 (HGs.out D 18 _ _ (hI.1).g hm2)) (upd_same V 18 _))
            · intro D V zw1 a hR hI K hK
              obtain ⟨hM1, hB1, hG1⟩ := hI.1
              have zd18 := hR.pred 18 (by kernel_rfl)
              have zF18 : V 18 = .int .i64 er := hI.2 18 zd18 rfl
              have zf18 := zF18; clear zF18
              have ze46 := hR.frame.done (t := 46) (j := 18) (by kernel_rfl) hR.ok zd18
              rw [if_pos (by rfl)]
              go_simp
              exact hK (.int .i64 er) _ (hI.next hR (by kernel_rfl) (Mod.refl _ _) (PB.quiet hI.1 (Mod.refl _ _) (HGs.out D 19 zw1 zw1 (hI.1).g (Mod.refl _ _))) (upd_same V 19 _))
          · intro D V w1 hD hI
            obtain ⟨hM1, hB1, hG1⟩ := hI.1
            have hMx := hM1
            clear hM1
            have hBx := hB1
            clear hB1
            have hGx := hG1
            clear hG1
            have zF0 : V 0 = .agg #[.string ⟨x.id.toArray⟩, .string ⟨x.cust.toArray⟩, .int .i64 x.kind, .string ⟨x.name.toArray⟩, .int .i64 x.tm, .string ⟨x.par.toArray⟩, .string ⟨x.text.toArray⟩] := hI.2 0 (hD 0 (by decide)) rfl
            have zf0 := zF0; clear zF0
            have zF1 : V 1 = .int .i64 e1 := hI.2 1 (hD 1 (by decide)) rfl
            have zf1 := zF1; clear zF1
            have zF2 : V 2 = .int .i64 0 := hI.2 2 (hD 2 (by decide)) rfl
            have zf2 := zF2; clear zF2
            have zF3 : V 3 = .bool false := hI.2 3 (hD 3 (by decide)) rfl
            have zf3 := zF3; clear zF3
            have zF4 : V 4 = .bool false := hI.2 4 (hD 4 (by decide)) rfl
            have zf4 := zF4; clear zF4
            have zF5 : V 5 = undef := hI.2 5 (hD 5 (by decide)) rfl
            have zf5 := zF5; clear zF5
            have zF6 : V 6 = undef := hI.2 6 (hD 6 (by decide)) rfl
            have zf6 := zF6; clear zF6
            have zF7 : V 7 = undef := hI.2 7 (hD 7 (by decide)) rfl
            have zf7 := zF7; clear zF7
            have zF8 : V 8 = undef := hI.2 8 (hD 8 (by decide)) rfl
            have zf8 := zF8; clear zF8
            have zF9 : V 9 = undef := hI.2 9 (hD 9 (by decide)) rfl
            have zf9 := zF9; clear zF9
            have zF10 : V 10 = undef := hI.2 10 (hD 10 (by decide)) rfl
            have zf10 := zF10; clear zF10
            have zF11 : V 11 = undef := hI.2 11 (hD 11 (by decide)) rfl
            have zf11 := zF11; clear zF11
            have zF12 : V 12 = undef := hI.2 12 (hD 12 (by decide)) rfl
            have zf12 := zF12; clear zF12
            have zF13 : V 13 = undef := hI.2 13 (hD 13 (by decide)) rfl
            have zf13 := zF13; clear zF13
            have zF14 : V 14 = undef := hI.2 14 (hD 14 (by decide)) rfl
            have zf14 := zF14; clear zF14
            have zF15 : V 15 = .bool false := hI.2 15 (hD 15 (by decide)) rfl
            have zf15 := zF15; clear zF15
            have zF16 : V 16 = .int .i64 0 := hI.2 16 (hD 16 (by decide)) rfl
            have zf16 := zF16; clear zF16
            have zF18 : V 18 = .int .i64 er := hI.2 18 (hD 18 (by decide)) rfl
            have zf18 := zF18; clear zF18
            have zF19 : V 19 = .int .i64 er := hI.2 19 (hD 19 (by decide)) rfl
            have zf19 := zF19; clear zF19
            clear hI hD HGs
            simp only [frAll, Act.put, List.setIfInBounds_toArray, List.set_cons_zero, List.set_cons_succ, Nat.zero_add, Nat.reduceAdd, zf0, zf1, zf2, zf3, zf4, zf5, zf6, zf7, zf8, zf9, zf10, zf11, zf12, zf13, zf14, zf15, zf16, zf18, zf19]
            clear zf0 zf1 zf2 zf3 zf4 zf5 zf6 zf7 zf8 zf9 zf10 zf11 zf12 zf13 zf14 zf15 zf16 zf18 zf19
            generalize V 17 = u17
            clear V D
            go_wp2_with fail
            go_meet
            exact ⟨rfl, hMx⟩
        case rest =>
          obtain ⟨rfl, m1⟩ := hcut
          have m2 := hm.trans m1
          have hr2 := firstErr2 HER.out
          have HR2 := Lib.hid hr2
          clear HCI HFE HWF HB0 Hm0 WS hr2
          by_cases he0 : er = 0
          · have he1 : e1 = 0 := by
              have := HR2.out
              rw [he0] at this
              by_cases h : e1 = 0
              · exact h
              · rw [if_pos h] at this; exact absurd this.symm h
            have HS1 : Hid (ordE itemE [] xs = ordE itemE x.id (xs.drop (0 + 1))) := Lib.hid (by rw [HST0.out, he1]; simp)
            clear HST0 HR2 HER
            subst he0
            go_wp2_with fail
            go_roundg (xs.length - (0 + 1))
            case measure => omega
            case rel => exact ⟨0 + 1, rfl, by omega, by simp, by rw [HPI.out, HS1.out], m2⟩
          · have he0' : (er != 0) = true := by simpa using he0
            have hx : e1 ≠ 0 ∧ er = e1 := by
              have := HR2.out
              by_cases h : e1 = 0
              · rw [if_neg (by simpa using h)] at this; exact absurd this he0
              · rw [if_pos h] at this; exact ⟨h, this⟩
            have HF : Hid (itsE itemE xs = er) := Lib.hid (by rw [HIE.out, HST0.out, if_pos hx.1, if_pos hx.1, hx.2])
            clear HST0 HR2 HER hx HIE
            go_wp2_with fail
            go_ret
            exact IntPost.of HF.out m2
      · obtain ⟨j, rfl⟩ : ∃ j, k = j + 1 := ⟨k - 1, by omega⟩
        have hjl : j < xs.length := by omega
        have hy0 := (item_cells hrow1 hjl).1
        have hpj := pid_succ hjl
        have HPJ : Hid (pid xs (j + 1) = xs[j].id) := Lib.hid hpj
        obtain ⟨e1, he1⟩ : ∃ e1, itemE xs[j + 1] = e1 := ⟨_, rfl⟩
        obtain ⟨bo, hbo⟩ : ∃ bo, leS xs[j + 1].id xs[j].id = bo := ⟨_, rfl⟩
        obtain ⟨e2, he2⟩ : ∃ e2 : Int, (if bo = true then 7 else 0) = e2 := ⟨_, rfl⟩
        obtain ⟨er, her⟩ : ∃ er, firstErr [e1, e2] = er := ⟨_, rfl⟩
        have HST1 : Hid (ordE itemE [] xs = if e1 ≠ 0 then e1 else if bo = true then 7 else ordE itemE xs[j + 1].id (xs.drop (j + 1 + 1))) := Lib.hid (by
          rw [HST.out, he1, hpj]
          have h2 : xs[j + 1].id ≤ xs[j].id ↔ bo = true := by rw [← hbo]; exact leS_iff.symm
          by_cases hb : bo = true
          · rw [if_pos (h2.2 hb), if_pos hb]
          · rw [if_neg (fun h => hb (h2.1 h)), if_neg hb])
        have HBO : Hid ((Op.bytesLess xs[j + 1].id xs[j].id || xs[j + 1].id == xs[j].id) = bo) := Lib.hid hbo
        have HE2 := Lib.hid he2
        rw [he1] at HCI
        have HER := Lib.hid her
        have HFE := Lib.hid (fun (W : World) (g c : Nat) (h : Blk W g 35 #[.int .i64 e1, .int .i64 e2]) => firstE_calls W g c [e1, e2] h.row0 (by simp))
        rw [her] at HFE
        have HWF := Lib.hid (fun W => when_any2 bo 7 W)
        rw [he2] at HWF
        clear hrow hrow1 HST HKN he1 her HXK hpj hbo he2 h0
        generalize xs[j + 1] = x at *
        generalize xs[j] = y at *
        have hy1 := cell_alloc hy0 (.cells (itQ x) 71)
        unfold itQ at HB0 Hm0 hy1
        unfold itA at HCI
        go_wp2_with fail
        go_upto_region 6 with (fail)
        generalize (wr.alloc (.cells #[.string ⟨x.id.toArray⟩, .string ⟨x.cust.toArray⟩, .int .i64 x.kind, .string ⟨x.name.toArray⟩, .int .i64 x.tm, .string ⟨x.par.toArray⟩, .string ⟨x.text.toArray⟩] 71)) = WS at *
        have hgsz := hm.size
        generalize hgs : wr.heap.size = gs at *
        have hgs1 := Nat.le_of_eq hgs
        clear hgs q0 q1 q2 q3 q4 q5 q6 hy0
        go_cut [5] (fun p wx => p = .int .i64 er ∧ Pure wr wx)
        case first =>
          have HGs := Lib.hid (show ∀ (D : Nat → Bool) (zzi : Nat) (zq zq' : World), (fun _ zq => (fun Z => Blk Z gs 71 #[.string ⟨x.id.toArray⟩, .string ⟨x.cust.toArray⟩, .int .i64 x.kind, .string ⟨x.name.toArray⟩, .int .i64 x.tm, .string ⟨x.par.toArray⟩, .string ⟨x.text.toArray⟩] ∧ Z.cell? ⟨g, off + j * 7, none⟩ = some (.string ⟨y.id.toArray⟩)) zq) D zq → Mod (fun _ => False) zq zq' → (fun _ zq => (fun Z => Blk Z gs 71 #[.string ⟨x.id.toArray⟩, .string ⟨x.cust.toArray⟩, .int .i64 x.kind, .string ⟨x.name.toArray⟩, .int .i64 x.tm, .string ⟨x.par.toArray⟩, .string ⟨x.text.toArray⟩] ∧ Z.cell? ⟨g, off + j * 7, none⟩ = some (.string ⟨y.id.toArray⟩)) zq) (upd D zzi true) zq' from by intro D zzi zq zq' h hm; (exact ⟨h.1.modp hm, keepp h.2 hm⟩))
          refine wp_region_inv (by kernel_rfl) (by kernel_rfl) (InvF (R := Mod (fun _ => False)) [.is (.agg #[.string ⟨x.id.toArray⟩, .string ⟨x.cust.toArray⟩, .int .i64 x.kind, .string ⟨x.name.toArray⟩, .int .i64 x.tm, .string ⟨x.par.toArray⟩, .string ⟨x.text.toArray⟩]),
              .is (.int .i64 e1),
              .is (.int .i64 ((j : Int) + 1)),
              .is (.bool true),
              .is (.bool true),
              .is (.pointer (some ⟨gs, 0, none⟩)),
              .is (.string ⟨x.id.toArray⟩),
              .is (.slice (some ⟨g, off, none⟩) xs.length c),
              .is (.int .i64 ((j : Int) + 1)),
              .is (.int .i64 ((j : Int) + 1)),
              .is (.int .i64 (j : Int)),
              .is (.pointer (some ⟨g, off + j * 7, none⟩)),
              .is (.pointer (some ⟨g, off + j * 7, none⟩)),
              .is (.string ⟨y.id.toArray⟩),
              .is (.bool bo),
              .is (.bool bo),
              .is (.int .i64 e2),
              ⟨fun zv zw => ∃ (g_17 : Nat), zv = .slice (some ⟨g_17, 0, none⟩) 2 2 ∧ WS.heap.size ≤ g_17 ∧ Blk zw g_17 35 #[.int .i64 e1, .int .i64 e2], (by rintro zv zw zx ⟨g_17, rfl, c0, q0⟩ hm; exact ⟨g_17, rfl, c0, (q0.modp hm)⟩), none, some 18⟩,
              .is (.int .i64 er),
              .is (.int .i64 er)]
              (PB wr (fun _ => False) WS.heap.size (fun _ zq => (fun Z => Blk Z gs 71 #[.string ⟨x.id.toArray⟩, .string ⟨x.cust.toArray⟩, .int .i64 x.kind, .string ⟨x.name.toArray⟩, .int .i64 x.tm, .string ⟨x.par.toArray⟩, .string ⟨x.text.toArray⟩] ∧ Z.cell? ⟨g, off + j * 7, none⟩ = some (.string ⟨y.id.toArray⟩)) zq))) (InvF.start (PB.start Hm0.out (Nat.le_refl _) (⟨HB0.out.drew, cell_drew hy1⟩))) ?_ ?_
          · refine .cons ?_ (.cons ?_ (.cons ?_ (.cons ?_ (.cons ?_ (.cons ?_ (.cons ?_ (.cons ?_ (.cons ?_ (.cons ?_ (.cons ?_ (.cons ?_ (.cons ?_ (.cons ?_ (.cons ?_ (.cons ?_ (.cons ?_ (.cons ?_ (.cons ?_ (.cons ?_ .nil)))))))))))))))))))
            · intro D V zw1 a hR hI K hK
              obtain ⟨hM1, hB1, hG1⟩ := hI.1
              obtain ⟨hG1a, hG1b⟩ := hG1
              have ze4 := hR.frame.other (t := 4) (by kernel_rfl) rfl
              have zx0 := hG1a.cell 0; have zx1 := hG1a.cell 1; have zx2 := hG1a.cell 2; have zx3 := hG1a.cell 3; have zx4 := hG1a.cell 4; have zx5 := hG1a.cell 5; have zx6 := hG1a.cell 6
              simp at zx0 zx1 zx2 zx3 zx4 zx5 zx6
              rw [if_pos (by rfl)]
              go_simp
              exact hK (.agg #[.string ⟨x.id.toArray⟩, .string ⟨x.cust.toArray⟩, .int .i64 x.kind, .string ⟨x.name.toArray⟩, .int .i64 x.tm, .string ⟨x.par.toArray⟩, .string ⟨x.text.toArray⟩]) _ (hI.next hR (by kernel_rfl) (Mod.refl _ _) (PB.quiet hI.1 (Mod.refl _ _) (HGs.out D 0 zw1 zw1 (hI.1).g (Mod.refl _ _))) (upd_same V 0 _))
            · intro D V zw1 a hR hI K hK
              obtain ⟨hM1, hB1, hG1⟩ := hI.1
              obtain ⟨hG1a, hG1b⟩ := hG1
              have zd0 := hR.pred 0 (by kernel_rfl)
              have zF0 : V 0 = .agg #[.string ⟨x.id.toArray⟩, .string ⟨x.cust.toArray⟩, .int .i64 x.kind, .string ⟨x.name.toArray⟩, .int .i64 x.tm, .string ⟨x.par.toArray⟩, .string ⟨x.text.toArray⟩] := hI.2 0 zd0 rfl
              have zf0 := zF0; clear zF0
              have ze28 := hR.frame.done (t := 28) (j := 0) (by kernel_rfl) hR.ok zd0
              rw [if_pos (by rfl)]
              go_simp
              refine (HCI.out _ (hm.trans hM1)).mono ?_
              rintro e zw2 ⟨rfl, hm2⟩
              exact hK (.int .i64 e1) _ (hI.next hR (by kernel_rfl) hm2 (PB.quiet hI.1 hm2 (HGs.out D 1 _ _ (hI.1).g hm2)) (upd_same V 1 _))
            · intro D V zw1 a hR hI K hK
              obtain ⟨hM1, hB1, hG1⟩ := hI.1
              obtain ⟨hG1a, hG1b⟩ := hG1
              have ze3 := hR.frame.other (t := 3) (by kernel_rfl) rfl
              rw [if_pos (by rfl)]
              go_simp
              exact hK (.int .i64 ((j : Int) + 1)) _ (hI.next hR (by kernel_rfl) (Mod.refl _ _) (PB.quiet hI.1 (Mod.refl _ _) (HGs.out D 2 zw1 zw1 (hI.1).g (Mod.refl _ _))) (upd_same V 2 _))
            · intro D V zw1 a hR hI K hK
              obtain ⟨hM1, hB1, hG1⟩ := hI.1
              obtain ⟨hG1a, hG1b⟩ := hG1
              have zd2 := hR.pred 2 (by kernel_rfl)
              have zF2 : V 2 = .int .i64 ((j : Int) + 1) := hI.2 2 zd2 rfl
              have zf2 := zF2; clear zF2
              have ze30 := hR.frame.done (t := 30) (j := 2) (by kernel_rfl) hR.ok zd2
              have i0 : (0 : Int) < (j : Int) + 1 := by omega
              rw [if_pos (by rfl)]
              go_simp
              exact hK (.bool true) _ (hI.next hR (by kernel_rfl) (Mod.refl _ _) (PB.quiet hI.1 (Mod.refl _ _) (HGs.out D 3 zw1 zw1 (hI.1).g (Mod.refl _ _))) (upd_same V 3 _))
            · intro D V zw1 a hR hI K hK
              obtain ⟨hM1, hB1, hG1⟩ := hI.1
              obtain ⟨hG1a, hG1b⟩ := hG1
              have zd3 := hR.pred 3 (by kernel_rfl)
              have zF3 : V 3 = .bool true := hI.2 3 zd3 rfl
              have zf3 := zF3; clear zF3
              have ze31 := hR.frame.done (t := 31) (j := 3) (by kernel_rfl) hR.ok zd3
              rw [if_pos (by rfl)]
              go_simp
              exact hK (.bool true) _ (hI.next hR (by kernel_rfl) (Mod.refl _ _) (PB.quiet hI.1 (Mod.refl _ _) (HGs.out D 4 zw1 zw1 (hI.1).g (Mod.refl _ _))) (upd_same V 4 _))
            · intro D V zw1 a hR hI K hK
              obtain ⟨hM1, hB1, hG1⟩ := hI.1
              obtain ⟨hG1a, hG1b⟩ := hG1
              have zd4 := hR.pred 4 (by kernel_rfl)
              have zF4 : V 4 = .bool true := hI.2 4 zd4 rfl
              have zf4 := zF4; clear zF4
              have ze4 := hR.frame.other (t := 4) (by kernel_rfl) rfl
              have ze32 := hR.frame.done (t := 32) (j := 4) (by kernel_rfl) hR.ok zd4
              rw [if_pos (by simp [Region.wanted, yielded, ze32, zf4])]
              go_simp
              exact hK (.pointer (some ⟨gs, 0, none⟩)) _ (hI.next hR (by kernel_rfl) (Mod.refl _ _) (PB.quiet hI.1 (Mod.refl _ _) (HGs.out D 5 zw1 zw1 (hI.1).g (Mod.refl _ _))) (upd_same V 5 _))
            · intro D V zw1 a hR hI K hK
              obtain ⟨hM1, hB1, hG1⟩ := hI.1
              obtain ⟨hG1a, hG1b⟩ := hG1
              have zd5 := hR.pred 5 (by kernel_rfl)
              have zF5 : V 5 = .pointer (some ⟨gs, 0, none⟩) := hI.2 5 zd5 rfl
              have zf5 := zF5; clear zF5
              have zd4 := hR.pred 4 (by kernel_rfl)
              have zF4 : V 4 = .bool true := hI.2 4 zd4 rfl
              have zf4 := zF4; clear zF4
              have ze33 := hR.frame.done (t := 33) (j := 5) (by kernel_rfl) hR.ok zd5
              have zx0 := hG1a.cell 0; have zx1 := hG1a.cell 1; have zx2 := hG1a.cell 2; have zx3 := hG1a.cell 3; have zx4 := hG1a.cell 4; have zx5 := hG1a.cell 5; have zx6 := hG1a.cell 6
              simp at zx0 zx1 zx2 zx3 zx4 zx5 zx6
              have ze32 := hR.frame.done (t := 32) (j := 4) (by kernel_rfl) hR.ok zd4
              rw [if_pos (by simp [Region.wanted, yielded, ze32, zf4])]
              go_simp
              exact hK (.string ⟨x.id.toArray⟩) _ (hI.next hR (by kernel_rfl) (Mod.refl _ _) (PB.quiet hI.1 (Mod.refl _ _) (HGs.out D 6 zw1 zw1 (hI.1).g (Mod.refl _ _))) (upd_same V 6 _))
            · intro D V zw1 a hR hI K hK
              obtain ⟨hM1, hB1, hG1⟩ := hI.1
              obtain ⟨hG1a, hG1b⟩ := hG1
              have zd4 := hR.pred 4 (by kernel_rfl)
              have zF4 : V 4 = .bool true := hI.2 4 zd4 rfl
              have zf4 := zF4; clear zF4
              have ze0 := hR.frame.other (t := 0) (by kernel_rfl) rfl
              have ze32 := hR.frame.done (t := 32) (j := 4) (by kernel_rfl) hR.ok zd4
              rw [if_pos (by simp [Region.wanted, yielded, ze32, zf4])]
              go_simp
              exact hK (.slice (some ⟨g, off, none⟩) xs.length c) _ (hI.next hR (by kernel_rfl) (Mod.refl _ _) (PB.quiet hI.1 (Mod.refl _ _) (HGs.out D 7 zw1 zw1 (hI.1).g (Mod.refl _ _))) (upd_same V 7 _))
            · intro D V zw1 a hR hI K hK
              obtain ⟨hM1, hB1, hG1⟩ := hI.1
              obtain ⟨hG1a, hG1b⟩ := hG1
              have zd4 := hR.pred 4 (by kernel_rfl)
              have zF4 : V 4 = .bool true := hI.2 4 zd4 rfl
              have zf4 := zF4; clear zF4
              have ze3 := hR.frame.other (t := 3) (by kernel_rfl) rfl
              have ze32 := hR.frame.done (t := 32) (j := 4) (by kernel_rfl) hR.ok zd4
              rw [if_pos (by simp [Region.wanted, yielded, ze32, zf4])]
              go_simp
              exact hK (.int .i64 ((j : Int) + 1)) _ (hI.next hR (by kernel_rfl) (Mod.refl _ _) (PB.quiet hI.1 (Mod.refl _ _) (HGs.out D 8 zw1 zw1 (hI.1).g (Mod.refl _ _))) (upd_same V 8 _))
            · intro D V zw1 a hR hI K hK
              obtain ⟨hM1, hB1, hG1⟩ := hI.1
              obtain ⟨hG1a, hG1b⟩ := hG1
              have zd8 := hR.pred 8 (by kernel_rfl)
              have zF8 : V 8 = .int .i64 ((j : Int) + 1) := hI.2 8 zd8 rfl
              have zf8 := zF8; clear zF8
              have zd4 := hR.pred 4 (by kernel_rfl)
              have zF4 : V 4 = .bool true := hI.2 4 zd4 rfl
              have zf4 := zF4; clear zF4
              have ze36 := hR.frame.done (t := 36) (j := 8) (by kernel_rfl) hR.ok zd8
              have hmx : (if ((j : Int) + 1) < 1 then (1 : Int) else (j : Int) + 1) = (j : Int) + 1 := if_neg (by omega)
              have hmx2 : max ((j : Int) + 1) 1 = (j : Int) + 1 := by omega
              have ze32 := hR.frame.done (t := 32) (j := 4) (by kernel_rfl) hR.ok zd4
              rw [if_pos (by simp [Region.wanted, yielded, ze32, zf4])]
              go_simp
              exact hK (.int .i64 ((j : Int) + 1)) _ (hI.next hR (by kernel_rfl) (Mod.refl _ _) (PB.quiet hI.1 (Mod.refl _ _) (HGs.out D 9 zw1 zw1 (hI.1).g (Mod.refl _ _))) (upd_same V 9 _))
            · intro D V zw1 a hR hI K hK
              obtain ⟨hM1, hB1, hG1⟩ := hI.1
              obtain ⟨hG1a, hG1b⟩ := hG1
              have zd9 := hR.pred 9 (by kernel_rfl)
              have zF9 : V 9 = .int .i64 ((j : Int) + 1) := hI.2 9 zd9 rfl
              have zf9 := zF9; clear zF9
              have zd4 := hR.pred 4 (by kernel_rfl)
              have zF4 : V 4 = .bool true := hI.2 4 zd4 rfl
              have zf4 := zF4; clear zF4
              have ze37 := hR.frame.done (t := 37) (j := 9) (by kernel_rfl) hR.ok zd9
              have hw : IntKind.i64.wrap (j : Int) = (j : Int) := IntWalk.i64_in _ (by omega)
              have ze32 := hR.frame.done (t := 32) (j := 4) (by kernel_rfl) hR.ok zd4
              rw [if_pos (by simp [Region.wanted, yielded, ze32, zf4])]
              go_simp
              exact hK (.int .i64 (j : Int)) _ (hI.next hR (by kernel_rfl) (Mod.refl _ _) (PB.quiet hI.1 (Mod.refl _ _) (HGs.out D 10 zw1 zw1 (hI.1).g (Mod.refl _ _))) (upd_same V 10 _))
            · intro D V zw1 a hR hI K hK
              obtain ⟨hM1, hB1, hG1⟩ := hI.1
              obtain ⟨hG1a, hG1b⟩ := hG1
              have zd7 := hR.pred 7 (by kernel_rfl)
              have zF7 : V 7 = .slice (some ⟨g, off, none⟩) xs.length c := hI.2 7 zd7 rfl
              have zf7 := zF7; clear zF7
              have zd10 := hR.pred 10 (by kernel_rfl)
              have zF10 : V 10 = .int .i64 (j : Int) := hI.2 10 zd10 rfl
              have zf10 := zF10; clear zF10
              have zd4 := hR.pred 4 (by kernel_rfl)
              have zF4 : V 4 = .bool true := hI.2 4 zd4 rfl
              have zf4 := zF4; clear zF4
              have ze35 := hR.frame.done (t := 35) (j := 7) (by kernel_rfl) hR.ok zd7
              have ze38 := hR.frame.done (t := 38) (j := 10) (by kernel_rfl) hR.ok zd10
              have i3 : (0 : Int) ≤ (j : Int) := by omega
              have i4 : (j : Int) < (xs.length : Int) := by omega
              have ze32 := hR.frame.done (t := 32) (j := 4) (by kernel_rfl) hR.ok zd4
              rw [if_pos (by simp [Region.wanted, yielded, ze32, zf4])]
              go_simp
              exact hK (.pointer (some ⟨g, off + j * 7, none⟩)) _ (hI.next hR (by kernel_rfl) (Mod.refl _ _) (PB.quiet hI.1 (Mod.refl _ _) (HGs.out D 11 zw1 zw1 (hI.1).g (Mod.refl _ _))) (upd_same V 11 _))
            · intro D V zw1 a hR hI K hK
              obtain ⟨hM1, hB1, hG1⟩ := hI.1
              obtain ⟨hG1a, hG1b⟩ := hG1
              have zd11 := hR.pred 11 (by kernel_rfl)
              have zF11 : V 11 = .pointer (some ⟨g, off + j * 7, none⟩) := hI.2 11 zd11 rfl
              have zf11 := zF11; clear zF11
              have zd4 := hR.pred 4 (by kernel_rfl)
              have zF4 : V 4 = .bool true := hI.2 4 zd4 rfl
              have zf4 := zF4; clear zF4
              have ze39 := hR.frame.done (t := 39) (j := 11) (by kernel_rfl) hR.ok zd11
              have ze32 := hR.frame.done (t := 32) (j := 4) (by kernel_rfl) hR.ok zd4
              rw [if_pos (by simp [Region.wanted, yielded, ze32, zf4])]
              go_simp
              exact hK (.pointer (some ⟨g, off + j * 7, none⟩)) _ (hI.next hR (by kernel_rfl) (Mod.refl _ _) (PB.quiet hI.1 (Mod.refl _ _) (HGs.out D 12 zw1 zw1 (hI.1).g (Mod.refl _ _))) (upd_same V 12 _))
            · intro D V zw1 a hR hI K hK
              obtain ⟨hM1, hB1, hG1⟩ := hI.1
              obtain ⟨hG1a, hG1b⟩ := hG1
              have zd12 := hR.pred 12 (by kernel_rfl)
              have zF12 : V 12 = .pointer (some ⟨g, off + j * 7, none⟩) := hI.2 12 zd12 rfl
              have zf12 := zF12; clear zF12
              have zd4 := hR.pred 4 (by kernel_rfl)
              have zF4 : V 4 = .bool true := hI.2 4 zd4 rfl
              have zf4 := zF4; clear zF4
              have ze40 := hR.frame.done (t := 40) (j := 12) (by kernel_rfl) hR.ok zd12
              have ze32 := hR.frame.done (t := 32) (j := 4) (by kernel_rfl) hR.ok zd4
              rw [if_pos (by simp [Region.wanted, yielded, ze32, zf4])]
              go_simp
              exact hK (.string ⟨y.id.toArray⟩) _ (hI.next hR (by kernel_rfl) (Mod.refl _ _) (PB.quiet hI.1 (Mod.refl _ _) (HGs.out D 13 zw1 zw1 (hI.1).g (Mod.refl _ _))) (upd_same V 13 _))
            · intro D V zw1 a hR hI K hK
              obtain ⟨hM1, hB1, hG1⟩ := hI.1
              obtain ⟨hG1a, hG1b⟩ := hG1
              have zd6 := hR.pred 6 (by kernel_rfl)
              have zF6 : V 6 = .string ⟨x.id.toArray⟩ := hI.2 6 zd6 rfl
              have zf6 := zF6; clear zF6
              have zd13 := hR.pred 13 (by kernel_rfl)
              have zF13 : V 13 = .string ⟨y.id.toArray⟩ := hI.2 13 zd13 rfl
              have zf13 := zF13; clear zF13
              have zd4 := hR.pred 4 (by kernel_rfl)
              have zF4 : V 4 = .bool true := hI.2 4 zd4 rfl
              have zf4 := zF4; clear zF4
              have ze34 := hR.frame.done (t := 34) (j := 6) (by kernel_rfl) hR.ok zd6
              have ze41 := hR.frame.done (t := 41) (j := 13) (by kernel_rfl) hR.ok zd13
              have hbo := HBO.out
              have ze32 := hR.frame.done (t := 32) (j := 4) (by kernel_rfl) hR.ok zd4
              rw [if_pos (by simp [Region.wanted, yielded, ze32, zf4])]
              go_simp
              exact hK (.bool bo) _ (hI.next hR (by kernel_rfl) (Mod.refl _ _) (PB.quiet hI.1 (Mod.refl _ _) (HGs.out D 14 zw1 zw1 (hI.1).g (Mod.refl _ _))) (upd_same V 14 _))
            · intro D V zw1 a hR hI K hK
              obtain ⟨hM1, hB1, hG1⟩ := hI.1
              obtain ⟨hG1a, hG1b⟩ := hG1
              have zd4 := hR.pred 4 (by kernel_rfl)
              have zF4 : V 4 = .bool true := hI.2 4 zd4 rfl
              have zf4 := zF4; clear zF4
              have zd14 := hR.pred 14 (by kernel_rfl)
              have zF14 : V 14 = .bool bo := hI.2 14 zd14 rfl
              have zf14 := zF14; clear zF14
              have ze32 := hR.frame.done (t := 32) (j := 4) (by kernel_rfl) hR.ok zd4
              have ze42 := hR.frame.done (t := 42) (j := 14) (by kernel_rfl) hR.ok zd14
              rw [if_pos (by rfl)]
              go_simp
              exact hK (.bool bo) _ (hI.next hR (by kernel_rfl) (Mod.refl _ _) (PB.quiet hI.1 (Mod.refl _ _) (HGs.out D 15 zw1 zw1 (hI.1).g (Mod.refl _ _))) (upd_same V 15 _))
            · intro D V zw1 a hR hI K hK
              obtain ⟨hM1, hB1, hG1⟩ := hI.1
              obtain ⟨hG1a, hG1b⟩ := hG1
              have zd15 := hR.pred 15 (by kernel_rfl)
              have zF15 : V 15 = .bool bo := hI.2 15 zd15 rfl
              have zf15 := zF15; clear zF15
              have ze43 := hR.frame.done (t := 43) (j := 15) (by kernel_rfl) hR.ok zd15
              rw [if_pos (by rfl)]
              go_simp
              refine (HWF.out _).mono ?_
              rintro e zw2 ⟨rfl, rfl⟩
              have hm2 : Pure zw1 zw1 := Mod.refl _ _
              exact hK (.int .i64 e2) _ (hI.next hR (by kernel_rfl) hm2 (PB.quiet hI.1 hm2 (HGs.out D 16 _ _ (hI.1).g hm2)) (upd_same V 16 _))
            · intro D V zw1 a hR hI K hK
              obtain ⟨hM1, hB1, hG1⟩ := hI.1
              obtain ⟨hG1a, hG1b⟩ := hG1
              have zd1 := hR.pred 1 (by kernel_rfl)
              have zF1 : V 1 = .int .i64 e1 := hI.2 1 zd1 rfl
              have zf1 := zF1; clear zF1
              have zd16 := hR.pred 16 (by kernel_rfl)
              have zF16 : V 16 = .int .i64 e2 := hI.2 16 zd16 rfl
              have zf16 := zF16; clear zF16
              have ze29 := hR.frame.done (t := 29) (j := 1) (by kernel_rfl) hR.ok zd1
              have ze44 := hR.frame.done (t := 44) (j := 16) (by kernel_rfl) hR.ok zd16
              rw [if_pos (by rfl)]
              go_simp
              exact hK (_) _ (hI.next hR (by kernel_rfl) ((Mod.refl _ _).alloc _) (PB.quiet hI.1 (pure_alloc _ _) (HGs.out D 17 _ _ (hI.1).g ((Mod.refl _ _).alloc _))) (⟨_, upd_same V 17 _, (by omega), (Blk.new _ _ _)⟩))
            · intro D V zw1 a hR hI K hK
              obtain ⟨hM1, hB1, hG1⟩ := hI.1
              obtain ⟨hG1a, hG1b⟩ := hG1
              have zd17 := hR.pred 17 (by kernel_rfl)
              have zF17 : ∃ (g_17 : Nat), V 17 = .slice (some ⟨g_17, 0, none⟩) 2 2 ∧ WS.heap.size ≤ g_17 ∧ Blk zw1 g_17 35 #[.int .i64 e1, .int .i64 e2] := hI.2 17 zd17 (by show (!D 18) = true; rw [hR.not]; rfl)
              obtain ⟨g_17, zf17, c17_0, b17_0⟩ := zF17
              have ze45 := hR.frame.done (t := 45) (j := 17) (by kernel_rfl) hR.ok zd17
              rw [if_pos (by rfl)]
              go_simp
              refine (HFE.out _ _ _ b17_0).mono ?_
              rintro e zw2 ⟨rfl, hm2⟩
              exact hK (.int .i64 er) _ (hI.next hR (by kernel_rfl) hm2 (PB.quiet hI.1 hm2 (HGs.out D 18 _ _ (hI.1).g hm2)) (upd_same V 18 _))
            · intro D V zw1 a hR hI K hK
              obtain ⟨hM1, hB1, hG1⟩ := hI.1
              obtain ⟨hG1a, hG1b⟩ := hG1
              have zd18 := hR.pred 18 (by kernel_rfl)
              have zF18 : V 18 = .int .i64 er := hI.2 18 zd18 rfl
              have zf18 := zF18; clear zF18
              have ze46 := hR.frame.done (t := 46) (j := 18) (by kernel_rfl) hR.ok zd18
              rw [if_pos (by rfl)]
              go_simp
              exact hK (.int .i64 er) _ (hI.next hR (by kernel_rfl) (Mod.refl _ _) (PB.quiet hI.1 (Mod.refl _ _) (HGs.out D 19 zw1 zw1 (hI.1).g (Mod.refl _ _))) (upd_same V 19 _))
          · intro D V w1 hD hI
            obtain ⟨hM1, hB1, hG1⟩ := hI.1
            have hMx := hM1
            clear hM1
            have hBx := hB1
            clear hB1
            have hGx := hG1
            clear hG1
            have zF0 : V 0 = .agg #[.string ⟨x.id.toArray⟩, .string ⟨x.cust.toArray⟩, .int .i64 x.kind, .string ⟨x.name.toArray⟩, .int .i64 x.tm, .string ⟨x.par.toArray⟩, .string ⟨x.text.toArray⟩] := hI.2 0 (hD 0 (by decide)) rfl
            have zf0 := zF0; clear zF0
            have zF1 : V 1 = .int .i64 e1 := hI.2 1 (hD 1 (by decide)) rfl
            have zf1 := zF1; clear zF1
            have zF2 : V 2 = .int .i64 ((j : Int) + 1) := hI.2 2 (hD 2 (by decide)) rfl
            have zf2 := zF2; clear zF2
            have zF3 : V 3 = .bool true := hI.2 3 (hD 3 (by decide)) rfl
            have zf3 := zF3; clear zF3
            have zF4 : V 4 = .bool true := hI.2 4 (hD 4 (by decide)) rfl
            have zf4 := zF4; clear zF4
            have zF5 : V 5 = .pointer (some ⟨gs, 0, none⟩) := hI.2 5 (hD 5 (by decide)) rfl
            have zf5 := zF5; clear zF5
            have zF6 : V 6 = .string ⟨x.id.toArray⟩ := hI.2 6 (hD 6 (by decide)) rfl
            have zf6 := zF6; clear zF6
            have zF7 : V 7 = .slice (some ⟨g, off, none⟩) xs.length c := hI.2 7 (hD 7 (by decide)) rfl
            have zf7 := zF7; clear zF7
            have zF8 : V 8 = .int .i64 ((j : Int) + 1) := hI.2 8 (hD 8 (by decide)) rfl
            have zf8 := zF8; clear zF8
            have zF9 : V 9 = .int .i64 ((j : Int) + 1) := hI.2 9 (hD 9 (by decide)) rfl
            have zf9 := zF9; clear zF9
            have zF10 : V 10 = .int .i64 (j : Int) := hI.2 10 (hD 10 (by decide)) rfl
            have zf10 := zF10; clear zF10
            have zF11 : V 11 = .pointer (some ⟨g, off + j * 7, none⟩) := hI.2 11 (hD 11 (by decide)) rfl
            have zf11 := zF11; clear zF11
            have zF12 : V 12 = .pointer (some ⟨g, off + j * 7, none⟩) := hI.2 12 (hD 12 (by decide)) rfl
            have zf12 := zF12; clear zF12
            have zF13 : V 13 = .string ⟨y.id.toArray⟩ := hI.2 13 (hD 13 (by decide)) rfl
            have zf13 := zF13; clear zF13
            have zF14 : V 14 = .bool bo := hI.2 14 (hD 14 (by decide)) rfl
            have zf14 := zF14; clear zF14
            have zF15 : V 15 = .bool bo := hI.2 15 (hD 15 (by decide)) rfl
            have zf15 := zF15; clear zF15
            have zF16 : V 16 = .int .i64 e2 := hI.2 16 (hD 16 (by decide)) rfl
            have zf16 := zF16; clear zF16
            have zF18 : V 18 = .int .i64 er := hI.2 18 (hD 18 (by decide)) rfl
            have zf18 := zF18; clear zF18
            have zF19 : V 19 = .int .i64 er := hI.2 19 (hD 19 (by decide)) rfl
            have zf19 := zF19; clear zF19
            clear hI hD HGs
            simp only [frAll, Act.put, List.setIfInBounds_toArray, List.set_cons_zero, List.set_cons_succ, Nat.zero_add, Nat.reduceAdd, zf0, zf1, zf2, zf3, zf4, zf5, zf6, zf7, zf8, zf9, zf10, zf11, zf12, zf13, zf14, zf15, zf16, zf18, zf19]
            clear zf0 zf1 zf2 zf3 zf4 zf5 zf6 zf7 zf8 zf9 zf10 zf11 zf12 zf13 zf14 zf15 zf16 zf18 zf19
            generalize V 17 = u17
            clear V D
            go_wp2_with fail
            go_meet
            exact ⟨rfl, hMx⟩
        case rest =>
          obtain ⟨rfl, m1⟩ := hcut
          have m2 := hm.trans m1
          have hr2 := firstErr2 HER.out
          have HR2 := Lib.hid hr2
          clear HCI HFE HWF HB0 Hm0 WS hr2 HBO hy1
          by_cases he0 : er = 0
          · have he1 : e1 = 0 ∧ e2 = 0 := by
              have := HR2.out
              rw [he0] at this
              by_cases h : e1 = 0
              · rw [if_neg (by simpa using h)] at this; exact ⟨h, this.symm⟩
              · rw [if_pos h] at this; exact absurd this.symm h
            have HS1 : Hid (ordE itemE [] xs = ordE itemE x.id (xs.drop (j + 1 + 1))) := Lib.hid (by
              rw [HST1.out, he1.1]
              have h2 := HE2.out
              rw [he1.2] at h2
              cases bo
              · simp
              · simp at h2)
            clear HST1 HR2 HER HE2 he1
            subst he0
            go_wp2_with fail
            go_roundg (xs.length - (j + 1 + 1))
            case measure => omega
            case rel => exact ⟨j + 1 + 1, rfl, by omega, by simp, by rw [HPI.out, HS1.out], m2⟩
          · have he0' : (er != 0) = true := by simpa using he0
            have hx : ordE itemE [] xs = er := by
              have h1 := HR2.out
              rw [HST1.out]
              by_cases h : e1 = 0
              · rw [if_neg (by simpa using h)] at h1
                rw [if_neg (by simpa using h)]
                have h2 := HE2.out
                cases bo
                · simp at h2
                  rw [h1, ← h2] at he0
                  exact absurd rfl he0
                · simp at h2
                  rw [h1, ← h2]
                  rfl
              · rw [if_pos h] at h1
                rw [if_pos h, h1]
            have HF : Hid (itsE itemE xs = er) := Lib.hid (by rw [HIE.out, hx, if_pos he0])
            clear HST1 HR2 HER HE2 hx HIE
            go_wp2_with fail
            go_ret
            exact IntPost.of HF.out m2
    · have hke : k = xs.length := by omega
      have ho : ordE itemE [] xs = 0 := by
        rw [← hord, hke, List.drop_of_length_le (Nat.le_refl _)]
        rfl
      have hd := ids_of_ordE ho
      have HD := Lib.hid hd
      have HIE2 : Hid (itsE itemE xs = if xs.any (missB xs) then 8 else treeE xs) := Lib.hid (by rw [HIE.out, ho]; rfl)
      clear hd ho HIE hord hke
      go_wp2_with fail
      refine (HBY.out _ hm HD.out).mono ?_
      rintro e w1 ⟨b, rfl, hb, hM1, m1⟩
      have m2 := hm.trans m1
      clear HBY hm m1 hb hlt hk
      go_wp2_with fail
      go_loopg [55] xs.length (fun gk i wr => Ck2 w b xs gk i wr)
      case atStart => exact ⟨0, by omega, by omega, rfl, rfl, hM1, m2⟩
      case round =>
        clear m2 hM1
        obtain ⟨k, rfl, hk, rfl, hno, hM, hm⟩ := hrel
        have hblt := hM.lt
        by_cases hlt : k < xs.length
        · obtain ⟨g, off, rfl, hrow⟩ := HR.out (by omega)
          obtain ⟨q0, q1, q2, q3, q4, q5, q6⟩ := item_cells (hrow.mod hm id) hlt
          have hzx := (HZ.out _ (List.getElem_mem hlt)).2.2.2.1
          have HTK := Lib.hid (any_take_snoc (missB xs) xs k hlt)
          rw [hno] at HTK
          have HAT := Lib.hid (fun h => any_of_at (p := missB xs) hlt h)
          have HMF := Lib.hid (missB_fnd xs xs[k])
          clear hrow hno
          generalize xs[k] = x at *
          have hlook := (hM.alloc (.cells (itQ x) 71)).look_ok Tryz.underlying82 zero_item x.par (by omega)
          unfold byF at hlook
          have B0 := Blk.new wr 71 (itQ x)
          cases hf : fnd xs x.par with
          | none =>
            rw [hf] at hlook HMF
            simp only [Option.map_none, Option.getD_none, Option.isSome_none] at hlook
            have B1 := B0.alloc (.cells itZc 71)
            have HM1 := Lib.hid ((hM.alloc (.cells (itQ x) 71)).alloc (.cells itZc 71))
            have Hm1 := Lib.hid ((hm.alloc (.cells (itQ x) 71)).alloc (.cells itZc 71))
            unfold itZ at hlook
            unfold itQ at hlook B1 HM1 Hm1
            unfold itZc at B1 HM1 Hm1
            have c0 := B1.cell 0; have c1 := B1.cell 1; have c2 := B1.cell 2; have c3 := B1.cell 3; have c4 := B1.cell 4; have c5 := B1.cell 5; have c6 := B1.cell 6; simp at c0 c1 c2 c3 c4 c5 c6
            clear B0 B1 hf hM hm
            cases he : x.par.isEmpty
            · have HF : Hid (itsE itemE xs = 8) := Lib.hid (by rw [HIE2.out, HAT.out (by rw [HMF.out, he]; rfl)]; rfl)
              clear HTK HAT HMF HM1
              go_wp2_with fail
              go_ret
              exact IntPost.of HF.out Hm1.out
            · have HN : Hid ((xs.take (k + 1)).any (missB xs) = false) := Lib.hid (by rw [HTK.out, HMF.out, he]; rfl)
              clear HTK HAT HMF
              go_wp2_with fail
              go_roundg (xs.length - (k + 1))
              case measure => omega
              case rel => exact ⟨k + 1, rfl, by omega, by simp, HN.out, HM1.out, Hm1.out⟩
          | some p =>
            rw [hf] at hlook HMF
            simp only [Option.map_some, Option.getD_some, Option.isSome_some] at hlook
            have B1 := B0.alloc (.cells (itQ p) 71)
            have HM1 := Lib.hid ((hM.alloc (.cells (itQ x) 71)).alloc (.cells (itQ p) 71))
            have Hm1 := Lib.hid ((hm.alloc (.cells (itQ x) 71)).alloc (.cells (itQ p) 71))
            unfold itA at hlook
            unfold itQ at hlook B1 HM1 Hm1
            have c0 := B1.cell 0; have c1 := B1.cell 1; have c2 := B1.cell 2; have c3 := B1.cell 3; have c4 := B1.cell 4; have c5 := B1.cell 5; have c6 := B1.cell 6; simp at c0 c1 c2 c3 c4 c5 c6
            have HN : Hid ((xs.take (k + 1)).any (missB xs) = false) := Lib.hid (by rw [HTK.out, HMF.out]; simp)
            clear B0 B1 hf hM hm HTK HAT HMF
            cases he : x.par.isEmpty
            all_goals
              go_wp2_with fail
              go_roundg (xs.length - (k + 1))
              case measure => omega
              case rel => exact ⟨k + 1, rfl, by omega, by simp, HN.out, HM1.out, Hm1.out⟩
        · obtain rfl : k = xs.length := by omega
          rw [List.take_length] at hno
          have HIE3 : Hid (itsE itemE xs = treeE xs) := Lib.hid (by rw [HIE2.out, hno]; rfl)
          clear HIE2 hno hlt hk
          go_wp2_with fail
          go_loopg [76] xs.length (fun gk i wr => Ck3 w b xs gk i wr)
          case atStart => exact ⟨0, by omega, by omega, rfl, fun j h => absurd h (by omega), hM, hm⟩
          case round =>
            clear hM hm
            obtain ⟨k, rfl, hk, rfl, hno, hM, hm⟩ := hrel
            by_cases hlt : k < xs.length
            · obtain ⟨g, off, rfl, hrow⟩ := HR.out (by omega)
              obtain ⟨q0, q1, q2, q3, q4, q5, q6⟩ := item_cells (hrow.mod hm id) hlt
              have HNO := Lib.hid hno
              have HAT : Hid (lpB xs k = true → itsE itemE xs = 14) := Lib.hid (fun h => by
                rw [HIE3.out]
                unfold treeE
                rw [if_pos (List.any_eq_true.2 ⟨k, List.mem_range.2 hlt, h⟩)])
              have HAB := Lib.hid (iabove_calls (wr.alloc (.cells (itQ xs[k]) 71)) b xs xs[k] k (List.getElem?_eq_getElem hlt) (hM.alloc _) HZ.out HD.out (by omega))
              have Hm0 := Lib.hid (hm.alloc (.cells (itQ xs[k]) 71))
              have HM0 := Lib.hid (hM.alloc (.cells (itQ xs[k]) 71))
              clear hrow hno hM hm
              generalize xs[k] = x at *
              unfold itA at HAB
              unfold itQ at HAB Hm0 HM0
              go_wp2_with fail
              refine HAB.out.mono ?_
              rintro e w1 ⟨n, lp, rfl, hlp, _, m1⟩
              have m2 := Hm0.out.trans m1
              have hM2 := HM0.out.pure m1
              have HLP := Lib.hid hlp
              clear HAB hlp m1 Hm0 HM0 q0 q1 q2 q3 q4 q5 q6
              cases lp
              · have HN : Hid (∀ j, j < k + 1 → lpB xs j = false) := Lib.hid (fun j hj => by
                  rcases Nat.lt_or_ge j k with h | h
                  · exact HNO.out j h
                  · obtain rfl : j = k := by omega
                    exact HLP.out.symm)
                clear HAT HNO
                go_wp2_with fail
                go_roundg (xs.length - (k + 1))
                case measure => omega
                case rel => exact ⟨k + 1, rfl, by omega, by simp, HN.out, hM2, m2⟩
              · have HF := Lib.hid (HAT.out HLP.out.symm)
                clear HAT HNO HLP
                go_wp2_with fail
                go_ret
                exact IntPost.of HF.out m2
            · obtain rfl : k = xs.length := by omega
              have HIE4 : Hid (itsE itemE xs = firstE (depE xs) 0 xs.length) := Lib.hid (by
                rw [HIE3.out]
                unfold treeE
                rw [if_neg]
                intro h
                rw [List.any_eq_true] at h
                obtain ⟨j, hj, h⟩ := h
                rw [hno j (List.mem_range.1 hj)] at h
                cases h)
              have HNO := Lib.hid hno
              clear HIE3 hno hlt hk
              go_wp2_with fail
              go_loopg [90] xs.length (fun gk i wr => Ck4 w b xs gk i wr)
              case atStart => exact ⟨0, by omega, by omega, rfl, rfl, hM, hm⟩
              case round =>
                clear hM hm
                obtain ⟨k, rfl, hk, rfl, hfe, hM, hm⟩ := hrel
                by_cases hlt : k < xs.length
                · obtain ⟨g, off, rfl, hrow⟩ := HR.out (by omega)
                  obtain ⟨q0, q1, q2, q3, q4, q5, q6⟩ := item_cells (hrow.mod hm id) hlt
                  rw [firstE_step _ hlt] at hfe
                  have HFE := Lib.hid hfe
                  have HPL := Lib.hid (placed_calls (wr.alloc (.cells (itQ xs[k]) 71)) b xs xs[k] k (List.getElem?_eq_getElem hlt) (hM.alloc _) HZ.out HD.out (by omega) (HNO.out k hlt))
                  have Hm0 := Lib.hid (hm.alloc (.cells (itQ xs[k]) 71))
                  have HM0 := Lib.hid (hM.alloc (.cells (itQ xs[k]) 71))
                  clear hrow hfe hM hm
                  generalize xs[k] = x at *
                  generalize depE xs k = de at *
                  unfold itA at HPL
                  unfold itQ at HPL Hm0 HM0
                  go_wp2_with fail
                  refine HPL.out.mono ?_
                  rintro e w1 ⟨rfl, m1⟩
                  have m2 := Hm0.out.trans m1
                  have hM2 := HM0.out.pure m1
                  clear HPL m1 Hm0 HM0 q0 q1 q2 q3 q4 q5 q6
                  by_cases he : de = 0
                  · have HN : Hid (firstE (depE xs) (k + 1) (xs.length - (k + 1)) = firstE (depE xs) 0 xs.length) := Lib.hid (by
                      have := HFE.out
                      rwa [if_neg (by simpa using he)] at this)
                    clear HFE
                    subst he
                    go_wp2_with fail
                    go_roundg (xs.length - (k + 1))
                    case measure => omega
                    case rel => exact ⟨k + 1, rfl, by omega, by simp, HN.out, hM2, m2⟩
                  · have he' : (de != 0) = true := by simpa using he
                    have HF : Hid (itsE itemE xs = de) := Lib.hid (by
                      have := HFE.out
                      rw [if_pos he] at this
                      rw [HIE4.out, ← this])
                    clear HFE
                    go_wp2_with fail
                    go_ret
                    exact IntPost.of HF.out m2
                · obtain rfl : k = xs.length := by omega
                  have HF : Hid (itsE itemE xs = 0) := Lib.hid (by rw [HIE4.out, ← hfe, Nat.sub_self]; rfl)
                  clear hfe
                  go_wp2_with fail
                  go_ret
                  exact IntPost.of HF.out hm

end Go.Proofs.YtofkkenmkflmiaaGreatDoor

/- slices.Equal over strings: the same lists. -/
namespace Go.Proofs.YtofkkenmkflmiaaGreatDoor
set_option linter.unusedVariables false
set_option linter.unusedSimpArgs false
open Go.RowKit

set_option maxRecDepth 100000 in
set_option maxHeartbeats 2000000 in
theorem equalS_calls (w : World) (v1 v2 : Value) (xs : List Str) (h1 : Sl w 9 1 v1 (strsV xs)) (h2 : Sl w 9 1 v2 (strsV xs)) : Calls Tryz.prog 16 #[v1, v2] w (BoolPost w true) := by
  obtain ⟨A1, n1, c1, rfl, a1, a2, a3, a4⟩ := h1
  obtain ⟨A2, n2, c2, rfl, b1, b2, b3, b4⟩ := h2
  have hn1 : xs.length = n1 := by simpa [strsV] using a3
  have hn2 : xs.length = n2 := by simpa [strsV] using b3
  subst hn1
  subst hn2
  have HA := Lib.hid a4
  have HB := Lib.hid b4
  have hne : ((xs.length : Int) != (xs.length : Int)) = false := by simp
  clear a3 b3 a4 b4
  go_enter Tryz.func16, Tryz.ntmps16
  go_wp2_with fail
  go_loopg [13] xs.length (fun gk i wr => ∃ k : Nat, xs.length - k = gk ∧ k ≤ xs.length ∧ i = .int .i64 (k : Int) ∧ Pure w wr)
  case atStart => exact ⟨0, by omega, by omega, rfl, Mod.refl _ _⟩
  case round =>
    obtain ⟨k, rfl, hk, rfl, hm⟩ := hrel
    by_cases hlt : k < xs.length
    · obtain ⟨g1, o1, rfl, r1⟩ := HA.out (by omega)
      obtain ⟨g2, o2, rfl, r2⟩ := HB.out (by omega)
      have q1 := (r1.mod hm id).cell (strsV_get xs k hlt)
      have q2 := (r2.mod hm id).cell (strsV_get xs k hlt)
      have t1 : (xs[k] != xs[k]) = false := by simp
      have i1 : (0 : Int) ≤ (k : Int) := by omega
      have i2 : (k : Int) < (xs.length : Int) := by omega
      clear r1 r2
      generalize xs[k] = x at *
      go_wp2_with fail
      go_quiet (fail)
      go_wp2_with fail
      go_roundg (xs.length - (k + 1))
      case measure => omega
      case rel => exact ⟨k + 1, rfl, by omega, by simp, hm.drewN _⟩
    · have hke : k = xs.length := by omega
      subst hke
      go_wp2_with fail
      go_ret
      exact BoolPost.of rfl hm

end Go.Proofs.YtofkkenmkflmiaaGreatDoor
