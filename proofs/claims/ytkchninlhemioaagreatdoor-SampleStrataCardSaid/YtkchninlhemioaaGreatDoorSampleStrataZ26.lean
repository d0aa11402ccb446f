/- Texts of the proof of SampleStrata, put together: LeastA. -/
import Derived.Test.YtkchninlhemioaaGreatDoorSampleStrataZ8
import Derived.Test.YtkchninlhemioaaGreatDoorSampleStrataZ11
import Derived.Test.YtkchninlhemioaaGreatDoorSampleStrataZ20
import Derived.Test.YtkchninlhemioaaGreatDoorSampleStrataZ22
import Derived.Sort.OwnSorted
import Derived.Sort.Walk0
/- Ids by hash: cmp.Or, cmp.Compare, the order of sample.least. -/
namespace Go.Proofs.YtkchninlhemioaaGreatDoor
set_option linter.unusedVariables false
set_option linter.unusedSimpArgs false
open Go.RowKit

theorem firstErr_zero : ∀ {l : List Int}, firstErr l = 0 → ∀ x ∈ l, x = 0
  | [], _, x, hx => absurd hx (by simp)
  | e :: l, h, x, hx => by
    unfold firstErr at h
    split at h
    · rename_i he
      rcases List.mem_cons.1 hx with rfl | hx
      · exact he
      · exact firstErr_zero h x hx
    · rename_i he
      exact absurd h he
theorem less_of_not_le {a b : Str} (h : leS a b = false) : b < a := by
  unfold leS at h
  rw [bytesLess_eq] at h
  simp at h
  refine Decidable.byContradiction fun hn => h.2 ?_
  exact str_total (by simpa using h.1) hn
theorem ids_sorted {ids : List Str} (h : idsE keyE ids = 0) : ids.Pairwise (· < ·) := by
  unfold idsE at h
  split at h
  · omega
  have h1 := firstErr_zero h
  have step : ∀ k, k + 1 < ids.length → ids.getD k [] < ids.getD (k + 1) [] := by
    intro k hk
    have h2 := h1 (idAt keyE ids (k + 1)) (List.mem_map.2 ⟨k + 1, by simpa using hk, rfl⟩)
    unfold idAt at h2
    split at h2
    · rename_i h3; exact absurd h2 h3
    · split at h2
      · omega
      · rename_i h3
        refine less_of_not_le ?_
        cases hl : leS (ids.getD (k + 1) []) (ids.getD k [])
        · rfl
        · exact absurd ⟨by omega, by simpa using hl⟩ h3
  have all : ∀ (d i : Nat), i + d + 1 < ids.length → ids.getD i [] < ids.getD (i + d + 1) [] := by
    intro d
    induction d with
    | zero => intro i hi; exact step i (by omega)
    | succ d ih => intro i hi; exact List.lt_trans (ih i (by omega)) (step (i + d + 1) (by omega))
  rw [List.pairwise_iff_getElem]
  intro i j hi hj hij
  have := all (j - i - 1) i (by omega)
  rw [show i + (j - i - 1) + 1 = j by omega] at this
  simpa [List.getD, hi, hj] using this

def NumD (w : World) (n : Int) (e : Ending) (w' : World) : Prop := e = .returned (.int .i64 n) ∧ ModD w w'
theorem hash_numD (w : World) (id seed : ByteArray) (h1 : id.size ≤ 1000) (h2 : seed.size ≤ 1000) :
    Calls Tryz.prog 37 #[.string id, .string seed] w (NumD w (hashN (seed.data.toList ++ 32 :: id.data.toList) : Nat)) := (hash_callsD w id seed h1 h2).mono fun _ _ h => ⟨h.1.1, h.1.2, h.2⟩

set_option maxRecDepth 100000 in
set_option maxHeartbeats 400000 in
theorem orI_calls (w : World) (g c : Nat) (es : List Int) (hb : RowAt w 3 g 0 (es.map (Value.int .i64))) (hl : es.length ≤ 1000) :
    Calls Tryz.prog 62 #[.slice (some ⟨g, 0, none⟩) es.length c] w (NumD w (firstErr es)) := by
  go_enter Tryz.func62, Tryz.ntmps62
  go_wp2_with fail
  go_loopg [8] es.length (fun gk i wr => ∃ k : Nat, es.length - k = gk ∧ k ≤ es.length ∧ i = .int .i64 (k : Int) ∧ firstErr (es.drop k) = firstErr es ∧ w = wr)
  case atStart => exact ⟨0, by omega, by omega, rfl, rfl, rfl⟩
  case round =>
    obtain ⟨k, rfl, hk, rfl, hf, rfl⟩ := hrel
    have HF := Lib.hid hf
    clear hf
    by_cases hlt : k < es.length
    · have hc := hb.cell (i := k) (u := .int .i64 es[k]) (by simp [hlt])
      rw [Nat.zero_add] at hc
      have hd : es.drop k = es[k] :: es.drop (k + 1) := List.drop_eq_getElem_cons hlt
      have hf2 : firstErr es = if es[k] = 0 then firstErr (es.drop (k + 1)) else es[k] := by rw [← HF.out, hd]; rfl
      have HF2 := Lib.hid hf2
      clear hd hf2
      generalize es[k] = x at *
      by_cases hx : x = 0
      · subst hx
        go_wp2_with fail
        go_roundg (es.length - (k + 1))
        case measure => omega
        case rel => exact ⟨k + 1, rfl, hlt, by simp, by rw [HF2.out]; simp, rfl⟩
      · have hx2 : (x != 0) = true := by simpa using hx
        go_wp2_with fail
        go_ret
        exact ⟨by rw [HF2.out, if_neg hx]; rfl, ModD.refl _⟩
    · have hke : k = es.length := by omega
      subst hke
      go_wp2_with fail
      go_ret
      exact ⟨by rw [← HF.out]; simp [firstErr], ModD.refl _⟩

/-- cmp.Compare of strings. -/
def cmpB (x y : Str) : Int := if Op.bytesLess x y then -1 else if x == y then 0 else 1
set_option maxRecDepth 100000 in
set_option maxHeartbeats 400000 in
theorem isNaNS_calls (x : Str) (w : World) : Calls Tryz.prog 92 #[.string ⟨x.toArray⟩] w fun e w' => e = .returned (.bool false) ∧ w = w' := by
  have hx : (x != x) = false := by simp
  go_enter Tryz.func92, Tryz.ntmps92
  go_wp2_with fail
  go_ret
  exact ⟨rfl, rfl⟩
set_option maxRecDepth 100000 in
set_option maxHeartbeats 400000 in
theorem cmpS_calls (x y : Str) (w : World) : Calls Tryz.prog 63 #[.string ⟨x.toArray⟩, .string ⟨y.toArray⟩] w (NumD w (cmpB x y)) := by
  have HC : Hid (cmpB x y = if Op.bytesLess x y then -1 else if x == y then 0 else 1) := Lib.hid rfl
  go_enter Tryz.func63, Tryz.ntmps63
  go_wp2_with fail
  refine (isNaNS_calls _ _).mono ?_
  rintro e w' ⟨rfl, rfl⟩
  go_wp2_with fail
  refine (isNaNS_calls _ _).mono ?_
  rintro e w' ⟨rfl, rfl⟩
  cases h1 : Op.bytesLess x y
  · cases h2 : (x == y)
    · go_wp2_with fail
      go_ret
      exact ⟨by rw [HC.out, h1, h2]; rfl, ModD.refl _⟩
    · go_wp2_with fail
      go_ret
      exact ⟨by rw [HC.out, h1, h2]; rfl, ModD.refl _⟩
  · go_wp2_with fail
    go_ret
    exact ⟨by rw [HC.out, h1]; rfl, ModD.refl _⟩

def hashB (seed id : Str) : Nat := hashN (seed ++ 32 :: id)
/-- The order of sample.least, as a number. -/
def leastCmp (seed x y : Str) : Int := firstErr [(hashB seed x : Int) - hashB seed y, cmpB x y]
theorem hashN_lt (l : List UInt8) : hashN l < 4294967296 := by
  unfold hashN
  have h := hmix_lt (hmix (hbytes l))
  exact xor_lt32 h (by omega)
theorem leastCmp_lt (seed x y : Str) : decide (leastCmp seed x y < 0) = true ↔ ltH (hashB seed) x y := by
  unfold leastCmp ltH cmpB
  simp only [firstErr, bytesLess_eq, decide_eq_true_eq]
  by_cases h1 : hashB seed x < hashB seed y
  · rw [if_neg (by omega)]
    exact ⟨fun _ => .inl h1, fun _ => by omega⟩
  · by_cases h2 : hashB seed x = hashB seed y
    · rw [if_pos (by omega)]
      by_cases h3 : x < y
      · simp [h1, h2, h3]
      · by_cases h4 : x = y
        · subst h4
          simp [h1]
        · simp [h1, h2, h3, h4]
    · rw [if_neg (by omega)]
      exact ⟨fun h => by omega, fun h => by omega⟩

set_option maxRecDepth 100000 in
set_option maxHeartbeats 2000000 in
theorem least1_calls (w : World) (x y seed : Str) (g : Nat) (hc : w.cell? ⟨g, 0, none⟩ = some (.string ⟨seed.toArray⟩)) (hx : x.length ≤ 1000) (hy : y.length ≤ 1000) (hs : seed.length ≤ 1000) :
    Calls Tryz.prog 61 #[.string ⟨x.toArray⟩, .string ⟨y.toArray⟩, .pointer (some ⟨g, 0, none⟩)] w (NumD w (leastCmp seed x y)) := by
  have y1 : (⟨x.toArray⟩ : ByteArray).size ≤ 1000 := by simp [ByteArray.size]; omega
  have y2 : (⟨y.toArray⟩ : ByteArray).size ≤ 1000 := by simp [ByteArray.size]; omega
  have y3 : (⟨seed.toArray⟩ : ByteArray).size ≤ 1000 := by simp [ByteArray.size]; omega
  have H1 := Lib.hid (fun W => hash_numD W ⟨x.toArray⟩ ⟨seed.toArray⟩ y1 y3)
  have H2 := Lib.hid (fun W => hash_numD W ⟨y.toArray⟩ ⟨seed.toArray⟩ y2 y3)
  have hb1 := hashN_lt (seed ++ 32 :: x)
  have hb2 := hashN_lt (seed ++ 32 :: y)
  have HL : Hid (leastCmp seed x y = firstErr [(hashN (seed ++ 32 :: x) : Int) - hashN (seed ++ 32 :: y), cmpB x y]) := Lib.hid rfl
  simp only at H1 H2
  generalize hashN (seed ++ 32 :: x) = h1 at *
  generalize hashN (seed ++ 32 :: y) = h2 at *
  generalize hcm : cmpB x y = cm at *
  have HCM := Lib.hid hcm
  clear hcm
  obtain ⟨d0, hd0⟩ : ∃ d0, d0 = w.drawn := ⟨_, rfl⟩
  have HD0 := Lib.hid hd0
  have hd1 : d0 ≤ w.drew.drawn := by rw [hd0]; exact Nat.le_succ _
  clear hd0
  go_enter Tryz.func61, Tryz.ntmps61
  go_wp2_with fail
  have HGs := Lib.hid (show ∀ (D : Nat → Bool) (i : Nat) (zq zq' : World), (fun _ zq => (fun W => W.cell? ⟨g, 0, none⟩ = some (.string ⟨seed.toArray⟩) ∧ d0 ≤ W.drawn) zq) D zq → ModD zq zq' → (fun _ zq => (fun W => W.cell? ⟨g, 0, none⟩ = some (.string ⟨seed.toArray⟩) ∧ d0 ≤ W.drawn) zq) (upd D i true) zq' from by intro D i zq zq' h hm; (exact ⟨keepp h.1 hm.1, Nat.le_trans h.2 hm.2⟩))
  refine wp_region_inv (by kernel_rfl) (by kernel_rfl) (InvF (R := ModD) [.is (.string ⟨x.toArray⟩),
      .is (.string ⟨seed.toArray⟩),
      .is (.int .i64 (h1 : Int)),
      .is (.string ⟨y.toArray⟩),
      .is (.string ⟨seed.toArray⟩),
      .is (.int .i64 (h2 : Int)),
      .is (.int .i64 ((h1 : Int) - h2)),
      .is (.string ⟨x.toArray⟩),
      .is (.string ⟨y.toArray⟩),
      .is (.int .i64 cm),
      ⟨fun zv zw => ∃ (g_10 : Nat), zv = .slice (some ⟨g_10, 0, none⟩) 2 2 ∧ w.heap.size ≤ g_10 ∧ Blk zw g_10 3 #[.int .i64 ((h1 : Int) - h2), .int .i64 cm], (by rintro zv zw zx ⟨g_10, rfl, c0, q0⟩ hm; exact ⟨g_10, rfl, c0, (q0.modp hm.1)⟩), none, some 11⟩,
      .is (.int .i64 (firstErr [(h1 : Int) - h2, cm])),
      .is (.int .i64 (firstErr [(h1 : Int) - h2, cm]))]
      (PB w (fun _ => False) w.heap.size (fun _ zq => (fun W => W.cell? ⟨g, 0, none⟩ = some (.string ⟨seed.toArray⟩) ∧ d0 ≤ W.drawn) zq))) (InvF.start (PB.start (Mod.refl _ _) (Nat.le_refl _) (⟨cell_drew hc, hd1⟩))) ?_ ?_
  · refine .cons ?_ (.cons ?_ (.cons ?_ (.cons ?_ (.cons ?_ (.cons ?_ (.cons ?_ (.cons ?_ (.cons ?_ (.cons ?_ (.cons ?_ (.cons ?_ (.cons ?_ .nil))))))))))))
    · intro D V zw1 a hR hI K hK   -- 0: Op.move (Operand.tmp 0)
      obtain ⟨hM1, hB1, hG1⟩ := hI.1
      obtain ⟨hG1c, hG1d⟩ := hG1
      have ze0 := hR.frame.other (t := 0) (by kernel_rfl) rfl
      rw [if_pos (by rfl)]
      go_simp
      exact hK (.string ⟨x.toArray⟩) _ (hI.next hR (by kernel_rfl) (ModD.refl _) (PB.quiet hI.1 (Mod.refl _ _) (HGs.out D 0 zw1 zw1 (hI.1).g (ModD.refl _))) (upd_same V 0 _))
    · intro D V zw1 a hR hI K hK   -- 1: Op.load 9 (Operand.tmp 2)
      obtain ⟨hM1, hB1, hG1⟩ := hI.1
      obtain ⟨hG1c, hG1d⟩ := hG1
      have ze2 := hR.frame.other (t := 2) (by kernel_rfl) rfl
      rw [if_pos (by rfl)]
      go_simp
      exact hK (.string ⟨seed.toArray⟩) _ (hI.next hR (by kernel_rfl) (ModD.refl _) (PB.quiet hI.1 (Mod.refl _ _) (HGs.out D 1 zw1 zw1 (hI.1).g (ModD.refl _))) (upd_same V 1 _))
    · intro D V zw1 a hR hI K hK   -- 2: Op.call { callee := Callee.value (Operand.func 37), args := #[Operand.
      obtain ⟨hM1, hB1, hG1⟩ := hI.1
      obtain ⟨hG1c, hG1d⟩ := hG1
      have zd0 := hR.pred 0 (by kernel_rfl)
      have zF0 : V 0 = .string ⟨x.toArray⟩ := hI.2 0 zd0 rfl
      have zf0 := zF0; clear zF0
      have zd1 := hR.pred 1 (by kernel_rfl)
      have zF1 : V 1 = .string ⟨seed.toArray⟩ := hI.2 1 zd1 rfl
      have zf1 := zF1; clear zF1
      have ze6 := hR.frame.done (t := 6) (j := 0) (by kernel_rfl) hR.ok zd0
      have ze7 := hR.frame.done (t := 7) (j := 1) (by kernel_rfl) hR.ok zd1
      rw [if_pos (by rfl)]
      go_simp
      refine (H1.out _).mono ?_
      rintro e zw2 ⟨rfl, hm2⟩
      exact hK (.int .i64 (h1 : Int)) _ (hI.next hR (by kernel_rfl) hm2 (PB.quiet hI.1 hm2.1 (HGs.out D 2 _ _ (hI.1).g hm2)) (upd_same V 2 _))
    · intro D V zw1 a hR hI K hK   -- 3: Op.move (Operand.tmp 1)
      obtain ⟨hM1, hB1, hG1⟩ := hI.1
      obtain ⟨hG1c, hG1d⟩ := hG1
      have ze1 := hR.frame.other (t := 1) (by kernel_rfl) rfl
      rw [if_pos (by rfl)]
      go_simp
      exact hK (.string ⟨y.toArray⟩) _ (hI.next hR (by kernel_rfl) (ModD.refl _) (PB.quiet hI.1 (Mod.refl _ _) (HGs.out D 3 zw1 zw1 (hI.1).g (ModD.refl _))) (upd_same V 3 _))
    · intro D V zw1 a hR hI K hK   -- 4: Op.load 9 (Operand.tmp 2)
      obtain ⟨hM1, hB1, hG1⟩ := hI.1
      obtain ⟨hG1c, hG1d⟩ := hG1
      have ze2 := hR.frame.other (t := 2) (by kernel_rfl) rfl
      rw [if_pos (by rfl)]
      go_simp
      exact hK (.string ⟨seed.toArray⟩) _ (hI.next hR (by kernel_rfl) (ModD.refl _) (PB.quiet hI.1 (Mod.refl _ _) (HGs.out D 4 zw1 zw1 (hI.1).g (ModD.refl _))) (upd_same V 4 _))
    · intro D V zw1 a hR hI K hK   -- 5: Op.call { callee := Callee.value (Operand.func 37), args := #[Operand.
      obtain ⟨hM1, hB1, hG1⟩ := hI.1
      obtain ⟨hG1c, hG1d⟩ := hG1
      have zd3 := hR.pred 3 (by kernel_rfl)
      have zF3 : V 3 = .string ⟨y.toArray⟩ := hI.2 3 zd3 rfl
      have zf3 := zF3; clear zF3
      have zd4 := hR.pred 4 (by kernel_rfl)
      have zF4 : V 4 = .string ⟨seed.toArray⟩ := hI.2 4 zd4 rfl
      have zf4 := zF4; clear zF4
      have ze9 := hR.frame.done (t := 9) (j := 3) (by kernel_rfl) hR.ok zd3
      have ze10 := hR.frame.done (t := 10) (j := 4) (by kernel_rfl) hR.ok zd4
      rw [if_pos (by rfl)]
      go_simp
      refine (H2.out _).mono ?_
      rintro e zw2 ⟨rfl, hm2⟩
      exact hK (.int .i64 (h2 : Int)) _ (hI.next hR (by kernel_rfl) hm2 (PB.quiet hI.1 hm2.1 (HGs.out D 5 _ _ (hI.1).g hm2)) (upd_same V 5 _))
    · intro D V zw1 a hR hI K hK   -- 6: Op.binOp BinOp.sub 3 (Operand.tmp 8) (Operand.tmp 11) 3
      obtain ⟨hM1, hB1, hG1⟩ := hI.1
      obtain ⟨hG1c, hG1d⟩ := hG1
      have zd2 := hR.pred 2 (by kernel_rfl)
      have zF2 : V 2 = .int .i64 (h1 : Int) := hI.2 2 zd2 rfl
      have zf2 := zF2; clear zF2
      have zd5 := hR.pred 5 (by kernel_rfl)
      have zF5 : V 5 = .int .i64 (h2 : Int) := hI.2 5 zd5 rfl
      have zf5 := zF5; clear zF5
      have ze8 := hR.frame.done (t := 8) (j := 2) (by kernel_rfl) hR.ok zd2
      have ze11 := hR.frame.done (t := 11) (j := 5) (by kernel_rfl) hR.ok zd5
      have hw : IntKind.i64.wrap ((h1 : Int) - h2) = (h1 : Int) - h2 := IntWalk.i64_in _ (by omega)
      rw [if_pos (by rfl)]
      go_simp
      exact hK (.int .i64 ((h1 : Int) - h2)) _ (hI.next hR (by kernel_rfl) (ModD.refl _) (PB.quiet hI.1 (Mod.refl _ _) (HGs.out D 6 zw1 zw1 (hI.1).g (ModD.refl _))) (upd_same V 6 _))
    · intro D V zw1 a hR hI K hK   -- 7: Op.move (Operand.tmp 0)
      obtain ⟨hM1, hB1, hG1⟩ := hI.1
      obtain ⟨hG1c, hG1d⟩ := hG1
      have ze0 := hR.frame.other (t := 0) (by kernel_rfl) rfl
      rw [if_pos (by rfl)]
      go_simp
      exact hK (.string ⟨x.toArray⟩) _ (hI.next hR (by kernel_rfl) (ModD.refl _) (PB.quiet hI.1 (Mod.refl _ _) (HGs.out D 7 zw1 zw1 (hI.1).g (ModD.refl _))) (upd_same V 7 _))
    · intro D V zw1 a hR hI K hK   -- 8: Op.move (Operand.tmp 1)
      obtain ⟨hM1, hB1, hG1⟩ := hI.1
      obtain ⟨hG1c, hG1d⟩ := hG1
      have ze1 := hR.frame.other (t := 1) (by kernel_rfl) rfl
      rw [if_pos (by rfl)]
      go_simp
      exact hK (.string ⟨y.toArray⟩) _ (hI.next hR (by kernel_rfl) (ModD.refl _) (PB.quiet hI.1 (Mod.refl _ _) (HGs.out D 8 zw1 zw1 (hI.1).g (ModD.refl _))) (upd_same V 8 _))
    · intro D V zw1 a hR hI K hK   -- 9: Op.call { callee := Callee.value (Operand.func 63), args := #[Operand.
      obtain ⟨hM1, hB1, hG1⟩ := hI.1
      obtain ⟨hG1c, hG1d⟩ := hG1
      have zd7 := hR.pred 7 (by kernel_rfl)
      have zF7 : V 7 = .string ⟨x.toArray⟩ := hI.2 7 zd7 rfl
      have zf7 := zF7; clear zF7
      have zd8 := hR.pred 8 (by kernel_rfl)
      have zF8 : V 8 = .string ⟨y.toArray⟩ := hI.2 8 zd8 rfl
      have zf8 := zF8; clear zF8
      have ze13 := hR.frame.done (t := 13) (j := 7) (by kernel_rfl) hR.ok zd7
      have ze14 := hR.frame.done (t := 14) (j := 8) (by kernel_rfl) hR.ok zd8
      rw [if_pos (by rfl)]
      go_simp
      refine (cmpS_calls x y _).mono ?_
      rintro e zw2 ⟨rfl, hm2⟩
      rw [HCM.out]
      exact hK (.int .i64 cm) _ (hI.next hR (by kernel_rfl) hm2 (PB.quiet hI.1 hm2.1 (HGs.out D 9 _ _ (hI.1).g hm2)) (upd_same V 9 _))
    · intro D V zw1 a hR hI K hK   -- 10: Op.buildSlice 22 2 #[(0, Operand.tmp 12), (1, Operand.tmp 15)]
      obtain ⟨hM1, hB1, hG1⟩ := hI.1
      obtain ⟨hG1c, hG1d⟩ := hG1
      have zd6 := hR.pred 6 (by kernel_rfl)
      have zF6 : V 6 = .int .i64 ((h1 : Int) - h2) := hI.2 6 zd6 rfl
      have zf6 := zF6; clear zF6
      have zd9 := hR.pred 9 (by kernel_rfl)
      have zF9 : V 9 = .int .i64 cm := hI.2 9 zd9 rfl
      have zf9 := zF9; clear zF9
      have ze12 := hR.frame.done (t := 12) (j := 6) (by kernel_rfl) hR.ok zd6
      have ze15 := hR.frame.done (t := 15) (j := 9) (by kernel_rfl) hR.ok zd9
      rw [if_pos (by rfl)]
      go_simp
      exact hK (_) _ (hI.next hR (by kernel_rfl) (ModD.alloc _ _) (PB.quiet hI.1 (pure_alloc _ _) (HGs.out D 10 _ _ (hI.1).g (ModD.alloc _ _))) (⟨_, upd_same V 10 _, (by omega), (Blk.new _ _ _)⟩))
    · intro D V zw1 a hR hI K hK   -- 11: Op.call { callee := Callee.value (Operand.func 62), args := #[Operand.
      obtain ⟨hM1, hB1, hG1⟩ := hI.1
      obtain ⟨hG1c, hG1d⟩ := hG1
      have zd10 := hR.pred 10 (by kernel_rfl)
      have zF10 : ∃ (g_10 : Nat), V 10 = .slice (some ⟨g_10, 0, none⟩) 2 2 ∧ w.heap.size ≤ g_10 ∧ Blk zw1 g_10 3 #[.int .i64 ((h1 : Int) - h2), .int .i64 cm] := hI.2 10 zd10 (by show (!D 11) = true; rw [hR.not]; rfl)
      obtain ⟨g_10, zf10, c10_0, b10_0⟩ := zF10
      have ze16 := hR.frame.done (t := 16) (j := 10) (by kernel_rfl) hR.ok zd10
      rw [if_pos (by rfl)]
      go_simp
      refine (orI_calls _ _ _ [(h1 : Int) - h2, cm] b10_0.row0 (by simp)).mono ?_
      rintro e zw2 ⟨rfl, hm2⟩
      exact hK (.int .i64 (firstErr [(h1 : Int) - h2, cm])) _ (hI.next hR (by kernel_rfl) hm2 (PB.quiet hI.1 hm2.1 (HGs.out D 11 _ _ (hI.1).g hm2)) (upd_same V 11 _))
    · intro D V zw1 a hR hI K hK   -- 12: Op.assign (Operand.tmp 17)
      obtain ⟨hM1, hB1, hG1⟩ := hI.1
      obtain ⟨hG1c, hG1d⟩ := hG1
      have zd11 := hR.pred 11 (by kernel_rfl)
      have zF11 : V 11 = .int .i64 (firstErr [(h1 : Int) - h2, cm]) := hI.2 11 zd11 rfl
      have zf11 := zF11; clear zF11
      have ze17 := hR.frame.done (t := 17) (j := 11) (by kernel_rfl) hR.ok zd11
      rw [if_pos (by rfl)]
      go_simp
      exact hK (.int .i64 (firstErr [(h1 : Int) - h2, cm])) _ (hI.next hR (by kernel_rfl) (ModD.refl _) (PB.quiet hI.1 (Mod.refl _ _) (HGs.out D 12 zw1 zw1 (hI.1).g (ModD.refl _))) (upd_same V 12 _))
  · intro D V w1 hD hI
    obtain ⟨hM1, hB1, hG1⟩ := hI.1
    have hMx := hM1
    clear hM1
    have hBx := hB1
    clear hB1
    have hGx := hG1
    clear hG1
    have zF0 : V 0 = .string ⟨x.toArray⟩ := hI.2 0 (hD 0 (by decide)) rfl
    have zf0 := zF0; clear zF0
    have zF1 : V 1 = .string ⟨seed.toArray⟩ := hI.2 1 (hD 1 (by decide)) rfl
    have zf1 := zF1; clear zF1
    have zF2 : V 2 = .int .i64 (h1 : Int) := hI.2 2 (hD 2 (by decide)) rfl
    have zf2 := zF2; clear zF2
    have zF3 : V 3 = .string ⟨y.toArray⟩ := hI.2 3 (hD 3 (by decide)) rfl
    have zf3 := zF3; clear zF3
    have zF4 : V 4 = .string ⟨seed.toArray⟩ := hI.2 4 (hD 4 (by decide)) rfl
    have zf4 := zF4; clear zF4
    have zF5 : V 5 = .int .i64 (h2 : Int) := hI.2 5 (hD 5 (by decide)) rfl
    have zf5 := zF5; clear zF5
    have zF6 : V 6 = .int .i64 ((h1 : Int) - h2) := hI.2 6 (hD 6 (by decide)) rfl
    have zf6 := zF6; clear zF6
    have zF7 : V 7 = .string ⟨x.toArray⟩ := hI.2 7 (hD 7 (by decide)) rfl
    have zf7 := zF7; clear zF7
    have zF8 : V 8 = .string ⟨y.toArray⟩ := hI.2 8 (hD 8 (by decide)) rfl
    have zf8 := zF8; clear zF8
    have zF9 : V 9 = .int .i64 cm := hI.2 9 (hD 9 (by decide)) rfl
    have zf9 := zF9; clear zF9
    have zF11 : V 11 = .int .i64 (firstErr [(h1 : Int) - h2, cm]) := hI.2 11 (hD 11 (by decide)) rfl
    have zf11 := zF11; clear zF11
    have zF12 : V 12 = .int .i64 (firstErr [(h1 : Int) - h2, cm]) := hI.2 12 (hD 12 (by decide)) rfl
    have zf12 := zF12; clear zF12
    clear hI hD HGs
    simp only [frAll, Act.put, List.setIfInBounds_toArray, List.set_cons_zero, List.set_cons_succ, Nat.zero_add, Nat.reduceAdd, zf0, zf1, zf2, zf3, zf4, zf5, zf6, zf7, zf8, zf9, zf11, zf12]
    clear zf0 zf1 zf2 zf3 zf4 zf5 zf6 zf7 zf8 zf9 zf11 zf12
    generalize V 10 = u10
    clear V D
    go_wp2_with fail
    go_ret
    exact ⟨by rw [HL.out]; rfl, hMx, by rw [← HD0.out]; exact hGx.2⟩

end Go.Proofs.YtkchninlhemioaaGreatDoor
