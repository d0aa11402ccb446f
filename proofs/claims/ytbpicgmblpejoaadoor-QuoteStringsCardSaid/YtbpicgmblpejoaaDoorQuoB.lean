/- Quoted strings: Quoted of the reference. -/
import Derived.Test.YtbpicgmblpejoaaDoorQuoA
import Derived.Test.YtbpicgmblpejoaaDoorRegG
import Derived.Deep.AppendLies
import Derived.Lib.AppendStr
import Derived.Laws.IdiomStrings
import Derived.Test.YtbpicgmblpejoaaDoorTab
namespace Go.Proofs.YtbpicgmblpejoaaDoor
set_option linter.unusedVariables false
set_option linter.unusedSimpArgs false
open Go.RowKit

theorem info_u8 : (Tryd.prog.info? 5).map (fun i => (i.zero, i.size, i.bytes)) = some (some (.int .u8 0), 1, 1) := by kernel_rfl
def QdRel (w : World) (s : ByteArray) (base gk : Nat) (x i : Value) (wr : World) : Prop :=
  ∃ (k : Nat) (A : Option Addr) (cap : Nat) (fl : Str), s.size - k = gk ∧ k ≤ s.size ∧ i = .int .i64 (k : Int) ∧ fl = 34 :: (s.data.toList.take k).flatMap quoB ∧ x = .slice A fl.length cap ∧ wr.ownsRow base 5 1 (.slice A fl.length cap) fl.length (Lib.byteCells fl) ∧ Pure w wr ∧ base ≤ wr.heap.size
theorem byteCells_get (l : Str) (j : Nat) (h : j < l.length) : (Lib.byteCells l)[j]? = some (.int .u8 (l[j].toNat : Int)) := by simp [Lib.byteCells, h]
theorem own_bytes {w : World} {base g n cap : Nat} {l : Str} (h : w.ownsRow base 5 1 (.slice (some ⟨g, 0, none⟩) n cap) n (Lib.byteCells l)) : ∀ j (hj : j < l.length), w.cell? ((⟨g, 0, none⟩ : Addr).add j) = some (.int .u8 (l[j].toNat : Int)) := by
  intro j hj
  have hn : l.length = n := by have := h.1; simp [Lib.byteCells] at this; omega
  have := (h.cellAt j (by omega)).trans (byteCells_get l j hj)
  unfold Addr.add
  split
  · rename_i e; subst e; exact this
  · simpa using this
theorem hexB_get (n : Nat) (hn : n < 16) : ∀ h, (⟨#[48, 49, 50, 51, 52, 53, 54, 55, 56, 57, 97, 98, 99, 100, 101, 102]⟩ : ByteArray)[n]'h = hexD n := by
  have key : ∀ n : Fin 16, ∀ h, (⟨#[48, 49, 50, 51, 52, 53, 54, 55, 56, 57, 97, 98, 99, 100, 101, 102]⟩ : ByteArray)[n.val]'h = hexD n.val := by decide +kernel
  exact key ⟨n, hn⟩
theorem u8_wrap (n : Int) (h0 : 0 ≤ n) (h1 : n < 256) : IntKind.u8.wrap n = n := by
  unfold IntKind.wrap
  simp [IntKind.bits, IntKind.signed]
  omega
theorem quoS_as (l : Str) : quoS l = (34 :: l.flatMap quoB) ++ [34] := rfl
theorem cell_u8 (c : Nat) (h : c < 256) : Value.int .u8 (c : Int) = .int .u8 ((UInt8.ofNat c).toNat : Int) := by
  congr 1
  simp
  omega

set_option maxRecDepth 100000 in
set_option maxHeartbeats 4000000 in
theorem Quoted_calls (w : World) (s : ByteArray) (hs : s.size ≤ 10000) : Calls Tryd.prog 6 #[.string s] w (StrPost1 w (quoS s.data.toList)) := by
  obtain ⟨i0, hi0, hz0, hz1, hz2⟩ := info_parts info_u8
  have hls : s.data.toList.length = s.size := by simp
  have HLS := Lib.hid hls
  clear hls
  have own0 : (w.alloc (.cells #[.int .u8 34] 5)).ownsRow w.heap.size 5 1 (.slice (some ⟨w.heap.size, 0, none⟩) 1 1) 1 (Lib.byteCells [34]) := ⟨rfl, .inr ⟨w.heap.size, 1, #[.int .u8 34], rfl, Nat.le_refl _, heap_alloc_new _ _, by omega, by simp [maxLen], rfl, rfl⟩⟩
  have HO := Lib.hid own0
  have HM := Lib.hid ((Mod.refl (fun _ => False) w).alloc (.cells #[.int .u8 34] 5))
  have hsz : w.heap.size ≤ (w.alloc (.cells #[.int .u8 34] 5)).heap.size := by simp
  clear own0
  go_enter Tryd.func6, Tryd.ntmps6
  go_wp2_with fail
  generalize (w.alloc (.cells #[.int .u8 34] 5)) = W at *
  generalize hb : w.heap.size = base at *
  have hb1 := Nat.le_of_eq hb
  clear hb
  go_loopg [3, 9] s.size (fun gk x i wr => QdRel w s base gk x i wr)
  case atStart => exact ⟨0, some ⟨base, 0, none⟩, 1, [34], by omega, by omega, rfl, by simp, rfl, HO.out, HM.out, hsz⟩
  case round =>
    clear HO HM hsz
    obtain ⟨k, A, cap, fl, rfl, hk, rfl, hfe, rfl, hown, hm, hbig⟩ := hrel
    have hfl : fl.length ≤ 1 + 4 * k := by
      rw [hfe]
      have h1 := flat_len (s.data.toList.take k)
      have h2 : (s.data.toList.take k).length ≤ k := List.length_take_le _ _
      simp only [List.length_cons]
      omega
    have HFE := Lib.hid hfe
    clear hfe
    by_cases hlt : k < s.size
    · have HT := Lib.hid (flat_take' s k hlt)
      have hc := s[k].toNat_lt
      have HQN := Lib.hid (quoB_nat s[k])
      have HFN : Hid (34 :: (s.data.toList.take (k + 1)).flatMap quoB = fl ++ quoB (UInt8.ofNat s[k].toNat)) := Lib.hid (by rw [HT.out, HFE.out, HQN.out]; rfl)
      clear HT HQN
      have HREL : Hid (∀ (g5 cap5 m : Nat) (w5 : World) (new : List Value), new = Lib.byteCells (quoB (UInt8.ofNat s[k].toNat)) → m = (quoB (UInt8.ofNat s[k].toNat)).length → w5.ownsRow base 5 1 (.slice (some ⟨g5, 0, none⟩) (fl.length + m) cap5) (fl.length + m) (Lib.byteCells fl ++ new) → Pure w w5 → base ≤ w5.heap.size →
          QdRel w s base (s.size - (k + 1)) (.slice (some ⟨g5, 0, none⟩) (fl.length + m) cap5) (.int .i64 ((k : Int) + 1)) w5) := Lib.hid (by
        intro g5 cap5 m w5 new hn hmm hown5 hp hb5
        subst hn hmm
        rw [byteCells_app, ← List.length_append] at hown5
        exact ⟨k + 1, _, cap5, fl ++ quoB (UInt8.ofNat s[k].toNat), rfl, by omega, by simp, HFN.out.symm, by rw [List.length_append], hown5, hp, hb5⟩)
      clear HFN HFE
      generalize hcc : s[k].toNat = c at *
      by_cases h34 : c = 34
      · subst h34
        go_wp2_with (at_builtin; refine wpList_append_lies _ rfl _ _ _ rfl base 5 i0 _ 1 1 Tryd.underlying41 hi0 hz0 hz1 hz2 rfl (by omega) (.slice A fl.length cap) fl.length (Lib.byteCells fl) rfl (hown.alloc _) ⟨wr.heap.size, 0, none⟩ 2 2 [.int .u8 92, .int .u8 34] rfl rfl (World.news_of_block (cs := #[.int .u8 92, .int .u8 34]) (t := 5) (fr := (0, 0)) (heap_alloc_new wr _)) (by simp [Value.oneCell']) (by omega) (by simp [maxLen]; omega) (by omega) (by have := hm.size; simp; omega) (wr.heap.size + 1) (by simp) ?_; intro g5 cap5 w5 hown5 hgrow hat hlt5)
        go_roundg (s.size - (k + 1))
        case measure => omega
        case rel =>
          have hz5 := hgrow.size
          simp at hz5
          exact HREL.out g5 cap5 2 w5 _ rfl rfl hown5 ((hm.alloc _).grown hgrow (fun j hj => .inr (by have := own_block hown j hj; omega))) (by omega)
      by_cases h92 : c = 92
      · subst h92
        go_wp2_with (at_builtin; refine wpList_append_lies _ rfl _ _ _ rfl base 5 i0 _ 1 1 Tryd.underlying41 hi0 hz0 hz1 hz2 rfl (by omega) (.slice A fl.length cap) fl.length (Lib.byteCells fl) rfl (hown.alloc _) ⟨wr.heap.size, 0, none⟩ 2 2 [.int .u8 92, .int .u8 92] rfl rfl (World.news_of_block (cs := #[.int .u8 92, .int .u8 92]) (t := 5) (fr := (0, 0)) (heap_alloc_new wr _)) (by simp [Value.oneCell']) (by omega) (by simp [maxLen]; omega) (by omega) (by have := hm.size; simp; omega) (wr.heap.size + 1) (by simp) ?_; intro g5 cap5 w5 hown5 hgrow hat hlt5)
        go_roundg (s.size - (k + 1))
        case measure => omega
        case rel =>
          have hz5 := hgrow.size
          simp at hz5
          exact HREL.out g5 cap5 2 w5 _ rfl rfl hown5 ((hm.alloc _).grown hgrow (fun j hj => .inr (by have := own_block hown j hj; omega))) (by omega)
      have b34 : ((c : Int) == 34) = false := by simp; omega
      have b92 : ((c : Int) == 92) = false := by simp; omega
      by_cases h10 : c = 10
      · subst h10
        go_wp2_with (at_builtin; (refine Lib.wpList_append_own_string _ rfl _ _ _ _ rfl base 5 i0 Tryd.underlying41 Tryd.underlying9 hi0 hz0 hz1 hz2 (.slice A fl.length cap) fl.length (Lib.byteCells fl) rfl hown ⟨#[92, 110]⟩ rfl (by simp [maxLen, ByteArray.size]; omega) (by simp [ByteArray.size]; omega) hbig ?_); intro v5 w5 hown5 hgrow hnil; obtain ⟨g5, cap5, rfl, _⟩ := own_form hown5 (by simp [ByteArray.size]); clear hnil)
        go_roundg (s.size - (k + 1))
        case measure => omega
        case rel =>
          have hz5 := hgrow.size
          exact HREL.out g5 cap5 2 w5 _ rfl rfl hown5 (hm.grown hgrow (fun j hj => .inr (by have := own_block hown j hj; omega))) (by omega)
      have b10 : ((c : Int) == 10) = false := by simp; omega
      by_cases hv : c < 33 ∨ 126 < c
      · have HQ := Lib.hid (quoB_hid c hc hv h10)
        have hx1 : ∀ h, (⟨#[48, 49, 50, 51, 52, 53, 54, 55, 56, 57, 97, 98, 99, 100, 101, 102]⟩ : ByteArray)[c / 16]'h = hexD (c / 16) := hexB_get (c / 16) (by omega)
        have hx2 : ∀ h, (⟨#[48, 49, 50, 51, 52, 53, 54, 55, 56, 57, 97, 98, 99, 100, 101, 102]⟩ : ByteArray)[c % 16]'h = hexD (c % 16) := hexB_get (c % 16) (by omega)
        have HLT := Lib.hid (fun j (hj : (Value.slice A fl.length cap).ownBlock = some j) => own_lt hown hj)
        clear h34 h92 h10
        by_cases hv1 : c < 33
        · have v1 : (c : Int) < 33 := by omega
          have d1 : decide (c < 33) = true := by simpa using hv1
          clear hv
          go_wp2_with fail
          have HGs := Lib.hid (show ∀ (D : Nat → Bool) (i : Nat) (zq zq' : World), i ≠ 8 → (fun D zq => (D 8 = false → (fun Z => Z.ownsRow base 5 1 (.slice A fl.length cap) fl.length (Lib.byteCells fl)) zq) ∧ (fun Z => base ≤ Z.heap.size) zq) D zq → Mod (fun _ => False) zq zq' → (fun D zq => (D 8 = false → (fun Z => Z.ownsRow base 5 1 (.slice A fl.length cap) fl.length (Lib.byteCells fl)) zq) ∧ (fun Z => base ≤ Z.heap.size) zq) (upd D i true) zq' from by intro D i zq zq' hi hh hm; refine ⟨fun hs => ?_, ?_⟩; (rw [upd_ne _ _ (Ne.symm hi)] at hs; have h := hh.1 hs; (exact own_pure h hm)); (have h := hh.2; (exact Nat.le_trans h hm.size)))
          refine wp_region_inv (by kernel_rfl) (by kernel_rfl) (InvF (R := Mod (fun _ => False)) [.is (.slice A fl.length cap),
              .is (.int .u8 (c : Int)),
              .is (.int .u8 ((c : Int) / 16)),
              .is (.int .u8 ((hexD (c / 16)).toNat : Int)),
              .is (.int .u8 (c : Int)),
              .is (.int .u8 ((c : Int) % 16)),
              .is (.int .u8 ((hexD (c % 16)).toNat : Int)),
              ⟨fun zv zw => ∃ (g_7 : Nat), zv = .slice (some ⟨g_7, 0, none⟩) 4 4 ∧ wr.heap.size ≤ g_7 ∧ Blk zw g_7 5 #[(.int .u8 92), (.int .u8 120), .int .u8 ((hexD (c / 16)).toNat : Int), .int .u8 ((hexD (c % 16)).toNat : Int)], (by rintro zv zw zx ⟨g_7, rfl, c0, q0⟩ hm; exact ⟨g_7, rfl, c0, (q0.modp hm)⟩), none, some 8⟩,
              ⟨fun zv zw => ∃ (g_8 : Nat) (cap_8 : Nat), zv = .slice (some ⟨g_8, 0, none⟩) (fl.length + 4) cap_8 ∧ zw.ownsRow base 5 1 (.slice (some ⟨g_8, 0, none⟩) (fl.length + 4) cap_8) (fl.length + 4) (Lib.byteCells fl ++ [.int .u8 92, .int .u8 120, .int .u8 ((hexD (c / 16)).toNat : Int), .int .u8 ((hexD (c % 16)).toNat : Int)]), (by rintro zv zw zx ⟨g_8, cap_8, rfl, q0⟩ hm; exact ⟨g_8, cap_8, rfl, (own_pure q0 hm)⟩), none, none⟩,
              ⟨fun zv zw => ∃ (g_9 : Nat) (cap_9 : Nat), zv = .slice (some ⟨g_9, 0, none⟩) (fl.length + 4) cap_9 ∧ zw.ownsRow base 5 1 (.slice (some ⟨g_9, 0, none⟩) (fl.length + 4) cap_9) (fl.length + 4) (Lib.byteCells fl ++ [.int .u8 92, .int .u8 120, .int .u8 ((hexD (c / 16)).toNat : Int), .int .u8 ((hexD (c % 16)).toNat : Int)]), (by rintro zv zw zx ⟨g_9, cap_9, rfl, q0⟩ hm; exact ⟨g_9, cap_9, rfl, (own_pure q0 hm)⟩), none, none⟩]
              (PB w (fun _ => False) wr.heap.size (fun D zq => (D 8 = false → (fun Z => Z.ownsRow base 5 1 (.slice A fl.length cap) fl.length (Lib.byteCells fl)) zq) ∧ (fun Z => base ≤ Z.heap.size) zq))) (InvF.start (PB.start hm (Nat.le_refl _) (⟨fun _ => hown.drew, hbig⟩))) ?_ ?_
          · refine .cons ?_ (.cons ?_ (.cons ?_ (.cons ?_ (.cons ?_ (.cons ?_ (.cons ?_ (.cons ?_ (.cons ?_ (.cons ?_ .nil)))))))))
            · intro D V zw1 a hR hI K hK   -- 0: Op.move (Operand.tmp 3)
              obtain ⟨hM1, hB1, hG1⟩ := hI.1
              obtain ⟨hGK, hG1⟩ := hG1
              have ze3 := hR.frame.undone (t := 3) (j := 9) (by kernel_rfl) (hR.later 9 rfl (by kernel_rfl)) rfl
              rw [if_pos (by rfl)]
              go_simp
              exact hK (.slice A fl.length cap) _ (hI.next hR (by kernel_rfl) (Mod.refl _ _) (PB.quiet hI.1 (Mod.refl _ _) (HGs.out D 0 zw1 zw1 (by omega) (hI.1).g (Mod.refl _ _))) (upd_same V 0 _))
            · intro D V zw1 a hR hI K hK   -- 1: Op.move (Operand.tmp 5)
              obtain ⟨hM1, hB1, hG1⟩ := hI.1
              obtain ⟨hGK, hG1⟩ := hG1
              have ze5 := hR.frame.other (t := 5) (by kernel_rfl) rfl
              rw [if_pos (by rfl)]
              go_simp
              exact hK (.int .u8 (c : Int)) _ (hI.next hR (by kernel_rfl) (Mod.refl _ _) (PB.quiet hI.1 (Mod.refl _ _) (HGs.out D 1 zw1 zw1 (by omega) (hI.1).g (Mod.refl _ _))) (upd_same V 1 _))
            · intro D V zw1 a hR hI K hK   -- 2: Op.binOp BinOp.quo 5 (Operand.tmp 43) (Operand.const (Value.int IntKin
              obtain ⟨hM1, hB1, hG1⟩ := hI.1
              obtain ⟨hGK, hG1⟩ := hG1
              have zd1 := hR.pred 1 (by kernel_rfl)
              have zF1 : V 1 = .int .u8 (c : Int) := hI.2 1 zd1 rfl
              have zf1 := zF1; clear zF1
              have ze43 := hR.frame.done (t := 43) (j := 1) (by kernel_rfl) hR.ok zd1
              have hw8 : IntKind.u8.wrap ((c : Int) / 16) = (c : Int) / 16 := u8_wrap _ (by omega) (by omega)
              rw [if_pos (by rfl)]
              go_simp
              exact hK (.int .u8 ((c : Int) / 16)) _ (hI.next hR (by kernel_rfl) (Mod.refl _ _) (PB.quiet hI.1 (Mod.refl _ _) (HGs.out D 2 zw1 zw1 (by omega) (hI.1).g (Mod.refl _ _))) (upd_same V 2 _))
            · intro D V zw1 a hR hI K hK   -- 3: Op.index 9 (Operand.const (Value.string { data := #[48, 49, 50, 51, 52
              obtain ⟨hM1, hB1, hG1⟩ := hI.1
              obtain ⟨hGK, hG1⟩ := hG1
              have zd2 := hR.pred 2 (by kernel_rfl)
              have zF2 : V 2 = .int .u8 ((c : Int) / 16) := hI.2 2 zd2 rfl
              have zf2 := zF2; clear zF2
              have ze44 := hR.frame.done (t := 44) (j := 2) (by kernel_rfl) hR.ok zd2
              have j1 : (0 : Int) ≤ (c : Int) / 16 := by omega
              have j2 : (c : Int) / 16 < 16 := by omega
              have j3 : ((c : Int) / 16).toNat = c / 16 := by omega
              rw [if_pos (by rfl)]
              go_simp
              exact hK (.int .u8 ((hexD (c / 16)).toNat : Int)) _ (hI.next hR (by kernel_rfl) (Mod.refl _ _) (PB.quiet hI.1 (Mod.refl _ _) (HGs.out D 3 zw1 zw1 (by omega) (hI.1).g (Mod.refl _ _))) (upd_same V 3 _))
            · intro D V zw1 a hR hI K hK   -- 4: Op.move (Operand.tmp 5)
              obtain ⟨hM1, hB1, hG1⟩ := hI.1
              obtain ⟨hGK, hG1⟩ := hG1
              have ze5 := hR.frame.other (t := 5) (by kernel_rfl) rfl
              rw [if_pos (by rfl)]
              go_simp
              exact hK (.int .u8 (c : Int)) _ (hI.next hR (by kernel_rfl) (Mod.refl _ _) (PB.quiet hI.1 (Mod.refl _ _) (HGs.out D 4 zw1 zw1 (by omega) (hI.1).g (Mod.refl _ _))) (upd_same V 4 _))
            · intro D V zw1 a hR hI K hK   -- 5: Op.binOp BinOp.rem 5 (Operand.tmp 46) (Operand.const (Value.int IntKin
              obtain ⟨hM1, hB1, hG1⟩ := hI.1
              obtain ⟨hGK, hG1⟩ := hG1
              have zd4 := hR.pred 4 (by kernel_rfl)
              have zF4 : V 4 = .int .u8 (c : Int) := hI.2 4 zd4 rfl
              have zf4 := zF4; clear zF4
              have ze46 := hR.frame.done (t := 46) (j := 4) (by kernel_rfl) hR.ok zd4
              rw [if_pos (by rfl)]
              go_simp
              exact hK (.int .u8 ((c : Int) % 16)) _ (hI.next hR (by kernel_rfl) (Mod.refl _ _) (PB.quiet hI.1 (Mod.refl _ _) (HGs.out D 5 zw1 zw1 (by omega) (hI.1).g (Mod.refl _ _))) (upd_same V 5 _))
            · intro D V zw1 a hR hI K hK   -- 6: Op.index 9 (Operand.const (Value.string { data := #[48, 49, 50, 51, 52
              obtain ⟨hM1, hB1, hG1⟩ := hI.1
              obtain ⟨hGK, hG1⟩ := hG1
              have zd5 := hR.pred 5 (by kernel_rfl)
              have zF5 : V 5 = .int .u8 ((c : Int) % 16) := hI.2 5 zd5 rfl
              have zf5 := zF5; clear zF5
              have ze47 := hR.frame.done (t := 47) (j := 5) (by kernel_rfl) hR.ok zd5
              have j1 : (0 : Int) ≤ (c : Int) % 16 := by omega
              have j2 : (c : Int) % 16 < 16 := by omega
              have j3 : ((c : Int) % 16).toNat = c % 16 := by omega
              rw [if_pos (by rfl)]
              go_simp
              exact hK (.int .u8 ((hexD (c % 16)).toNat : Int)) _ (hI.next hR (by kernel_rfl) (Mod.refl _ _) (PB.quiet hI.1 (Mod.refl _ _) (HGs.out D 6 zw1 zw1 (by omega) (hI.1).g (Mod.refl _ _))) (upd_same V 6 _))
            · intro D V zw1 a hR hI K hK   -- 7: Op.buildSlice 41 4 #[(0, Operand.const (Value.int IntKind.u8 92)), (1,
              obtain ⟨hM1, hB1, hG1⟩ := hI.1
              obtain ⟨hGK, hG1⟩ := hG1
              have zd3 := hR.pred 3 (by kernel_rfl)
              have zF3 : V 3 = .int .u8 ((hexD (c / 16)).toNat : Int) := hI.2 3 zd3 rfl
              have zf3 := zF3; clear zF3
              have zd6 := hR.pred 6 (by kernel_rfl)
              have zF6 : V 6 = .int .u8 ((hexD (c % 16)).toNat : Int) := hI.2 6 zd6 rfl
              have zf6 := zF6; clear zF6
              have ze45 := hR.frame.done (t := 45) (j := 3) (by kernel_rfl) hR.ok zd3
              have ze48 := hR.frame.done (t := 48) (j := 6) (by kernel_rfl) hR.ok zd6
              rw [if_pos (by rfl)]
              go_simp
              exact hK (_) _ (hI.next hR (by kernel_rfl) ((Mod.refl _ _).alloc _) (PB.quiet hI.1 (pure_alloc _ _) (HGs.out D 7 _ _ (by omega) (hI.1).g ((Mod.refl _ _).alloc _))) (⟨_, upd_same V 7 _, (by omega), (Blk.new _ _ _)⟩))
            · intro D V zw1 a hR hI K hK   -- 8: Op.call { callee := Callee.builtin Builtin.append, args := #[Operand.t
              obtain ⟨hM1, hB1, hG1⟩ := hI.1
              obtain ⟨hGK, hG1⟩ := hG1
              have zd0 := hR.pred 0 (by kernel_rfl)
              have zF0 : V 0 = .slice A fl.length cap := hI.2 0 zd0 rfl
              have zf0 := zF0; clear zF0
              have zd7 := hR.pred 7 (by kernel_rfl)
              have zF7 : ∃ (g_7 : Nat), V 7 = .slice (some ⟨g_7, 0, none⟩) 4 4 ∧ wr.heap.size ≤ g_7 ∧ Blk zw1 g_7 5 #[(.int .u8 92), (.int .u8 120), .int .u8 ((hexD (c / 16)).toNat : Int), .int .u8 ((hexD (c % 16)).toNat : Int)] := hI.2 7 zd7 (by show (!D 8) = true; rw [hR.not]; rfl)
              obtain ⟨g_7, zf7, c7_0, b7_0⟩ := zF7
              have ze42 := hR.frame.done (t := 42) (j := 0) (by kernel_rfl) hR.ok zd0
              have ze49 := hR.frame.done (t := 49) (j := 7) (by kernel_rfl) hR.ok zd7
              rw [if_pos (by rfl)]
              have hown := hGK hR.not
              refine wp_append_lies _ (.tmp 42) (.tmp 49) 41 (by rfl) base 5 i0 _ 1 1 Tryd.underlying41 hi0 hz0 hz1 hz2 (by rfl) (by omega) (.slice A fl.length cap) (fl.length) (Lib.byteCells fl) ?_ hown ⟨g_7, 0, none⟩ 4 4 [.int .u8 92, .int .u8 120, .int .u8 ((hexD (c / 16)).toNat : Int), .int .u8 ((hexD (c % 16)).toNat : Int)] ?_ (by rfl) (World.news_of_block (cs := #[.int .u8 92, .int .u8 120, .int .u8 ((hexD (c / 16)).toNat : Int), .int .u8 ((hexD (c % 16)).toNat : Int)]) (t := 5) (fr := (0, 0)) b7_0) (by simp [Value.oneCell']) (by omega) (by simp [maxLen]; omega) (by omega) (by omega) zw1.heap.size rfl ?_
              · show a.tmps.getD 42 undef = _; simp [ze42, zf0]
              · show a.tmps.getD 49 undef = _; simp [ze49, zf7]
              intro g5 cap5 zw2 hown5 hgrow hat hlt5
              have hT := mod_grown hgrow
              have hTb : ∀ j, (.slice A fl.length cap : Value).ownBlock = some j → base ≤ j := own_block hown
              have hTl : ∀ j, (.slice A fl.length cap : Value).ownBlock = some j → j < wr.heap.size := fun j hj => HLT.out j hj
              refine hK _ _ (InvF.last (PB.writes hI.1 (fun j hj hl => by have := hTb j hj; omega) hT ⟨fun hs => absurd hs (by rw [upd_same]; decide), Nat.le_trans hG1 hgrow.size⟩) ⟨_, _, upd_same V 8 _, hown5⟩ ?_)
              intro k hk hDk hlv
              have hkl := hR.lt k hDk
              have hv := hI.2 k hDk (liveB_of hlv)
              match k, hk, hDk, hlv, hkl, hv with
              | 0, _, _, _, _, hv => exact hv
              | 1, _, _, _, _, hv => exact hv
              | 2, _, _, _, _, hv => exact hv
              | 3, _, _, _, _, hv => exact hv
              | 4, _, _, _, _, hv => exact hv
              | 5, _, _, _, _, hv => exact hv
              | 6, _, _, _, _, hv => exact hv
              | 7, _, _, hlv, _, _ => exact absurd hlv (by show ¬ (!upd D 8 true 8) = true; rw [upd_same]; decide)
              | 8, hk, _, _, _, _ => exact absurd rfl hk
              | 9, _, hDk, _, _, _ => exact absurd hDk (by rw [hR.later 9 rfl (by kernel_rfl)]; decide)
              | k + 10, _, _, _, hkl, _ => exact absurd hkl (by simp)
            · intro D V zw1 a hR hI K hK   -- 9: Op.assign (Operand.tmp 50)
              obtain ⟨hM1, hB1, hG1⟩ := hI.1
              obtain ⟨hGK, hG1⟩ := hG1
              have zd8 := hR.pred 8 (by kernel_rfl)
              have zF8 : ∃ (g_8 : Nat) (cap_8 : Nat), V 8 = .slice (some ⟨g_8, 0, none⟩) (fl.length + 4) cap_8 ∧ zw1.ownsRow base 5 1 (.slice (some ⟨g_8, 0, none⟩) (fl.length + 4) cap_8) (fl.length + 4) (Lib.byteCells fl ++ [.int .u8 92, .int .u8 120, .int .u8 ((hexD (c / 16)).toNat : Int), .int .u8 ((hexD (c % 16)).toNat : Int)]) := hI.2 8 zd8 rfl
              obtain ⟨g_8, cap_8, zf8, b8_0⟩ := zF8
              have ze50 := hR.frame.done (t := 50) (j := 8) (by kernel_rfl) hR.ok zd8
              rw [if_pos (by rfl)]
              go_simp
              exact hK (.slice (some ⟨g_8, 0, none⟩) (fl.length + 4) cap_8) _ (hI.next hR (by kernel_rfl) (Mod.refl _ _) (PB.quiet hI.1 (Mod.refl _ _) (HGs.out D 9 zw1 zw1 (by omega) (hI.1).g (Mod.refl _ _))) (⟨g_8, cap_8, upd_same V 9 _, b8_0⟩))
          · intro D V w1 hD hI
            obtain ⟨hM1, hB1, hG1⟩ := hI.1
            have hMx := hM1
            clear hM1
            have hBx := hB1
            clear hB1
            have hGx := hG1.2
            clear hG1
            have zF0 : V 0 = .slice A fl.length cap := hI.2 0 (hD 0 (by decide)) rfl
            have zf0 := zF0; clear zF0
            have zF1 : V 1 = .int .u8 (c : Int) := hI.2 1 (hD 1 (by decide)) rfl
            have zf1 := zF1; clear zF1
            have zF2 : V 2 = .int .u8 ((c : Int) / 16) := hI.2 2 (hD 2 (by decide)) rfl
            have zf2 := zF2; clear zF2
            have zF3 : V 3 = .int .u8 ((hexD (c / 16)).toNat : Int) := hI.2 3 (hD 3 (by decide)) rfl
            have zf3 := zF3; clear zF3
            have zF4 : V 4 = .int .u8 (c : Int) := hI.2 4 (hD 4 (by decide)) rfl
            have zf4 := zF4; clear zF4
            have zF5 : V 5 = .int .u8 ((c : Int) % 16) := hI.2 5 (hD 5 (by decide)) rfl
            have zf5 := zF5; clear zF5
            have zF6 : V 6 = .int .u8 ((hexD (c % 16)).toNat : Int) := hI.2 6 (hD 6 (by decide)) rfl
            have zf6 := zF6; clear zF6
            have zF8 : ∃ (g_8 : Nat) (cap_8 : Nat), V 8 = .slice (some ⟨g_8, 0, none⟩) (fl.length + 4) cap_8 ∧ w1.ownsRow base 5 1 (.slice (some ⟨g_8, 0, none⟩) (fl.length + 4) cap_8) (fl.length + 4) (Lib.byteCells fl ++ [.int .u8 92, .int .u8 120, .int .u8 ((hexD (c / 16)).toNat : Int), .int .u8 ((hexD (c % 16)).toNat : Int)]) := hI.2 8 (hD 8 (by decide)) rfl
            obtain ⟨g_8, cap_8, zf8, b8_0⟩ := zF8
            have zF9 : ∃ (g_9 : Nat) (cap_9 : Nat), V 9 = .slice (some ⟨g_9, 0, none⟩) (fl.length + 4) cap_9 ∧ w1.ownsRow base 5 1 (.slice (some ⟨g_9, 0, none⟩) (fl.length + 4) cap_9) (fl.length + 4) (Lib.byteCells fl ++ [.int .u8 92, .int .u8 120, .int .u8 ((hexD (c / 16)).toNat : Int), .int .u8 ((hexD (c % 16)).toNat : Int)]) := hI.2 9 (hD 9 (by decide)) rfl
            obtain ⟨g_9, cap_9, zf9, b9_0⟩ := zF9
            clear hI hD HGs
            simp only [frAll, Act.put, List.setIfInBounds_toArray, List.set_cons_zero, List.set_cons_succ, Nat.zero_add, Nat.reduceAdd, zf0, zf1, zf2, zf3, zf4, zf5, zf6, zf8, zf9]
            clear zf0 zf1 zf2 zf3 zf4 zf5 zf6 zf8 zf9
            generalize V 7 = u7
            clear V D
            go_wp2_with fail
            go_roundg (s.size - (k + 1))
            case measure => omega
            case rel => exact HREL.out g_9 cap_9 4 w1 _ (by rw [HQ.out]; rfl) (by rw [HQ.out]; rfl) b9_0 hMx hGx
        · have v1 : ¬ ((c : Int) < 33) := by omega
          have v2 : (126 : Int) < (c : Int) := by omega
          have d1 : decide (c < 33) = false := by simpa using hv1
          have d2 : decide (126 < c) = true := by simp; omega
          clear hv
          go_wp2_with fail
          have HGs := Lib.hid (show ∀ (D : Nat → Bool) (i : Nat) (zq zq' : World), i ≠ 8 → (fun D zq => (D 8 = false → (fun Z => Z.ownsRow base 5 1 (.slice A fl.length cap) fl.length (Lib.byteCells fl)) zq) ∧ (fun Z => base ≤ Z.heap.size) zq) D zq → Mod (fun _ => False) zq zq' → (fun D zq => (D 8 = false → (fun Z => Z.ownsRow base 5 1 (.slice A fl.length cap) fl.length (Lib.byteCells fl)) zq) ∧ (fun Z => base ≤ Z.heap.size) zq) (upd D i true) zq' from by intro D i zq zq' hi hh hm; refine ⟨fun hs => ?_, ?_⟩; (rw [upd_ne _ _ (Ne.symm hi)] at hs; have h := hh.1 hs; (exact own_pure h hm)); (have h := hh.2; (exact Nat.le_trans h hm.size)))
          refine wp_region_inv (by kernel_rfl) (by kernel_rfl) (InvF (R := Mod (fun _ => False)) [.is (.slice A fl.length cap),
              .is (.int .u8 (c : Int)),
              .is (.int .u8 ((c : Int) / 16)),
              .is (.int .u8 ((hexD (c / 16)).toNat : Int)),
              .is (.int .u8 (c : Int)),
              .is (.int .u8 ((c : Int) % 16)),
              .is (.int .u8 ((hexD (c % 16)).toNat : Int)),
              ⟨fun zv zw => ∃ (g_7 : Nat), zv = .slice (some ⟨g_7, 0, none⟩) 4 4 ∧ wr.heap.size ≤ g_7 ∧ Blk zw g_7 5 #[(.int .u8 92), (.int .u8 120), .int .u8 ((hexD (c / 16)).toNat : Int), .int .u8 ((hexD (c % 16)).toNat : Int)], (by rintro zv zw zx ⟨g_7, rfl, c0, q0⟩ hm; exact ⟨g_7, rfl, c0, (q0.modp hm)⟩), none, some 8⟩,
              ⟨fun zv zw => ∃ (g_8 : Nat) (cap_8 : Nat), zv = .slice (some ⟨g_8, 0, none⟩) (fl.length + 4) cap_8 ∧ zw.ownsRow base 5 1 (.slice (some ⟨g_8, 0, none⟩) (fl.length + 4) cap_8) (fl.length + 4) (Lib.byteCells fl ++ [.int .u8 92, .int .u8 120, .int .u8 ((hexD (c / 16)).toNat : Int), .int .u8 ((hexD (c % 16)).toNat : Int)]), (by rintro zv zw zx ⟨g_8, cap_8, rfl, q0⟩ hm; exact ⟨g_8, cap_8, rfl, (own_pure q0 hm)⟩), none, none⟩,
              ⟨fun zv zw => ∃ (g_9 : Nat) (cap_9 : Nat), zv = .slice (some ⟨g_9, 0, none⟩) (fl.length + 4) cap_9 ∧ zw.ownsRow base 5 1 (.slice (some ⟨g_9, 0, none⟩) (fl.length + 4) cap_9) (fl.length + 4) (Lib.byteCells fl ++ [.int .u8 92, .int .u8 120, .int .u8 ((hexD (c / 16)).toNat : Int), .int .u8 ((hexD (c % 16)).toNat : Int)]), (by rintro zv zw zx ⟨g_9, cap_9, rfl, q0⟩ hm; exact ⟨g_9, cap_9, rfl, (own_pure q0 hm)⟩), none, none⟩]
              (PB w (fun _ => False) wr.heap.size (fun D zq => (D 8 = false → (fun Z => Z.ownsRow base 5 1 (.slice A fl.length cap) fl.length (Lib.byteCells fl)) zq) ∧ (fun Z => base ≤ Z.heap.size) zq))) (InvF.start (PB.start hm (Nat.le_refl _) (⟨fun _ => hown.drew, hbig⟩))) ?_ ?_
          · refine .cons ?_ (.cons ?_ (.cons ?_ (.cons ?_ (.cons ?_ (.cons ?_ (.cons ?_ (.cons ?_ (.cons ?_ (.cons ?_ .nil)))))))))
            · intro D V zw1 a hR hI K hK   -- 0: Op.move (Operand.tmp 3)
              obtain ⟨hM1, hB1, hG1⟩ := hI.1
              obtain ⟨hGK, hG1⟩ := hG1
              have ze3 := hR.frame.undone (t := 3) (j := 9) (by kernel_rfl) (hR.later 9 rfl (by kernel_rfl)) rfl
              rw [if_pos (by rfl)]
              go_simp
              exact hK (.slice A fl.length cap) _ (hI.next hR (by kernel_rfl) (Mod.refl _ _) (PB.quiet hI.1 (Mod.refl _ _) (HGs.out D 0 zw1 zw1 (by omega) (hI.1).g (Mod.refl _ _))) (upd_same V 0 _))
            · intro D V zw1 a hR hI K hK   -- 1: Op.move (Operand.tmp 5)
              obtain ⟨hM1, hB1, hG1⟩ := hI.1
              obtain ⟨hGK, hG1⟩ := hG1
              have ze5 := hR.frame.other (t := 5) (by kernel_rfl) rfl
              rw [if_pos (by rfl)]
              go_simp
              exact hK (.int .u8 (c : Int)) _ (hI.next hR (by kernel_rfl) (Mod.refl _ _) (PB.quiet hI.1 (Mod.refl _ _) (HGs.out D 1 zw1 zw1 (by omega) (hI.1).g (Mod.refl _ _))) (upd_same V 1 _))
            · intro D V zw1 a hR hI K hK   -- 2: Op.binOp BinOp.quo 5 (Operand.tmp 43) (Operand.const (Value.int IntKin
              obtain ⟨hM1, hB1, hG1⟩ := hI.1
              obtain ⟨hGK, hG1⟩ := hG1
              have zd1 := hR.pred 1 (by kernel_rfl)
              have zF1 : V 1 = .int .u8 (c : Int) := hI.2 1 zd1 rfl
              have zf1 := zF1; clear zF1
              have ze43 := hR.frame.done (t := 43) (j := 1) (by kernel_rfl) hR.ok zd1
              have hw8 : IntKind.u8.wrap ((c : Int) / 16) = (c : Int) / 16 := u8_wrap _ (by omega) (by omega)
              rw [if_pos (by rfl)]
              go_simp
              exact hK (.int .u8 ((c : Int) / 16)) _ (hI.next hR (by kernel_rfl) (Mod.refl _ _) (PB.quiet hI.1 (Mod.refl _ _) (HGs.out D 2 zw1 zw1 (by omega) (hI.1).g (Mod.refl _ _))) (upd_same V 2 _))
            · intro D V zw1 a hR hI K hK   -- 3: Op.index 9 (Operand.const (Value.string { data := #[48, 49, 50, 51, 52
              obtain ⟨hM1, hB1, hG1⟩ := hI.1
              obtain ⟨hGK, hG1⟩ := hG1
              have zd2 := hR.pred 2 (by kernel_rfl)
              have zF2 : V 2 = .int .u8 ((c : Int) / 16) := hI.2 2 zd2 rfl
              have zf2 := zF2; clear zF2
              have ze44 := hR.frame.done (t := 44) (j := 2) (by kernel_rfl) hR.ok zd2
              have j1 : (0 : Int) ≤ (c : Int) / 16 := by omega
              have j2 : (c : Int) / 16 < 16 := by omega
              have j3 : ((c : Int) / 16).toNat = c / 16 := by omega
              rw [if_pos (by rfl)]
              go_simp
              exact hK (.int .u8 ((hexD (c / 16)).toNat : Int)) _ (hI.next hR (by kernel_rfl) (Mod.refl _ _) (PB.quiet hI.1 (Mod.refl _ _) (HGs.out D 3 zw1 zw1 (by omega) (hI.1).g (Mod.refl _ _))) (upd_same V 3 _))
            · intro D V zw1 a hR hI K hK   -- 4: Op.move (Operand.tmp 5)
              obtain ⟨hM1, hB1, hG1⟩ := hI.1
              obtain ⟨hGK, hG1⟩ := hG1
              have ze5 := hR.frame.other (t := 5) (by kernel_rfl) rfl
              rw [if_pos (by rfl)]
              go_simp
              exact hK (.int .u8 (c : Int)) _ (hI.next hR (by kernel_rfl) (Mod.refl _ _) (PB.quiet hI.1 (Mod.refl _ _) (HGs.out D 4 zw1 zw1 (by omega) (hI.1).g (Mod.refl _ _))) (upd_same V 4 _))
            · intro D V zw1 a hR hI K hK   -- 5: Op.binOp BinOp.rem 5 (Operand.tmp 46) (Operand.const (Value.int IntKin
              obtain ⟨hM1, hB1, hG1⟩ := hI.1
              obtain ⟨hGK, hG1⟩ := hG1
              have zd4 := hR.pred 4 (by kernel_rfl)
              have zF4 : V 4 = .int .u8 (c : Int) := hI.2 4 zd4 rfl
              have zf4 := zF4; clear zF4
              have ze46 := hR.frame.done (t := 46) (j := 4) (by kernel_rfl) hR.ok zd4
              rw [if_pos (by rfl)]
              go_simp
              exact hK (.int .u8 ((c : Int) % 16)) _ (hI.next hR (by kernel_rfl) (Mod.refl _ _) (PB.quiet hI.1 (Mod.refl _ _) (HGs.out D 5 zw1 zw1 (by omega) (hI.1).g (Mod.refl _ _))) (upd_same V 5 _))
            · intro D V zw1 a hR hI K hK   -- 6: Op.index 9 (Operand.const (Value.string { data := #[48, 49, 50, 51, 52
              obtain ⟨hM1, hB1, hG1⟩ := hI.1
              obtain ⟨hGK, hG1⟩ := hG1
              have zd5 := hR.pred 5 (by kernel_rfl)
              have zF5 : V 5 = .int .u8 ((c : Int) % 16) := hI.2 5 zd5 rfl
              have zf5 := zF5; clear zF5
              have ze47 := hR.frame.done (t := 47) (j := 5) (by kernel_rfl) hR.ok zd5
              have j1 : (0 : Int) ≤ (c : Int) % 16 := by omega
              have j2 : (c : Int) % 16 < 16 := by omega
              have j3 : ((c : Int) % 16).toNat = c % 16 := by omega
              rw [if_pos (by rfl)]
              go_simp
              exact hK (.int .u8 ((hexD (c % 16)).toNat : Int)) _ (hI.next hR (by kernel_rfl) (Mod.refl _ _) (PB.quiet hI.1 (Mod.refl _ _) (HGs.out D 6 zw1 zw1 (by omega) (hI.1).g (Mod.refl _ _))) (upd_same V 6 _))
            · intro D V zw1 a hR hI K hK   -- 7: Op.buildSlice 41 4 #[(0, Operand.const (Value.int IntKind.u8 92)), (1,
              obtain ⟨hM1, hB1, hG1⟩ := hI.1
              obtain ⟨hGK, hG1⟩ := hG1
              have zd3 := hR.pred 3 (by kernel_rfl)
              have zF3 : V 3 = .int .u8 ((hexD (c / 16)).toNat : Int) := hI.2 3 zd3 rfl
              have zf3 := zF3; clear zF3
              have zd6 := hR.pred 6 (by kernel_rfl)
              have zF6 : V 6 = .int .u8 ((hexD (c % 16)).toNat : Int) := hI.2 6 zd6 rfl
              have zf6 := zF6; clear zF6
              have ze45 := hR.frame.done (t := 45) (j := 3) (by kernel_rfl) hR.ok zd3
              have ze48 := hR.frame.done (t := 48) (j := 6) (by kernel_rfl) hR.ok zd6
              rw [if_pos (by rfl)]
              go_simp
              exact hK (_) _ (hI.next hR (by kernel_rfl) ((Mod.refl _ _).alloc _) (PB.quiet hI.1 (pure_alloc _ _) (HGs.out D 7 _ _ (by omega) (hI.1).g ((Mod.refl _ _).alloc _))) (⟨_, upd_same V 7 _, (by omega), (Blk.new _ _ _)⟩))
            · intro D V zw1 a hR hI K hK   -- 8: Op.call { callee := Callee.builtin Builtin.append, args := #[Operand.t
              obtain ⟨hM1, hB1, hG1⟩ := hI.1
              obtain ⟨hGK, hG1⟩ := hG1
              have zd0 := hR.pred 0 (by kernel_rfl)
              have zF0 : V 0 = .slice A fl.length cap := hI.2 0 zd0 rfl
              have zf0 := zF0; clear zF0
              have zd7 := hR.pred 7 (by kernel_rfl)
              have zF7 : ∃ (g_7 : Nat), V 7 = .slice (some ⟨g_7, 0, none⟩) 4 4 ∧ wr.heap.size ≤ g_7 ∧ Blk zw1 g_7 5 #[(.int .u8 92), (.int .u8 120), .int .u8 ((hexD (c / 16)).toNat : Int), .int .u8 ((hexD (c % 16)).toNat : Int)] := hI.2 7 zd7 (by show (!D 8) = true; rw [hR.not]; rfl)
              obtain ⟨g_7, zf7, c7_0, b7_0⟩ := zF7
              have ze42 := hR.frame.done (t := 42) (j := 0) (by kernel_rfl) hR.ok zd0
              have ze49 := hR.frame.done (t := 49) (j := 7) (by kernel_rfl) hR.ok zd7
              rw [if_pos (by rfl)]
              have hown := hGK hR.not
              refine wp_append_lies _ (.tmp 42) (.tmp 49) 41 (by rfl) base 5 i0 _ 1 1 Tryd.underlying41 hi0 hz0 hz1 hz2 (by rfl) (by omega) (.slice A fl.length cap) (fl.length) (Lib.byteCells fl) ?_ hown ⟨g_7, 0, none⟩ 4 4 [.int .u8 92, .int .u8 120, .int .u8 ((hexD (c / 16)).toNat : Int), .int .u8 ((hexD (c % 16)).toNat : Int)] ?_ (by rfl) (World.news_of_block (cs := #[.int .u8 92, .int .u8 120, .int .u8 ((hexD (c / 16)).toNat : Int), .int .u8 ((hexD (c % 16)).toNat : Int)]) (t := 5) (fr := (0, 0)) b7_0) (by simp [Value.oneCell']) (by omega) (by simp [maxLen]; omega) (by omega) (by omega) zw1.heap.size rfl ?_
              · show a.tmps.getD 42 undef = _; simp [ze42, zf0]
              · show a.tmps.getD 49 undef = _; simp [ze49, zf7]
              intro g5 cap5 zw2 hown5 hgrow hat hlt5
              have hT := mod_grown hgrow
              have hTb : ∀ j, (.slice A fl.length cap : Value).ownBlock = some j → base ≤ j := own_block hown
              have hTl : ∀ j, (.slice A fl.length cap : Value).ownBlock = some j → j < wr.heap.size := fun j hj => HLT.out j hj
              refine hK _ _ (InvF.last (PB.writes hI.1 (fun j hj hl => by have := hTb j hj; omega) hT ⟨fun hs => absurd hs (by rw [upd_same]; decide), Nat.le_trans hG1 hgrow.size⟩) ⟨_, _, upd_same V 8 _, hown5⟩ ?_)
              intro k hk hDk hlv
              have hkl := hR.lt k hDk
              have hv := hI.2 k hDk (liveB_of hlv)
              match k, hk, hDk, hlv, hkl, hv with
              | 0, _, _, _, _, hv => exact hv
              | 1, _, _, _, _, hv => exact hv
              | 2, _, _, _, _, hv => exact hv
              | 3, _, _, _, _, hv => exact hv
              | 4, _, _, _, _, hv => exact hv
              | 5, _, _, _, _, hv => exact hv
              | 6, _, _, _, _, hv => exact hv
              | 7, _, _, hlv, _, _ => exact absurd hlv (by show ¬ (!upd D 8 true 8) = true; rw [upd_same]; decide)
              | 8, hk, _, _, _, _ => exact absurd rfl hk
              | 9, _, hDk, _, _, _ => exact absurd hDk (by rw [hR.later 9 rfl (by kernel_rfl)]; decide)
              | k + 10, _, _, _, hkl, _ => exact absurd hkl (by simp)
            · intro D V zw1 a hR hI K hK   -- 9: Op.assign (Operand.tmp 50)
              obtain ⟨hM1, hB1, hG1⟩ := hI.1
              obtain ⟨hGK, hG1⟩ := hG1
              have zd8 := hR.pred 8 (by kernel_rfl)
              have zF8 : ∃ (g_8 : Nat) (cap_8 : Nat), V 8 = .slice (some ⟨g_8, 0, none⟩) (fl.length + 4) cap_8 ∧ zw1.ownsRow base 5 1 (.slice (some ⟨g_8, 0, none⟩) (fl.length + 4) cap_8) (fl.length + 4) (Lib.byteCells fl ++ [.int .u8 92, .int .u8 120, .int .u8 ((hexD (c / 16)).toNat : Int), .int .u8 ((hexD (c % 16)).toNat : Int)]) := hI.2 8 zd8 rfl
              obtain ⟨g_8, cap_8, zf8, b8_0⟩ := zF8
              have ze50 := hR.frame.done (t := 50) (j := 8) (by kernel_rfl) hR.ok zd8
              rw [if_pos (by rfl)]
              go_simp
              exact hK (.slice (some ⟨g_8, 0, none⟩) (fl.length + 4) cap_8) _ (hI.next hR (by kernel_rfl) (Mod.refl _ _) (PB.quiet hI.1 (Mod.refl _ _) (HGs.out D 9 zw1 zw1 (by omega) (hI.1).g (Mod.refl _ _))) (⟨g_8, cap_8, upd_same V 9 _, b8_0⟩))
          · intro D V w1 hD hI
            obtain ⟨hM1, hB1, hG1⟩ := hI.1
            have hMx := hM1
            clear hM1
            have hBx := hB1
            clear hB1
            have hGx := hG1.2
            clear hG1
            have zF0 : V 0 = .slice A fl.length cap := hI.2 0 (hD 0 (by decide)) rfl
            have zf0 := zF0; clear zF0
            have zF1 : V 1 = .int .u8 (c : Int) := hI.2 1 (hD 1 (by decide)) rfl
            have zf1 := zF1; clear zF1
            have zF2 : V 2 = .int .u8 ((c : Int) / 16) := hI.2 2 (hD 2 (by decide)) rfl
            have zf2 := zF2; clear zF2
            have zF3 : V 3 = .int .u8 ((hexD (c / 16)).toNat : Int) := hI.2 3 (hD 3 (by decide)) rfl
            have zf3 := zF3; clear zF3
            have zF4 : V 4 = .int .u8 (c : Int) := hI.2 4 (hD 4 (by decide)) rfl
            have zf4 := zF4; clear zF4
            have zF5 : V 5 = .int .u8 ((c : Int) % 16) := hI.2 5 (hD 5 (by decide)) rfl
            have zf5 := zF5; clear zF5
            have zF6 : V 6 = .int .u8 ((hexD (c % 16)).toNat : Int) := hI.2 6 (hD 6 (by decide)) rfl
            have zf6 := zF6; clear zF6
            have zF8 : ∃ (g_8 : Nat) (cap_8 : Nat), V 8 = .slice (some ⟨g_8, 0, none⟩) (fl.length + 4) cap_8 ∧ w1.ownsRow base 5 1 (.slice (some ⟨g_8, 0, none⟩) (fl.length + 4) cap_8) (fl.length + 4) (Lib.byteCells fl ++ [.int .u8 92, .int .u8 120, .int .u8 ((hexD (c / 16)).toNat : Int), .int .u8 ((hexD (c % 16)).toNat : Int)]) := hI.2 8 (hD 8 (by decide)) rfl
            obtain ⟨g_8, cap_8, zf8, b8_0⟩ := zF8
            have zF9 : ∃ (g_9 : Nat) (cap_9 : Nat), V 9 = .slice (some ⟨g_9, 0, none⟩) (fl.length + 4) cap_9 ∧ w1.ownsRow base 5 1 (.slice (some ⟨g_9, 0, none⟩) (fl.length + 4) cap_9) (fl.length + 4) (Lib.byteCells fl ++ [.int .u8 92, .int .u8 120, .int .u8 ((hexD (c / 16)).toNat : Int), .int .u8 ((hexD (c % 16)).toNat : Int)]) := hI.2 9 (hD 9 (by decide)) rfl
            obtain ⟨g_9, cap_9, zf9, b9_0⟩ := zF9
            clear hI hD HGs
            simp only [frAll, Act.put, List.setIfInBounds_toArray, List.set_cons_zero, List.set_cons_succ, Nat.zero_add, Nat.reduceAdd, zf0, zf1, zf2, zf3, zf4, zf5, zf6, zf8, zf9]
            clear zf0 zf1 zf2 zf3 zf4 zf5 zf6 zf8 zf9
            generalize V 7 = u7
            clear V D
            go_wp2_with fail
            go_roundg (s.size - (k + 1))
            case measure => omega
            case rel => exact HREL.out g_9 cap_9 4 w1 _ (by rw [HQ.out]; rfl) (by rw [HQ.out]; rfl) b9_0 hMx hGx
      · have HQ := Lib.hid (quoB_vis c (by omega) (by omega) h34 h92)
        have v1 : ¬ ((c : Int) < 33) := by omega
        have v2 : ¬ ((126 : Int) < (c : Int)) := by omega
        clear h34 h92 h10 hv
        go_wp2_with (at_builtin; refine wpList_append_lies _ rfl _ _ _ rfl base 5 i0 _ 1 1 Tryd.underlying41 hi0 hz0 hz1 hz2 rfl (by omega) (.slice A fl.length cap) fl.length (Lib.byteCells fl) rfl (hown.alloc _) ⟨wr.heap.size, 0, none⟩ 1 1 [.int .u8 (c : Int)] rfl rfl (World.news_of_block (cs := #[.int .u8 (c : Int)]) (t := 5) (fr := (0, 0)) (heap_alloc_new wr _)) (by simp [Value.oneCell']) (by omega) (by simp [maxLen]; omega) (by omega) (by have := hm.size; simp; omega) (wr.heap.size + 1) (by simp) ?_; intro g5 cap5 w5 hown5 hgrow hat hlt5)
        go_roundg (s.size - (k + 1))
        case measure => omega
        case rel =>
          have hz5 := hgrow.size
          simp at hz5
          exact HREL.out g5 cap5 1 w5 _ (by rw [HQ.out, cell_u8 c hc]; rfl) (by rw [HQ.out]; rfl) hown5 ((hm.alloc _).grown hgrow (fun j hj => .inr (by have := own_block hown j hj; omega))) (by omega)
    · obtain rfl : k = s.size := by omega
      have e1 : s.data.toList.take s.size = s.data.toList := List.take_of_length_le (by rw [HLS.out]; omega)
      rw [e1] at HFE
      clear e1
      have HQ : Hid (quoS s.data.toList = fl ++ [34]) := Lib.hid (by rw [quoS_as, HFE.out])
      clear HFE
      go_wp2_with (at_builtin; (refine wpList_append_lies _ rfl _ _ _ rfl base 5 i0 _ 1 1 Tryd.underlying41 hi0 hz0 hz1 hz2 rfl (by omega) (.slice A fl.length cap) fl.length (Lib.byteCells fl) rfl (hown.alloc _) ⟨wr.heap.size, 0, none⟩ 1 1 [.int .u8 34] rfl rfl (World.news_of_block (cs := #[.int .u8 34]) (t := 5) (fr := (0, 0)) (heap_alloc_new wr _)) (by simp [Value.oneCell']) (by omega) (by simp [maxLen]; omega) (by omega) (by simp; omega) (wr.heap.size + 1) (by simp) ?_); intro g5 cap5 w5 hown5 hgrow hat hlt5; have hcv := run_convert_bytes_back (P := Tryd.prog) w5 41 9 5 ⟨g5, 0, none⟩ cap5 (fl ++ [34]) Tryd.underlying41 Tryd.underlying5 Tryd.underlying9 (own_bytes (n := fl.length + 1) (by rw [← byteCells_app]; exact hown5)); rw [List.length_append, List.length_singleton] at hcv)
      go_ret
      exact ⟨by rw [HQ.out]; rfl, (hm.alloc _).grown hgrow (fun j hj => .inr (by have := own_block hown j hj; omega))⟩

end Go.Proofs.YtbpicgmblpejoaaDoor
