/- Quoted strings: Unquoted of the reference. -/
import Derived.Test.YtbpicgmblpejoaaDoorUnqA
namespace Go.Proofs.YtbpicgmblpejoaaDoor
set_option linter.unusedVariables false
set_option linter.unusedSimpArgs false
open Go.RowKit

theorem decP_none_of {t : Str} (h : ∀ c, c < 256 → ¬ quoB (UInt8.ofNat c) <+: t) : decP t = none := by
  match hd : decP t with
  | none => rfl
  | some (c, n) =>
    have := (decP_some hd).2
    have h2 := h c.toNat c.toNat_lt
    rw [UInt8.ofNat_toNat] at h2
    exact absurd this h2
theorem decP_of_prefix {t : Str} {c : UInt8} (h : quoB c <+: t) : decP t = some (c, (quoB c).length) := by
  obtain ⟨r, rfl⟩ := h
  exact decP_quo c r
theorem quoB_le (c : UInt8) : 1 ≤ (quoB c).length ∧ (quoB c).length ≤ 4 := by
  unfold quoB
  split <;> (try split) <;> (try split) <;> simp
def UqdPost (w : World) (l : Str) (e : Ending) (w' : World) : Prop :=
  ((unqS l = none ∧ e = .returned (.tuple #[.string ⟨#[]⟩, .int .i64 0, .bool false])) ∨ ∃ out n, unqS l = some (out, n) ∧ e = .returned (.tuple #[.string ⟨out.toArray⟩, .int .i64 (n : Int), .bool true])) ∧ Pure w w'
def UdRel (w : World) (l : Str) (base gk : Nat) (x a : Value) (wr : World) : Prop :=
  ∃ (k : Nat) (A : Option Addr) (cap : Nat) (acc : Str) (rs : ByteArray), l.length - k = gk ∧ 1 ≤ k ∧ a = .string rs ∧ rs = ⟨(l.drop k).toArray⟩ ∧ x = .slice A acc.length cap ∧ acc.length ≤ k ∧ UnqAt l k acc ∧ wr.ownsRow base 5 1 (.slice A acc.length cap) acc.length (Lib.byteCells acc) ∧ Pure w wr ∧ base ≤ wr.heap.size
def UiRel (w : World) (rl : Str) (base : Nat) (A : Option Addr) (cap : Nat) (acc : Str) (rs : ByteArray) (gk : Nat) (x y f i : Value) (wr : World) : Prop :=
  ∃ c : Nat, x = .slice A acc.length cap ∧ y = .string rs ∧ f = .bool false ∧ 256 - c = gk ∧ c ≤ 256 ∧ i = .int .i64 (c : Int) ∧ (∀ d, d < c → ¬ quoB (UInt8.ofNat d) <+: rl) ∧ wr.ownsRow base 5 1 (.slice A acc.length cap) acc.length (Lib.byteCells acc) ∧ Pure w wr ∧ base ≤ wr.heap.size
def HasPre (rs : ByteArray) (r : Str) : Prop := rs.data.toList = r
theorem mid_quoS (x : Str) : (⟨(34 :: (x ++ [34])).toArray⟩ : ByteArray).extract 1 (x.length + 1) = ⟨x.toArray⟩ := by
  apply ByteArray.ext
  simp [ByteArray.data_extract]
theorem quoS_one (c : UInt8) : quoS [c] = 34 :: (quoB c ++ [34]) := by simp [quoS]

set_option maxRecDepth 100000 in
set_option maxHeartbeats 4000000 in
theorem Unquoted_calls (w : World) (l : Str) (hl : l.length ≤ 10000) : Calls Tryd.prog 12 #[.string ⟨l.toArray⟩] w (UqdPost w l) := by
  obtain ⟨i0, hi0, hz0, hz1, hz2⟩ := info_parts info_u8
  have hz : (⟨l.toArray⟩ : ByteArray).size = l.length := by simp [ByteArray.size]
  obtain ⟨s, hs⟩ : ∃ s : ByteArray, (⟨l.toArray⟩ : ByteArray) = s := ⟨_, rfl⟩
  rw [hs] at hz
  rw [hs]
  have HS0 := Lib.hid hs
  clear hs
  by_cases hp : ∃ r, l = 34 :: r
  · obtain ⟨r, hr⟩ := hp
    have p1 : List.isPrefixOf (⟨#[34]⟩ : ByteArray).data.toList s.data.toList = true := by rw [← HS0.out, hr]; simp [List.isPrefixOf]
    have HU0 : Hid (UnqAt l 1 []) := Lib.hid (by rw [hr]; exact .start r)
    have hl1 : 1 ≤ l.length := by rw [hr]; simp
    have P1 := Lib.hid p1
    clear p1 hr
    have HX1 : Hid (s.extract 1 l.length = ⟨(l.drop 1).toArray⟩) := Lib.hid (by
      rw [← HS0.out]
      apply ByteArray.ext
      simp only [ByteArray.data_extract, List.extract_toArray, List.extract_eq_take_drop]
      rw [List.take_of_length_le (by simp)])
    obtain ⟨base, hb⟩ : ∃ base, base = w.heap.size := ⟨_, rfl⟩
    have hb1 := Nat.le_of_eq hb
    have hb2 := Nat.le_of_eq hb.symm
    clear hb
    go_enter Tryd.func12, Tryd.ntmps12
    go_wp2_with fail
    refine (prefix_calls _ _ _).mono ?_
    rintro e w' ⟨rfl, rfl⟩
    rw [P1.out]
    go_wp2_with fail
    go_loopg [5, 6] (l.length - 1) (fun gk x a wr => UdRel w l base gk x a wr)
    case atStart => exact ⟨1, none, 0, [], _, rfl, by omega, rfl, HX1.out, rfl, by simp, HU0.out, ⟨rfl, .inl ⟨rfl, rfl⟩⟩, Mod.refl _ _, hb1⟩
    case round =>
      clear HU0 P1 HX1
      obtain ⟨k, A, cap, acc, rs, rfl, hk1, rfl, hrs, rfl, hak, hu, hown, hm, hbig⟩ := hrel
      have hkl := hu.1
      have HU := Lib.hid hu
      have HRS := Lib.hid hrs
      have hrz : rs.size = l.length - k := by rw [hrs]; simp [ByteArray.size]
      clear hu hrs
      by_cases hlt : k < l.length
      · have hne : rs.toList.isEmpty = false := by
          rw [ByteArray.toList_eq, HRS.out]
          simp only [List.drop_eq_getElem_cons hlt]
          rfl
        obtain ⟨r, hr⟩ : ∃ r, l.drop k = l[k] :: r := ⟨_, List.drop_eq_getElem_cons hlt⟩
        have HR := Lib.hid hr
        have hks : 0 < rs.size := by omega
        have hgk : rs[0] = l[k] := (by intro s hs; subst hs; intro _; simp [HR.out, ByteArray.getElem_eq_getElem_data] : ∀ s : ByteArray, s = (⟨(l.drop k).toArray⟩ : ByteArray) → ∀ h, s[0]'h = l[k]) rs HRS.out hks
        have HG := Lib.hid hgk
        clear hr hgk
        have hc := rs[0].toNat_lt
        have HCV := Lib.hid (conv_own hown)
        by_cases h34 : rs[0] = 34
        · have HQ := Lib.hid (HU.out.quote (r := r) (by rw [HR.out, ← HG.out, h34]))
          have hv34 : rs[0].toNat = 34 := by rw [h34]; rfl
          have hcv := HCV.out
          clear HR HG HU HCV h34 HRS
          generalize hcc : rs[0].toNat = c at *
          subst hv34
          go_wp2_with fail
          refine bodyPost_ret (v := .tuple #[.string ⟨acc.toArray⟩, .int .i64 ((l.length : Int) - ((l.length - k : Nat) : Int) + 1), .bool true]) (by simp [results, Tryd.results12, go_sem]) rfl ?_
          exact ⟨.inr ⟨acc, k + 1, HQ.out, by rw [show (l.length : Int) - ((l.length - k : Nat) : Int) + 1 = ((k + 1 : Nat) : Int) by omega]⟩, hm⟩
        · have hv34 : ((rs[0].toNat : Int) == 34) = false := by
            have : rs[0].toNat ≠ 34 := fun h => h34 (UInt8.toNat_inj.1 h)
            simp; omega
          have H34 : Hid (l[k] ≠ 34) := Lib.hid (by rw [← HG.out]; exact h34)
          clear HCV h34 HG
          generalize hcc : rs[0].toNat = c0 at *
          go_wp2_with fail
          go_loopg [5, 6, 7, 28] 256 (fun gk x y f i w1 => UiRel w (l.drop k) base A cap acc rs gk x y f i w1)
          case atStart => exact ⟨0, rfl, rfl, rfl, rfl, by omega, rfl, fun d hd => absurd hd (by omega), hown, hm, hbig⟩
          case round =>
            clear hown hm hbig hcc hv34 hne hc
            obtain ⟨c, rfl, rfl, rfl, rfl, hc, rfl, hno, hown, hm, hbig⟩ := hrel
            have HNO := Lib.hid hno
            clear hno
            by_cases hc2 : c < 256
            · obtain ⟨d8, rfl⟩ : ∃ d8 : UInt8, c = d8.toNat := ⟨UInt8.ofNat c, by simp; omega⟩
              have hw8 : IntKind.u8.wrap (d8.toNat : Int) = (d8.toNat : Int) := u8_wrap _ (by omega) (by omega)
              have own0 : (wr.alloc (.cells #[.int .u8 (d8.toNat : Int)] 5)).ownsRow wr.heap.size 5 1 (.slice (some ⟨wr.heap.size, 0, none⟩) 1 1) 1 (Lib.byteCells [d8]) := ⟨rfl, .inr ⟨wr.heap.size, 1, #[.int .u8 (d8.toNat : Int)], rfl, Nat.le_refl _, heap_alloc_new _ _, by omega, by simp [maxLen], rfl, rfl⟩⟩
              have hcv2 := conv_own own0
              have HQ := Lib.hid (Quoted_calls (wr.alloc (.cells #[.int .u8 (d8.toNat : Int)] 5)) ⟨#[d8]⟩ (by simp [ByteArray.size]))
              clear own0
              go_wp2_with fail
              refine HQ.out.mono ?_
              rintro e w1 ⟨rfl, hm1⟩
              clear HQ hcv2 hw8
              have hM := (hm.alloc (.cells #[.int .u8 (d8.toNat : Int)] 5)).trans hm1
              have hown1 := own_pure (hown.alloc (.cells #[.int .u8 (d8.toNat : Int)] 5)) hm1
              have hbig1 : base ≤ w1.heap.size := Nat.le_trans (by simp; omega) hm1.size
              clear hown hm hm1 hbig
              rw [show quoS (⟨#[d8]⟩ : ByteArray).data.toList = 34 :: (quoB d8 ++ [34]) from quoS_one d8]
              have hq4 := quoB_le d8
              have hmid := mid_quoS (quoB d8)
              have HPX : Hid (HasPre rs (l.drop k)) := Lib.hid (by rw [HasPre, HRS.out])
              go_wp2_with fail
              refine (prefix_calls _ _ _).mono ?_
              rintro e w2 ⟨rfl, rfl⟩
              clear hmid HPX
              by_cases hpre : quoB d8 <+: l.drop k
              · have hpb : List.isPrefixOf (⟨(quoB d8).toArray⟩ : ByteArray).data.toList rs.data.toList = true := by
                  rw [HRS.out, List.isPrefixOf_iff_prefix]
                  exact hpre
                rw [hpb]
                have HNX := Lib.hid (HU.out.next HR.out H34.out (by rw [← HR.out]; exact decP_of_prefix hpre))
                have hkn := HNX.out.2
                have hqz : (⟨(quoB d8).toArray⟩ : ByteArray).size = (quoB d8).length := by simp [ByteArray.size]
                have hex2 : rs.extract (quoB d8).length (l.length - k) = ⟨(l.drop (k + (quoB d8).length)).toArray⟩ := by
                  rw [HRS.out]
                  apply ByteArray.ext
                  simp only [ByteArray.data_extract, List.extract_toArray, List.extract_eq_take_drop, List.drop_drop]
                  rw [List.take_of_length_le (by simp; omega)]
                clear hpb hpre HU HR H34 HNO
                generalize (quoB d8).length = n at *
                generalize (⟨(quoB d8).toArray⟩ : ByteArray) = q at *
                obtain ⟨rs2, hrs2⟩ : ∃ rs2 : ByteArray, rs2 = ⟨(l.drop (k + n)).toArray⟩ := ⟨_, rfl⟩
                rw [← hrs2] at hex2
                have HREL : Hid (∀ (g5 cap5 : Nat) (w5 : World), w5.ownsRow base 5 1 (.slice (some ⟨g5, 0, none⟩) (acc.length + 1) cap5) (acc.length + 1) (Lib.byteCells acc ++ [.int .u8 (d8.toNat : Int)]) → Pure w w5 → base ≤ w5.heap.size →
                    UdRel w l base (l.length - (k + n)) (.slice (some ⟨g5, 0, none⟩) (acc.length + 1) cap5) (.string rs2) w5) := Lib.hid (by
                  intro g5 cap5 w5 hown5 hp hb5
                  have e1 : Lib.byteCells acc ++ [.int .u8 (d8.toNat : Int)] = Lib.byteCells (acc ++ [d8]) := by simp [Lib.byteCells]
                  rw [e1] at hown5
                  refine ⟨k + n, some ⟨g5, 0, none⟩, cap5, acc ++ [d8], rs2, rfl, by omega, rfl, hrs2, by simp, by simp; omega, HNX.out.1, ?_, hp, hb5⟩
                  rw [List.length_append, List.length_singleton]
                  exact hown5)
                clear HNX hrs2 HRS
                have HLT := Lib.hid (fun j (hj : (Value.slice A acc.length cap).ownBlock = some j) => own_lt hown1 hj)
                go_wp2_with fail
                have HGs := Lib.hid (show ∀ (D : Nat → Bool) (i : Nat) (zq zq' : World), i ≠ 4 → (fun D zq => (D 4 = false → (fun Z => Z.ownsRow base 5 1 (.slice A acc.length cap) acc.length (Lib.byteCells acc)) zq) ∧ (fun Z => base ≤ Z.heap.size) zq) D zq → Mod (fun _ => False) zq zq' → (fun D zq => (D 4 = false → (fun Z => Z.ownsRow base 5 1 (.slice A acc.length cap) acc.length (Lib.byteCells acc)) zq) ∧ (fun Z => base ≤ Z.heap.size) zq) (upd D i true) zq' from by intro D i zq zq' hi hh hm; refine ⟨fun hs => ?_, ?_⟩; (rw [upd_ne _ _ (Ne.symm hi)] at hs; have h := hh.1 hs; (exact own_pure h hm)); (have h := hh.2; (exact Nat.le_trans h hm.size)))
                refine wp_region_inv (by kernel_rfl) (by kernel_rfl) (InvF (R := Mod (fun _ => False)) [.is (.slice A acc.length cap),
                    .is (.int .i64 (d8.toNat : Int)),
                    .is (.int .u8 (d8.toNat : Int)),
                    ⟨fun zv zw => ∃ (g_3 : Nat), zv = .slice (some ⟨g_3, 0, none⟩) 1 1 ∧ w1.heap.size ≤ g_3 ∧ Blk zw g_3 5 #[.int .u8 (d8.toNat : Int)], (by rintro zv zw zx ⟨g_3, rfl, c0, q0⟩ hm; exact ⟨g_3, rfl, c0, (q0.modp hm)⟩), none, some 4⟩,
                    ⟨fun zv zw => ∃ (g_4 : Nat) (cap_4 : Nat), zv = .slice (some ⟨g_4, 0, none⟩) (acc.length + 1) cap_4 ∧ zw.ownsRow base 5 1 (.slice (some ⟨g_4, 0, none⟩) (acc.length + 1) cap_4) (acc.length + 1) (Lib.byteCells acc ++ [.int .u8 (d8.toNat : Int)]), (by rintro zv zw zx ⟨g_4, cap_4, rfl, q0⟩ hm; exact ⟨g_4, cap_4, rfl, (own_pure q0 hm)⟩), none, none⟩,
                    .is (.string rs),
                    .is (.string q),
                    .is (.int .i64 (n : Int)),
                    .is (.string rs2),
                    ⟨fun zv zw => ∃ (g_9 : Nat) (cap_9 : Nat), zv = .slice (some ⟨g_9, 0, none⟩) (acc.length + 1) cap_9 ∧ zw.ownsRow base 5 1 (.slice (some ⟨g_9, 0, none⟩) (acc.length + 1) cap_9) (acc.length + 1) (Lib.byteCells acc ++ [.int .u8 (d8.toNat : Int)]), (by rintro zv zw zx ⟨g_9, cap_9, rfl, q0⟩ hm; exact ⟨g_9, cap_9, rfl, (own_pure q0 hm)⟩), none, none⟩,
                    .is (.string rs2),
                    .is ((.bool true))]
                    (PB w (fun _ => False) w1.heap.size (fun D zq => (D 4 = false → (fun Z => Z.ownsRow base 5 1 (.slice A acc.length cap) acc.length (Lib.byteCells acc)) zq) ∧ (fun Z => base ≤ Z.heap.size) zq))) (InvF.start (PB.start hM (Nat.le_refl _) (⟨fun _ => hown1.drew, hbig1⟩))) ?_ ?_
                · refine .cons ?_ (.cons ?_ (.cons ?_ (.cons ?_ (.cons ?_ (.cons ?_ (.cons ?_ (.cons ?_ (.cons ?_ (.cons ?_ (.cons ?_ (.cons ?_ .nil)))))))))))
                  · intro D V zw1 a hR hI K hK   -- 0: Op.move (Operand.tmp 5)
                    obtain ⟨hM1, hB1, hG1⟩ := hI.1
                    obtain ⟨hGK, hG1⟩ := hG1
                    have ze5 := hR.frame.undone (t := 5) (j := 9) (by kernel_rfl) (hR.later 9 rfl (by kernel_rfl)) rfl
                    rw [if_pos (by rfl)]
                    go_simp
                    exact hK (.slice A acc.length cap) _ (hI.next hR (by kernel_rfl) (Mod.refl _ _) (PB.quiet hI.1 (Mod.refl _ _) (HGs.out D 0 zw1 zw1 (by omega) (hI.1).g (Mod.refl _ _))) (upd_same V 0 _))
                  · intro D V zw1 a hR hI K hK   -- 1: Op.move (Operand.tmp 8)
                    obtain ⟨hM1, hB1, hG1⟩ := hI.1
                    obtain ⟨hGK, hG1⟩ := hG1
                    have ze8 := hR.frame.other (t := 8) (by kernel_rfl) rfl
                    rw [if_pos (by rfl)]
                    go_simp
                    exact hK (.int .i64 (d8.toNat : Int)) _ (hI.next hR (by kernel_rfl) (Mod.refl _ _) (PB.quiet hI.1 (Mod.refl _ _) (HGs.out D 1 zw1 zw1 (by omega) (hI.1).g (Mod.refl _ _))) (upd_same V 1 _))
                  · intro D V zw1 a hR hI K hK   -- 2: Op.convert 3 5 (Operand.tmp 45)
                    obtain ⟨hM1, hB1, hG1⟩ := hI.1
                    obtain ⟨hGK, hG1⟩ := hG1
                    have zd1 := hR.pred 1 (by kernel_rfl)
                    have zF1 : V 1 = .int .i64 (d8.toNat : Int) := hI.2 1 zd1 rfl
                    have zf1 := zF1; clear zF1
                    have ze45 := hR.frame.done (t := 45) (j := 1) (by kernel_rfl) hR.ok zd1
                    have hw8 : IntKind.u8.wrap (d8.toNat : Int) = (d8.toNat : Int) := u8_wrap _ (by omega) (by omega)
                    rw [if_pos (by rfl)]
                    go_simp
                    exact hK (.int .u8 (d8.toNat : Int)) _ (hI.next hR (by kernel_rfl) (Mod.refl _ _) (PB.quiet hI.1 (Mod.refl _ _) (HGs.out D 2 zw1 zw1 (by omega) (hI.1).g (Mod.refl _ _))) (upd_same V 2 _))
                  · intro D V zw1 a hR hI K hK   -- 3: Op.buildSlice 41 1 #[(0, Operand.tmp 46)]
                    obtain ⟨hM1, hB1, hG1⟩ := hI.1
                    obtain ⟨hGK, hG1⟩ := hG1
                    have zd2 := hR.pred 2 (by kernel_rfl)
                    have zF2 : V 2 = .int .u8 (d8.toNat : Int) := hI.2 2 zd2 rfl
                    have zf2 := zF2; clear zF2
                    have ze46 := hR.frame.done (t := 46) (j := 2) (by kernel_rfl) hR.ok zd2
                    rw [if_pos (by rfl)]
                    go_simp
                    exact hK (_) _ (hI.next hR (by kernel_rfl) ((Mod.refl _ _).alloc _) (PB.quiet hI.1 (pure_alloc _ _) (HGs.out D 3 _ _ (by omega) (hI.1).g ((Mod.refl _ _).alloc _))) (⟨_, upd_same V 3 _, (by omega), (Blk.new _ _ _)⟩))
                  · intro D V zw1 a hR hI K hK   -- 4: Op.call { callee := Callee.builtin Builtin.append, args := #[Operand.t
                    obtain ⟨hM1, hB1, hG1⟩ := hI.1
                    obtain ⟨hGK, hG1⟩ := hG1
                    have zd0 := hR.pred 0 (by kernel_rfl)
                    have zF0 : V 0 = .slice A acc.length cap := hI.2 0 zd0 rfl
                    have zf0 := zF0; clear zF0
                    have zd3 := hR.pred 3 (by kernel_rfl)
                    have zF3 : ∃ (g_3 : Nat), V 3 = .slice (some ⟨g_3, 0, none⟩) 1 1 ∧ w1.heap.size ≤ g_3 ∧ Blk zw1 g_3 5 #[.int .u8 (d8.toNat : Int)] := hI.2 3 zd3 (by show (!D 4) = true; rw [hR.not]; rfl)
                    obtain ⟨g_3, zf3, c3_0, b3_0⟩ := zF3
                    have ze44 := hR.frame.done (t := 44) (j := 0) (by kernel_rfl) hR.ok zd0
                    have ze47 := hR.frame.done (t := 47) (j := 3) (by kernel_rfl) hR.ok zd3
                    rw [if_pos (by rfl)]
                    have hown := hGK hR.not
                    refine wp_append_lies _ (.tmp 44) (.tmp 47) 41 (by rfl) base 5 i0 _ 1 1 Tryd.underlying41 hi0 hz0 hz1 hz2 (by rfl) (by omega) (.slice A acc.length cap) (acc.length) (Lib.byteCells acc) ?_ hown ⟨g_3, 0, none⟩ 1 1 [.int .u8 (d8.toNat : Int)] ?_ (by rfl) (World.news_of_block (cs := #[.int .u8 (d8.toNat : Int)]) (t := 5) (fr := (0, 0)) b3_0) (by simp [Value.oneCell']) (by omega) (by simp [maxLen]; omega) (by omega) (by omega) zw1.heap.size rfl ?_
                    · show a.tmps.getD 44 undef = _; simp [ze44, zf0]
                    · show a.tmps.getD 47 undef = _; simp [ze47, zf3]
                    intro g5 cap5 zw2 hown5 hgrow hat hlt5
                    have hT := mod_grown hgrow
                    have hTb : ∀ j, (.slice A acc.length cap : Value).ownBlock = some j → base ≤ j := own_block hown
                    have hTl : ∀ j, (.slice A acc.length cap : Value).ownBlock = some j → j < w1.heap.size := fun j hj => HLT.out j hj
                    refine hK _ _ (InvF.last (PB.writes hI.1 (fun j hj hl => by have := hTb j hj; omega) hT ⟨fun hs => absurd hs (by rw [upd_same]; decide), Nat.le_trans hG1 hgrow.size⟩) ⟨_, _, upd_same V 4 _, hown5⟩ ?_)
                    intro k hk hDk hlv
                    have hkl := hR.lt k hDk
                    have hv := hI.2 k hDk (liveB_of hlv)
                    match k, hk, hDk, hlv, hkl, hv with
                    | 0, _, _, _, _, hv => exact hv
                    | 1, _, _, _, _, hv => exact hv
                    | 2, _, _, _, _, hv => exact hv
                    | 3, _, _, hlv, _, _ => exact absurd hlv (by show ¬ (!upd D 4 true 4) = true; rw [upd_same]; decide)
                    | 4, hk, _, _, _, _ => exact absurd rfl hk
                    | 5, _, _, _, _, hv => exact hv
                    | 6, _, _, _, _, hv => exact hv
                    | 7, _, _, _, _, hv => exact hv
                    | 8, _, _, _, _, hv => exact hv
                    | 9, _, hDk, _, _, _ => exact absurd hDk (by rw [hR.later 9 rfl (by kernel_rfl)]; decide)
                    | 10, _, _, _, _, hv => exact hv
                    | 11, _, _, _, _, hv => exact hv
                    | k + 12, _, _, _, hkl, _ => exact absurd hkl (by simp)
                  · intro D V zw1 a hR hI K hK   -- 5: Op.move (Operand.tmp 6)
                    obtain ⟨hM1, hB1, hG1⟩ := hI.1
                    obtain ⟨hGK, hG1⟩ := hG1
                    have ze6 := hR.frame.undone (t := 6) (j := 10) (by kernel_rfl) (hR.later 10 rfl (by kernel_rfl)) rfl
                    rw [if_pos (by rfl)]
                    go_simp
                    exact hK (.string rs) _ (hI.next hR (by kernel_rfl) (Mod.refl _ _) (PB.quiet hI.1 (Mod.refl _ _) (HGs.out D 5 zw1 zw1 (by omega) (hI.1).g (Mod.refl _ _))) (upd_same V 5 _))
                  · intro D V zw1 a hR hI K hK   -- 6: Op.move (Operand.tmp 9)
                    obtain ⟨hM1, hB1, hG1⟩ := hI.1
                    obtain ⟨hGK, hG1⟩ := hG1
                    have ze9 := hR.frame.other (t := 9) (by kernel_rfl) rfl
                    rw [if_pos (by rfl)]
                    go_simp
                    exact hK (.string q) _ (hI.next hR (by kernel_rfl) (Mod.refl _ _) (PB.quiet hI.1 (Mod.refl _ _) (HGs.out D 6 zw1 zw1 (by omega) (hI.1).g (Mod.refl _ _))) (upd_same V 6 _))
                  · intro D V zw1 a hR hI K hK   -- 7: Op.call { callee := Callee.builtin Builtin.len, args := #[Operand.tmp 
                    obtain ⟨hM1, hB1, hG1⟩ := hI.1
                    obtain ⟨hGK, hG1⟩ := hG1
                    have zd6 := hR.pred 6 (by kernel_rfl)
                    have zF6 : V 6 = .string q := hI.2 6 zd6 rfl
                    have zf6 := zF6; clear zF6
                    have ze50 := hR.frame.done (t := 50) (j := 6) (by kernel_rfl) hR.ok zd6
                    rw [if_pos (by rfl)]
                    go_simp
                    exact hK (.int .i64 (n : Int)) _ (hI.next hR (by kernel_rfl) (Mod.refl _ _) (PB.quiet hI.1 (Mod.refl _ _) (HGs.out D 7 zw1 zw1 (by omega) (hI.1).g (Mod.refl _ _))) (upd_same V 7 _))
                  · intro D V zw1 a hR hI K hK   -- 8: Op.slice 9 (Operand.tmp 49) (some (Operand.tmp 51)) none none
                    obtain ⟨hM1, hB1, hG1⟩ := hI.1
                    obtain ⟨hGK, hG1⟩ := hG1
                    have zd5 := hR.pred 5 (by kernel_rfl)
                    have zF5 : V 5 = .string rs := hI.2 5 zd5 rfl
                    have zf5 := zF5; clear zF5
                    have zd7 := hR.pred 7 (by kernel_rfl)
                    have zF7 : V 7 = .int .i64 (n : Int) := hI.2 7 zd7 rfl
                    have zf7 := zF7; clear zF7
                    have ze49 := hR.frame.done (t := 49) (j := 5) (by kernel_rfl) hR.ok zd5
                    have ze51 := hR.frame.done (t := 51) (j := 7) (by kernel_rfl) hR.ok zd7
                    have j9 : n ≤ l.length - k := by omega
                    rw [if_pos (by rfl)]
                    go_simp
                    exact hK (.string rs2) _ (hI.next hR (by kernel_rfl) (Mod.refl _ _) (PB.quiet hI.1 (Mod.refl _ _) (HGs.out D 8 zw1 zw1 (by omega) (hI.1).g (Mod.refl _ _))) (upd_same V 8 _))
                  · intro D V zw1 a hR hI K hK   -- 9: Op.assign (Operand.tmp 48)
                    obtain ⟨hM1, hB1, hG1⟩ := hI.1
                    obtain ⟨hGK, hG1⟩ := hG1
                    have zd4 := hR.pred 4 (by kernel_rfl)
                    have zF4 : ∃ (g_4 : Nat) (cap_4 : Nat), V 4 = .slice (some ⟨g_4, 0, none⟩) (acc.length + 1) cap_4 ∧ zw1.ownsRow base 5 1 (.slice (some ⟨g_4, 0, none⟩) (acc.length + 1) cap_4) (acc.length + 1) (Lib.byteCells acc ++ [.int .u8 (d8.toNat : Int)]) := hI.2 4 zd4 rfl
                    obtain ⟨g_4, cap_4, zf4, b4_0⟩ := zF4
                    have ze48 := hR.frame.done (t := 48) (j := 4) (by kernel_rfl) hR.ok zd4
                    rw [if_pos (by rfl)]
                    go_simp
                    exact hK (.slice (some ⟨g_4, 0, none⟩) (acc.length + 1) cap_4) _ (hI.next hR (by kernel_rfl) (Mod.refl _ _) (PB.quiet hI.1 (Mod.refl _ _) (HGs.out D 9 zw1 zw1 (by omega) (hI.1).g (Mod.refl _ _))) (⟨g_4, cap_4, upd_same V 9 _, b4_0⟩))
                  · intro D V zw1 a hR hI K hK   -- 10: Op.assign (Operand.tmp 52)
                    obtain ⟨hM1, hB1, hG1⟩ := hI.1
                    obtain ⟨hGK, hG1⟩ := hG1
                    have zd8 := hR.pred 8 (by kernel_rfl)
                    have zF8 : V 8 = .string rs2 := hI.2 8 zd8 rfl
                    have zf8 := zF8; clear zF8
                    have ze52 := hR.frame.done (t := 52) (j := 8) (by kernel_rfl) hR.ok zd8
                    rw [if_pos (by rfl)]
                    go_simp
                    exact hK (.string rs2) _ (hI.next hR (by kernel_rfl) (Mod.refl _ _) (PB.quiet hI.1 (Mod.refl _ _) (HGs.out D 10 zw1 zw1 (by omega) (hI.1).g (Mod.refl _ _))) (upd_same V 10 _))
                  · intro D V zw1 a hR hI K hK   -- 11: Op.assign (Operand.const (Value.bool true))
                    obtain ⟨hM1, hB1, hG1⟩ := hI.1
                    obtain ⟨hGK, hG1⟩ := hG1
                    rw [if_pos (by rfl)]
                    go_simp
                    exact hK ((.bool true)) _ (hI.next hR (by kernel_rfl) (Mod.refl _ _) (PB.quiet hI.1 (Mod.refl _ _) (HGs.out D 11 zw1 zw1 (by omega) (hI.1).g (Mod.refl _ _))) (upd_same V 11 _))
                · intro D V w2 hD hI
                  obtain ⟨hM1, hB1, hG1⟩ := hI.1
                  have hMx := hM1
                  clear hM1
                  have hBx := hB1
                  clear hB1
                  have hGx := hG1.2
                  clear hG1
                  have zF0 : V 0 = .slice A acc.length cap := hI.2 0 (hD 0 (by decide)) rfl
                  have zf0 := zF0; clear zF0
                  have zF1 : V 1 = .int .i64 (d8.toNat : Int) := hI.2 1 (hD 1 (by decide)) rfl
                  have zf1 := zF1; clear zF1
                  have zF2 : V 2 = .int .u8 (d8.toNat : Int) := hI.2 2 (hD 2 (by decide)) rfl
                  have zf2 := zF2; clear zF2
                  have zF4 : ∃ (g_4 : Nat) (cap_4 : Nat), V 4 = .slice (some ⟨g_4, 0, none⟩) (acc.length + 1) cap_4 ∧ w2.ownsRow base 5 1 (.slice (some ⟨g_4, 0, none⟩) (acc.length + 1) cap_4) (acc.length + 1) (Lib.byteCells acc ++ [.int .u8 (d8.toNat : Int)]) := hI.2 4 (hD 4 (by decide)) rfl
                  obtain ⟨g_4, cap_4, zf4, b4_0⟩ := zF4
                  have zF5 : V 5 = .string rs := hI.2 5 (hD 5 (by decide)) rfl
                  have zf5 := zF5; clear zF5
                  have zF6 : V 6 = .string q := hI.2 6 (hD 6 (by decide)) rfl
                  have zf6 := zF6; clear zF6
                  have zF7 : V 7 = .int .i64 (n : Int) := hI.2 7 (hD 7 (by decide)) rfl
                  have zf7 := zF7; clear zF7
                  have zF8 : V 8 = .string rs2 := hI.2 8 (hD 8 (by decide)) rfl
                  have zf8 := zF8; clear zF8
                  have zF9 : ∃ (g_9 : Nat) (cap_9 : Nat), V 9 = .slice (some ⟨g_9, 0, none⟩) (acc.length + 1) cap_9 ∧ w2.ownsRow base 5 1 (.slice (some ⟨g_9, 0, none⟩) (acc.length + 1) cap_9) (acc.length + 1) (Lib.byteCells acc ++ [.int .u8 (d8.toNat : Int)]) := hI.2 9 (hD 9 (by decide)) rfl
                  obtain ⟨g_9, cap_9, zf9, b9_0⟩ := zF9
                  have zF10 : V 10 = .string rs2 := hI.2 10 (hD 10 (by decide)) rfl
                  have zf10 := zF10; clear zF10
                  have zF11 : V 11 = (.bool true) := hI.2 11 (hD 11 (by decide)) rfl
                  have zf11 := zF11; clear zF11
                  clear hI hD HGs
                  simp only [frAll, Act.put, List.setIfInBounds_toArray, List.set_cons_zero, List.set_cons_succ, Nat.zero_add, Nat.reduceAdd, zf0, zf1, zf2, zf4, zf5, zf6, zf7, zf8, zf9, zf10, zf11]
                  clear zf0 zf1 zf2 zf4 zf5 zf6 zf7 zf8 zf9 zf10 zf11
                  generalize V 3 = u3
                  clear V D
                  go_wp2_with fail
                  go_roundg (l.length - (k + n))
                  case measure => omega
                  case rel => exact HREL.out _ _ w2 b9_0 hMx hGx
              · have hpb : List.isPrefixOf (⟨(quoB d8).toArray⟩ : ByteArray).data.toList rs.data.toList = false := by
                  rw [Bool.eq_false_iff, Ne, HRS.out, List.isPrefixOf_iff_prefix]
                  exact hpre
                rw [hpb]
                have HREL : Hid (UiRel w (l.drop k) base A cap acc rs (256 - (d8.toNat + 1)) (.slice A acc.length cap) (.string rs) (.bool false) (.int .i64 ((d8.toNat : Int) + 1)) w1) := Lib.hid (by
                  refine ⟨d8.toNat + 1, rfl, rfl, rfl, rfl, by omega, by simp, ?_, hown1, hM, hbig1⟩
                  intro d hd
                  by_cases he : d = d8.toNat
                  · subst he
                    rw [UInt8.ofNat_toNat]
                    exact hpre
                  · exact HNO.out d (by omega))
                clear hpb hpre
                go_wp2_with fail
                go_roundg (256 - (d8.toNat + 1))
                case measure => omega
                case rel => exact HREL.out
            · obtain rfl : c = 256 := by omega
              have HN := Lib.hid (HU.out.bad HR.out H34.out (by rw [← HR.out]; exact decP_none_of HNO.out))
              go_wp2_with fail
              refine bodyPost_ret (v := .tuple #[.string ⟨#[]⟩, .int .i64 0, .bool false]) (by simp [results, Tryd.results12, go_sem]) rfl ?_
              exact ⟨.inl ⟨HN.out, rfl⟩, hm⟩
      · obtain rfl : k = l.length := by omega
        have HN := Lib.hid HU.out.end_
        have hrs0 : rs = ⟨#[]⟩ := by rw [HRS.out]; simp
        subst hrs0
        go_wp2_with fail
        refine bodyPost_ret (v := .tuple #[.string ⟨#[]⟩, .int .i64 0, .bool false]) (by simp [results, Tryd.results12, go_sem]) rfl ?_
        exact ⟨.inl ⟨HN.out, rfl⟩, hm⟩
  · have p1 : List.isPrefixOf (⟨#[34]⟩ : ByteArray).data.toList s.data.toList = false := by
      rw [← HS0.out]
      clear HS0 hz
      match l, hp with
      | [], _ => rfl
      | c :: r, hp =>
        have : c ≠ 34 := fun h => hp ⟨r, by rw [h]⟩
        simp [List.isPrefixOf, Ne.symm this]
    have HN : Hid (unqS l = none) := Lib.hid (by
      clear HS0 hz
      match l, hp with
      | [], _ => rfl
      | c :: r, hp =>
        have : c ≠ 34 := fun h => hp ⟨r, by rw [h]⟩
        unfold unqS
        split
        · rename_i heq
          injection heq with h1 _
          exact absurd h1 this
        · rfl)
    have P1 := Lib.hid p1
    clear p1 hp
    go_enter Tryd.func12, Tryd.ntmps12
    go_wp2_with fail
    refine (prefix_calls _ _ _).mono ?_
    rintro e w' ⟨rfl, rfl⟩
    rw [P1.out]
    go_wp2_with fail
    refine bodyPost_ret (v := .tuple #[.string ⟨#[]⟩, .int .i64 0, .bool false]) (by simp [results, Tryd.results12, go_sem]) rfl ?_
    exact ⟨.inl ⟨HN.out, rfl⟩, Mod.refl _ _⟩

end Go.Proofs.YtbpicgmblpejoaaDoor
