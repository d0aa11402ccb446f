/- Texts of the proof of FilterKeeps, put together: UnqA, UnqB, QuoS. -/
import Derived.Test.YtofkkenmkflmiaaGreatDoorFilterKeepsZ26
import Derived.Test.YtofkkenmkflmiaaGreatDoorFilterKeepsZ32
import Derived.Laws.BytesArg
/- Quoted strings: Unquote of package intake. -/
namespace Go.Proofs.YtofkkenmkflmiaaGreatDoor
set_option linter.unusedVariables false
set_option linter.unusedSimpArgs false
open Go.RowKit

theorem escP_le (l : Str) : (escP l).2 ≤ l.length := by
  rcases l with _ | ⟨c, _ | ⟨d, _ | ⟨e, _ | ⟨f, r⟩⟩⟩⟩ <;> simp only [escP] <;> repeat' split
  all_goals simp
theorem conv_own {w : World} {base n cap : Nat} {A : Option Addr} {l : Str} (h : w.ownsRow base 5 1 (.slice A n cap) n (Lib.byteCells l)) :
    (convert 121 9 (.slice A n cap)).run Tryz.prog w = .ok (.string ⟨l.toArray⟩) w := by
  have hn : l.length = n := by have := h.1; simp [Lib.byteCells] at this; omega
  obtain ⟨h0, h1 | ⟨g, c, cs, hv, hrest⟩⟩ := h
  · obtain ⟨h1, h2⟩ := h1
    have : l = [] := List.length_eq_zero_iff.1 (by omega)
    subst this
    cases h1
    exact run_convert_bytes_nil (P := Tryz.prog) w _ _ Tryz.underlying121 Tryz.underlying5 _ _ _ Tryz.underlying9
  · cases hv
    have := run_convert_bytes_back (P := Tryz.prog) w 121 9 5 ⟨g, 0, none⟩ cap l Tryz.underlying121 Tryz.underlying5 Tryz.underlying9 (own_bytes (n := n) ⟨h0, .inr ⟨g, _, cs, rfl, hrest⟩⟩)
    rw [hn] at this
    exact this
/-- Where a reader of a quoted string stands. -/
def UnqAt (l : Str) (k : Nat) (acc : Str) : Prop := k ≤ l.length ∧ ∃ f, (l.drop k).length < f ∧ unqF f (l.drop k) acc k = unqS l
theorem UnqAt.start (r : Str) : UnqAt (34 :: r) 1 [] := ⟨by simp, r.length + 1, by simp, rfl⟩
theorem UnqAt.end_ {l : Str} {acc : Str} (h : UnqAt l l.length acc) : unqS l = none := by
  obtain ⟨_, f, h1, h2⟩ := h
  rw [List.drop_of_length_le (Nat.le_refl _)] at h1 h2
  rw [← h2]
  match f, h1 with
  | f + 1, _ => rfl
theorem UnqAt.quote {l : Str} {k : Nat} {acc r : Str} (h : UnqAt l k acc) (hr : l.drop k = 34 :: r) : unqS l = some (acc, k + 1) := by
  obtain ⟨_, f, h1, h2⟩ := h
  rw [hr] at h1 h2
  rw [← h2]
  match f, h1 with
  | f + 1, _ => simp [unqF]
theorem UnqAt.bad {l : Str} {k : Nat} {acc r : Str} {c : UInt8} (h : UnqAt l k acc) (hr : l.drop k = c :: r) (hc : c ≠ 34) (hd : decP (c :: r) = none) : unqS l = none := by
  obtain ⟨_, f, h1, h2⟩ := h
  rw [hr] at h1 h2
  rw [← h2]
  match f, h1 with
  | f + 1, _ => simp [unqF, hc, hd]
theorem UnqAt.next {l : Str} {k : Nat} {acc r : Str} {c d : UInt8} {n : Nat} (h : UnqAt l k acc) (hr : l.drop k = c :: r) (hc : c ≠ 34) (hd : decP (c :: r) = some (d, n)) : UnqAt l (k + n) (acc ++ [d]) ∧ 1 ≤ n ∧ k + n ≤ l.length := by
  obtain ⟨hk, f, h1, h2⟩ := h
  obtain ⟨hn, hp⟩ := decP_some hd
  have hle := hp.length_le
  have h0 : 1 ≤ n := by
    rw [hn]
    unfold quoB
    split <;> (try split) <;> (try split) <;> simp
  have hlen : (l.drop k).length = l.length - k := List.length_drop ..
  rw [← hr, ← hn, hlen] at hle
  refine ⟨⟨by omega, ?_⟩, h0, by omega⟩
  rw [hr] at h1 h2
  match f, h1, h2 with
  | f + 1, h1, h2 =>
    refine ⟨f, ?_, ?_⟩
    · rw [List.length_drop]
      rw [← hr, hlen] at h1
      omega
    · rw [← h2]
      simp only [unqF, hc, if_false, hd]
      rw [← hr, List.drop_drop]
def UnqPost (w : World) (l : Str) (e : Ending) (w' : World) : Prop :=
  ((unqS l = none ∧ e = .returned (.tuple #[.string ⟨#[]⟩, .int .i64 0, .int .i64 9])) ∨ ∃ out n, unqS l = some (out, n) ∧ e = .returned (.tuple #[.string ⟨out.toArray⟩, .int .i64 (n : Int), .int .i64 0])) ∧ Pure w w'
def UqRel (w : World) (l : Str) (base gk : Nat) (x a : Value) (wr : World) : Prop :=
  ∃ (k : Nat) (A : Option Addr) (cap : Nat) (acc : Str), l.length - k = gk ∧ 1 ≤ k ∧ a = .int .i64 (k : Int) ∧ x = .slice A acc.length cap ∧ acc.length ≤ k ∧ UnqAt l k acc ∧ wr.ownsRow base 5 1 (.slice A acc.length cap) acc.length (Lib.byteCells acc) ∧ Pure w wr ∧ base ≤ wr.heap.size
theorem ext_list (l : Str) (k n : Nat) : (⟨l.toArray⟩ : ByteArray).extract k (k + n) = ⟨((l.drop k).take n).toArray⟩ := by
  apply ByteArray.ext
  simp [ByteArray.data_extract]
set_option maxRecDepth 100000 in
set_option maxHeartbeats 4000000 in
theorem Unquote_calls (w : World) (l : Str) (hl : l.length ≤ 10000) (hE : ErrS w) : Calls Tryz.prog 61 #[.string ⟨l.toArray⟩] w (UnqPost w l) := by
  obtain ⟨i0, hi0, hz0, hz1, hz2⟩ := info_parts info_u8
  have HE := Lib.hid hE
  have hz : (⟨l.toArray⟩ : ByteArray).size = l.length := by simp [ByteArray.size]
  clear hE
  obtain ⟨s, hs⟩ : ∃ s : ByteArray, (⟨l.toArray⟩ : ByteArray) = s := ⟨_, rfl⟩
  rw [hs] at hz
  rw [hs]
  have HS0 := Lib.hid hs
  clear hs
  by_cases hp : ∃ r, l = 34 :: r
  · obtain ⟨r, hr⟩ := hp
    have p1 : List.isPrefixOf (⟨#[34]⟩ : ByteArray).data.toList s.data.toList = true := by rw [← HS0.out, hr]; simp [List.isPrefixOf]
    have HU0 : Hid (UnqAt l 1 []) := Lib.hid (by rw [hr]; exact .start r)
    have hl1 : 1 ≤ l.length := by rw [hr]; simp
    have P1 := Lib.hid p1
    clear p1 hr
    obtain ⟨base, hb⟩ : ∃ base, base = w.heap.size := ⟨_, rfl⟩
    have hb1 := Nat.le_of_eq hb
    have hb2 := Nat.le_of_eq hb.symm
    clear hb
    go_enter Tryz.func61, Tryz.ntmps61
    go_wp2_with fail
    refine (prefix_calls _ _ _).mono ?_
    rintro e w' ⟨rfl, rfl⟩
    rw [P1.out]
    go_wp2_with fail
    go_loopg [5, 6] (l.length - 1) (fun gk x a wr => UqRel w l base gk x a wr)
    case atStart => exact ⟨1, none, 0, [], rfl, by omega, rfl, rfl, by simp, HU0.out, ⟨rfl, .inl ⟨rfl, rfl⟩⟩, Mod.refl _ _, hb1⟩
    case round =>
      clear HU0 P1
      obtain ⟨k, A, cap, acc, rfl, hk1, rfl, rfl, hak, hu, hown, hm, hbig⟩ := hrel
      have hkl := hu.1
      have HU := Lib.hid hu
      clear hu
      by_cases hlt : k < l.length
      · obtain ⟨r, hr⟩ : ∃ r, l.drop k = l[k] :: r := ⟨_, List.drop_eq_getElem_cons hlt⟩
        have HR := Lib.hid hr
        have hks : k < s.size := by omega
        have hgk : s[k] = l[k] := (by intro s hs; subst hs; intro _; rfl : ∀ s : ByteArray, (⟨l.toArray⟩ : ByteArray) = s → ∀ h, s[k]'h = l[k]) s HS0.out hks
        have HG := Lib.hid hgk
        clear hr hgk
        have hc := s[k].toNat_lt
        have HCV := Lib.hid (conv_own hown)
        by_cases h34 : s[k] = 34
        · have HQ := Lib.hid (HU.out.quote (r := r) (by rw [HR.out, ← HG.out, h34]))
          have hv34 : s[k].toNat = 34 := by rw [h34]; rfl
          have hcv := HCV.out
          clear HR HG HU HCV h34
          generalize hcc : s[k].toNat = c at *
          subst hv34
          go_wp2_with fail
          refine bodyPost_ret (v := .tuple #[.string ⟨acc.toArray⟩, .int .i64 ((k : Int) + 1), .int .i64 0]) (by simp [results, Tryz.results61, go_sem]) rfl ?_
          exact ⟨.inr ⟨acc, k + 1, HQ.out, by simp⟩, hm⟩
        · have hv34 : ((s[k].toNat : Int) == 34) = false := by
            have : s[k].toNat ≠ 34 := fun h => h34 (UInt8.toNat_inj.1 h)
            simp; omega
          have HC := Lib.hid (escaped_calls wr (l.drop k) (by rw [HR.out]; simp) (by simp; omega) (HE.out.pure hm))
          have hex : s.extract k l.length = ⟨(l.drop k).toArray⟩ := by
            rw [← HS0.out]
            apply ByteArray.ext
            simp only [ByteArray.data_extract, List.extract_toArray, List.extract_eq_take_drop]
            rw [List.take_of_length_le (by simp)]
          have hnl := escP_le (l.drop k)
          rw [List.length_drop] at hnl
          have hd8 := (escP (l.drop k)).1.toNat_lt
          have H34 : Hid (l[k] ≠ 34) := Lib.hid (by rw [← HG.out]; exact h34)
          clear HCV h34 HG
          generalize hcc : s[k].toNat = c at *
          go_wp2_with fail
          refine HC.out.mono ?_
          rintro e w1 ⟨rfl, hm1⟩
          clear HC hex hcc hv34
          have HX : Hid (s.extract k (k + (escP (l.drop k)).2) = ⟨((l.drop k).take (escP (l.drop k)).2).toArray⟩) := Lib.hid (by rw [← HS0.out, ext_list])
          have HB : Hid ((escP (l.drop k)).2 = 0 ∨ quoB (escP (l.drop k)).1 ≠ (l.drop k).take (escP (l.drop k)).2 → unqS l = none) := Lib.hid (fun h => HU.out.bad HR.out H34.out (by
            rw [← HR.out]
            unfold decP
            rw [if_neg]
            rintro ⟨h1, h2⟩
            rcases h with h | h
            · exact h1 h
            · exact h h2))
          have HD : Hid ((escP (l.drop k)).2 ≠ 0 → quoB (escP (l.drop k)).1 = (l.drop k).take (escP (l.drop k)).2 → UnqAt l (k + (escP (l.drop k)).2) (acc ++ [(escP (l.drop k)).1]) ∧ 1 ≤ (escP (l.drop k)).2 ∧ k + (escP (l.drop k)).2 ≤ l.length) := Lib.hid (fun h1 h2 => HU.out.next (d := (escP (l.drop k)).1) HR.out H34.out (by
            rw [← HR.out]
            unfold decP
            rw [if_pos ⟨h1, h2⟩]))
          clear HU HR H34 HS0
          generalize (escP (l.drop k)).2 = n at *
          have HQ : Hid (∀ W, Calls Tryz.prog 121 #[.int .u8 ((escP (l.drop k)).1.toNat : Int)] W (StrPost1 W (quoB (escP (l.drop k)).1))) := Lib.hid (fun W => by
            have := quoted_calls W _ hd8
            rw [UInt8.ofNat_toNat] at this
            exact this)
          generalize (escP (l.drop k)).1 = d8 at *
          generalize (l.drop k).take n = y at *
          generalize quoB d8 = x at *
          have hM := hm.trans hm1
          have hown1 := own_pure hown hm1
          have hbig1 : base ≤ w1.heap.size := Nat.le_trans hbig hm1.size
          clear hm hm1 hown hbig
          go_wp2_with fail
          by_cases hn0 : n = 0
          · subst hn0
            have HN := Lib.hid (HB.out (.inl rfl))
            clear HB HD HX HQ
            have HGs := Lib.hid (show ∀ (D : Nat → Bool) (zzi : Nat) (zq zq' : World), (fun _ zq => (fun _ => True) zq) D zq → Mod (fun _ => False) zq zq' → (fun _ zq => (fun _ => True) zq) (upd D zzi true) zq' from by intro D zzi zq zq' h hm; (exact h))
            refine wp_region_inv (by kernel_rfl) (by kernel_rfl) (InvF (R := Mod (fun _ => False)) [.is (.int .i64 ((0 : Nat) : Int)),
                .is (.bool true),
                .is (.bool true),
                .is (undef),
                .is (undef),
                .is (undef),
                .is (undef),
                .is (undef),
                .is (undef),
                .is (undef),
                .is (undef),
                .is (undef),
                .is (.bool true)]
                (PB w (fun _ => False) w1.heap.size (fun _ zq => (fun _ => True) zq))) (InvF.start (PB.start hM (Nat.le_refl _) (trivial))) ?_ ?_
            · refine .cons ?_ (.cons ?_ (.cons ?_ (.cons ?_ (.cons ?_ (.cons ?_ (.cons ?_ (.cons ?_ (.cons ?_ (.cons ?_ (.cons ?_ (.cons ?_ (.cons ?_ .nil))))))))))))
              · intro D V zw1 a hR hI K hK
                obtain ⟨hM1, hB1, hG1⟩ := hI.1
                have ze8 := hR.frame.other (t := 8) (by kernel_rfl) rfl
                rw [if_pos (by rfl)]
                go_simp
                exact hK (.int .i64 ((0 : Nat) : Int)) _ (hI.next hR (by kernel_rfl) (Mod.refl _ _) (PB.quiet hI.1 (Mod.refl _ _) (HGs.out D 0 zw1 zw1 (hI.1).g (Mod.refl _ _))) (upd_same V 0 _))
              · intro D V zw1 a hR hI K hK
                obtain ⟨hM1, hB1, hG1⟩ := hI.1
                have zd0 := hR.pred 0 (by kernel_rfl)
                have zF0 : V 0 = .int .i64 ((0 : Nat) : Int) := hI.2 0 zd0 rfl
                have zf0 := zF0; clear zF0
                have ze31 := hR.frame.done (t := 31) (j := 0) (by kernel_rfl) hR.ok zd0
                rw [if_pos (by rfl)]
                go_simp
                exact hK (.bool true) _ (hI.next hR (by kernel_rfl) (Mod.refl _ _) (PB.quiet hI.1 (Mod.refl _ _) (HGs.out D 1 zw1 zw1 (hI.1).g (Mod.refl _ _))) (upd_same V 1 _))
              · intro D V zw1 a hR hI K hK
                obtain ⟨hM1, hB1, hG1⟩ := hI.1
                have zd1 := hR.pred 1 (by kernel_rfl)
                have zF1 : V 1 = .bool true := hI.2 1 zd1 rfl
                have zf1 := zF1; clear zF1
                have ze32 := hR.frame.done (t := 32) (j := 1) (by kernel_rfl) hR.ok zd1
                rw [if_pos (by rfl)]
                go_simp
                exact hK (.bool true) _ (hI.next hR (by kernel_rfl) (Mod.refl _ _) (PB.quiet hI.1 (Mod.refl _ _) (HGs.out D 2 zw1 zw1 (hI.1).g (Mod.refl _ _))) (upd_same V 2 _))
              · intro D V zw1 a hR hI K hK
                obtain ⟨hM1, hB1, hG1⟩ := hI.1
                have zd2 := hR.pred 2 (by kernel_rfl)
                have zF2 : V 2 = .bool true := hI.2 2 zd2 rfl
                have zf2 := zF2; clear zF2
                have ze33 := hR.frame.done (t := 33) (j := 2) (by kernel_rfl) hR.ok zd2
                rw [if_neg (by simp [Region.wanted, yielded, ze33, zf2])]
                exact hK undef _ (hI.next hR (by kernel_rfl) (Mod.refl _ _) (PB.quiet hI.1 (Mod.refl _ _) (HGs.out D 3 zw1 zw1 (hI.1).g (Mod.refl _ _))) (upd_same V 3 _))
              · intro D V zw1 a hR hI K hK
                obtain ⟨hM1, hB1, hG1⟩ := hI.1
                have zd2 := hR.pred 2 (by kernel_rfl)
                have zF2 : V 2 = .bool true := hI.2 2 zd2 rfl
                have zf2 := zF2; clear zF2
                have ze33 := hR.frame.done (t := 33) (j := 2) (by kernel_rfl) hR.ok zd2
                rw [if_neg (by simp [Region.wanted, yielded, ze33, zf2])]
                exact hK undef _ (hI.next hR (by kernel_rfl) (Mod.refl _ _) (PB.quiet hI.1 (Mod.refl _ _) (HGs.out D 4 zw1 zw1 (hI.1).g (Mod.refl _ _))) (upd_same V 4 _))
              · intro D V zw1 a hR hI K hK
                obtain ⟨hM1, hB1, hG1⟩ := hI.1
                have zd2 := hR.pred 2 (by kernel_rfl)
                have zF2 : V 2 = .bool true := hI.2 2 zd2 rfl
                have zf2 := zF2; clear zF2
                have ze33 := hR.frame.done (t := 33) (j := 2) (by kernel_rfl) hR.ok zd2
                rw [if_neg (by simp [Region.wanted, yielded, ze33, zf2])]
                exact hK undef _ (hI.next hR (by kernel_rfl) (Mod.refl _ _) (PB.quiet hI.1 (Mod.refl _ _) (HGs.out D 5 zw1 zw1 (hI.1).g (Mod.refl _ _))) (upd_same V 5 _))
              · intro D V zw1 a hR hI K hK
                obtain ⟨hM1, hB1, hG1⟩ := hI.1
                have zd2 := hR.pred 2 (by kernel_rfl)
                have zF2 : V 2 = .bool true := hI.2 2 zd2 rfl
                have zf2 := zF2; clear zF2
                have ze33 := hR.frame.done (t := 33) (j := 2) (by kernel_rfl) hR.ok zd2
                rw [if_neg (by simp [Region.wanted, yielded, ze33, zf2])]
                exact hK undef _ (hI.next hR (by kernel_rfl) (Mod.refl _ _) (PB.quiet hI.1 (Mod.refl _ _) (HGs.out D 6 zw1 zw1 (hI.1).g (Mod.refl _ _))) (upd_same V 6 _))
              · intro D V zw1 a hR hI K hK
                obtain ⟨hM1, hB1, hG1⟩ := hI.1
                have zd2 := hR.pred 2 (by kernel_rfl)
                have zF2 : V 2 = .bool true := hI.2 2 zd2 rfl
                have zf2 := zF2; clear zF2
                have ze33 := hR.frame.done (t := 33) (j := 2) (by kernel_rfl) hR.ok zd2
                rw [if_neg (by simp [Region.wanted, yielded, ze33, zf2])]
                exact hK undef _ (hI.next hR (by kernel_rfl) (Mod.refl _ _) (PB.quiet hI.1 (Mod.refl _ _) (HGs.out D 7 zw1 zw1 (hI.1).g (Mod.refl _ _))) (upd_same V 7 _))
              · intro D V zw1 a hR hI K hK
                obtain ⟨hM1, hB1, hG1⟩ := hI.1
                have zd2 := hR.pred 2 (by kernel_rfl)
                have zF2 : V 2 = .bool true := hI.2 2 zd2 rfl
                have zf2 := zF2; clear zF2
                have ze33 := hR.frame.done (t := 33) (j := 2) (by kernel_rfl) hR.ok zd2
                rw [if_neg (by simp [Region.wanted, yielded, ze33, zf2])]
                exact hK undef _ (hI.next hR (by kernel_rfl) (Mod.refl _ _) (PB.quiet hI.1 (Mod.refl _ _) (HGs.out D 8 zw1 zw1 (hI.1).g (Mod.refl _ _))) (upd_same V 8 _))
              · intro D V zw1 a hR hI K hK
                obtain ⟨hM1, hB1, hG1⟩ := hI.1
                have zd2 := hR.pred 2 (by kernel_rfl)
                have zF2 : V 2 = .bool true := hI.2 2 zd2 rfl
                have zf2 := zF2; clear zF2
                have ze33 := hR.frame.done (t := 33) (j := 2) (by kernel_rfl) hR.ok zd2
                rw [if_neg (by simp [Region.wanted, yielded, ze33, zf2])]
                exact hK undef _ (hI.next hR (by kernel_rfl) (Mod.refl _ _) (PB.quiet hI.1 (Mod.refl _ _) (HGs.out D 9 zw1 zw1 (hI.1).g (Mod.refl _ _))) (upd_same V 9 _))
              · intro D V zw1 a hR hI K hK
                obtain ⟨hM1, hB1, hG1⟩ := hI.1
                have zd2 := hR.pred 2 (by kernel_rfl)
                have zF2 : V 2 = .bool true := hI.2 2 zd2 rfl
                have zf2 := zF2; clear zF2
                have ze33 := hR.frame.done (t := 33) (j := 2) (by kernel_rfl) hR.ok zd2
                rw [if_neg (by simp [Region.wanted, yielded, ze33, zf2])]
                exact hK undef _ (hI.next hR (by kernel_rfl) (Mod.refl _ _) (PB.quiet hI.1 (Mod.refl _ _) (HGs.out D 10 zw1 zw1 (hI.1).g (Mod.refl _ _))) (upd_same V 10 _))
              · intro D V zw1 a hR hI K hK
                obtain ⟨hM1, hB1, hG1⟩ := hI.1
                have zd2 := hR.pred 2 (by kernel_rfl)
                have zF2 : V 2 = .bool true := hI.2 2 zd2 rfl
                have zf2 := zF2; clear zF2
                have ze33 := hR.frame.done (t := 33) (j := 2) (by kernel_rfl) hR.ok zd2
                rw [if_neg (by simp [Region.wanted, yielded, ze33, zf2])]
                exact hK undef _ (hI.next hR (by kernel_rfl) (Mod.refl _ _) (PB.quiet hI.1 (Mod.refl _ _) (HGs.out D 11 zw1 zw1 (hI.1).g (Mod.refl _ _))) (upd_same V 11 _))
              · intro D V zw1 a hR hI K hK
                obtain ⟨hM1, hB1, hG1⟩ := hI.1
                have zd2 := hR.pred 2 (by kernel_rfl)
                have zF2 : V 2 = .bool true := hI.2 2 zd2 rfl
                have zf2 := zF2; clear zF2
                have zd11 := hR.pred 11 (by kernel_rfl)
                have zF11 : V 11 = undef := hI.2 11 zd11 rfl
                have zf11 := zF11; clear zF11
                have ze33 := hR.frame.done (t := 33) (j := 2) (by kernel_rfl) hR.ok zd2
                have ze42 := hR.frame.done (t := 42) (j := 11) (by kernel_rfl) hR.ok zd11
                rw [if_pos (by rfl)]
                go_simp
                exact hK (.bool true) _ (hI.next hR (by kernel_rfl) (Mod.refl _ _) (PB.quiet hI.1 (Mod.refl _ _) (HGs.out D 12 zw1 zw1 (hI.1).g (Mod.refl _ _))) (upd_same V 12 _))
            · intro D V w2 hD hI
              obtain ⟨hM1, hB1, hG1⟩ := hI.1
              have hMx := hM1
              clear hM1
              have hBx := hB1
              clear hB1
              clear hG1
              have zF0 : V 0 = .int .i64 ((0 : Nat) : Int) := hI.2 0 (hD 0 (by decide)) rfl
              have zf0 := zF0; clear zF0
              have zF1 : V 1 = .bool true := hI.2 1 (hD 1 (by decide)) rfl
              have zf1 := zF1; clear zF1
              have zF2 : V 2 = .bool true := hI.2 2 (hD 2 (by decide)) rfl
              have zf2 := zF2; clear zF2
              have zF3 : V 3 = undef := hI.2 3 (hD 3 (by decide)) rfl
              have zf3 := zF3; clear zF3
              have zF4 : V 4 = undef := hI.2 4 (hD 4 (by decide)) rfl
              have zf4 := zF4; clear zF4
              have zF5 : V 5 = undef := hI.2 5 (hD 5 (by decide)) rfl
              have zf5 := zF5; clear zF5
              have zF6 : V 6 = undef := hI.2 6 (hD 6 (by decide)) rfl
              have zf6 := zF6; clear zF6
              have zF7 : V 7 = undef := hI.2 7 (hD 7 (by decide)) rfl
              have zf7 := zF7; clear zF7
              have zF8 : V 8 = undef := hI.2 8 (hD 8 (by decide)) rfl
              have zf8 := zF8; clear zF8
              have zF9 : V 9 = undef := hI.2 9 (hD 9 (by decide)) rfl
              have zf9 := zF9; clear zF9
              have zF10 : V 10 = undef := hI.2 10 (hD 10 (by decide)) rfl
              have zf10 := zF10; clear zF10
              have zF11 : V 11 = undef := hI.2 11 (hD 11 (by decide)) rfl
              have zf11 := zF11; clear zF11
              have zF12 : V 12 = .bool true := hI.2 12 (hD 12 (by decide)) rfl
              have zf12 := zF12; clear zF12
              clear hI hD HGs
              simp only [frAll, Act.put, List.setIfInBounds_toArray, List.set_cons_zero, List.set_cons_succ, Nat.zero_add, Nat.reduceAdd, zf0, zf1, zf2, zf3, zf4, zf5, zf6, zf7, zf8, zf9, zf10, zf11, zf12]
              clear zf0 zf1 zf2 zf3 zf4 zf5 zf6 zf7 zf8 zf9 zf10 zf11 zf12
              clear V D
              go_wp2_with fail
              refine bodyPost_ret (v := .tuple #[.string ⟨#[]⟩, .int .i64 0, .int .i64 9]) (by simp [results, Tryz.results61, go_sem]) rfl ?_
              exact ⟨.inl ⟨HN.out, rfl⟩, hMx⟩
          · have hnb : ((n : Int) == 0) = false := by simp; omega
            obtain ⟨b, hb⟩ : ∃ b : Bool, b = decide (x ≠ y) := ⟨_, rfl⟩
            have HBB := Lib.hid hb
            have q0 : (x == y) = !b := by rw [hb]; by_cases hxy : x = y <;> simp [hxy]
            clear hb
            have hexn := HX.out
            clear HX
            have HGs := Lib.hid (show ∀ (D : Nat → Bool) (zzi : Nat) (zq zq' : World), (fun _ zq => (fun Z => Z.ownsRow base 5 1 (.slice A acc.length cap) acc.length (Lib.byteCells acc) ∧ base ≤ Z.heap.size) zq) D zq → Mod (fun _ => False) zq zq' → (fun _ zq => (fun Z => Z.ownsRow base 5 1 (.slice A acc.length cap) acc.length (Lib.byteCells acc) ∧ base ≤ Z.heap.size) zq) (upd D zzi true) zq' from by intro D zzi zq zq' h hm; (exact ⟨own_pure h.1 hm, Nat.le_trans h.2 hm.size⟩))
            refine wp_region_inv (by kernel_rfl) (by kernel_rfl) (InvF (R := Mod (fun _ => False)) [.is (.int .i64 (n : Int)),
                .is (.bool false),
                .is (.bool false),
                .is (.int .u8 (d8.toNat : Int)),
                .is (.string ⟨x.toArray⟩),
                .is (.string s),
                .is (.int .i64 (k : Int)),
                .is (.int .i64 (k : Int)),
                .is (.int .i64 (n : Int)),
                .is (.int .i64 ((k : Int) + (n : Int))),
                .is (.string ⟨y.toArray⟩),
                .is (.bool b),
                .is (.bool b)]
                (PB w (fun _ => False) w1.heap.size (fun _ zq => (fun Z => Z.ownsRow base 5 1 (.slice A acc.length cap) acc.length (Lib.byteCells acc) ∧ base ≤ Z.heap.size) zq))) (InvF.start (PB.start hM (Nat.le_refl _) (⟨hown1.drew, hbig1⟩))) ?_ ?_
            · refine .cons ?_ (.cons ?_ (.cons ?_ (.cons ?_ (.cons ?_ (.cons ?_ (.cons ?_ (.cons ?_ (.cons ?_ (.cons ?_ (.cons ?_ (.cons ?_ (.cons ?_ .nil))))))))))))
              · intro D V zw1 a hR hI K hK
                obtain ⟨hM1, hB1, hG1⟩ := hI.1
                have ze8 := hR.frame.other (t := 8) (by kernel_rfl) rfl
                rw [if_pos (by rfl)]
                go_simp
                exact hK (.int .i64 (n : Int)) _ (hI.next hR (by kernel_rfl) (Mod.refl _ _) (PB.quiet hI.1 (Mod.refl _ _) (HGs.out D 0 zw1 zw1 (hI.1).g (Mod.refl _ _))) (upd_same V 0 _))
              · intro D V zw1 a hR hI K hK
                obtain ⟨hM1, hB1, hG1⟩ := hI.1
                have zd0 := hR.pred 0 (by kernel_rfl)
                have zF0 : V 0 = .int .i64 (n : Int) := hI.2 0 zd0 rfl
                have zf0 := zF0; clear zF0
                have ze31 := hR.frame.done (t := 31) (j := 0) (by kernel_rfl) hR.ok zd0
                rw [if_pos (by rfl)]
                go_simp
                exact hK (.bool false) _ (hI.next hR (by kernel_rfl) (Mod.refl _ _) (PB.quiet hI.1 (Mod.refl _ _) (HGs.out D 1 zw1 zw1 (hI.1).g (Mod.refl _ _))) (upd_same V 1 _))
              · intro D V zw1 a hR hI K hK
                obtain ⟨hM1, hB1, hG1⟩ := hI.1
                have zd1 := hR.pred 1 (by kernel_rfl)
                have zF1 : V 1 = .bool false := hI.2 1 zd1 rfl
                have zf1 := zF1; clear zF1
                have ze32 := hR.frame.done (t := 32) (j := 1) (by kernel_rfl) hR.ok zd1
                rw [if_pos (by rfl)]
                go_simp
                exact hK (.bool false) _ (hI.next hR (by kernel_rfl) (Mod.refl _ _) (PB.quiet hI.1 (Mod.refl _ _) (HGs.out D 2 zw1 zw1 (hI.1).g (Mod.refl _ _))) (upd_same V 2 _))
              · intro D V zw1 a hR hI K hK
                obtain ⟨hM1, hB1, hG1⟩ := hI.1
                have zd2 := hR.pred 2 (by kernel_rfl)
                have zF2 : V 2 = .bool false := hI.2 2 zd2 rfl
                have zf2 := zF2; clear zF2
                have ze7 := hR.frame.other (t := 7) (by kernel_rfl) rfl
                have ze33 := hR.frame.done (t := 33) (j := 2) (by kernel_rfl) hR.ok zd2
                rw [if_pos (by simp [Region.wanted, yielded, ze33, zf2])]
                go_simp
                exact hK (.int .u8 (d8.toNat : Int)) _ (hI.next hR (by kernel_rfl) (Mod.refl _ _) (PB.quiet hI.1 (Mod.refl _ _) (HGs.out D 3 zw1 zw1 (hI.1).g (Mod.refl _ _))) (upd_same V 3 _))
              · intro D V zw1 a hR hI K hK
                obtain ⟨hM1, hB1, hG1⟩ := hI.1
                have zd3 := hR.pred 3 (by kernel_rfl)
                have zF3 : V 3 = .int .u8 (d8.toNat : Int) := hI.2 3 zd3 rfl
                have zf3 := zF3; clear zF3
                have zd2 := hR.pred 2 (by kernel_rfl)
                have zF2 : V 2 = .bool false := hI.2 2 zd2 rfl
                have zf2 := zF2; clear zF2
                have ze34 := hR.frame.done (t := 34) (j := 3) (by kernel_rfl) hR.ok zd3
                have ze33 := hR.frame.done (t := 33) (j := 2) (by kernel_rfl) hR.ok zd2
                rw [if_pos (by simp [Region.wanted, yielded, ze33, zf2])]
                go_simp
                refine (HQ.out _).mono ?_
                rintro e zw2 ⟨rfl, hm2⟩
                exact hK (.string ⟨x.toArray⟩) _ (hI.next hR (by kernel_rfl) hm2 (PB.quiet hI.1 hm2 (HGs.out D 4 _ _ (hI.1).g hm2)) (upd_same V 4 _))
              · intro D V zw1 a hR hI K hK
                obtain ⟨hM1, hB1, hG1⟩ := hI.1
                have zd2 := hR.pred 2 (by kernel_rfl)
                have zF2 : V 2 = .bool false := hI.2 2 zd2 rfl
                have zf2 := zF2; clear zF2
                have ze0 := hR.frame.other (t := 0) (by kernel_rfl) rfl
                have ze33 := hR.frame.done (t := 33) (j := 2) (by kernel_rfl) hR.ok zd2
                rw [if_pos (by simp [Region.wanted, yielded, ze33, zf2])]
                go_simp
                exact hK (.string s) _ (hI.next hR (by kernel_rfl) (Mod.refl _ _) (PB.quiet hI.1 (Mod.refl _ _) (HGs.out D 5 zw1 zw1 (hI.1).g (Mod.refl _ _))) (upd_same V 5 _))
              · intro D V zw1 a hR hI K hK
                obtain ⟨hM1, hB1, hG1⟩ := hI.1
                have zd2 := hR.pred 2 (by kernel_rfl)
                have zF2 : V 2 = .bool false := hI.2 2 zd2 rfl
                have zf2 := zF2; clear zF2
                have ze6 := hR.frame.other (t := 6) (by kernel_rfl) rfl
                have ze33 := hR.frame.done (t := 33) (j := 2) (by kernel_rfl) hR.ok zd2
                rw [if_pos (by simp [Region.wanted, yielded, ze33, zf2])]
                go_simp
                exact hK (.int .i64 (k : Int)) _ (hI.next hR (by kernel_rfl) (Mod.refl _ _) (PB.quiet hI.1 (Mod.refl _ _) (HGs.out D 6 zw1 zw1 (hI.1).g (Mod.refl _ _))) (upd_same V 6 _))
              · intro D V zw1 a hR hI K hK
                obtain ⟨hM1, hB1, hG1⟩ := hI.1
                have zd2 := hR.pred 2 (by kernel_rfl)
                have zF2 : V 2 = .bool false := hI.2 2 zd2 rfl
                have zf2 := zF2; clear zF2
                have ze6 := hR.frame.other (t := 6) (by kernel_rfl) rfl
                have ze33 := hR.frame.done (t := 33) (j := 2) (by kernel_rfl) hR.ok zd2
                rw [if_pos (by simp [Region.wanted, yielded, ze33, zf2])]
                go_simp
                exact hK (.int .i64 (k : Int)) _ (hI.next hR (by kernel_rfl) (Mod.refl _ _) (PB.quiet hI.1 (Mod.refl _ _) (HGs.out D 7 zw1 zw1 (hI.1).g (Mod.refl _ _))) (upd_same V 7 _))
              · intro D V zw1 a hR hI K hK
                obtain ⟨hM1, hB1, hG1⟩ := hI.1
                have zd2 := hR.pred 2 (by kernel_rfl)
                have zF2 : V 2 = .bool false := hI.2 2 zd2 rfl
                have zf2 := zF2; clear zF2
                have ze8 := hR.frame.other (t := 8) (by kernel_rfl) rfl
                have ze33 := hR.frame.done (t := 33) (j := 2) (by kernel_rfl) hR.ok zd2
                rw [if_pos (by simp [Region.wanted, yielded, ze33, zf2])]
                go_simp
                exact hK (.int .i64 (n : Int)) _ (hI.next hR (by kernel_rfl) (Mod.refl _ _) (PB.quiet hI.1 (Mod.refl _ _) (HGs.out D 8 zw1 zw1 (hI.1).g (Mod.refl _ _))) (upd_same V 8 _))
              · intro D V zw1 a hR hI K hK
                obtain ⟨hM1, hB1, hG1⟩ := hI.1
                have zd7 := hR.pred 7 (by kernel_rfl)
                have zF7 : V 7 = .int .i64 (k : Int) := hI.2 7 zd7 rfl
                have zf7 := zF7; clear zF7
                have zd8 := hR.pred 8 (by kernel_rfl)
                have zF8 : V 8 = .int .i64 (n : Int) := hI.2 8 zd8 rfl
                have zf8 := zF8; clear zF8
                have zd2 := hR.pred 2 (by kernel_rfl)
                have zF2 : V 2 = .bool false := hI.2 2 zd2 rfl
                have zf2 := zF2; clear zF2
                have ze38 := hR.frame.done (t := 38) (j := 7) (by kernel_rfl) hR.ok zd7
                have ze39 := hR.frame.done (t := 39) (j := 8) (by kernel_rfl) hR.ok zd8
                have hw9 : IntKind.i64.wrap ((k : Int) + (n : Int)) = (k : Int) + (n : Int) := IntWalk.i64_in _ (by omega)
                have ze33 := hR.frame.done (t := 33) (j := 2) (by kernel_rfl) hR.ok zd2
                rw [if_pos (by simp [Region.wanted, yielded, ze33, zf2])]
                go_simp
                exact hK (.int .i64 ((k : Int) + (n : Int))) _ (hI.next hR (by kernel_rfl) (Mod.refl _ _) (PB.quiet hI.1 (Mod.refl _ _) (HGs.out D 9 zw1 zw1 (hI.1).g (Mod.refl _ _))) (upd_same V 9 _))
              · intro D V zw1 a hR hI K hK
                obtain ⟨hM1, hB1, hG1⟩ := hI.1
                have zd5 := hR.pred 5 (by kernel_rfl)
                have zF5 : V 5 = .string s := hI.2 5 zd5 rfl
                have zf5 := zF5; clear zF5
                have zd6 := hR.pred 6 (by kernel_rfl)
                have zF6 : V 6 = .int .i64 (k : Int) := hI.2 6 zd6 rfl
                have zf6 := zF6; clear zF6
                have zd9 := hR.pred 9 (by kernel_rfl)
                have zF9 : V 9 = .int .i64 ((k : Int) + (n : Int)) := hI.2 9 zd9 rfl
                have zf9 := zF9; clear zF9
                have zd2 := hR.pred 2 (by kernel_rfl)
                have zF2 : V 2 = .bool false := hI.2 2 zd2 rfl
                have zf2 := zF2; clear zF2
                have ze36 := hR.frame.done (t := 36) (j := 5) (by kernel_rfl) hR.ok zd5
                have ze37 := hR.frame.done (t := 37) (j := 6) (by kernel_rfl) hR.ok zd6
                have ze40 := hR.frame.done (t := 40) (j := 9) (by kernel_rfl) hR.ok zd9
                have j1 : ((k : Int) + (n : Int)).toNat = k + n := by omega
                have j2 : (k : Int) ≤ (k : Int) + (n : Int) := by omega
                have j3 : (k : Int) + (n : Int) ≤ (l.length : Int) := by omega
                have ze33 := hR.frame.done (t := 33) (j := 2) (by kernel_rfl) hR.ok zd2
                rw [if_pos (by simp [Region.wanted, yielded, ze33, zf2])]
                go_simp
                exact hK (.string ⟨y.toArray⟩) _ (hI.next hR (by kernel_rfl) (Mod.refl _ _) (PB.quiet hI.1 (Mod.refl _ _) (HGs.out D 10 zw1 zw1 (hI.1).g (Mod.refl _ _))) (upd_same V 10 _))
              · intro D V zw1 a hR hI K hK
                obtain ⟨hM1, hB1, hG1⟩ := hI.1
                have zd4 := hR.pred 4 (by kernel_rfl)
                have zF4 : V 4 = .string ⟨x.toArray⟩ := hI.2 4 zd4 rfl
                have zf4 := zF4; clear zF4
                have zd10 := hR.pred 10 (by kernel_rfl)
                have zF10 : V 10 = .string ⟨y.toArray⟩ := hI.2 10 zd10 rfl
                have zf10 := zF10; clear zF10
                have zd2 := hR.pred 2 (by kernel_rfl)
                have zF2 : V 2 = .bool false := hI.2 2 zd2 rfl
                have zf2 := zF2; clear zF2
                have ze35 := hR.frame.done (t := 35) (j := 4) (by kernel_rfl) hR.ok zd4
                have ze41 := hR.frame.done (t := 41) (j := 10) (by kernel_rfl) hR.ok zd10
                have ze33 := hR.frame.done (t := 33) (j := 2) (by kernel_rfl) hR.ok zd2
                rw [if_pos (by simp [Region.wanted, yielded, ze33, zf2])]
                go_simp
                exact hK (.bool b) _ (hI.next hR (by kernel_rfl) (Mod.refl _ _) (PB.quiet hI.1 (Mod.refl _ _) (HGs.out D 11 zw1 zw1 (hI.1).g (Mod.refl _ _))) (upd_same V 11 _))
              · intro D V zw1 a hR hI K hK
                obtain ⟨hM1, hB1, hG1⟩ := hI.1
                have zd2 := hR.pred 2 (by kernel_rfl)
                have zF2 : V 2 = .bool false := hI.2 2 zd2 rfl
                have zf2 := zF2; clear zF2
                have zd11 := hR.pred 11 (by kernel_rfl)
                have zF11 : V 11 = .bool b := hI.2 11 zd11 rfl
                have zf11 := zF11; clear zF11
                have ze33 := hR.frame.done (t := 33) (j := 2) (by kernel_rfl) hR.ok zd2
                have ze42 := hR.frame.done (t := 42) (j := 11) (by kernel_rfl) hR.ok zd11
                rw [if_pos (by rfl)]
                go_simp
                exact hK (.bool b) _ (hI.next hR (by kernel_rfl) (Mod.refl _ _) (PB.quiet hI.1 (Mod.refl _ _) (HGs.out D 12 zw1 zw1 (hI.1).g (Mod.refl _ _))) (upd_same V 12 _))
            · intro D V w2 hD hI
              obtain ⟨hM1, hB1, hG1⟩ := hI.1
              have hMx := hM1
              clear hM1
              have hBx := hB1
              clear hB1
              have hGx := hG1
              clear hG1
              have zF0 : V 0 = .int .i64 (n : Int) := hI.2 0 (hD 0 (by decide)) rfl
              have zf0 := zF0; clear zF0
              have zF1 : V 1 = .bool false := hI.2 1 (hD 1 (by decide)) rfl
              have zf1 := zF1; clear zF1
              have zF2 : V 2 = .bool false := hI.2 2 (hD 2 (by decide)) rfl
              have zf2 := zF2; clear zF2
              have zF3 : V 3 = .int .u8 (d8.toNat : Int) := hI.2 3 (hD 3 (by decide)) rfl
              have zf3 := zF3; clear zF3
              have zF4 : V 4 = .string ⟨x.toArray⟩ := hI.2 4 (hD 4 (by decide)) rfl
              have zf4 := zF4; clear zF4
              have zF5 : V 5 = .string s := hI.2 5 (hD 5 (by decide)) rfl
              have zf5 := zF5; clear zF5
              have zF6 : V 6 = .int .i64 (k : Int) := hI.2 6 (hD 6 (by decide)) rfl
              have zf6 := zF6; clear zF6
              have zF7 : V 7 = .int .i64 (k : Int) := hI.2 7 (hD 7 (by decide)) rfl
              have zf7 := zF7; clear zF7
              have zF8 : V 8 = .int .i64 (n : Int) := hI.2 8 (hD 8 (by decide)) rfl
              have zf8 := zF8; clear zF8
              have zF9 : V 9 = .int .i64 ((k : Int) + (n : Int)) := hI.2 9 (hD 9 (by decide)) rfl
              have zf9 := zF9; clear zF9
              have zF10 : V 10 = .string ⟨y.toArray⟩ := hI.2 10 (hD 10 (by decide)) rfl
              have zf10 := zF10; clear zF10
              have zF11 : V 11 = .bool b := hI.2 11 (hD 11 (by decide)) rfl
              have zf11 := zF11; clear zF11
              have zF12 : V 12 = .bool b := hI.2 12 (hD 12 (by decide)) rfl
              have zf12 := zF12; clear zF12
              clear hI hD HGs
              simp only [frAll, Act.put, List.setIfInBounds_toArray, List.set_cons_zero, List.set_cons_succ, Nat.zero_add, Nat.reduceAdd, zf0, zf1, zf2, zf3, zf4, zf5, zf6, zf7, zf8, zf9, zf10, zf11, zf12]
              clear zf0 zf1 zf2 zf3 zf4 zf5 zf6 zf7 zf8 zf9 zf10 zf11 zf12
              clear V D
              obtain ⟨hown2, hbig2⟩ := hGx
              clear q0 hexn hnb HQ
              cases b
              · have hxy : x = y := by have := HBB.out; simpa using this
                have HNX := Lib.hid (HD.out hn0 hxy)
                have hkn := HNX.out.2
                clear HD HB HBB hxy
                have HREL : Hid (∀ (g5 cap5 : Nat) (w5 : World), w5.ownsRow base 5 1 (.slice (some ⟨g5, 0, none⟩) (acc.length + 1) cap5) (acc.length + 1) (Lib.byteCells acc ++ [.int .u8 (d8.toNat : Int)]) → Pure w w5 → base ≤ w5.heap.size →
                    UqRel w l base (l.length - (k + n)) (.slice (some ⟨g5, 0, none⟩) (acc.length + 1) cap5) (.int .i64 ((k : Int) + (n : Int))) w5) := Lib.hid (by
                  intro g5 cap5 w5 hown5 hp hb5
                  have e1 : Lib.byteCells acc ++ [.int .u8 (d8.toNat : Int)] = Lib.byteCells (acc ++ [d8]) := by simp [Lib.byteCells]
                  rw [e1] at hown5
                  refine ⟨k + n, some ⟨g5, 0, none⟩, cap5, acc ++ [d8], rfl, by omega, by simp, by simp, by simp; omega, HNX.out.1, ?_, hp, hb5⟩
                  rw [List.length_append, List.length_singleton]
                  exact hown5)
                clear HNX
                go_wp2_with (at_builtin; refine wpList_append_lies _ rfl _ _ _ rfl base 5 i0 _ 1 1 Tryz.underlying121 hi0 hz0 hz1 hz2 rfl (by omega) (.slice A acc.length cap) acc.length (Lib.byteCells acc) rfl (hown2.alloc _) ⟨w2.heap.size, 0, none⟩ 1 1 [.int .u8 (d8.toNat : Int)] rfl rfl (World.news_of_block (cs := #[.int .u8 (d8.toNat : Int)]) (t := 5) (fr := (0, 0)) (heap_alloc_new w2 _)) (by simp [Value.oneCell']) (by omega) (by simp [maxLen]; omega) (by omega) (by have := hMx.size; simp; omega) (w2.heap.size + 1) (by simp) ?_; intro g5 cap5 w5 hown5 hgrow hat hlt5)
                go_roundg (l.length - (k + n))
                case measure => omega
                case rel =>
                  have hz5 := hgrow.size
                  simp at hz5
                  exact HREL.out g5 cap5 w5 hown5 ((hMx.alloc _).grown hgrow (fun j hj => .inr (by have := own_block hown2 j hj; omega))) (by omega)
              · have hxy : x ≠ y := by have := HBB.out; simpa using this
                have HN := Lib.hid (HB.out (.inr hxy))
                clear HD HB HBB hxy
                go_wp2_with fail
                refine bodyPost_ret (v := .tuple #[.string ⟨#[]⟩, .int .i64 0, .int .i64 9]) (by simp [results, Tryz.results61, go_sem]) rfl ?_
                exact ⟨.inl ⟨HN.out, rfl⟩, hMx⟩
      · obtain rfl : k = l.length := by omega
        have HN := Lib.hid HU.out.end_
        go_wp2_with fail
        refine bodyPost_ret (v := .tuple #[.string ⟨#[]⟩, .int .i64 0, .int .i64 9]) (by simp [results, Tryz.results61, go_sem]) rfl ?_
        exact ⟨.inl ⟨HN.out, rfl⟩, hm⟩
  · have p1 : List.isPrefixOf (⟨#[34]⟩ : ByteArray).data.toList s.data.toList = false := by
      rw [← HS0.out]
      clear HS0 hz
      match l, hp with
      | [], _ => rfl
      | c :: r, hp =>
        have : c ≠ 34 := fun h => hp ⟨r, by rw [h]⟩
        simp [List.isPrefixOf, Ne.symm this]
    have HN : Hid (unqS l = none) := Lib.hid (by
      clear HS0 hz
      match l, hp with
      | [], _ => rfl
      | c :: r, hp =>
        have : c ≠ 34 := fun h => hp ⟨r, by rw [h]⟩
        unfold unqS
        split
        · rename_i heq
          injection heq with h1 _
          exact absurd h1 this
        · rfl)
    have P1 := Lib.hid p1
    clear p1 hp
    go_enter Tryz.func61, Tryz.ntmps61
    go_wp2_with fail
    refine (prefix_calls _ _ _).mono ?_
    rintro e w' ⟨rfl, rfl⟩
    rw [P1.out]
    go_wp2_with fail
    refine bodyPost_ret (v := .tuple #[.string ⟨#[]⟩, .int .i64 0, .int .i64 9]) (by simp [results, Tryz.results61, go_sem]) rfl ?_
    exact ⟨.inl ⟨HN.out, rfl⟩, Mod.refl _ _⟩

end Go.Proofs.YtofkkenmkflmiaaGreatDoor

/- Quoted strings: Unquoted of the reference. -/
namespace Go.Proofs.YtofkkenmkflmiaaGreatDoor
set_option linter.unusedVariables false
set_option linter.unusedSimpArgs false
open Go.RowKit

end Go.Proofs.YtofkkenmkflmiaaGreatDoor

/- Quoted strings: strange strings, taken. -/
namespace Go.Proofs.YtofkkenmkflmiaaGreatDoor
set_option linter.unusedVariables false
set_option linter.unusedSimpArgs false
open Go.RowKit

theorem unq_a : unqS [34, 97, 34] = some ([97], 3) := by decide +kernel
theorem dig_a : digS [97] = [97, 102, 54, 51, 100, 99, 52, 99, 56, 54, 48, 49, 101, 99, 56, 99] := by decide +kernel
set_option maxRecDepth 100000 in
set_option maxHeartbeats 4000000 in
theorem taken_calls (w : World) (hE : ErrS w) (hD : Deb w) : Calls Tryz.prog 14 #[] w (fun e w' => e = .returned (.bool true) ∧ Pure w w') := by
  have HU := Lib.hid (Unquote_calls w [34, 97, 34] (by simp) hE)
  have HD := Lib.hid (fun w1 (hm : Pure w w1) => Digest_calls w1 ⟨#[97]⟩ (by simp [ByteArray.size]) (hD.pure hm))
  clear hE hD
  go_enter Tryz.func14, Tryz.ntmps14
  go_wp2_with fail
  refine HU.out.mono ?_
  rintro e w1 ⟨h | h, hm⟩
  · rw [unq_a] at h
    cases h.1
  · obtain ⟨out, n, h1, rfl⟩ := h
    rw [unq_a] at h1
    cases h1
    go_wp2_with fail
    refine (HD.out _ hm).mono ?_
    rintro e w2 ⟨rfl, hm2⟩
    rw [show digS (⟨#[97]⟩ : ByteArray).data.toList = _ from dig_a]
    go_wp2_with fail
    go_ret
    exact ⟨rfl, hm.trans hm2⟩

end Go.Proofs.YtofkkenmkflmiaaGreatDoor
