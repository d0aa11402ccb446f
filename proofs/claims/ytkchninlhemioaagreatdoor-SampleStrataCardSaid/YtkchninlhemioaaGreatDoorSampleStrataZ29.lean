/- Texts of the proof of SampleStrata, put together: Keys. -/
import Derived.Test.YtkchninlhemioaaGreatDoorSampleStrataZ11
import Derived.Test.YtkchninlhemioaaGreatDoorSampleStrataZ25
import Derived.Deep.AppendLies
import Derived.Deep.DeepCutAuto
import Derived.Deep.CutBlock
/- The generator of keys. -/
namespace Go.Proofs.YtkchninlhemioaaGreatDoor
set_option linter.unusedVariables false
set_option linter.unusedSimpArgs false
open Go.RowKit Go.Sort

theorem info_str_ : (Tryz.prog.info? 9).map (fun i => (i.zero, i.size, i.bytes)) = some (some (.string ⟨#[]⟩), 1, 16) := by kernel_rfl
theorem digits_len (i : Nat) (h : i < 40) : (Lib.decDigits i).length ≤ 2 := by
  rw [Lib.decDigits]
  split
  · simp
  · rw [Lib.decDigits, dif_pos (by omega)]
    simp
theorem str_of (x : ByteArray) : ∃ l : Str, x = ⟨l.toArray⟩ ∧ l.length = x.size := ⟨x.data.toList, by cases x; simp, by simp⟩
def KeysRel (w : World) (b N m gk : Nat) (x i : Value) (wr : World) : Prop :=
  ∃ (ss : List Str) (A : Option Addr) (cap : Nat), m - ss.length = gk ∧ ss.length ≤ m ∧ i = .int .i64 (ss.length : Int) ∧ x = .slice A ss.length cap ∧ (∀ s ∈ ss, s.length ≤ 3) ∧ (ss.length = 0 → A = none ∧ cap = 0) ∧
    wr.ownsRow w.heap.size 9 1 (.slice A ss.length cap) ss.length (strsV ss) ∧ Strm wr b (N + ss.length) ∧ Mod (· = b) w wr
def KeysPost (w : World) (b N m : Nat) (e : Ending) (w' : World) : Prop :=
  ∃ v n ss, e = .returned v ∧ ss.length ≤ m + 1 ∧ (∀ s ∈ ss, s.length ≤ 3) ∧ w'.ownsRow w.heap.size 9 1 v n (strsV ss) ∧ Strm w' b (N + m + 5) ∧ Mod (· = b) w w'
def KeysInv (w : World) (b N m : Nat) (v : Value) (w' : World) : Prop :=
  ∃ n ss, ss.length ≤ m + 1 ∧ (∀ s ∈ ss, s.length ≤ 3) ∧ w'.ownsRow w.heap.size 9 1 v n (strsV ss) ∧ Strm w' b (N + m + 5) ∧ Mod (· = b) w w'

set_option maxRecDepth 100000 in
set_option maxHeartbeats 8000000 in
theorem keys_calls (w : World) (b N m : Nat) (hS : Strm w b N) (hN : N ≤ 900000000) (hm : m ≤ 1000) : Calls Tryz.prog 5 #[.pointer (some ⟨b, 0, none⟩), .int .i64 (m : Int)] w (KeysPost w b N m) := by
  obtain ⟨i0, hi0, hz0, hz1, hz2⟩ := info_parts info_str_
  have hbw := hS.lt
  go_enter Tryz.func5, Tryz.ntmps5
  go_wp2_with fail
  go_loopg [5, 7] m (fun gk x i wr => KeysRel w b N m gk x i wr)
  case atStart => exact ⟨[], none, 0, by simp, by simp, rfl, rfl, fun s h => absurd h (by simp), fun _ => ⟨rfl, rfl⟩, ⟨by simp [strsV], .inl ⟨rfl, rfl⟩⟩, by simpa using hS, Mod.refl _ _⟩
  case round =>
    obtain ⟨ss, A, cap, rfl, hk, rfl, rfl, h3, hnil, hown, hS1, hm1⟩ := hrel
    clear hS
    generalize hkk : ss.length = k at *
    have HKK := Lib.hid hkk
    have H3 := Lib.hid h3
    have HNIL := Lib.hid hnil
    clear hkk h3 hnil
    have hz1' := hm1.size
    by_cases hlt : k < m
    · go_wp2_with fail
      refine (next_calls _ _ _ _ hS1 (by omega) (by omega) (by omega)).mono ?_
      rintro e w2 ⟨j', hj1, hj2, rfl, hS2, hM2⟩
      obtain ⟨j, rfl⟩ := Int.eq_ofNat_of_zero_le hj1
      have hown2 := own_mod hown hM2 (fun g hg => by have := own_block hown g hg; omega)
      have m2 : Mod (· = b) w w2 := hm1.trans hM2
      have hz2' := hM2.size
      clear hown hS1 hm1 hM2
      have HI := Lib.hid (Any.strconv_Itoa_small Tryz.lays171 j (by omega) w2)
      have hd := digits_len j (by omega)
      go_wp2_with fail
      refine HI.out.mono ?_
      rintro e w' ⟨rfl, rfl⟩
      have hr : (⟨(Lib.decDigits j).toArray⟩ : ByteArray).size ≤ 2 := by simpa [ByteArray.size] using hd
      clear HI hd
      generalize (⟨(Lib.decDigits j).toArray⟩ : ByteArray) = r at *
      go_wp2_with (at_builtin; refine wpList_append_lies _ rfl _ _ _ rfl w.heap.size 9 i0 _ 1 16 Tryz.underlying26 hi0 hz0 hz1 hz2 rfl (by omega) (.slice A k cap) k (strsV ss) rfl (hown2.alloc _) ⟨w'.heap.size, 0, none⟩ 1 1 [.string ((⟨#[107]⟩ : ByteArray) ++ r)] rfl rfl (World.news_of_block (cs := #[.string ((⟨#[107]⟩ : ByteArray) ++ r)]) (t := 9) (fr := (0, 0)) (heap_alloc_new w' _)) (by simp [Value.oneCell']) (by omega) (by simp [maxLen]; omega) (by omega) (by have := m2.size; simp; omega) (w'.heap.size + 1) (by simp) ?_; intro g5 cap5 w5 hown5 hgrow hat hlt5)
      go_roundg (m - (k + 1))
      case measure => omega
      case rel =>
        obtain ⟨l, hl1, hl2⟩ := str_of ((⟨#[107]⟩ : ByteArray) ++ r)
        have hl3 : l.length ≤ 3 := by
          rw [hl2, ByteArray.size_append]
          have : (⟨#[107]⟩ : ByteArray).size = 1 := rfl
          omega
        have hS5 : Strm w5 b (N + k + 1) := (hS2.alloc _).mod (mod_grown hgrow) (fun i hi h => by have := own_block hown2 i h; omega)
        refine ⟨ss ++ [l], some ⟨g5, 0, none⟩, cap5, by simp [HKK.out], by simp [HKK.out]; omega, by simp [HKK.out], by simp [HKK.out], ?_, fun h => absurd h (by simp), ?_, hS5.more (by simp [HKK.out]; omega), (m2.alloc _).grown hgrow (fun k hk => .inr (own_block hown2 k hk))⟩
        · intro s hs
          rcases List.mem_append.1 hs with h | h
          · exact H3.out s h
          · simp at h
            rw [h]
            exact hl3
        · rw [hl1] at hown5
          simpa [HKK.out, strsV] using hown5
    · obtain rfl : m = k := by omega
      clear hlt hk
      by_cases h0 : m = 0
      · subst h0
        have e : ss = [] := List.eq_nil_of_length_eq_zero HKK.out
        subst e
        obtain ⟨rfl, rfl⟩ := HNIL.out rfl
        go_wp2_with fail
        refine (Any.slices_Sort_string_none Tryz.lays190 none 0 _).mono ?_
        rintro e w' ⟨rfl, rfl⟩
        go_wp2_with fail
        refine (Any.slices_Compact_string_empty Tryz.lays194 none 0 _).mono ?_
        rintro e w' ⟨rfl, rfl⟩
        go_wp2_with fail
        go_ret
        exact ⟨_, 0, [], rfl, by simp, fun s h => absurd h (by simp), hown, hS1.more (by omega), hm1⟩
      · obtain ⟨g, cap', hform, hgb, hgl, hnc, hcm⟩ := own_form hown (by omega)
        injection hform with hA _ hC
        subst hA hC
        have HSORT := Lib.hid (sortS_calls wr (.slice (some ⟨g, 0, none⟩) m cap) m w.heap.size ss hown (by rw [HKK.out]; omega))
        go_wp2_with fail
        refine HSORT.out.mono ?_
        rintro e w2 ⟨rfl, hown2, hM2⟩
        have hlen : (ss.mergeSort fun x y => decide (x ≤ y)).length = m := by rw [List.length_mergeSort]; exact HKK.out
        have h3' : ∀ s ∈ (ss.mergeSort fun x y => decide (x ≤ y)), s.length ≤ 3 := fun s hs => H3.out s (List.mem_mergeSort.1 hs)
        have H3' := Lib.hid h3'
        generalize (ss.mergeSort fun x y => decide (x ≤ y)) = s2 at *
        have m2 : Mod (· = b) w w2 := hm1.trans' hM2 (fun i hi hlt => by simp [Value.ownBlock] at hi; omega)
        have hS2 := hS1.mod hM2 (fun i hi h => by simp [Value.ownBlock] at h; omega)
        clear HSORT hown hS1 hm1 h3'
        rw [hlen] at hown2
        have HC := Lib.hid (compactS_calls w2 g cap m w.heap.size s2 hown2 (by omega))
        go_wp2_with fail
        refine HC.out.mono ?_
        rintro e w3 ⟨rfl, hown3, hM3⟩
        have hcl := compact_le s2
        have h3'' : ∀ s ∈ Lib.compact s2, s.length ≤ 3 := fun s hs => H3'.out s (compact_mem s2 s hs)
        have H3'' := Lib.hid h3''
        rw [hlen] at hcl
        generalize Lib.compact s2 = s3 at *
        have m3 : Mod (· = b) w w3 := m2.trans' hM3 (fun i hi hlt => by omega)
        have hS3 := hS2.mod hM3 (fun i hi h => by omega)
        clear HC hown2 hS2 m2 hlen h3'' HKK H3 H3'
        have hz3 := m3.size
        generalize hk3 : s3.length = n3 at *
        have HK3 := Lib.hid hk3
        clear hk3
        go_upto_region 8 with (fail)
        go_cut [27] (fun q wx => ∃ fl : Bool, q = .bool fl ∧ (fl = true → 1 < n3) ∧ wx.ownsRow w.heap.size 9 1 (.slice (some ⟨g, 0, none⟩) n3 cap) n3 (strsV s3) ∧ Strm wx b (N + m + 1) ∧ Mod (· = b) w wx)
        case first =>
          by_cases h1 : 1 < n3
          · have h1a : decide ((1 : Int) < (n3 : Int)) = true := by simp; omega
            have h1b : decide (1 < n3) = true := by simp; omega
            go_wp2_with fail
            refine (flip_calls _ _ _ _ hS3 (by omega) (by omega) (by omega)).mono ?_
            rintro e w4 ⟨fl, rfl, hS4, hM4⟩
            go_wp2_with fail
            go_meet
            exact ⟨fl, by simp, fun _ => h1, own_mod hown3 hM4 (fun g hg => by have := own_block hown3 g hg; omega), hS4.more (by omega), m3.trans hM4⟩
          · have h1a : decide ((1 : Int) < (n3 : Int)) = false := by simp; omega
            have h1b : decide (1 < n3) = false := by simp; omega
            go_wp2_with fail
            go_meet
            exact ⟨false, by simp, fun h => (by cases h), hown3, hS3.more (by omega), m3⟩
        case rest =>
          obtain ⟨fl, rfl, hfl, hown4, hS4, m4⟩ := hcut
          generalize wc = w4 at *
          clear hown3 hS3 m3
          go_upto_if 27 with (fail)
          go_cut [5] (fun v wx => KeysInv w b N m v wx)
          case first =>
            cases fl
            · go_wp2_with fail
              go_meet
              exact ⟨n3, s3, by rw [HK3.out]; omega, H3''.out, hown4, hS4.more (by omega), m4⟩
            · have h1 := hfl rfl
              clear hfl
              have hz4 := m4.size
              go_wp2_with fail
              refine (next_calls _ _ _ _ hS4 (by omega) (by omega) (by omega)).mono ?_
              rintro e w5 ⟨j', hj1, hj2, rfl, hS5, hM5⟩
              have hown5 := own_mod hown4 hM5 (fun g hg => by have := own_block hown4 g hg; omega)
              have m5 : Mod (· = b) w w5 := m4.trans hM5
              have hz5 := m5.size
              clear hown4 hS4 m4 hM5
              by_cases c0 : j' = 0
              · subst c0
                have HREV := Lib.hid (reverseS_calls w5 g cap n3 w.heap.size s3 hown5 (by rw [HK3.out]; omega))
                go_wp2_with fail
                refine HREV.out.mono ?_
                rintro e w6 ⟨rfl, hown6, hM6⟩
                rw [List.length_reverse, HK3.out] at hown6
                have m6 : Mod (· = b) w w6 := m5.trans' hM6 (fun i hi hlt => by simp [Value.ownBlock] at hi; omega)
                have hS6 := hS5.mod hM6 (fun i hi h => by simp [Value.ownBlock] at h; omega)
                go_wp2_with fail
                go_meet
                exact ⟨n3, s3.reverse, by rw [List.length_reverse, HK3.out]; omega, fun s hs => H3''.out s (by simpa using hs), hown6, hS6.more (by omega), m6⟩
              · have c0' : (j' == 0) = false := by simpa using c0
                by_cases c1 : j' = 1
                · subst c1
                  clear c0 c0'
                  go_wp2_with fail
                  refine (next_calls _ _ _ _ hS5 (by omega) (by omega) (by omega)).mono ?_
                  rintro e w6 ⟨i', hi1, hi2, rfl, hS6, hM6⟩
                  obtain ⟨i, rfl⟩ := Int.eq_ofNat_of_zero_le hi1
                  have hown6 := own_mod hown5 hM6 (fun g hg => by have := own_block hown5 g hg; omega)
                  have m6 : Mod (· = b) w w6 := m5.trans hM6
                  have hz6 := m6.size
                  clear hown5 hS5 m5 hM6
                  go_wp2_with fail
                  refine (some_calls _ _ _ _ _ [[], [65], [57]] (hS6.alloc _) (by omega) (Blk.new _ _ _) (by omega) (by simp) (by simp)).mono ?_
                  rintro e w7 ⟨s, hs, rfl, hS7, hM7⟩
                  have hs3 : s.length ≤ 3 := by simp at hs; rcases hs with rfl | rfl | rfl <;> simp
                  have hown7 := own_mod (hown6.alloc _) hM7 (fun g hg => by have := own_block hown6 g hg; omega)
                  have m7 : Mod (· = b) w w7 := (m6.alloc _).trans hM7
                  clear hown6 hS6 m6 hM7 hs
                  have hi3 : i < s3.length := by rw [HK3.out]; omega
                  have q1 := (hown7.cellAt i (by omega)).trans (strsV_get s3 i hi3)
                  have q2 := hown7.frozenAt i
                  obtain ⟨hset, _⟩ := hown7.stored i (.string ⟨s.toArray⟩)
                  have hset2 : (w7.setCell ⟨g, i, none⟩ (.string ⟨s.toArray⟩)).ownsRow w.heap.size 9 1 (.slice (some ⟨g, 0, none⟩) n3 cap) n3 (strsV (s3.set i s)) := by
                    have e : (strsV s3).set i (.string ⟨s.toArray⟩) = strsV (s3.set i s) := by simp [strsV, List.map_set]
                    rw [e] at hset
                    exact hset
                  have hS8 : Strm (w7.setCell ⟨g, i, none⟩ (.string ⟨s.toArray⟩)) b (N + m + 5) := (hS7.setCell (by show b < g; omega) _).more (by omega)
                  have m8 : Mod (· = b) w (w7.setCell ⟨g, i, none⟩ (.string ⟨s.toArray⟩)) := m7.setCell (.inr (by show _ ≤ g; omega)) _
                  have HSET := Lib.hid hset2
                  clear hset hset2
                  generalize s3[i] = z0 at *
                  have i1 : (0 : Int) ≤ (i : Int) := by omega
                  have i2 : (i : Int) < (n3 : Int) := by omega
                  go_wp2_with fail
                  go_meet
                  refine ⟨n3, s3.set i s, by rw [List.length_set, HK3.out]; omega, ?_, HSET.out, hS8, m8⟩
                  intro x hx
                  rcases List.mem_or_eq_of_mem_set hx with h | h
                  · exact H3''.out x h
                  · rw [h]
                    exact hs3
                · have c1' : (j' == 1) = false := by simpa using c1
                  have hownq := hown5
                  have hSq := hS5
                  have mq := m5
                  clear hown5 hS5 m5
                  generalize w5 = wq at *
                  obtain ⟨l, hl⟩ : ∃ l, n3 = l + 1 := ⟨n3 - 1, by omega⟩
                  subst hl
                  have hl3 : l < s3.length := by rw [HK3.out]; omega
                  have q1 := (hownq.cellAt l (by omega)).trans (strsV_get s3 l hl3)
                  have hmem : s3[l] ∈ s3 := List.getElem_mem _
                  have HMEM := Lib.hid (H3''.out _ hmem)
                  clear hmem
                  generalize s3[l] = z0 at *
                  have i1 : (0 : Int) ≤ (l : Int) := by omega
                  have i2 : (l : Int) < (l : Int) + 1 := by omega
                  go_wp2_with (at_builtin; refine wpList_append_lies _ rfl _ _ _ rfl w.heap.size 9 i0 _ 1 16 Tryz.underlying26 hi0 hz0 hz1 hz2 rfl (by omega) (.slice (some ⟨g, 0, none⟩) (l + 1) cap) (l + 1) (strsV s3) rfl (hownq.alloc _) ⟨wq.heap.size, 0, none⟩ 1 1 [.string ⟨z0.toArray⟩] rfl rfl (World.news_of_block (cs := #[.string ⟨z0.toArray⟩]) (t := 9) (fr := (0, 0)) (heap_alloc_new wq _)) (by simp [Value.oneCell']) (by omega) (by simp [maxLen]; omega) (by omega) (by have := mq.size; simp; omega) (wq.heap.size + 1) (by simp) ?_; intro g5 cap5 w5 hown5 hgrow hat hlt5)
                  go_meet
                  have hS8 : Strm w5 b (N + m + 5) := ((hSq.alloc _).mod (mod_grown hgrow) (fun i hi h => by have := own_block hownq i h; omega)).more (by omega)
                  refine ⟨l + 1 + 1, s3 ++ [z0], by simp [HK3.out]; omega, ?_, ?_, hS8, (mq.alloc _).grown hgrow (fun k hk => .inr (own_block hownq k hk))⟩
                  · intro x hx
                    rcases List.mem_append.1 hx with h | h
                    · exact H3''.out x h
                    · simp at h
                      rw [h]
                      exact HMEM.out
                  · simpa [strsV] using hown5
          case rest =>
            obtain ⟨n5, ss5, hl5, h5, hown5, hS5, m5⟩ := hcut
            go_wp2_with fail
            go_ret
            exact ⟨_, n5, ss5, rfl, hl5, h5, hown5, hS5, m5⟩

end Go.Proofs.YtkchninlhemioaaGreatDoor
