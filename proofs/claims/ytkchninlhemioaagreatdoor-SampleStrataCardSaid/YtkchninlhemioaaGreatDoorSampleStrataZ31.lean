/- Texts of the proof of SampleStrata, put together: LeastB, LeastC. -/
import Derived.Test.YtkchninlhemioaaGreatDoorSampleStrataZ18
import Derived.Test.YtkchninlhemioaaGreatDoorSampleStrataZ30
import Derived.Deep.DeepCutAuto
import Derived.Deep.CutBlock
/- LeastOf and PartOf of the reference; Least and Part of package sample. -/
namespace Go.Proofs.YtkchninlhemioaaGreatDoor
set_option linter.unusedVariables false
set_option linter.unusedSimpArgs false
open Go.RowKit Go.Sort

def LORel (w : World) (base : Nat) (seed : Str) (ids : List Str) (many gk : Nat) (x : Value) (wr : World) : Prop :=
  ∃ (out : List Str) (A : Option Addr) (cap : Nat), out.length = gk ∧ x = .slice A out.length cap ∧ LeastInv (hashB seed) ids many out ∧ wr.ownsRow base 9 1 (.slice A out.length cap) out.length (strsV out) ∧ Pure w wr
def LOIn (w : World) (base g cap n : Nat) (seed : Str) (out : List Str) (gk : Nat) (wv i : Value) (wr : World) : Prop :=
  ∃ k m : Nat, n - k = gk ∧ k ≤ n ∧ i = .int .i64 (k : Int) ∧ wv = .int .i64 (m : Int) ∧ WorstAt (hashB seed) out k m ∧ wr.ownsRow base 9 1 (.slice (some ⟨g, 0, none⟩) n cap) n (strsV out) ∧ Pure w wr

set_option maxRecDepth 100000 in
set_option maxHeartbeats 4000000 in
theorem LeastOf_calls (w : World) (v : Value) (ids : List Str) (seed : Str) (many : Nat) (hv : Sl w 9 1 v (strsV ids)) (hz : ∀ s ∈ ids, s.length ≤ 1000) (hzs : seed.length ≤ 1000) (hl : ids.length ≤ 2000) (hmany : many ≤ 1000000000) (hsort : ids.Pairwise (· < ·)) :
    Calls Tryz.prog 17 #[v, .string ⟨seed.toArray⟩, .int .i64 (many : Int)] w (LeastPost w seed ids many) := by
  have HZ := Lib.hid hz
  have HSO := Lib.hid hsort
  have HCL := Lib.hid (cloneS_calls w v ids hv (by omega))
  obtain ⟨A, n, c, rfl⟩ := hv.form
  clear hz hsort hv
  go_enter Tryz.func17, Tryz.ntmps17
  go_wp2_with fail
  refine HCL.out.mono ?_
  rintro e w1 ⟨vc, rfl, hown, m1⟩
  clear HCL
  obtain ⟨Ac, nc, cc, rfl⟩ := (Sl.of_own hown).form
  have hnc : nc = ids.length := by
    rcases hown.2 with ⟨h, h0⟩ | ⟨g, cap', cur, h, _⟩
    · injection h with _ h1 _
      omega
    · injection h with _ h1 _
  subst hnc
  generalize hbs : w.heap.size = base at *
  have hbs1 := Nat.le_of_eq hbs
  clear hbs
  go_wp2_with fail
  go_loopg [7] ids.length (fun gk x wr => LORel w base seed ids many gk x wr)
  case atStart => exact ⟨ids, _, _, rfl, rfl, .start HSO.out, hown, m1⟩
  case round =>
    clear hown m1
    obtain ⟨out, A, cap, rfl, rfl, hinv, hown, hm⟩ := hrel
    have hol := hinv.2.2.2.2
    have HINV := Lib.hid hinv
    clear hinv
    have HOZ : Hid (∀ s ∈ out, s.length ≤ 1000) := Lib.hid fun s hs => HZ.out s (HINV.out.2.1 s hs)
    by_cases hlt : many < out.length
    · obtain ⟨g, cap', hform, hg1, hg2, hcap, hcap2⟩ := own_form hown (by omega)
      injection hform with hA _ hC
      subst hA hC
      have HW0 := Lib.hid (WorstAt.start (h := hashB seed) (l := out) (by omega))
      obtain ⟨N, hN⟩ : ∃ N, N = out.length := ⟨_, rfl⟩
      have HN := Lib.hid hN
      rw [← hN] at hlt hown hol hcap ⊢
      clear hN
      go_wp2_with fail
      go_loopg [8, 19] N (fun gk wv i wr => LOIn w base g cap N seed out gk wv i wr)
      case atStart => exact ⟨0, 0, by omega, by omega, rfl, rfl, HW0.out, hown, hm⟩
      case round =>
        clear hown hm HW0
        obtain ⟨k, m, rfl, hk, rfl, rfl, hwa, hown, hm⟩ := hrel
        have hmo : m < N := by rw [HN.out]; exact hwa.1
        have HWA := Lib.hid hwa
        clear hwa
        by_cases hlk : k < N
        · have hko : k < out.length := by rw [← HN.out]; exact hlk
          have hmo' : m < out.length := by rw [← HN.out]; exact hmo
          have q1 := (hown.cellAt k (by omega)).trans (strsV_get out k hko)
          have q2 := (hown.cellAt m (by omega)).trans (strsV_get out m hmo')
          have HZ1 := Lib.hid (HOZ.out _ (List.getElem_mem hko))
          have HZ2 := Lib.hid (HOZ.out _ (List.getElem_mem hmo'))
          have hgd : out.getD m [] = out[m] := by simp [List.getD, hmo']
          have HT := Lib.hid (fun h => HWA.out.take hko h)
          have HK := Lib.hid (fun h => HWA.out.keep hko h)
          rw [hgd] at HT HK
          have HB1 : Hid (hashB seed out[k] = hashN (seed ++ 32 :: out[k])) := Lib.hid rfl
          have HB2 : Hid (hashB seed out[m] = hashN (seed ++ 32 :: out[m])) := Lib.hid rfl
          clear hgd
          generalize out[k] = x at *
          generalize out[m] = y at *
          clear hko hmo'
          have y1 : (⟨x.toArray⟩ : ByteArray).size ≤ 1000 := by have := HZ1.out; simp [ByteArray.size]; omega
          have y2 : (⟨y.toArray⟩ : ByteArray).size ≤ 1000 := by have := HZ2.out; simp [ByteArray.size]; omega
          have y3 : (⟨seed.toArray⟩ : ByteArray).size ≤ 1000 := by simp [ByteArray.size]; omega
          have H1 := Lib.hid (fun W => HashOf_calls W ⟨x.toArray⟩ ⟨seed.toArray⟩ y1 y3)
          have H2 := Lib.hid (fun W => HashOf_calls W ⟨y.toArray⟩ ⟨seed.toArray⟩ y2 y3)
          simp only at H1 H2
          generalize hashN (seed ++ 32 :: x) = h1 at *
          generalize hashN (seed ++ 32 :: y) = h2 at *
          rw [HB1.out, HB2.out] at HT HK
          clear HB1 HB2 HZ1 HZ2 y1 y2 y3
          have i1 : (0 : Int) ≤ (k : Int) := by omega
          have i2 : (k : Int) < (N : Int) := by omega
          have i3 : (0 : Int) ≤ (m : Int) := by omega
          have i4 : (m : Int) < (N : Int) := by omega
          go_wp2_with fail
          go_upto_region 7 with (fail)
          go_cut [33] (fun p wx => p = .bool (decide (h2 ≤ h1)) ∧ wx.ownsRow base 9 1 (.slice (some ⟨g, 0, none⟩) N cap) N (strsV out) ∧ Pure w wx)
          case first =>
            obtain ⟨wz, rfl⟩ : ∃ wz : World, wz = wr := ⟨_, rfl⟩
            have HGs := Lib.hid (show ∀ (D : Nat → Bool) (i : Nat) (zq zq' : World), (fun _ zq => (fun W => W.cell? ⟨g, m, none⟩ = some (.string ⟨y.toArray⟩)) zq) D zq → Mod (fun _ => False) zq zq' → (fun _ zq => (fun W => W.cell? ⟨g, m, none⟩ = some (.string ⟨y.toArray⟩)) zq) (upd D i true) zq' from by intro D i zq zq' h hm; (exact keepp h hm))
            refine wp_region_inv (by kernel_rfl) (by kernel_rfl) (InvF (R := Mod (fun _ => False)) [.is (.string ⟨x.toArray⟩),
                .is (.string ⟨seed.toArray⟩),
                .is (.int .i64 (h1 : Int)),
                .is (.slice (some ⟨g, 0, none⟩) N cap),
                .is (.int .i64 (m : Int)),
                .is (.pointer (some ⟨g, m, none⟩)),
                .is (.string ⟨y.toArray⟩),
                .is (.string ⟨seed.toArray⟩),
                .is (.int .i64 (h2 : Int)),
                .is (.bool (decide (h2 ≤ h1)))]
                (PB wz (fun _ => False) wz.heap.size (fun _ zq => (fun W => W.cell? ⟨g, m, none⟩ = some (.string ⟨y.toArray⟩)) zq))) (InvF.start (PB.start (Mod.refl _ _) (Nat.le_refl _) (cell_drew q2))) ?_ ?_
            · refine .cons ?_ (.cons ?_ (.cons ?_ (.cons ?_ (.cons ?_ (.cons ?_ (.cons ?_ (.cons ?_ (.cons ?_ (.cons ?_ .nil)))))))))
              · intro D V zw1 a hR hI K hK   -- 0: Op.move (Operand.tmp 10)
                obtain ⟨hM1, hB1, hG1⟩ := hI.1
                have ze10 := hR.frame.other (t := 10) (by kernel_rfl) rfl
                rw [if_pos (by rfl)]
                go_simp
                exact hK (.string ⟨x.toArray⟩) _ (hI.next hR (by kernel_rfl) (Mod.refl _ _) (PB.quiet hI.1 (Mod.refl _ _) (HGs.out D 0 zw1 zw1 (hI.1).g (Mod.refl _ _))) (upd_same V 0 _))
              · intro D V zw1 a hR hI K hK   -- 1: Op.move (Operand.tmp 1)
                obtain ⟨hM1, hB1, hG1⟩ := hI.1
                have ze1 := hR.frame.other (t := 1) (by kernel_rfl) rfl
                rw [if_pos (by rfl)]
                go_simp
                exact hK (.string ⟨seed.toArray⟩) _ (hI.next hR (by kernel_rfl) (Mod.refl _ _) (PB.quiet hI.1 (Mod.refl _ _) (HGs.out D 1 zw1 zw1 (hI.1).g (Mod.refl _ _))) (upd_same V 1 _))
              · intro D V zw1 a hR hI K hK   -- 2: Op.call { callee := Callee.value (Operand.func 42), args := #[Operand.
                obtain ⟨hM1, hB1, hG1⟩ := hI.1
                have zd0 := hR.pred 0 (by kernel_rfl)
                have zF0 : V 0 = .string ⟨x.toArray⟩ := hI.2 0 zd0 rfl
                have zf0 := zF0; clear zF0
                have zd1 := hR.pred 1 (by kernel_rfl)
                have zF1 : V 1 = .string ⟨seed.toArray⟩ := hI.2 1 zd1 rfl
                have zf1 := zF1; clear zF1
                have ze24 := hR.frame.done (t := 24) (j := 0) (by kernel_rfl) hR.ok zd0
                have ze25 := hR.frame.done (t := 25) (j := 1) (by kernel_rfl) hR.ok zd1
                rw [if_pos (by rfl)]
                go_simp
                refine (H1.out _).mono ?_
                rintro e zw2 ⟨rfl, hm2⟩
                exact hK (.int .i64 (h1 : Int)) _ (hI.next hR (by kernel_rfl) hm2 (PB.quiet hI.1 hm2 (HGs.out D 2 _ _ (hI.1).g hm2)) (upd_same V 2 _))
              · intro D V zw1 a hR hI K hK   -- 3: Op.move (Operand.tmp 7)
                obtain ⟨hM1, hB1, hG1⟩ := hI.1
                have ze7 := hR.frame.other (t := 7) (by kernel_rfl) rfl
                rw [if_pos (by rfl)]
                go_simp
                exact hK (.slice (some ⟨g, 0, none⟩) N cap) _ (hI.next hR (by kernel_rfl) (Mod.refl _ _) (PB.quiet hI.1 (Mod.refl _ _) (HGs.out D 3 zw1 zw1 (hI.1).g (Mod.refl _ _))) (upd_same V 3 _))
              · intro D V zw1 a hR hI K hK   -- 4: Op.move (Operand.tmp 8)
                obtain ⟨hM1, hB1, hG1⟩ := hI.1
                have ze8 := hR.frame.other (t := 8) (by kernel_rfl) rfl
                rw [if_pos (by rfl)]
                go_simp
                exact hK (.int .i64 (m : Int)) _ (hI.next hR (by kernel_rfl) (Mod.refl _ _) (PB.quiet hI.1 (Mod.refl _ _) (HGs.out D 4 zw1 zw1 (hI.1).g (Mod.refl _ _))) (upd_same V 4 _))
              · intro D V zw1 a hR hI K hK   -- 5: Op.indexAddr 26 (Operand.tmp 27) (Operand.tmp 28)
                obtain ⟨hM1, hB1, hG1⟩ := hI.1
                have zd3 := hR.pred 3 (by kernel_rfl)
                have zF3 : V 3 = .slice (some ⟨g, 0, none⟩) N cap := hI.2 3 zd3 rfl
                have zf3 := zF3; clear zF3
                have zd4 := hR.pred 4 (by kernel_rfl)
                have zF4 : V 4 = .int .i64 (m : Int) := hI.2 4 zd4 rfl
                have zf4 := zF4; clear zF4
                have ze27 := hR.frame.done (t := 27) (j := 3) (by kernel_rfl) hR.ok zd3
                have ze28 := hR.frame.done (t := 28) (j := 4) (by kernel_rfl) hR.ok zd4
                rw [if_pos (by rfl)]
                go_simp
                exact hK (.pointer (some ⟨g, m, none⟩)) _ (hI.next hR (by kernel_rfl) (Mod.refl _ _) (PB.quiet hI.1 (Mod.refl _ _) (HGs.out D 5 zw1 zw1 (hI.1).g (Mod.refl _ _))) (upd_same V 5 _))
              · intro D V zw1 a hR hI K hK   -- 6: Op.load 9 (Operand.tmp 29)
                obtain ⟨hM1, hB1, hG1⟩ := hI.1
                have zd5 := hR.pred 5 (by kernel_rfl)
                have zF5 : V 5 = .pointer (some ⟨g, m, none⟩) := hI.2 5 zd5 rfl
                have zf5 := zF5; clear zF5
                have ze29 := hR.frame.done (t := 29) (j := 5) (by kernel_rfl) hR.ok zd5
                rw [if_pos (by rfl)]
                go_simp
                exact hK (.string ⟨y.toArray⟩) _ (hI.next hR (by kernel_rfl) (Mod.refl _ _) (PB.quiet hI.1 (Mod.refl _ _) (HGs.out D 6 zw1 zw1 (hI.1).g (Mod.refl _ _))) (upd_same V 6 _))
              · intro D V zw1 a hR hI K hK   -- 7: Op.move (Operand.tmp 1)
                obtain ⟨hM1, hB1, hG1⟩ := hI.1
                have ze1 := hR.frame.other (t := 1) (by kernel_rfl) rfl
                rw [if_pos (by rfl)]
                go_simp
                exact hK (.string ⟨seed.toArray⟩) _ (hI.next hR (by kernel_rfl) (Mod.refl _ _) (PB.quiet hI.1 (Mod.refl _ _) (HGs.out D 7 zw1 zw1 (hI.1).g (Mod.refl _ _))) (upd_same V 7 _))
              · intro D V zw1 a hR hI K hK   -- 8: Op.call { callee := Callee.value (Operand.func 42), args := #[Operand.
                obtain ⟨hM1, hB1, hG1⟩ := hI.1
                have zd6 := hR.pred 6 (by kernel_rfl)
                have zF6 : V 6 = .string ⟨y.toArray⟩ := hI.2 6 zd6 rfl
                have zf6 := zF6; clear zF6
                have zd7 := hR.pred 7 (by kernel_rfl)
                have zF7 : V 7 = .string ⟨seed.toArray⟩ := hI.2 7 zd7 rfl
                have zf7 := zF7; clear zF7
                have ze30 := hR.frame.done (t := 30) (j := 6) (by kernel_rfl) hR.ok zd6
                have ze31 := hR.frame.done (t := 31) (j := 7) (by kernel_rfl) hR.ok zd7
                rw [if_pos (by rfl)]
                go_simp
                refine (H2.out _).mono ?_
                rintro e zw2 ⟨rfl, hm2⟩
                exact hK (.int .i64 (h2 : Int)) _ (hI.next hR (by kernel_rfl) hm2 (PB.quiet hI.1 hm2 (HGs.out D 8 _ _ (hI.1).g hm2)) (upd_same V 8 _))
              · intro D V zw1 a hR hI K hK   -- 9: Op.binOp BinOp.geq 3 (Operand.tmp 26) (Operand.tmp 32) 3
                obtain ⟨hM1, hB1, hG1⟩ := hI.1
                have zd2 := hR.pred 2 (by kernel_rfl)
                have zF2 : V 2 = .int .i64 (h1 : Int) := hI.2 2 zd2 rfl
                have zf2 := zF2; clear zF2
                have zd8 := hR.pred 8 (by kernel_rfl)
                have zF8 : V 8 = .int .i64 (h2 : Int) := hI.2 8 zd8 rfl
                have zf8 := zF8; clear zF8
                have ze26 := hR.frame.done (t := 26) (j := 2) (by kernel_rfl) hR.ok zd2
                have ze32 := hR.frame.done (t := 32) (j := 8) (by kernel_rfl) hR.ok zd8
                rw [if_pos (by rfl)]
                go_simp
                exact hK (.bool (decide (h2 ≤ h1))) _ (hI.next hR (by kernel_rfl) (Mod.refl _ _) (PB.quiet hI.1 (Mod.refl _ _) (HGs.out D 9 zw1 zw1 (hI.1).g (Mod.refl _ _))) (upd_same V 9 _))
            · intro D V w1 hD hI
              obtain ⟨hM1, hB1, hG1⟩ := hI.1
              have hMx := hM1
              clear hM1
              have hBx := hB1
              clear hB1
              have hGx := hG1
              clear hG1
              have zF0 : V 0 = .string ⟨x.toArray⟩ := hI.2 0 (hD 0 (by decide)) rfl
              have zf0 := zF0; clear zF0
              have zF1 : V 1 = .string ⟨seed.toArray⟩ := hI.2 1 (hD 1 (by decide)) rfl
              have zf1 := zF1; clear zF1
              have zF2 : V 2 = .int .i64 (h1 : Int) := hI.2 2 (hD 2 (by decide)) rfl
              have zf2 := zF2; clear zF2
              have zF3 : V 3 = .slice (some ⟨g, 0, none⟩) N cap := hI.2 3 (hD 3 (by decide)) rfl
              have zf3 := zF3; clear zF3
              have zF4 : V 4 = .int .i64 (m : Int) := hI.2 4 (hD 4 (by decide)) rfl
              have zf4 := zF4; clear zF4
              have zF5 : V 5 = .pointer (some ⟨g, m, none⟩) := hI.2 5 (hD 5 (by decide)) rfl
              have zf5 := zF5; clear zF5
              have zF6 : V 6 = .string ⟨y.toArray⟩ := hI.2 6 (hD 6 (by decide)) rfl
              have zf6 := zF6; clear zF6
              have zF7 : V 7 = .string ⟨seed.toArray⟩ := hI.2 7 (hD 7 (by decide)) rfl
              have zf7 := zF7; clear zF7
              have zF8 : V 8 = .int .i64 (h2 : Int) := hI.2 8 (hD 8 (by decide)) rfl
              have zf8 := zF8; clear zF8
              have zF9 : V 9 = .bool (decide (h2 ≤ h1)) := hI.2 9 (hD 9 (by decide)) rfl
              have zf9 := zF9; clear zF9
              clear hI hD HGs
              simp only [frAll, Act.put, List.setIfInBounds_toArray, List.set_cons_zero, List.set_cons_succ, Nat.zero_add, Nat.reduceAdd, zf0, zf1, zf2, zf3, zf4, zf5, zf6, zf7, zf8, zf9]
              clear zf0 zf1 zf2 zf3 zf4 zf5 zf6 zf7 zf8 zf9
              clear V D
              go_wp2_with fail
              go_meet
              exact ⟨rfl, own_pure hown hMx, hm.trans hMx⟩
          case rest =>
            obtain ⟨rfl, own2, m2⟩ := hcut
            clear hown hm q1 q2 H1 H2
            by_cases hle : h2 ≤ h1
            · have hd : decide (h2 ≤ h1) = true := by simpa using hle
              go_wp2_with fail
              go_roundg (N - (k + 1))
              case measure => omega
              case rel => exact ⟨k + 1, k, rfl, by omega, by simp, by simp, HT.out hle, own2, m2⟩
            · have hd : decide (h2 ≤ h1) = false := by simpa using hle
              go_wp2_with fail
              go_roundg (N - (k + 1))
              case measure => omega
              case rel => exact ⟨k + 1, m, rfl, by omega, by simp, rfl, HK.out (by omega), own2, m2⟩
        · obtain rfl : N = k := by omega
          have hst := HINV.out.step (by rw [← HN.out]; exact hlt) (by rw [HN.out] at HWA; exact HWA.out)
          have HST := Lib.hid hst
          have HER := Lib.hid (eraseS_calls wr g cap N m base ((m : Int) + 1) out hown (by rw [← HN.out]; omega) hmo rfl)
          have HEL : Hid ((out.eraseIdx m).length = N - 1) := Lib.hid (by rw [List.length_eraseIdx_of_lt (by rw [← HN.out]; exact hmo), ← HN.out])
          clear hst hown
          go_wp2_with fail
          refine HER.out.mono ?_
          rintro e w2 ⟨rfl, own2, hm2⟩
          have m2 : Pure w w2 := hm.trans' hm2 (fun i hi hlt => by omega)
          clear HER hm hm2
          generalize out.eraseIdx m = out2 at *
          go_wp2_with fail
          go_roundg out2.length
          case measure => have := HEL.out; have := HN.out; omega
          case rel => exact ⟨out2, _, _, rfl, rfl, HST.out, own2, m2⟩
    · have hsp := HINV.out.done (by omega)
      have HSP := Lib.hid hsp
      have HSL := Lib.hid (Sl.of_own hown)
      clear hsp hown
      generalize out.length = N at *
      go_wp2_with fail
      go_ret
      exact ⟨_, out, rfl, HSP.out, HSL.out, hm⟩

/-- Which ids are in a part. -/
def partB (seed : Str) (num den : Int) (id : Str) : Bool := decide ((hashB seed id : Int) * den < num * 4294967296)
set_option maxRecDepth 100000 in
set_option maxHeartbeats 4000000 in
theorem partOf1_calls (w : World) (id seed : Str) (num den : Int) (gs gf : Nat) (hc : w.cell? ⟨gs, 0, none⟩ = some (.string ⟨seed.toArray⟩)) (hf : Blk w gf 32 #[.int .i64 num, .int .i64 den]) (hx : id.length ≤ 1000) (hs : seed.length ≤ 1000)
    (hn : 0 ≤ num) (hn2 : num ≤ 1000000) (hd : 1 ≤ den) (hd2 : den ≤ 1000000) :
    Calls Tryz.prog 45 #[.string ⟨id.toArray⟩, .pointer (some ⟨gs, 0, none⟩), .pointer (some ⟨gf, 0, none⟩)] w (BoolPost w (!partB seed num den id)) := by
  have y1 : (⟨id.toArray⟩ : ByteArray).size ≤ 1000 := by simp [ByteArray.size]; omega
  have y3 : (⟨seed.toArray⟩ : ByteArray).size ≤ 1000 := by simp [ByteArray.size]; omega
  have H1 := Lib.hid (fun W => HashOf_calls W ⟨id.toArray⟩ ⟨seed.toArray⟩ y1 y3)
  have hb1 := hashN_lt (seed ++ 32 :: id)
  have HP : Hid (partB seed num den id = decide ((hashN (seed ++ 32 :: id) : Int) * den < num * 4294967296)) := Lib.hid rfl
  simp only at H1
  generalize hashN (seed ++ 32 :: id) = h1 at *
  have p1 : 0 ≤ (h1 : Int) * den := Int.mul_nonneg (by omega) (by omega)
  have p2 : (h1 : Int) * den ≤ 4294967296 * 1000000 := Int.mul_le_mul (by omega) hd2 (by omega) (by omega)
  have hw : IntKind.i64.wrap ((h1 : Int) * den) = (h1 : Int) * den := IntWalk.i64_in _ (by omega)
  have HW := Lib.hid hw
  have hw2 : IntKind.i64.wrap (num * 4294967296) = num * 4294967296 := IntWalk.i64_in _ (by omega)
  have HW2 := Lib.hid hw2
  generalize hpr : (h1 : Int) * den = pr at *
  have HPR := Lib.hid hpr
  clear hw hw2 p1 p2 hpr
  go_enter Tryz.func45, Tryz.ntmps45
  go_wp2_with fail
  have HGs := Lib.hid (show ∀ (D : Nat → Bool) (i : Nat) (zq zq' : World), (fun _ zq => (fun W => W.cell? ⟨gs, 0, none⟩ = some (.string ⟨seed.toArray⟩) ∧ Blk W gf 32 #[.int .i64 num, .int .i64 den]) zq) D zq → Mod (fun _ => False) zq zq' → (fun _ zq => (fun W => W.cell? ⟨gs, 0, none⟩ = some (.string ⟨seed.toArray⟩) ∧ Blk W gf 32 #[.int .i64 num, .int .i64 den]) zq) (upd D i true) zq' from by intro D i zq zq' h hm; (exact ⟨keepp h.1 hm, h.2.modp hm⟩))
  refine wp_region_inv (by kernel_rfl) (by kernel_rfl) (InvF (R := Mod (fun _ => False)) [.is (.string ⟨id.toArray⟩),
      .is (.string ⟨seed.toArray⟩),
      .is (.int .i64 (h1 : Int)),
      .is (.pointer (some ⟨gf, 1, none⟩)),
      .is (.int .i64 den),
      .is (.int .i64 pr),
      .is (.pointer (some ⟨gf, 0, none⟩)),
      .is (.int .i64 num),
      .is (.int .i64 (num * 4294967296)),
      .is (.bool (decide (num * 4294967296 ≤ pr))),
      .is (.bool (decide (num * 4294967296 ≤ pr)))]
      (PB w (fun _ => False) w.heap.size (fun _ zq => (fun W => W.cell? ⟨gs, 0, none⟩ = some (.string ⟨seed.toArray⟩) ∧ Blk W gf 32 #[.int .i64 num, .int .i64 den]) zq))) (InvF.start (PB.start (Mod.refl _ _) (Nat.le_refl _) (⟨cell_drew hc, hf.drew⟩))) ?_ ?_
  · refine .cons ?_ (.cons ?_ (.cons ?_ (.cons ?_ (.cons ?_ (.cons ?_ (.cons ?_ (.cons ?_ (.cons ?_ (.cons ?_ (.cons ?_ .nil))))))))))
    · intro D V zw1 a hR hI K hK   -- 0: Op.move (Operand.tmp 0)
      obtain ⟨hM1, hB1, hG1⟩ := hI.1
      obtain ⟨hG1c, hG1d⟩ := hG1
      have ze0 := hR.frame.other (t := 0) (by kernel_rfl) rfl
      rw [if_pos (by rfl)]
      go_simp
      exact hK (.string ⟨id.toArray⟩) _ (hI.next hR (by kernel_rfl) (Mod.refl _ _) (PB.quiet hI.1 (Mod.refl _ _) (HGs.out D 0 zw1 zw1 (hI.1).g (Mod.refl _ _))) (upd_same V 0 _))
    · intro D V zw1 a hR hI K hK   -- 1: Op.load 9 (Operand.tmp 1)
      obtain ⟨hM1, hB1, hG1⟩ := hI.1
      obtain ⟨hG1c, hG1d⟩ := hG1
      have ze1 := hR.frame.other (t := 1) (by kernel_rfl) rfl
      rw [if_pos (by rfl)]
      go_simp
      exact hK (.string ⟨seed.toArray⟩) _ (hI.next hR (by kernel_rfl) (Mod.refl _ _) (PB.quiet hI.1 (Mod.refl _ _) (HGs.out D 1 zw1 zw1 (hI.1).g (Mod.refl _ _))) (upd_same V 1 _))
    · intro D V zw1 a hR hI K hK   -- 2: Op.call { callee := Callee.value (Operand.func 42), args := #[Operand.
      obtain ⟨hM1, hB1, hG1⟩ := hI.1
      obtain ⟨hG1c, hG1d⟩ := hG1
      have zd0 := hR.pred 0 (by kernel_rfl)
      have zF0 : V 0 = .string ⟨id.toArray⟩ := hI.2 0 zd0 rfl
      have zf0 := zF0; clear zF0
      have zd1 := hR.pred 1 (by kernel_rfl)
      have zF1 : V 1 = .string ⟨seed.toArray⟩ := hI.2 1 zd1 rfl
      have zf1 := zF1; clear zF1
      have ze5 := hR.frame.done (t := 5) (j := 0) (by kernel_rfl) hR.ok zd0
      have ze6 := hR.frame.done (t := 6) (j := 1) (by kernel_rfl) hR.ok zd1
      rw [if_pos (by rfl)]
      go_simp
      refine (H1.out _).mono ?_
      rintro e zw2 ⟨rfl, hm2⟩
      exact hK (.int .i64 (h1 : Int)) _ (hI.next hR (by kernel_rfl) hm2 (PB.quiet hI.1 hm2 (HGs.out D 2 _ _ (hI.1).g hm2)) (upd_same V 2 _))
    · intro D V zw1 a hR hI K hK   -- 3: Op.fieldAddr 32 (Operand.tmp 2) 1
      obtain ⟨hM1, hB1, hG1⟩ := hI.1
      obtain ⟨hG1c, hG1d⟩ := hG1
      have ze2 := hR.frame.other (t := 2) (by kernel_rfl) rfl
      rw [if_pos (by rfl)]
      go_simp
      exact hK (.pointer (some ⟨gf, 1, none⟩)) _ (hI.next hR (by kernel_rfl) (Mod.refl _ _) (PB.quiet hI.1 (Mod.refl _ _) (HGs.out D 3 zw1 zw1 (hI.1).g (Mod.refl _ _))) (upd_same V 3 _))
    · intro D V zw1 a hR hI K hK   -- 4: Op.load 3 (Operand.tmp 8)
      obtain ⟨hM1, hB1, hG1⟩ := hI.1
      obtain ⟨hG1c, hG1d⟩ := hG1
      have zd3 := hR.pred 3 (by kernel_rfl)
      have zF3 : V 3 = .pointer (some ⟨gf, 1, none⟩) := hI.2 3 zd3 rfl
      have zf3 := zF3; clear zF3
      have ze8 := hR.frame.done (t := 8) (j := 3) (by kernel_rfl) hR.ok zd3
      have zx0 := hG1d.cell 0; have zx1 := hG1d.cell 1
      simp at zx0 zx1
      rw [if_pos (by rfl)]
      go_simp
      exact hK (.int .i64 den) _ (hI.next hR (by kernel_rfl) (Mod.refl _ _) (PB.quiet hI.1 (Mod.refl _ _) (HGs.out D 4 zw1 zw1 (hI.1).g (Mod.refl _ _))) (upd_same V 4 _))
    · intro D V zw1 a hR hI K hK   -- 5: Op.binOp BinOp.mul 3 (Operand.tmp 7) (Operand.tmp 9) 3
      obtain ⟨hM1, hB1, hG1⟩ := hI.1
      obtain ⟨hG1c, hG1d⟩ := hG1
      have zd2 := hR.pred 2 (by kernel_rfl)
      have zF2 : V 2 = .int .i64 (h1 : Int) := hI.2 2 zd2 rfl
      have zf2 := zF2; clear zF2
      have zd4 := hR.pred 4 (by kernel_rfl)
      have zF4 : V 4 = .int .i64 den := hI.2 4 zd4 rfl
      have zf4 := zF4; clear zF4
      have ze7 := hR.frame.done (t := 7) (j := 2) (by kernel_rfl) hR.ok zd2
      have ze9 := hR.frame.done (t := 9) (j := 4) (by kernel_rfl) hR.ok zd4
      have hpr := HPR.out; have hw := HW.out
      rw [if_pos (by rfl)]
      go_simp
      exact hK (.int .i64 pr) _ (hI.next hR (by kernel_rfl) (Mod.refl _ _) (PB.quiet hI.1 (Mod.refl _ _) (HGs.out D 5 zw1 zw1 (hI.1).g (Mod.refl _ _))) (upd_same V 5 _))
    · intro D V zw1 a hR hI K hK   -- 6: Op.fieldAddr 32 (Operand.tmp 2) 0
      obtain ⟨hM1, hB1, hG1⟩ := hI.1
      obtain ⟨hG1c, hG1d⟩ := hG1
      have ze2 := hR.frame.other (t := 2) (by kernel_rfl) rfl
      rw [if_pos (by rfl)]
      go_simp
      exact hK (.pointer (some ⟨gf, 0, none⟩)) _ (hI.next hR (by kernel_rfl) (Mod.refl _ _) (PB.quiet hI.1 (Mod.refl _ _) (HGs.out D 6 zw1 zw1 (hI.1).g (Mod.refl _ _))) (upd_same V 6 _))
    · intro D V zw1 a hR hI K hK   -- 7: Op.load 3 (Operand.tmp 11)
      obtain ⟨hM1, hB1, hG1⟩ := hI.1
      obtain ⟨hG1c, hG1d⟩ := hG1
      have zd6 := hR.pred 6 (by kernel_rfl)
      have zF6 : V 6 = .pointer (some ⟨gf, 0, none⟩) := hI.2 6 zd6 rfl
      have zf6 := zF6; clear zF6
      have ze11 := hR.frame.done (t := 11) (j := 6) (by kernel_rfl) hR.ok zd6
      have zx0 := hG1d.cell 0; have zx1 := hG1d.cell 1
      simp at zx0 zx1
      rw [if_pos (by rfl)]
      go_simp
      exact hK (.int .i64 num) _ (hI.next hR (by kernel_rfl) (Mod.refl _ _) (PB.quiet hI.1 (Mod.refl _ _) (HGs.out D 7 zw1 zw1 (hI.1).g (Mod.refl _ _))) (upd_same V 7 _))
    · intro D V zw1 a hR hI K hK   -- 8: Op.binOp BinOp.shl 3 (Operand.tmp 12) (Operand.const (Value.int IntKin
      obtain ⟨hM1, hB1, hG1⟩ := hI.1
      obtain ⟨hG1c, hG1d⟩ := hG1
      have zd7 := hR.pred 7 (by kernel_rfl)
      have zF7 : V 7 = .int .i64 num := hI.2 7 zd7 rfl
      have zf7 := zF7; clear zF7
      have ze12 := hR.frame.done (t := 12) (j := 7) (by kernel_rfl) hR.ok zd7
      have hw2 := HW2.out
      rw [if_pos (by rfl)]
      go_simp
      exact hK (.int .i64 (num * 4294967296)) _ (hI.next hR (by kernel_rfl) (Mod.refl _ _) (PB.quiet hI.1 (Mod.refl _ _) (HGs.out D 8 zw1 zw1 (hI.1).g (Mod.refl _ _))) (upd_same V 8 _))
    · intro D V zw1 a hR hI K hK   -- 9: Op.binOp BinOp.geq 3 (Operand.tmp 10) (Operand.tmp 13) 3
      obtain ⟨hM1, hB1, hG1⟩ := hI.1
      obtain ⟨hG1c, hG1d⟩ := hG1
      have zd5 := hR.pred 5 (by kernel_rfl)
      have zF5 : V 5 = .int .i64 pr := hI.2 5 zd5 rfl
      have zf5 := zF5; clear zF5
      have zd8 := hR.pred 8 (by kernel_rfl)
      have zF8 : V 8 = .int .i64 (num * 4294967296) := hI.2 8 zd8 rfl
      have zf8 := zF8; clear zF8
      have ze10 := hR.frame.done (t := 10) (j := 5) (by kernel_rfl) hR.ok zd5
      have ze13 := hR.frame.done (t := 13) (j := 8) (by kernel_rfl) hR.ok zd8
      rw [if_pos (by rfl)]
      go_simp
      exact hK (.bool (decide (num * 4294967296 ≤ pr))) _ (hI.next hR (by kernel_rfl) (Mod.refl _ _) (PB.quiet hI.1 (Mod.refl _ _) (HGs.out D 9 zw1 zw1 (hI.1).g (Mod.refl _ _))) (upd_same V 9 _))
    · intro D V zw1 a hR hI K hK   -- 10: Op.assign (Operand.tmp 14)
      obtain ⟨hM1, hB1, hG1⟩ := hI.1
      obtain ⟨hG1c, hG1d⟩ := hG1
      have zd9 := hR.pred 9 (by kernel_rfl)
      have zF9 : V 9 = .bool (decide (num * 4294967296 ≤ pr)) := hI.2 9 zd9 rfl
      have zf9 := zF9; clear zF9
      have ze14 := hR.frame.done (t := 14) (j := 9) (by kernel_rfl) hR.ok zd9
      rw [if_pos (by rfl)]
      go_simp
      exact hK (.bool (decide (num * 4294967296 ≤ pr))) _ (hI.next hR (by kernel_rfl) (Mod.refl _ _) (PB.quiet hI.1 (Mod.refl _ _) (HGs.out D 10 zw1 zw1 (hI.1).g (Mod.refl _ _))) (upd_same V 10 _))
  · intro D V w1 hD hI
    obtain ⟨hM1, hB1, hG1⟩ := hI.1
    have hMx := hM1
    clear hM1
    have hBx := hB1
    clear hB1
    have hGx := hG1
    clear hG1
    have zF0 : V 0 = .string ⟨id.toArray⟩ := hI.2 0 (hD 0 (by decide)) rfl
    have zf0 := zF0; clear zF0
    have zF1 : V 1 = .string ⟨seed.toArray⟩ := hI.2 1 (hD 1 (by decide)) rfl
    have zf1 := zF1; clear zF1
    have zF2 : V 2 = .int .i64 (h1 : Int) := hI.2 2 (hD 2 (by decide)) rfl
    have zf2 := zF2; clear zF2
    have zF3 : V 3 = .pointer (some ⟨gf, 1, none⟩) := hI.2 3 (hD 3 (by decide)) rfl
    have zf3 := zF3; clear zF3
    have zF4 : V 4 = .int .i64 den := hI.2 4 (hD 4 (by decide)) rfl
    have zf4 := zF4; clear zF4
    have zF5 : V 5 = .int .i64 pr := hI.2 5 (hD 5 (by decide)) rfl
    have zf5 := zF5; clear zF5
    have zF6 : V 6 = .pointer (some ⟨gf, 0, none⟩) := hI.2 6 (hD 6 (by decide)) rfl
    have zf6 := zF6; clear zF6
    have zF7 : V 7 = .int .i64 num := hI.2 7 (hD 7 (by decide)) rfl
    have zf7 := zF7; clear zF7
    have zF8 : V 8 = .int .i64 (num * 4294967296) := hI.2 8 (hD 8 (by decide)) rfl
    have zf8 := zF8; clear zF8
    have zF9 : V 9 = .bool (decide (num * 4294967296 ≤ pr)) := hI.2 9 (hD 9 (by decide)) rfl
    have zf9 := zF9; clear zF9
    have zF10 : V 10 = .bool (decide (num * 4294967296 ≤ pr)) := hI.2 10 (hD 10 (by decide)) rfl
    have zf10 := zF10; clear zF10
    clear hI hD HGs
    simp only [frAll, Act.put, List.setIfInBounds_toArray, List.set_cons_zero, List.set_cons_succ, Nat.zero_add, Nat.reduceAdd, zf0, zf1, zf2, zf3, zf4, zf5, zf6, zf7, zf8, zf9, zf10]
    clear zf0 zf1 zf2 zf3 zf4 zf5 zf6 zf7 zf8 zf9 zf10
    clear V D
    go_wp2_with fail
    go_ret
    refine BoolPost.of ?_ hMx
    rw [HP.out]
    by_cases h : num * 4294967296 ≤ pr
    · simp [h, Int.not_lt.2 h]
    · simp [h, Int.not_le.1 h]

def PartPost (w : World) (out : List Str) (e : Ending) (w' : World) : Prop := ∃ v, e = .returned v ∧ Sl w' 9 1 v (strsV out) ∧ Pure w w'
theorem filter_notnot (P : Str → Bool) (l : List Str) : l.filter (fun x => !(!P x)) = l.filter P := by
  congr 1
  funext x
  simp
set_option maxRecDepth 100000 in
set_option maxHeartbeats 4000000 in
theorem PartOf_calls (w : World) (v : Value) (ids : List Str) (seed : Str) (num den : Int) (hv : Sl w 9 1 v (strsV ids)) (hz : ∀ s ∈ ids, s.length ≤ 1000) (hs : seed.length ≤ 1000) (hl : ids.length ≤ 2000)
    (hn : 0 ≤ num) (hn2 : num ≤ 1000000) (hd : 1 ≤ den) (hd2 : den ≤ 1000000) :
    Calls Tryz.prog 18 #[v, .string ⟨seed.toArray⟩, .agg #[.int .i64 num, .int .i64 den]] w (PartPost w (ids.filter (partB seed num den))) := by
  have HZ := Lib.hid hz
  have HCL := Lib.hid (cloneS_calls ((w.alloc (.cells #[.string ⟨seed.toArray⟩] 9)).alloc (.cells #[.int .i64 num, .int .i64 den] 32)) v ids (hv.pure ((pure_alloc _ _).trans (pure_alloc _ _))) (by omega))
  obtain ⟨A, n, c, rfl⟩ := hv.form
  clear hz hv
  have B1 := (Blk.new w 9 #[.string ⟨seed.toArray⟩]).alloc (.cells #[.int .i64 num, .int .i64 den] 32)
  have B2 := Blk.snd w (.cells #[.string ⟨seed.toArray⟩] 9) 32 #[.int .i64 num, .int .i64 den]
  have HB1 := Lib.hid B1
  have HB2 := Lib.hid B2
  clear B1 B2
  go_enter Tryz.func18, Tryz.ntmps18
  go_wp2_with fail
  refine HCL.out.mono ?_
  rintro e w1 ⟨vc, rfl, hown, hm1⟩
  have B1 := HB1.out.modp hm1
  have B2 := HB2.out.modp hm1
  have m1 : Pure w w1 := ((pure_alloc _ _).trans (pure_alloc _ _)).trans hm1
  rw [World.size_alloc, World.size_alloc] at hown
  clear HCL hm1 HB1 HB2
  generalize hgs : w.heap.size = gs at *
  have hgs1 := Nat.le_of_eq hgs
  clear hgs
  by_cases h0 : ids.length = 0
  · have e0 : ids = [] := List.eq_nil_of_length_eq_zero h0
    subst e0
    have hform : ∃ p cap, vc = .slice p 0 cap ∧ cap ≤ 9223372036854775807 := by
      rcases hown.2 with ⟨rfl, _⟩ | ⟨g, cap, cur, rfl, _, _, _, hc, _⟩
      · exact ⟨_, _, rfl, by omega⟩
      · exact ⟨_, _, rfl, by simpa [maxLen] using hc⟩
    obtain ⟨p, cap, rfl, hcap⟩ := hform
    have HSL := Lib.hid (Sl.of_own hown)
    clear hown B1 B2
    go_wp2_with fail
    refine (deleteS0_calls _ _ _ _ _ _ hcap (fun _ _ => rfl)).mono ?_
    rintro e w2 ⟨rfl, hm2⟩
    go_wp2_with fail
    go_ret
    exact ⟨_, rfl, HSL.out.pure hm2, m1.trans hm2⟩
  · obtain ⟨g, cap, rfl, hg1, hg2, hcap, hcap2⟩ := own_form hown (by omega)
    have HDF := Lib.hid (deleteS2_calls w1 (gs + 1 + 1) g cap ids.length ids 45 (.pointer (some ⟨gs, 0, none⟩)) (.pointer (some ⟨gs + 1, 0, none⟩)) (fun x => !partB seed num den x) (by omega) hown (fun _ _ => rfl)
      (fun x W hx hm => partOf1_calls W x seed num den gs (gs + 1) (hm.keep (B1.cell 0) (by show ¬ gs = g; omega)) (B2.mod hm (by omega)) (HZ.out x hx) hs hn hn2 hd hd2))
    rw [filter_notnot] at HDF
    clear hown B1 B2
    go_wp2_with fail
    refine HDF.out.mono ?_
    rintro e w2 ⟨rfl, own2, hm2⟩
    have m2 : Pure w w2 := m1.trans' hm2 (fun i hi hlt => by omega)
    have HSL := Lib.hid (Sl.of_own own2)
    clear own2 HDF
    go_wp2_with fail
    go_ret
    exact ⟨_, rfl, HSL.out, m2⟩

end Go.Proofs.YtkchninlhemioaaGreatDoor

/- Part of package sample, with its errors. -/
namespace Go.Proofs.YtkchninlhemioaaGreatDoor
set_option linter.unusedVariables false
set_option linter.unusedSimpArgs false
open Go.RowKit Go.Sort

def leastE (ids : List Str) (seed : Str) (many : Int) : Int := firstErr [idsE keyE ids, keyErr seed, manyErr many]
def partE (ids : List Str) (seed : Str) (num den : Int) : Int := firstErr [idsE keyE ids, keyErr seed, shareErr num den]
/-- Two results: a list, an error. -/
def ListErr (w : World) (er : Int) (Q : List Str → Prop) (e : Ending) (w' : World) : Prop :=
  ∃ v, e = .returned (.tuple #[v, .int .i64 er]) ∧ (er ≠ 0 → v = nilS) ∧ (er = 0 → ∃ out, Q out ∧ Sl w' 9 1 v (strsV out)) ∧ Pure w w'
theorem firstErr3z {a b c : Int} (h : firstErr [a, b, c] = 0) : a = 0 ∧ b = 0 ∧ c = 0 := ⟨firstErr_zero h a (by simp), firstErr_zero h b (by simp), firstErr_zero h c (by simp)⟩
theorem many_nat {n : Int} (h : manyErr n = 0) : ∃ m : Nat, n = (m : Int) ∧ m ≤ 2000 := by
  unfold manyErr at h
  split at h
  · exact ⟨n.toNat, by omega, by omega⟩
  · omega
theorem share_ok {n d : Int} (h : shareErr n d = 0) : 0 ≤ n ∧ n ≤ 1000000 ∧ 1 ≤ d ∧ d ≤ 1000000 := by
  unfold shareErr at h
  split at h
  · omega
  · omega

def PartRel (w : World) (base : Nat) (P : Str → Bool) (ids : List Str) (gf : Nat) (num den : Int) (gk : Nat) (x i : Value) (wr : World) : Prop :=
  ∃ (k : Nat) (A : Option Addr) (cap : Nat), ids.length - k = gk ∧ k ≤ ids.length ∧ i = .int .i64 (k : Int) ∧ x = .slice A ((ids.take k).filter P).length cap ∧
    wr.ownsRow base 9 1 (.slice A ((ids.take k).filter P).length cap) ((ids.take k).filter P).length (strsV ((ids.take k).filter P)) ∧ Blk wr gf 32 #[.int .i64 num, .int .i64 den] ∧ Pure w wr ∧ base ≤ wr.heap.size

set_option maxRecDepth 100000 in
set_option maxHeartbeats 4000000 in
theorem Part_calls (w : World) (v : Value) (ids : List Str) (seed : Str) (num den : Int) (hv : Sl w 9 1 v (strsV ids)) (hz : ∀ s ∈ ids, s.length ≤ 1000) (hzs : seed.length ≤ 1000) (hl : ids.length ≤ 2000) :
    Calls Tryz.prog 11 #[v, .string ⟨seed.toArray⟩, .agg #[.int .i64 num, .int .i64 den]] w (ListErr w (partE ids seed num den) (fun out => out = ids.filter (partB seed num den))) := by
  obtain ⟨i0, hi0, hz0, hz1, hz2⟩ := info_parts info_str0
  have HV := Lib.hid hv
  have HZ := Lib.hid hz
  have y3 : (⟨seed.toArray⟩ : ByteArray).size ≤ 1000000 := by simp [ByteArray.size]; omega
  have HID := Lib.hid (fun W (h : Pure w W) => idsError_calls W v ids (hv.pure h) hz hl)
  have HFE := Lib.hid (fun (W : World) (g c : Nat) (h : Blk W g 34 #[.int .i64 (idsE keyE ids), .int .i64 (keyErr seed), .int .i64 (shareErr num den)]) => firstE_calls W g c [idsE keyE ids, keyErr seed, shareErr num den] h.row0 (by simp))
  have HKE := Lib.hid (fun W => keyError_calls W ⟨seed.toArray⟩ y3)
  simp only at HKE
  obtain ⟨A, n, c, rfl⟩ := hv.form
  clear hv hz
  have B0 := Blk.new w 32 #[.int .i64 num, .int .i64 den]
  have m0 : Pure w (w.alloc (.cells #[.int .i64 num, .int .i64 den] 32)) := pure_alloc _ _
  have HE : Hid (partE ids seed num den = firstErr [idsE keyE ids, keyErr seed, shareErr num den]) := Lib.hid rfl
  have HZ3 : Hid (firstErr [idsE keyE ids, keyErr seed, shareErr num den] = 0 → 0 ≤ num ∧ num ≤ 1000000 ∧ 1 ≤ den ∧ den ≤ 1000000) := Lib.hid fun h => share_ok (firstErr3z h).2.2
  obtain ⟨er, her⟩ : ∃ er, firstErr [idsE keyE ids, keyErr seed, shareErr num den] = er := ⟨_, rfl⟩
  have HSH := Lib.hid (fun W => shareError_calls W num den)
  rw [her] at HE HZ3 HFE
  clear her
  generalize idsE keyE ids = e1 at *
  generalize keyErr seed = e2 at *
  generalize shareErr num den = e3 at *
  go_enter Tryz.func11, Tryz.ntmps11
  go_wp2_with fail
  generalize hdW : w.alloc (.cells #[.int .i64 num, .int .i64 den] 32) = W at *
  have hsW : w.heap.size < W.heap.size := by rw [← hdW]; simp
  clear hdW
  generalize hgf : w.heap.size = gf at *
  have hgf1 := Nat.le_of_eq hgf
  clear hgf
  go_upto_region 1 with (fail)
  go_cut [8] (fun p wx => p = .int .i64 er ∧ Blk wx gf 32 #[.int .i64 num, .int .i64 den] ∧ Pure w wx)
  case first =>
    have HGs := Lib.hid (show ∀ (D : Nat → Bool) (i : Nat) (zq zq' : World), (fun _ zq => (fun Z => Blk Z gf 32 #[.int .i64 num, .int .i64 den] ∧ Pure w Z) zq) D zq → Mod (fun _ => False) zq zq' → (fun _ zq => (fun Z => Blk Z gf 32 #[.int .i64 num, .int .i64 den] ∧ Pure w Z) zq) (upd D i true) zq' from by intro D i zq zq' h hm; (exact ⟨h.1.modp hm, h.2.trans hm⟩))
    refine wp_region_inv (by kernel_rfl) (by kernel_rfl) (InvF (R := Mod (fun _ => False)) [.is (.slice A n c),
        .is (.int .i64 e1),
        .is (.string ⟨seed.toArray⟩),
        .is (.int .i64 e2),
        .is (.agg #[.int .i64 num, .int .i64 den]),
        .is (.int .i64 e3),
        ⟨fun zv zw => ∃ (g_6 : Nat), zv = .slice (some ⟨g_6, 0, none⟩) 3 3 ∧ W.heap.size ≤ g_6 ∧ Blk zw g_6 34 #[.int .i64 e1, .int .i64 e2, .int .i64 e3], (by rintro zv zw zx ⟨g_6, rfl, c0, q0⟩ hm; exact ⟨g_6, rfl, c0, (q0.modp hm)⟩), none, some 7⟩,
        .is (.int .i64 er),
        .is (.int .i64 er)]
        (PB w (fun _ => False) W.heap.size (fun _ zq => (fun Z => Blk Z gf 32 #[.int .i64 num, .int .i64 den] ∧ Pure w Z) zq))) (InvF.start (PB.start m0 (Nat.le_refl _) (⟨B0.drew, m0.drew⟩))) ?_ ?_
    · refine .cons ?_ (.cons ?_ (.cons ?_ (.cons ?_ (.cons ?_ (.cons ?_ (.cons ?_ (.cons ?_ (.cons ?_ .nil))))))))
      · intro D V zw1 a hR hI K hK   -- 0: Op.move (Operand.tmp 0)
        obtain ⟨hM1, hB1, hG1⟩ := hI.1
        obtain ⟨hG1c, hG1d⟩ := hG1
        have ze0 := hR.frame.other (t := 0) (by kernel_rfl) rfl
        rw [if_pos (by rfl)]
        go_simp
        exact hK (.slice A n c) _ (hI.next hR (by kernel_rfl) (Mod.refl _ _) (PB.quiet hI.1 (Mod.refl _ _) (HGs.out D 0 zw1 zw1 (hI.1).g (Mod.refl _ _))) (upd_same V 0 _))
      · intro D V zw1 a hR hI K hK   -- 1: Op.call { callee := Callee.value (Operand.func 32), args := #[Operand.
        obtain ⟨hM1, hB1, hG1⟩ := hI.1
        obtain ⟨hG1c, hG1d⟩ := hG1
        have zd0 := hR.pred 0 (by kernel_rfl)
        have zF0 : V 0 = .slice A n c := hI.2 0 zd0 rfl
        have zf0 := zF0; clear zF0
        have ze12 := hR.frame.done (t := 12) (j := 0) (by kernel_rfl) hR.ok zd0
        rw [if_pos (by rfl)]
        go_simp
        refine (HID.out _ hG1d).mono ?_
        rintro e zw2 ⟨rfl, hm2⟩
        exact hK (.int .i64 e1) _ (hI.next hR (by kernel_rfl) hm2 (PB.quiet hI.1 hm2 (HGs.out D 1 _ _ (hI.1).g hm2)) (upd_same V 1 _))
      · intro D V zw1 a hR hI K hK   -- 2: Op.move (Operand.tmp 1)
        obtain ⟨hM1, hB1, hG1⟩ := hI.1
        obtain ⟨hG1c, hG1d⟩ := hG1
        have ze1 := hR.frame.other (t := 1) (by kernel_rfl) rfl
        rw [if_pos (by rfl)]
        go_simp
        exact hK (.string ⟨seed.toArray⟩) _ (hI.next hR (by kernel_rfl) (Mod.refl _ _) (PB.quiet hI.1 (Mod.refl _ _) (HGs.out D 2 zw1 zw1 (hI.1).g (Mod.refl _ _))) (upd_same V 2 _))
      · intro D V zw1 a hR hI K hK   -- 3: Op.call { callee := Callee.value (Operand.func 33), args := #[Operand.
        obtain ⟨hM1, hB1, hG1⟩ := hI.1
        obtain ⟨hG1c, hG1d⟩ := hG1
        have zd2 := hR.pred 2 (by kernel_rfl)
        have zF2 : V 2 = .string ⟨seed.toArray⟩ := hI.2 2 zd2 rfl
        have zf2 := zF2; clear zF2
        have ze14 := hR.frame.done (t := 14) (j := 2) (by kernel_rfl) hR.ok zd2
        rw [if_pos (by rfl)]
        go_simp
        refine (HKE.out _).mono ?_
        rintro e zw2 ⟨rfl, rfl⟩
        have hm2 : Pure zw1 zw1 := Mod.refl _ _
        exact hK (.int .i64 e2) _ (hI.next hR (by kernel_rfl) hm2 (PB.quiet hI.1 hm2 (HGs.out D 3 _ _ (hI.1).g hm2)) (upd_same V 3 _))
      · intro D V zw1 a hR hI K hK   -- 4: Op.load 32 (Operand.tmp 5)
        obtain ⟨hM1, hB1, hG1⟩ := hI.1
        obtain ⟨hG1c, hG1d⟩ := hG1
        have ze5 := hR.frame.other (t := 5) (by kernel_rfl) rfl
        have zx0 := hG1c.cell 0; have zx1 := hG1c.cell 1
        simp at zx0 zx1
        rw [if_pos (by rfl)]
        go_simp
        exact hK (.agg #[.int .i64 num, .int .i64 den]) _ (hI.next hR (by kernel_rfl) (Mod.refl _ _) (PB.quiet hI.1 (Mod.refl _ _) (HGs.out D 4 zw1 zw1 (hI.1).g (Mod.refl _ _))) (upd_same V 4 _))
      · intro D V zw1 a hR hI K hK   -- 5: Op.call { callee := Callee.value (Operand.func 36), args := #[Operand.
        obtain ⟨hM1, hB1, hG1⟩ := hI.1
        obtain ⟨hG1c, hG1d⟩ := hG1
        have zd4 := hR.pred 4 (by kernel_rfl)
        have zF4 : V 4 = .agg #[.int .i64 num, .int .i64 den] := hI.2 4 zd4 rfl
        have zf4 := zF4; clear zF4
        have ze16 := hR.frame.done (t := 16) (j := 4) (by kernel_rfl) hR.ok zd4
        rw [if_pos (by rfl)]
        go_simp
        refine (HSH.out _).mono ?_
        rintro e zw2 ⟨rfl, hm2⟩
        exact hK (.int .i64 e3) _ (hI.next hR (by kernel_rfl) hm2 (PB.quiet hI.1 hm2 (HGs.out D 5 _ _ (hI.1).g hm2)) (upd_same V 5 _))
      · intro D V zw1 a hR hI K hK   -- 6: Op.buildSlice 66 3 #[(0, Operand.tmp 13), (1, Operand.tmp 15), (2, Ope
        obtain ⟨hM1, hB1, hG1⟩ := hI.1
        obtain ⟨hG1c, hG1d⟩ := hG1
        have zd1 := hR.pred 1 (by kernel_rfl)
        have zF1 : V 1 = .int .i64 e1 := hI.2 1 zd1 rfl
        have zf1 := zF1; clear zF1
        have zd3 := hR.pred 3 (by kernel_rfl)
        have zF3 : V 3 = .int .i64 e2 := hI.2 3 zd3 rfl
        have zf3 := zF3; clear zF3
        have zd5 := hR.pred 5 (by kernel_rfl)
        have zF5 : V 5 = .int .i64 e3 := hI.2 5 zd5 rfl
        have zf5 := zF5; clear zF5
        have ze13 := hR.frame.done (t := 13) (j := 1) (by kernel_rfl) hR.ok zd1
        have ze15 := hR.frame.done (t := 15) (j := 3) (by kernel_rfl) hR.ok zd3
        have ze17 := hR.frame.done (t := 17) (j := 5) (by kernel_rfl) hR.ok zd5
        rw [if_pos (by rfl)]
        go_simp
        exact hK (_) _ (hI.next hR (by kernel_rfl) ((Mod.refl _ _).alloc _) (PB.quiet hI.1 (pure_alloc _ _) (HGs.out D 6 _ _ (hI.1).g ((Mod.refl _ _).alloc _))) (⟨_, upd_same V 6 _, (by omega), (Blk.new _ _ _)⟩))
      · intro D V zw1 a hR hI K hK   -- 7: Op.call { callee := Callee.value (Operand.func 31), args := #[Operand.
        obtain ⟨hM1, hB1, hG1⟩ := hI.1
        obtain ⟨hG1c, hG1d⟩ := hG1
        have zd6 := hR.pred 6 (by kernel_rfl)
        have zF6 : ∃ (g_6 : Nat), V 6 = .slice (some ⟨g_6, 0, none⟩) 3 3 ∧ W.heap.size ≤ g_6 ∧ Blk zw1 g_6 34 #[.int .i64 e1, .int .i64 e2, .int .i64 e3] := hI.2 6 zd6 (by show (!D 7) = true; rw [hR.not]; rfl)
        obtain ⟨g_6, zf6, c6_0, b6_0⟩ := zF6
        have ze18 := hR.frame.done (t := 18) (j := 6) (by kernel_rfl) hR.ok zd6
        rw [if_pos (by rfl)]
        go_simp
        refine (HFE.out _ _ _ b6_0).mono ?_
        rintro e zw2 ⟨rfl, hm2⟩
        exact hK (.int .i64 er) _ (hI.next hR (by kernel_rfl) hm2 (PB.quiet hI.1 hm2 (HGs.out D 7 _ _ (hI.1).g hm2)) (upd_same V 7 _))
      · intro D V zw1 a hR hI K hK   -- 8: Op.assign (Operand.tmp 19)
        obtain ⟨hM1, hB1, hG1⟩ := hI.1
        obtain ⟨hG1c, hG1d⟩ := hG1
        have zd7 := hR.pred 7 (by kernel_rfl)
        have zF7 : V 7 = .int .i64 er := hI.2 7 zd7 rfl
        have zf7 := zF7; clear zF7
        have ze19 := hR.frame.done (t := 19) (j := 7) (by kernel_rfl) hR.ok zd7
        rw [if_pos (by rfl)]
        go_simp
        exact hK (.int .i64 er) _ (hI.next hR (by kernel_rfl) (Mod.refl _ _) (PB.quiet hI.1 (Mod.refl _ _) (HGs.out D 8 zw1 zw1 (hI.1).g (Mod.refl _ _))) (upd_same V 8 _))
    · intro D V w1 hD hI
      obtain ⟨hM1, hB1, hG1⟩ := hI.1
      have hMx := hM1
      clear hM1
      have hBx := hB1
      clear hB1
      have hGx := hG1
      clear hG1
      have zF0 : V 0 = .slice A n c := hI.2 0 (hD 0 (by decide)) rfl
      have zf0 := zF0; clear zF0
      have zF1 : V 1 = .int .i64 e1 := hI.2 1 (hD 1 (by decide)) rfl
      have zf1 := zF1; clear zF1
      have zF2 : V 2 = .string ⟨seed.toArray⟩ := hI.2 2 (hD 2 (by decide)) rfl
      have zf2 := zF2; clear zF2
      have zF3 : V 3 = .int .i64 e2 := hI.2 3 (hD 3 (by decide)) rfl
      have zf3 := zF3; clear zF3
      have zF4 : V 4 = .agg #[.int .i64 num, .int .i64 den] := hI.2 4 (hD 4 (by decide)) rfl
      have zf4 := zF4; clear zF4
      have zF5 : V 5 = .int .i64 e3 := hI.2 5 (hD 5 (by decide)) rfl
      have zf5 := zF5; clear zF5
      have zF7 : V 7 = .int .i64 er := hI.2 7 (hD 7 (by decide)) rfl
      have zf7 := zF7; clear zF7
      have zF8 : V 8 = .int .i64 er := hI.2 8 (hD 8 (by decide)) rfl
      have zf8 := zF8; clear zF8
      clear hI hD HGs
      simp only [frAll, Act.put, List.setIfInBounds_toArray, List.set_cons_zero, List.set_cons_succ, Nat.zero_add, Nat.reduceAdd, zf0, zf1, zf2, zf3, zf4, zf5, zf7, zf8]
      clear zf0 zf1 zf2 zf3 zf4 zf5 zf7 zf8
      generalize V 6 = u6
      clear V D
      go_wp2_with fail
      go_meet
      exact ⟨rfl, hGx.1, hGx.2⟩
  case rest =>
    obtain ⟨rfl, B1, m1⟩ := hcut
    generalize wc = w1 at *
    have hs1 := B1.lt
    clear HID HFE HKE HSH B0 m0 hsW W
    by_cases h0 : er = 0
    · subst h0
      obtain ⟨s1, s2, s3, s4⟩ := HZ3.out rfl
      have HVL : Hid (Sl w 9 1 (.slice A n c) (strsV ids)) := HV
      obtain ⟨A', n', c', hvf, hc1, hc2, hl2, hr⟩ := HV.out
      injection hvf with ea en ec
      subst ea en ec
      have hln : ids.length = n := by simpa [strsV] using hl2
      subst hln
      have HR := Lib.hid hr
      clear hl2 hr HV HVL
      obtain ⟨base, hbase⟩ : ∃ base, base = gf + 1 := ⟨_, rfl⟩
      have hb1 : gf < base := by omega
      have hb2 : base ≤ w1.heap.size := by omega
      clear hbase
      go_wp2_with fail
      go_loopg [9, 25] ids.length (fun gk x i wr => PartRel w base (partB seed num den) ids gf num den gk x i wr)
      case atStart => exact ⟨0, none, 0, by omega, by omega, rfl, by simp, by simpa [strsV] using ⟨by simp, .inl ⟨rfl, rfl⟩⟩, B1, m1, hb2⟩
      case round =>
        clear B1 m1 hb2 hs1
        obtain ⟨k, Ax, cap, rfl, hk, rfl, rfl, hown, hB, hm, hbig⟩ := hrel
        by_cases hlt : k < ids.length
        · obtain ⟨g1, off1, rfl, hrow1⟩ := HR.out (by omega)
          have hq := (hrow1.mod hm id).cell (strsV_get ids k hlt)
          have hzk := HZ.out _ (List.getElem_mem hlt)
          have y1 : (⟨ids[k].toArray⟩ : ByteArray).size ≤ 1000 := by simp [ByteArray.size]; omega
          have y2 : (⟨seed.toArray⟩ : ByteArray).size ≤ 1000 := by simp [ByteArray.size]; omega
          have H1 := Lib.hid (fun W => hash_calls W ⟨ids[k].toArray⟩ ⟨seed.toArray⟩ y1 y2)
          have hh1 := hashN_lt (seed ++ 32 :: ids[k])
          have HP : Hid (partB seed num den ids[k] = decide ((hashN (seed ++ 32 :: ids[k]) : Int) * den < num * 4294967296)) := Lib.hid rfl
          simp only at H1
          have HT : Hid ((ids.take (k + 1)).filter (partB seed num den) = (ids.take k).filter (partB seed num den) ++ (if partB seed num den ids[k] then [ids[k]] else [])) := Lib.hid (by
            rw [List.take_succ_eq_append_getElem hlt, List.filter_append]
            congr 1
            cases hp : partB seed num den ids[k] <;> simp [hp])
          have hfl : ((ids.take k).filter (partB seed num den)).length ≤ k := Nat.le_trans (List.length_filter_le _ _) (by rw [List.length_take]; omega)
          clear y1 y2 hzk hrow1
          generalize hashN (seed ++ 32 :: ids[k]) = h1 at *
          generalize ids[k] = x at *
          generalize (ids.take k).filter (partB seed num den) = fl at *
          have p1 : 0 ≤ (h1 : Int) * den := Int.mul_nonneg (by omega) (by omega)
          have p2 : (h1 : Int) * den ≤ 4294967296 * 1000000 := Int.mul_le_mul (by omega) s4 (by omega) (by omega)
          have hw : IntKind.i64.wrap ((h1 : Int) * den) = (h1 : Int) * den := IntWalk.i64_in _ (by omega)
          have HW := Lib.hid hw
          have hw2 : IntKind.i64.wrap (num * 4294967296) = num * 4294967296 := IntWalk.i64_in _ (by omega)
          have HW2 := Lib.hid hw2
          generalize hpr : (h1 : Int) * den = pr at *
          have HPR := Lib.hid hpr
          clear hw hw2 p1 p2 hpr
          go_wp2_with fail
          go_upto_region 8 with (fail)
          obtain ⟨wz, rfl⟩ : ∃ wz : World, wz = wr := ⟨_, rfl⟩
          go_cut [38] (fun p wx => p = .bool (decide (pr < num * 4294967296)) ∧ Blk wx gf 32 #[.int .i64 num, .int .i64 den] ∧ Pure wz wx)
          case first =>
            have HGs := Lib.hid (show ∀ (D : Nat → Bool) (i : Nat) (zq zq' : World), (fun _ zq => (fun Z => Blk Z gf 32 #[.int .i64 num, .int .i64 den]) zq) D zq → Mod (fun _ => False) zq zq' → (fun _ zq => (fun Z => Blk Z gf 32 #[.int .i64 num, .int .i64 den]) zq) (upd D i true) zq' from by intro D i zq zq' h hm; (exact h.modp hm))
            refine wp_region_inv (by kernel_rfl) (by kernel_rfl) (InvF (R := Mod (fun _ => False)) [.is (.string ⟨x.toArray⟩),
                .is (.string ⟨seed.toArray⟩),
                .is (.int .i64 (h1 : Int)),
                .is (.pointer (some ⟨gf, 1, none⟩)),
                .is (.int .i64 den),
                .is (.int .i64 pr),
                .is (.pointer (some ⟨gf, 0, none⟩)),
                .is (.int .i64 num),
                .is (.int .i64 (num * 4294967296)),
                .is (.bool (decide (pr < num * 4294967296)))]
                (PB wz (fun _ => False) wz.heap.size (fun _ zq => (fun Z => Blk Z gf 32 #[.int .i64 num, .int .i64 den]) zq))) (InvF.start (PB.start (Mod.refl _ _) (Nat.le_refl _) (hB.drew))) ?_ ?_
            · refine .cons ?_ (.cons ?_ (.cons ?_ (.cons ?_ (.cons ?_ (.cons ?_ (.cons ?_ (.cons ?_ (.cons ?_ (.cons ?_ .nil)))))))))
              · intro D V zw1 a hR hI K hK   -- 0: Op.move (Operand.tmp 11)
                obtain ⟨hM1, hB1, hG1⟩ := hI.1
                have ze11 := hR.frame.other (t := 11) (by kernel_rfl) rfl
                rw [if_pos (by rfl)]
                go_simp
                exact hK (.string ⟨x.toArray⟩) _ (hI.next hR (by kernel_rfl) (Mod.refl _ _) (PB.quiet hI.1 (Mod.refl _ _) (HGs.out D 0 zw1 zw1 (hI.1).g (Mod.refl _ _))) (upd_same V 0 _))
              · intro D V zw1 a hR hI K hK   -- 1: Op.move (Operand.tmp 1)
                obtain ⟨hM1, hB1, hG1⟩ := hI.1
                have ze1 := hR.frame.other (t := 1) (by kernel_rfl) rfl
                rw [if_pos (by rfl)]
                go_simp
                exact hK (.string ⟨seed.toArray⟩) _ (hI.next hR (by kernel_rfl) (Mod.refl _ _) (PB.quiet hI.1 (Mod.refl _ _) (HGs.out D 1 zw1 zw1 (hI.1).g (Mod.refl _ _))) (upd_same V 1 _))
              · intro D V zw1 a hR hI K hK   -- 2: Op.call { callee := Callee.value (Operand.func 37), args := #[Operand.
                obtain ⟨hM1, hB1, hG1⟩ := hI.1
                have zd0 := hR.pred 0 (by kernel_rfl)
                have zF0 : V 0 = .string ⟨x.toArray⟩ := hI.2 0 zd0 rfl
                have zf0 := zF0; clear zF0
                have zd1 := hR.pred 1 (by kernel_rfl)
                have zF1 : V 1 = .string ⟨seed.toArray⟩ := hI.2 1 zd1 rfl
                have zf1 := zF1; clear zF1
                have ze29 := hR.frame.done (t := 29) (j := 0) (by kernel_rfl) hR.ok zd0
                have ze30 := hR.frame.done (t := 30) (j := 1) (by kernel_rfl) hR.ok zd1
                rw [if_pos (by rfl)]
                go_simp
                refine (H1.out _).mono ?_
                rintro e zw2 ⟨rfl, hm2⟩
                exact hK (.int .i64 (h1 : Int)) _ (hI.next hR (by kernel_rfl) hm2 (PB.quiet hI.1 hm2 (HGs.out D 2 _ _ (hI.1).g hm2)) (upd_same V 2 _))
              · intro D V zw1 a hR hI K hK   -- 3: Op.fieldAddr 32 (Operand.tmp 5) 1
                obtain ⟨hM1, hB1, hG1⟩ := hI.1
                have ze5 := hR.frame.other (t := 5) (by kernel_rfl) rfl
                rw [if_pos (by rfl)]
                go_simp
                exact hK (.pointer (some ⟨gf, 1, none⟩)) _ (hI.next hR (by kernel_rfl) (Mod.refl _ _) (PB.quiet hI.1 (Mod.refl _ _) (HGs.out D 3 zw1 zw1 (hI.1).g (Mod.refl _ _))) (upd_same V 3 _))
              · intro D V zw1 a hR hI K hK   -- 4: Op.load 3 (Operand.tmp 32)
                obtain ⟨hM1, hB1, hG1⟩ := hI.1
                have zd3 := hR.pred 3 (by kernel_rfl)
                have zF3 : V 3 = .pointer (some ⟨gf, 1, none⟩) := hI.2 3 zd3 rfl
                have zf3 := zF3; clear zF3
                have ze32 := hR.frame.done (t := 32) (j := 3) (by kernel_rfl) hR.ok zd3
                have zx0 := hG1.cell 0; have zx1 := hG1.cell 1
                simp at zx0 zx1
                rw [if_pos (by rfl)]
                go_simp
                exact hK (.int .i64 den) _ (hI.next hR (by kernel_rfl) (Mod.refl _ _) (PB.quiet hI.1 (Mod.refl _ _) (HGs.out D 4 zw1 zw1 (hI.1).g (Mod.refl _ _))) (upd_same V 4 _))
              · intro D V zw1 a hR hI K hK   -- 5: Op.binOp BinOp.mul 3 (Operand.tmp 31) (Operand.tmp 33) 3
                obtain ⟨hM1, hB1, hG1⟩ := hI.1
                have zd2 := hR.pred 2 (by kernel_rfl)
                have zF2 : V 2 = .int .i64 (h1 : Int) := hI.2 2 zd2 rfl
                have zf2 := zF2; clear zF2
                have zd4 := hR.pred 4 (by kernel_rfl)
                have zF4 : V 4 = .int .i64 den := hI.2 4 zd4 rfl
                have zf4 := zF4; clear zF4
                have ze31 := hR.frame.done (t := 31) (j := 2) (by kernel_rfl) hR.ok zd2
                have ze33 := hR.frame.done (t := 33) (j := 4) (by kernel_rfl) hR.ok zd4
                have hpr := HPR.out; have hw := HW.out
                rw [if_pos (by rfl)]
                go_simp
                exact hK (.int .i64 pr) _ (hI.next hR (by kernel_rfl) (Mod.refl _ _) (PB.quiet hI.1 (Mod.refl _ _) (HGs.out D 5 zw1 zw1 (hI.1).g (Mod.refl _ _))) (upd_same V 5 _))
              · intro D V zw1 a hR hI K hK   -- 6: Op.fieldAddr 32 (Operand.tmp 5) 0
                obtain ⟨hM1, hB1, hG1⟩ := hI.1
                have ze5 := hR.frame.other (t := 5) (by kernel_rfl) rfl
                rw [if_pos (by rfl)]
                go_simp
                exact hK (.pointer (some ⟨gf, 0, none⟩)) _ (hI.next hR (by kernel_rfl) (Mod.refl _ _) (PB.quiet hI.1 (Mod.refl _ _) (HGs.out D 6 zw1 zw1 (hI.1).g (Mod.refl _ _))) (upd_same V 6 _))
              · intro D V zw1 a hR hI K hK   -- 7: Op.load 3 (Operand.tmp 35)
                obtain ⟨hM1, hB1, hG1⟩ := hI.1
                have zd6 := hR.pred 6 (by kernel_rfl)
                have zF6 : V 6 = .pointer (some ⟨gf, 0, none⟩) := hI.2 6 zd6 rfl
                have zf6 := zF6; clear zF6
                have ze35 := hR.frame.done (t := 35) (j := 6) (by kernel_rfl) hR.ok zd6
                have zx0 := hG1.cell 0; have zx1 := hG1.cell 1
                simp at zx0 zx1
                rw [if_pos (by rfl)]
                go_simp
                exact hK (.int .i64 num) _ (hI.next hR (by kernel_rfl) (Mod.refl _ _) (PB.quiet hI.1 (Mod.refl _ _) (HGs.out D 7 zw1 zw1 (hI.1).g (Mod.refl _ _))) (upd_same V 7 _))
              · intro D V zw1 a hR hI K hK   -- 8: Op.binOp BinOp.shl 3 (Operand.tmp 36) (Operand.const (Value.int IntKin
                obtain ⟨hM1, hB1, hG1⟩ := hI.1
                have zd7 := hR.pred 7 (by kernel_rfl)
                have zF7 : V 7 = .int .i64 num := hI.2 7 zd7 rfl
                have zf7 := zF7; clear zF7
                have ze36 := hR.frame.done (t := 36) (j := 7) (by kernel_rfl) hR.ok zd7
                have hw2 := HW2.out
                rw [if_pos (by rfl)]
                go_simp
                exact hK (.int .i64 (num * 4294967296)) _ (hI.next hR (by kernel_rfl) (Mod.refl _ _) (PB.quiet hI.1 (Mod.refl _ _) (HGs.out D 8 zw1 zw1 (hI.1).g (Mod.refl _ _))) (upd_same V 8 _))
              · intro D V zw1 a hR hI K hK   -- 9: Op.binOp BinOp.lss 3 (Operand.tmp 34) (Operand.tmp 37) 3
                obtain ⟨hM1, hB1, hG1⟩ := hI.1
                have zd5 := hR.pred 5 (by kernel_rfl)
                have zF5 : V 5 = .int .i64 pr := hI.2 5 zd5 rfl
                have zf5 := zF5; clear zF5
                have zd8 := hR.pred 8 (by kernel_rfl)
                have zF8 : V 8 = .int .i64 (num * 4294967296) := hI.2 8 zd8 rfl
                have zf8 := zF8; clear zF8
                have ze34 := hR.frame.done (t := 34) (j := 5) (by kernel_rfl) hR.ok zd5
                have ze37 := hR.frame.done (t := 37) (j := 8) (by kernel_rfl) hR.ok zd8
                rw [if_pos (by rfl)]
                go_simp
                exact hK (.bool (decide (pr < num * 4294967296))) _ (hI.next hR (by kernel_rfl) (Mod.refl _ _) (PB.quiet hI.1 (Mod.refl _ _) (HGs.out D 9 zw1 zw1 (hI.1).g (Mod.refl _ _))) (upd_same V 9 _))
            · intro D V w1 hD hI
              obtain ⟨hM1, hB1, hG1⟩ := hI.1
              have hMx := hM1
              clear hM1
              have hBx := hB1
              clear hB1
              have hGx := hG1
              clear hG1
              have zF0 : V 0 = .string ⟨x.toArray⟩ := hI.2 0 (hD 0 (by decide)) rfl
              have zf0 := zF0; clear zF0
              have zF1 : V 1 = .string ⟨seed.toArray⟩ := hI.2 1 (hD 1 (by decide)) rfl
              have zf1 := zF1; clear zF1
              have zF2 : V 2 = .int .i64 (h1 : Int) := hI.2 2 (hD 2 (by decide)) rfl
              have zf2 := zF2; clear zF2
              have zF3 : V 3 = .pointer (some ⟨gf, 1, none⟩) := hI.2 3 (hD 3 (by decide)) rfl
              have zf3 := zF3; clear zF3
              have zF4 : V 4 = .int .i64 den := hI.2 4 (hD 4 (by decide)) rfl
              have zf4 := zF4; clear zF4
              have zF5 : V 5 = .int .i64 pr := hI.2 5 (hD 5 (by decide)) rfl
              have zf5 := zF5; clear zF5
              have zF6 : V 6 = .pointer (some ⟨gf, 0, none⟩) := hI.2 6 (hD 6 (by decide)) rfl
              have zf6 := zF6; clear zF6
              have zF7 : V 7 = .int .i64 num := hI.2 7 (hD 7 (by decide)) rfl
              have zf7 := zF7; clear zF7
              have zF8 : V 8 = .int .i64 (num * 4294967296) := hI.2 8 (hD 8 (by decide)) rfl
              have zf8 := zF8; clear zF8
              have zF9 : V 9 = .bool (decide (pr < num * 4294967296)) := hI.2 9 (hD 9 (by decide)) rfl
              have zf9 := zF9; clear zF9
              clear hI hD HGs
              simp only [frAll, Act.put, List.setIfInBounds_toArray, List.set_cons_zero, List.set_cons_succ, Nat.zero_add, Nat.reduceAdd, zf0, zf1, zf2, zf3, zf4, zf5, zf6, zf7, zf8, zf9]
              clear zf0 zf1 zf2 zf3 zf4 zf5 zf6 zf7 zf8 zf9
              clear V D
              go_wp2_with fail
              go_meet
              exact ⟨rfl, hGx, hMx⟩
          case rest =>
            obtain ⟨rfl, hB2, hm2⟩ := hcut
            generalize wc = w2 at *
            have own2 := own_pure hown hm2
            have m2 : Pure w w2 := hm.trans hm2
            have hbig2 : base ≤ w2.heap.size := Nat.le_trans hbig hm2.size
            have HPP : Hid (partB seed num den x = decide (pr < num * 4294967296)) := Lib.hid (by rw [HP.out])
            clear hown hB hm hm2 hbig H1 hq HW HW2 HP HPR
            by_cases hp : pr < num * 4294967296
            · have hd : decide (pr < num * 4294967296) = true := by simpa using hp
              have hEx : Hid ((ids.take (k + 1)).filter (partB seed num den) = fl ++ [x]) := Lib.hid (by rw [HT.out, HPP.out, hd]; rfl)
              clear HT HPP
              generalize hfn : fl.length = nf at *
              have HFN := Lib.hid hfn
              clear hfn
              go_wp2_with (at_builtin; refine wpList_append_lies _ rfl _ _ _ rfl base 9 i0 _ 1 16 Tryz.underlying26 hi0 hz0 hz1 hz2 rfl (by omega) (.slice Ax nf cap) nf (strsV fl) rfl (own2.alloc _) ⟨w2.heap.size, 0, none⟩ 1 1 [.string ⟨x.toArray⟩] rfl rfl (World.news_of_block (cs := #[.string ⟨x.toArray⟩]) (t := 9) (fr := (0, 0)) (heap_alloc_new w2 _)) (by simp [Value.oneCell']) (by omega) (by simp [maxLen]; omega) (by omega) (by have := m2.size; simp; omega) (w2.heap.size + 1) (by simp) ?_; intro g5 cap5 w5 hown5 hgrow hat hlt5)
              go_roundg (ids.length - (k + 1))
              case measure => omega
              case rel =>
                have e9 : strsV fl ++ [.string ⟨x.toArray⟩] = strsV (fl ++ [x]) := by simp [strsV]
                rw [e9] at hown5
                have hgf5 : Blk w5 gf 32 #[.int .i64 num, .int .i64 den] := (hB2.alloc _).mod (mod_grown hgrow) (fun h => by have := own_block own2 gf h; omega)
                have hz5 := hgrow.size
                simp at hz5
                refine ⟨k + 1, some ⟨g5, 0, none⟩, cap5, rfl, by omega, by simp, ?_, ?_, hgf5, (m2.alloc _).grown hgrow (fun k hk => .inr (by have := own_block own2 k hk; omega)), by omega⟩
                · rw [hEx.out]; simp [HFN.out]
                · rw [hEx.out]; simpa [HFN.out] using hown5
            · have hd : decide (pr < num * 4294967296) = false := by simpa using hp
              have hEx : Hid ((ids.take (k + 1)).filter (partB seed num den) = fl) := Lib.hid (by rw [HT.out, HPP.out, hd]; simp)
              clear HT HPP
              go_wp2_with fail
              go_roundg (ids.length - (k + 1))
              case measure => omega
              case rel => exact ⟨k + 1, Ax, cap, rfl, by omega, by simp, by rw [hEx.out], by rw [hEx.out]; exact own2, hB2, m2, hbig2⟩
        · obtain rfl : k = ids.length := by omega
          have HSL := Lib.hid (Sl.of_own hown)
          rw [List.take_length] at HSL
          clear hown
          have e1' : (ids.take ids.length) = ids := List.take_length
          rw [e1']
          go_wp2_with fail
          go_ret2
          exact ⟨_, by rw [HE.out]; rfl, fun h => absurd HE.out h, fun _ => ⟨_, rfl, HSL.out⟩, hm⟩
    · have hne : (er != 0) = true := by simpa using h0
      go_wp2_with fail
      go_ret2
      exact ⟨_, by rw [HE.out]; rfl, fun _ => rfl, fun h => absurd (HE.out.symm.trans h) h0, m1⟩

end Go.Proofs.YtkchninlhemioaaGreatDoor
