/- Package sample: likely. -/
import Derived.Test.YtdknpekbonmmhaaGreatDoorNatE
import Derived.Test.YtdknpekbonmmhaaGreatDoorFirst
namespace Go.Proofs.YtdknpekbonmmhaaGreatDoor
set_option linter.unusedVariables false
set_option linter.unusedSimpArgs false
open Go.RowKit
attribute [local go_sem ↓] Go.wp_at_zero Go.wp_at_succ

theorem chs_get (n K i : Nat) (h : i ≤ K) : (chs n K).getD i 0 = ch n i := by simp [chs, List.getD, Nat.lt_succ_of_le h]
theorem chs_length (n K : Nat) : (chs n K).length = K + 1 := by simp [chs]
theorem NatsAt.form {w : World} {v : Value} {fs : List Nat} {L : Nat} (h : NatsAt w v fs L) (n : Nat) (hn : fs.length = n) : ∃ A c, v = .slice A n c := by
  obtain ⟨vs, ⟨A, m, c, rfl, h1, h2, h3, h4⟩, hl, hv⟩ := h
  exact ⟨A, c, by rw [show m = n by omega]⟩
theorem NatsAt.at {w : World} {A : Option Addr} {n c : Nat} {fs : List Nat} {L : Nat} (h : NatsAt w (.slice A n c) fs L) {i : Nat} (hi : i < fs.length) :
    ∃ g off u, A = some ⟨g, off, none⟩ ∧ w.cell? ⟨g, off + i, none⟩ = some u ∧ IsNat w u (fs.getD i 0) L := by
  obtain ⟨vs, ⟨A', n', c', hv', h1, h2, h3, h4⟩, hl, hv⟩ := h
  injection hv' with e1 e2 e3
  subst e1 e2 e3
  obtain ⟨g, off, rfl, hr⟩ := h4 (by omega)
  have hu : vs[i]? = some (vs[i]'(by omega)) := List.getElem?_eq_getElem (by omega)
  exact ⟨g, off, _, rfl, hr.cell hu, hv i _ hu⟩

def LikRel (w : World) (r q s lo up gk : Nat) (sum i : Value) (wr : World) : Prop :=
  ∃ k : Nat, up + 1 - (lo + k) = gk ∧ lo + k ≤ up + 1 ∧ i = .int .i64 ((lo + k : Nat) : Int) ∧ IsNat wr sum (hsum r q s lo k) (6 * (s + 1) + k) ∧ Pure w wr

set_option maxRecDepth 100000 in
set_option maxHeartbeats 4000000 in
theorem likely_calls (w : World) (p s f r lo up num den : Nat) (hr : r ≤ p) (hp : p ≤ 2000) (hs : s ≤ 1000) (hto : up ≤ s) (hlo : lo ≤ up + 1) (hden : den ≤ 100000) (hnum : num ≤ den) :
    Calls Tryz.prog 273 #[.agg #[.int .i64 (p : Int), .int .i64 (s : Int), .int .i64 (f : Int)], .int .i64 (r : Int), .int .i64 (lo : Int), .int .i64 (up : Int), .agg #[.int .i64 (num : Int), .int .i64 (den : Int)]] w
      (BoolPost w (likelyB p s r lo (up + 1 - lo) num den)) := by
  go_enter Tryz.func273, Tryz.ntmps273
  go_wp2_with fail
  have hdB := (Blk.new w 163 #[.int .i64 (p : Int), .int .i64 (s : Int), .int .i64 (f : Int)]).alloc (.cells #[.int .i64 (num : Int), .int .i64 (den : Int)] 85)
  have hlB := Blk.new (w.alloc (.cells #[.int .i64 (p : Int), .int .i64 (s : Int), .int .i64 (f : Int)] 163)) 85 #[.int .i64 (num : Int), .int .i64 (den : Int)]
  rw [World.size_alloc] at hlB
  have hm0 : Pure w ((w.alloc (.cells #[.int .i64 (p : Int), .int .i64 (s : Int), .int .i64 (f : Int)] 163)).alloc (.cells #[.int .i64 (num : Int), .int .i64 (den : Int)] 85)) := ((Mod.refl _ _).alloc _).alloc _
  generalize ((w.alloc (.cells #[.int .i64 (p : Int), .int .i64 (s : Int), .int .i64 (f : Int)] 163)).alloc (.cells #[.int .i64 (num : Int), .int .i64 (den : Int)] 85)) = W at *
  have q0 := hdB.cell 0
  have q1 := hdB.cell 1
  simp at q0 q1
  have e1 : IntKind.i64.wrap ((p : Int) - (r : Int)) = ((p - r : Nat) : Int) := by rw [IntWalk.i64_in _ (by omega)]; omega
  have tok1 : True := trivial
  go_region_held3 (fun w' => w'.cell? ⟨w.heap.size, 0, none⟩ = some (.int .i64 (p : Int)) ∧ w'.cell? ⟨w.heap.size, 1, none⟩ = some (.int .i64 (s : Int))) (go_keep)
    (first
      | (go_at_call 323; have _t := tok1; clear tok1; (refine (ways_calls _ r s (by omega) (by omega)).mono ?_); rintro e w1 ⟨v1, rfl, hv1, hm1⟩; have k0 := hm1.keep q0 id; have k1 := hm1.keep q1 id)
      | (go_at_call 323; (refine (ways_calls _ (p - r) s (by omega) (by omega)).mono ?_); rintro e w2 ⟨v2, rfl, hv2, hm2⟩; have j0 := hm2.keep k0 id; have j1 := hm2.keep k1 id))
  go_wp2_with fail
  have hM1 : Pure W w2 := ((Mod.refl _ _).drew.trans hm1).trans hm2
  have hM2 : Pure W (w2.alloc (.cells #[] 231)) := hM1.alloc _
  have hM3 : Pure w (w2.alloc (.cells #[] 231)) := hm0.trans hM2
  have hd2 := hdB.mod hM2 id
  have hl2 := hlB.mod hM2 id
  have hy := (hv1.pure hm2).pure ((Mod.refl _ w2).alloc (.cells #[] 231))
  have hn := hv2.pure ((Mod.refl _ w2).alloc (.cells #[] 231))
  have hs0 : IsNat (w2.alloc (.cells #[] 231)) (.slice (some ⟨w2.heap.size, 0, none⟩) 0 0) 0 (6 * (s + 1)) :=
    ⟨[], ⟨_, 0, 0, rfl, by omega, by omega, by simp [u32s], fun h => absurd h (by omega)⟩, by simp, fun n hn => by simp at hn, rfl, by simp⟩
  clear hdB hlB q0 q1 k0 k1 j0 j1 hv1 hv2 hm1 hm2 hM1 hM2 hm0 e1
  generalize (w2.alloc (.cells #[] 231)) = X at *
  obtain ⟨A1, c1, rfl⟩ := hy.form (s + 1) (chs_length _ _)
  obtain ⟨A2, c2, rfl⟩ := hn.form (s + 1) (chs_length _ _)
  go_loopg [13, 14] (up + 1 - lo) (fun gk sum i wr => LikRel X r (p - r) s lo up gk sum i wr)
  case atStart => exact ⟨0, by omega, by omega, by simp, hs0, Mod.refl _ _⟩
  case round =>
    obtain ⟨k, rfl, hk, rfl, hSum, hm⟩ := hrel
    have hd3 := hd2.mod hm id
    have hy3 := hy.pure hm
    have hn3 := hn.pure hm
    by_cases hlt : lo + k ≤ up
    · obtain ⟨g1, o1, u1, rfl, hq1, hu1⟩ := hy3.at (i := lo + k) (by rw [chs_length]; omega)
      obtain ⟨g2, o2, u2, rfl, hq2, hu2⟩ := hn3.at (i := s - (lo + k)) (by rw [chs_length]; omega)
      rw [chs_get _ _ _ (by omega)] at hu1 hu2
      have q1 := hd3.cell 1
      simp at q1
      have i1 : (0 : Int) ≤ ((lo + k : Nat) : Int) := by omega
      have i2 : ((lo + k : Nat) : Int) < (s : Int) + 1 := by omega
      have i3 : (0 : Int) ≤ ((s - (lo + k) : Nat) : Int) := by omega
      have i4 : ((s - (lo + k) : Nat) : Int) < (s : Int) + 1 := by omega
      obtain ⟨i, hi⟩ : ∃ i, lo + k = i := ⟨_, rfl⟩
      have HI := Lib.hid hi
      rw [hi] at i1 i2 i3 i4 hq1 hq2 hu1 hu2 hlt ⊢
      have e1 : IntKind.i64.wrap ((s : Int) - (i : Int)) = ((s - i : Nat) : Int) := by rw [IntWalk.i64_in _ (by omega)]; omega
      obtain ⟨j, hj⟩ : ∃ j, s - i = j := ⟨_, rfl⟩
      have HJ := Lib.hid hj
      rw [hj] at i3 i4 hq2 hu2 e1
      clear hi hj hd3 hy3 hn3
      go_wp2_with fail
      go_region_held3 (fun w' => w'.cell? ⟨w.heap.size, 1, none⟩ = some (.int .i64 (s : Int)) ∧ w'.cell? ⟨g1, o1 + i, none⟩ = some u1 ∧ w'.cell? ⟨g2, o2 + j, none⟩ = some u2) (go_keep)
        (first
          | (go_at_call 325; (refine (times_calls _ _ _ _ _ _ _ (hu1.pure (Mod.refl _ _).drew) (hu2.pure (Mod.refl _ _).drew) (by omega) (by omega)).mono ?_); rintro e w3 ⟨v3, rfl, hv3, hm3⟩; have t0 := hm3.keep q1 id; have t1 := hm3.keep hq1 id; have t2 := hm3.keep hq2 id)
          | (go_at_call 324; (refine (plus_calls _ _ _ _ _ (6 * (s + 1) + k) ((hSum.pure (Mod.refl _ _).drew).pure hm3).dig (hv3.more (by omega)).dig (by omega)).mono ?_); rintro e w4 ⟨v4, rfl, hv4, hm4⟩; have t3 := hm4.keep t0 id; have t4 := hm4.keep t1 id; have t5 := hm4.keep t2 id))
      go_wp2_with fail
      go_roundg (up + 1 - (lo + (k + 1)))
      case measure => have := HI.out; omega
      case rel =>
        refine ⟨k + 1, rfl, by have := HI.out; omega, by rw [← HI.out]; simp; omega, ?_, (hm.drew.trans hm3).trans hm4⟩
        rw [← HI.out] at hv4
        have : s - (lo + k) = j := by rw [HI.out]; exact HJ.out
        rw [hsum, this]
        exact hv4
    · have hke : up + 1 - lo = k := by omega
      have HKE := Lib.hid hke
      obtain ⟨i, hi⟩ : ∃ i, lo + k = i := ⟨_, rfl⟩
      rw [hi] at hlt ⊢
      have hi2 : up < i := by omega
      clear hke hi hlt hk
      have hl3 := hl2.mod hm id
      have q0 := hd3.cell 0
      have q1 := hd3.cell 1
      have l0 := hl3.cell 0
      have l1 := hl3.cell 1
      simp at q0 q1 l0 l1
      clear hd3 hl3 hy3 hn3 hy hn hd2 hl2 hs0
      have i1 : (0 : Int) ≤ (s : Int) := by omega
      have i2 : (s : Int) < (s : Int) + 1 := by omega
      have hkb : k ≤ s + 1 := by have := HKE.out; omega
      go_wp2_with fail
      obtain ⟨SUM, hSUM⟩ : ∃ SUM, hsum r (p - r) s lo k = SUM := ⟨_, rfl⟩
      rw [hSUM] at hSum
      have HSUM := Lib.hid hSUM
      clear hSUM
      go_cut [15] (fun a wx => IsNat wx a (ch p s) (3 * (s + 1)) ∧ IsNat wx u13 SUM (6 * (s + 1) + k) ∧ wx.cell? ⟨w.heap.size + 1, 0, none⟩ = some (.int .i64 (num : Int)) ∧ wx.cell? ⟨w.heap.size + 1, 1, none⟩ = some (.int .i64 (den : Int)) ∧ Pure X wx)
      case first =>
        go_region_with (go_at_call 323; (refine (ways_calls _ p s (by omega) (by omega)).mono ?_); rintro e w5 ⟨v5, rfl, hv5, hm5⟩; have t0 := hm5.keep q0 id; have t1 := hm5.keep q1 id; have t2 := hm5.keep l0 id; have t3 := hm5.keep l1 id; obtain ⟨A5, c5, rfl⟩ := hv5.form (s + 1) (chs_length _ _); obtain ⟨g5, o5, u5, rfl, hq5, hu5⟩ := hv5.at (i := s) (by rw [chs_length]; omega))
        all_goals
          rw [chs_get _ _ _ (by omega)] at hu5
          go_wp2_with fail
          go_meet
          exact ⟨hu5, (hSum.pure (Mod.refl _ _).drew).pure hm5, t2, t3, hm.drew.trans hm5⟩
      case rest =>
        clear hm hSum q0 q1 l0 l1
        obtain ⟨hu5, hS5, l0, l1, hm5⟩ := hcut
        have e1 : IntKind.i64.wrap ((den : Int) - (num : Int)) = ((den - num : Nat) : Int) := by rw [IntWalk.i64_in _ (by omega)]; omega
        have tok1 : True := trivial
        have tok2 : True := trivial
        go_wp2_with fail
        go_region_held3 (fun w' => w'.cell? ⟨w.heap.size + 1, 0, none⟩ = some (.int .i64 (num : Int)) ∧ w'.cell? ⟨w.heap.size + 1, 1, none⟩ = some (.int .i64 (den : Int))) (go_keep)
          (first
            | (go_at_call 326; have _t := tok1; clear tok1; (refine (newNatural_calls _ den (by omega)).mono ?_); rintro e w6 ⟨v6, rfl, hv6, hm6⟩; have t6 := hm6.keep l0 id; have s6 := hm6.keep l1 id)
            | (go_at_call 325; have _t := tok2; clear tok2; (refine (times_calls _ _ _ _ _ _ _ ((hS5.pure (Mod.refl _ _).drew).pure hm6) hv6 (by omega) (by omega)).mono ?_); rintro e w7 ⟨v7, rfl, hv7, hm7⟩; have t7 := hm7.keep t6 id; have s7 := hm7.keep s6 id)
            | (go_at_call 326; (refine (newNatural_calls _ (den - num) (by omega)).mono ?_); rintro e w8 ⟨v8, rfl, hv8, hm8⟩; have t8 := hm8.keep t7 id; have s8 := hm8.keep s7 id)
            | (go_at_call 325; (refine (times_calls _ _ _ _ _ _ _ (((hu5.pure (Mod.refl _ _).drew).pure hm6).pure (hm7.trans hm8)) hv8 (by omega) (by omega)).mono ?_); rintro e w9 ⟨v9, rfl, hv9, hm9⟩; have t9 := hm9.keep t8 id; have s9 := hm9.keep s8 id)
            | (go_at_call 327; (refine (compare_calls _ _ _ _ _ _ _ (hv7.pure (hm8.trans hm9)) hv9).mono ?_); rintro e w10 ⟨rfl, hm10⟩; have t10 := hm10.keep t9 id; have s10 := hm10.keep s9 id))
        have hMM : Pure w w10 := hM3.trans ((((((hm5.drew).trans hm6).trans hm7).trans hm8).trans hm9).trans hm10)
        have hB : likelyB p s r lo (up + 1 - lo) num den = decide (0 ≤ cmpI (SUM * den) (ch p s * (den - num))) := by
          unfold likelyB
          rw [HKE.out, HSUM.out]
          apply decide_eq_decide.2
          unfold cmpI
          split
          · omega
          · split <;> omega
        go_wp2_with fail
        go_ret
        exact BoolPost.of hB hMM

end Go.Proofs.YtdknpekbonmmhaaGreatDoor
