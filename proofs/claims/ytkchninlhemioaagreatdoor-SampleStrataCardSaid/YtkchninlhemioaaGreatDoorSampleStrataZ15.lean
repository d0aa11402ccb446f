/- Texts of the proof of SampleStrata, put together: NatE, Likely, Most, MostB. -/
import Derived.Test.YtkchninlhemioaaGreatDoorSampleStrataZ1
import Derived.Test.YtkchninlhemioaaGreatDoorSampleStrataZ9
import Derived.Test.YtkchninlhemioaaGreatDoorSampleStrataZ12
import Derived.Deep.AppendLies
import Derived.Deep.DrawnRows
import Derived.Deep.RegionLaw
/- Package sample: ways. -/
namespace Go.Proofs.YtkchninlhemioaaGreatDoor
set_option linter.unusedVariables false
set_option linter.unusedSimpArgs false
open Go.RowKit

theorem over_calls' (w : World) (a : Value) (x L K : Nat) (k : Int) (hk : k = (K : Int)) (hx : IsNat w a x L) (hL : L ≤ 1000000) (hK : 0 < K) (hK2 : K < 4294967296) :
    Calls Tryz.prog 143 #[a, .int .u32 k] w (NatPost w (x / K) L) := by
  subst hk
  exact over_calls w a x L K hx hL hK hK2

theorem IsNat.form {w : World} {v : Value} {x L : Nat} (h : IsNat w v x L) : ∃ A n c, v = .slice A n c := by
  obtain ⟨ds, h1, _⟩ := h
  exact h1.form
theorem IsNat.grown {w w' : World} {v u : Value} {x L base n : Nat} {ys : List Value} (h : IsNat w v x L) (hown : w.ownsRow base 141 1 u n ys) (hg : w.grownBy w' u.ownBlock) : IsNat w' v x L := by
  obtain ⟨ds, h1, h2⟩ := h
  exact ⟨ds, h1.grown hown hg (by decide), h2⟩
/-- A slice of naturals. -/
def NatsAt (w : World) (v : Value) (fs : List Nat) (L : Nat) : Prop :=
  ∃ vs : List Value, Sl w 141 1 v vs ∧ vs.length = fs.length ∧ ∀ i u, vs[i]? = some u → IsNat w u (fs.getD i 0) L
def NatsPost (w : World) (fs : List Nat) (L : Nat) (e : Ending) (w' : World) : Prop := ∃ v, e = .returned v ∧ NatsAt w' v fs L ∧ Pure w w'
theorem NatsAt.pure {w w' : World} {v : Value} {fs : List Nat} {L : Nat} (h : NatsAt w v fs L) (hm : Pure w w') : NatsAt w' v fs L := by
  obtain ⟨vs, h1, h2, h3⟩ := h
  exact ⟨vs, h1.pure hm, h2, fun i u hu => (h3 i u hu).pure hm⟩

def chs (n K : Nat) : List Nat := (List.range (K + 1)).map (ch n)
def WaysRel (w : World) (n K gk : Nat) (l i : Value) (wr : World) : Prop :=
  ∃ (j g cap : Nat) (vs : List Value), K - j = gk ∧ j ≤ K ∧ i = .int .i64 ((j : Int) + 1) ∧ l = .slice (some ⟨g, 0, none⟩) (j + 1) cap ∧
    wr.ownsRow w.heap.size 141 1 (.slice (some ⟨g, 0, none⟩) (j + 1) cap) (j + 1) vs ∧ (∀ k u, vs[k]? = some u → IsNat wr u (ch n k) (3 * (k + 1))) ∧ Pure w wr

theorem info_natural : (Tryz.prog.info? 141).map (fun i => (i.zero, i.size, i.bytes)) = some (some (.slice none 0 0), 1, 24) := by kernel_rfl

set_option maxRecDepth 100000 in
set_option maxHeartbeats 2000000 in
theorem ways_calls (w : World) (n K : Nat) (hn : n ≤ 100000) (hK : K ≤ 1000) :
    Calls Tryz.prog 124 #[.int .i64 (n : Int), .int .i64 (K : Int)] w (NatsPost w (chs n K) (3 * (K + 1))) := by
  obtain ⟨i0, hi0, hz0, hz1, hz2⟩ := info_parts info_natural
  go_enter Tryz.func124, Tryz.ntmps124
  go_wp2_with fail
  refine (newNatural_calls _ 1 (by omega)).mono ?_
  rintro e w1 ⟨v, rfl, hv, hm1⟩
  obtain ⟨A, m, c, rfl⟩ := hv.form
  go_wp2_with fail
  go_loopg [5, 6] K (fun gk l i wr => WaysRel w n K gk l i wr)
  case atStart =>
    refine ⟨0, w1.heap.size, 1, [.slice A m c], by omega, by omega, rfl, rfl, ⟨by simp, .inr ⟨_, 1, #[.slice A m c], rfl, hm1.size, heap_alloc_new w1 _, by omega, by simp [maxLen], by simp, by simp⟩⟩, ?_, hm1.alloc _⟩
    intro k u hu
    cases k with
    | zero =>
      simp at hu
      subst hu
      rw [ch_zero]
      exact hv.pure ((Mod.refl _ _).alloc _)
    | succ k => simp at hu
  case round =>
    obtain ⟨j, g, cap, vs, rfl, hj, rfl, rfl, hown, hvs, hm⟩ := hrel
    by_cases hlt : j + 1 ≤ K
    · have hlen : vs.length = j + 1 := by have := hown.1; omega
      obtain ⟨u, hu⟩ : ∃ u, vs[j]? = some u := ⟨vs[j]'(by omega), List.getElem?_eq_getElem (by omega)⟩
      have hun := hvs j u hu
      have hcell : wr.cell? ⟨g, j, none⟩ = some u := by
        obtain ⟨A, n', c', hv', _, _, _, h4⟩ := Sl.of_own hown
        injection hv' with ha hb hc
        obtain ⟨g', off, hA, hr⟩ := h4 (by omega)
        rw [← ha] at hA
        injection hA with hA
        injection hA with h1 h2
        have := hr.cell hu
        rw [← h1, ← h2, Nat.zero_add] at this
        exact this
      have i1 : (0 : Int) ≤ (j : Int) := by omega
      have i2 : (j : Int) < (j : Int) + 1 := by omega
      obtain ⟨q, hq⟩ : ∃ q : Nat, (if 0 < (n : Int) - ((j : Int) + 1) + 1 then (n : Int) - ((j : Int) + 1) + 1 else 0) = (q : Int) ∧ q = n - j := by
        refine ⟨n - j, ?_, rfl⟩
        split <;> omega
      obtain ⟨hq, hq2⟩ := hq
      have HQ2 := Lib.hid hq2
      have hqb : q ≤ 100000 := by omega
      have HVS := Lib.hid hvs
      have HU := Lib.hid hu
      have HL := Lib.hid hlen
      clear hvs hu hlen hq2
      have e1 : IntKind.i64.wrap (j : Int) = (j : Int) := IntWalk.i64_in _ (by omega)
      have e2 : IntKind.i64.wrap ((n : Int) - ((j : Int) + 1)) = (n : Int) - ((j : Int) + 1) := IntWalk.i64_in _ (by omega)
      have e3 : IntKind.i64.wrap ((n : Int) - ((j : Int) + 1) + 1) = (n : Int) - ((j : Int) + 1) + 1 := IntWalk.i64_in _ (by omega)
      have e4 : IntKind.u32.wrap ((j : Int) + 1) = (j : Int) + 1 := by rw [IntKind.wrap_u32]; omega
      go_wp2_with fail
      have hsz := hm.size
      go_region_law (first
        | (refine step_append_lies _ (by rfl) _ _ _ (by rfl) w.heap.size 141 i0 _ 1 24 Tryz.underlying138 hi0 hz0 hz1 hz2 rfl (by omega) (.slice (some ⟨g, 0, none⟩) (j + 1) cap) (j + 1) vs (by rfl) (own_pure hown4 ((Mod.refl _ _).alloc _)) ⟨w4.heap.size, 0, none⟩ 1 1 [.slice A4 m4 c4] (by rfl) (by rfl) (World.news_of_block (cs := #[.slice A4 m4 c4]) (t := 141) (fr := (0, 0)) (heap_alloc_new w4 _)) (by simp [Value.oneCell']) (by omega) (by simp [maxLen]; omega) (by omega) (by have := hM4.size; simp; omega) (w4.heap.size + 1) (by simp) ?_; intro g5 cap5 w5 hown5 hgrow hat hlt5)
        | (go_simp; go_at_call 127; refine (newNatural_calls _ q (by omega)).mono ?_; rintro e w2 ⟨v2, rfl, hv2, hm2⟩; have hM2 : Pure wr w2 := (Mod.drew (Mod.refl _ _)).trans hm2; have hcell2 := hM2.keep hcell id)
        | (go_simp; go_at_call 126; refine (times_calls _ _ _ _ _ _ _ (hun.pure hM2) hv2 (by omega) (by omega)).mono ?_; rintro e w3 ⟨v3, rfl, hv3, hm3⟩)
        | (go_simp; go_at_call 143; refine (over_calls' _ _ _ _ (j + 1) _ (by omega) hv3 (by omega) (by omega) (by omega)).mono ?_; rintro e w4 ⟨v4, rfl, hv4, hm4⟩; obtain ⟨A4, m4, c4, rfl⟩ := hv4.form; have hM4 : Pure wr w4 := hM2.trans (hm3.trans hm4); have hown4 := own_pure hown hM4))
      all_goals
        go_wp2_with fail
        go_roundg (K - (j + 1))
        case measure => omega
        case rel =>
          refine ⟨j + 1, g5, cap5, vs ++ [.slice A4 m4 c4], by omega, hlt, by simp, rfl, hown5, ?_, ?_⟩
          · intro k u' hu'
            have hk := HL.out
            rcases Nat.lt_or_ge k (j + 1) with h | h
            · rw [List.getElem?_append_left (by omega)] at hu'
              exact (((HVS.out k u' hu').pure hM4).pure ((Mod.refl _ _).alloc _)).grown (own_pure hown4 ((Mod.refl _ _).alloc _)) hgrow
            · rw [List.getElem?_append_right (by omega)] at hu'
              have : k - vs.length = 0 := by
                rcases Nat.eq_zero_or_pos (k - vs.length) with h0 | h0
                · exact h0
                · rw [List.getElem?_eq_none (by simp; omega)] at hu'
                  cases hu'
              have hkj : k = j + 1 := by omega
              subst hkj
              rw [this] at hu'
              simp at hu'
              subst hu'
              have := (hv4.pure ((Mod.refl _ _).alloc _)).grown (own_pure hown4 ((Mod.refl _ _).alloc _)) hgrow
              rw [HQ2.out, ch_step] at this
              exact this.more (by omega)
          · exact ((hm.trans hM4).alloc _).grown hgrow (fun k hk => .inr (own_block hown k hk))
    · have hjK : j = K := by omega
      subst hjK
      go_wp2_with fail
      go_ret
      refine ⟨_, rfl, ⟨vs, Sl.of_own hown, ?_, fun i u hu => ?_⟩, hm⟩
      · have := hown.1
        simp [chs]
        omega
      · have hi : i < j + 1 := by
          have := hown.1
          have h2 := (List.getElem?_eq_some_iff.1 hu).1
          omega
        have := hvs i u hu
        rw [show (chs n j).getD i 0 = ch n i by simp [chs, List.getD, hi]]
        exact this.more (by omega)

end Go.Proofs.YtkchninlhemioaaGreatDoor

/- Package sample: likely. -/
namespace Go.Proofs.YtkchninlhemioaaGreatDoor
set_option linter.unusedVariables false
set_option linter.unusedSimpArgs false
open Go.RowKit
attribute [local go_sem ↓] Go.wp_at_zero Go.wp_at_succ

theorem chs_get (n K i : Nat) (h : i ≤ K) : (chs n K).getD i 0 = ch n i := by simp [chs, List.getD, Nat.lt_succ_of_le h]
theorem chs_length (n K : Nat) : (chs n K).length = K + 1 := by simp [chs]
theorem NatsAt.form {w : World} {v : Value} {fs : List Nat} {L : Nat} (h : NatsAt w v fs L) (n : Nat) (hn : fs.length = n) : ∃ A c, v = .slice A n c := by
  obtain ⟨vs, ⟨A, m, c, rfl, h1, h2, h3, h4⟩, hl, hv⟩ := h
  exact ⟨A, c, by rw [show m = n by omega]⟩
theorem NatsAt.at {w : World} {A : Option Addr} {n c : Nat} {fs : List Nat} {L : Nat} (h : NatsAt w (.slice A n c) fs L) {i : Nat} (hi : i < fs.length) :
    ∃ g off u, A = some ⟨g, off, none⟩ ∧ w.cell? ⟨g, off + i, none⟩ = some u ∧ IsNat w u (fs.getD i 0) L := by
  obtain ⟨vs, ⟨A', n', c', hv', h1, h2, h3, h4⟩, hl, hv⟩ := h
  injection hv' with e1 e2 e3
  subst e1 e2 e3
  obtain ⟨g, off, rfl, hr⟩ := h4 (by omega)
  have hu : vs[i]? = some (vs[i]'(by omega)) := List.getElem?_eq_getElem (by omega)
  exact ⟨g, off, _, rfl, hr.cell hu, hv i _ hu⟩

def LikRel (w : World) (r q s lo up gk : Nat) (sum i : Value) (wr : World) : Prop :=
  ∃ k : Nat, up + 1 - (lo + k) = gk ∧ lo + k ≤ up + 1 ∧ i = .int .i64 ((lo + k : Nat) : Int) ∧ IsNat wr sum (hsum r q s lo k) (6 * (s + 1) + k) ∧ Pure w wr

set_option maxRecDepth 100000 in
set_option maxHeartbeats 4000000 in
theorem likely_calls (w : World) (p s f r lo up num den : Nat) (hr : r ≤ p) (hp : p ≤ 2000) (hs : s ≤ 1000) (hto : up ≤ s) (hlo : lo ≤ up + 1) (hden : den ≤ 100000) (hnum : num ≤ den) :
    Calls Tryz.prog 98 #[.agg #[.int .i64 (p : Int), .int .i64 (s : Int), .int .i64 (f : Int)], .int .i64 (r : Int), .int .i64 (lo : Int), .int .i64 (up : Int), .agg #[.int .i64 (num : Int), .int .i64 (den : Int)]] w
      (BoolPost w (likelyB p s r lo (up + 1 - lo) num den)) := by
  go_enter Tryz.func98, Tryz.ntmps98
  go_wp2_with fail
  have hdB := (Blk.new w 75 #[.int .i64 (p : Int), .int .i64 (s : Int), .int .i64 (f : Int)]).alloc (.cells #[.int .i64 (num : Int), .int .i64 (den : Int)] 32)
  have hlB := Blk.new (w.alloc (.cells #[.int .i64 (p : Int), .int .i64 (s : Int), .int .i64 (f : Int)] 75)) 32 #[.int .i64 (num : Int), .int .i64 (den : Int)]
  rw [World.size_alloc] at hlB
  have hm0 : Pure w ((w.alloc (.cells #[.int .i64 (p : Int), .int .i64 (s : Int), .int .i64 (f : Int)] 75)).alloc (.cells #[.int .i64 (num : Int), .int .i64 (den : Int)] 32)) := ((Mod.refl _ _).alloc _).alloc _
  generalize ((w.alloc (.cells #[.int .i64 (p : Int), .int .i64 (s : Int), .int .i64 (f : Int)] 75)).alloc (.cells #[.int .i64 (num : Int), .int .i64 (den : Int)] 32)) = W at *
  have q0 := hdB.cell 0
  have q1 := hdB.cell 1
  simp at q0 q1
  have e1 : IntKind.i64.wrap ((p : Int) - (r : Int)) = ((p - r : Nat) : Int) := by rw [IntWalk.i64_in _ (by omega)]; omega
  have tok1 : True := trivial
  go_region_held3 (fun w' => w'.cell? ⟨w.heap.size, 0, none⟩ = some (.int .i64 (p : Int)) ∧ w'.cell? ⟨w.heap.size, 1, none⟩ = some (.int .i64 (s : Int))) (go_keep)
    (first
      | (go_at_call 124; have _t := tok1; clear tok1; (refine (ways_calls _ r s (by omega) (by omega)).mono ?_); rintro e w1 ⟨v1, rfl, hv1, hm1⟩; have k0 := hm1.keep q0 id; have k1 := hm1.keep q1 id)
      | (go_at_call 124; (refine (ways_calls _ (p - r) s (by omega) (by omega)).mono ?_); rintro e w2 ⟨v2, rfl, hv2, hm2⟩; have j0 := hm2.keep k0 id; have j1 := hm2.keep k1 id))
  go_wp2_with fail
  have hM1 : Pure W w2 := ((Mod.refl _ _).drew.trans hm1).trans hm2
  have hM2 : Pure W (w2.alloc (.cells #[] 84)) := hM1.alloc _
  have hM3 : Pure w (w2.alloc (.cells #[] 84)) := hm0.trans hM2
  have hd2 := hdB.mod hM2 id
  have hl2 := hlB.mod hM2 id
  have hy := (hv1.pure hm2).pure ((Mod.refl _ w2).alloc (.cells #[] 84))
  have hn := hv2.pure ((Mod.refl _ w2).alloc (.cells #[] 84))
  have hs0 : IsNat (w2.alloc (.cells #[] 84)) (.slice (some ⟨w2.heap.size, 0, none⟩) 0 0) 0 (6 * (s + 1)) :=
    ⟨[], ⟨_, 0, 0, rfl, by omega, by omega, by simp [u32s], fun h => absurd h (by omega)⟩, by simp, fun n hn => by simp at hn, rfl, by simp⟩
  clear hdB hlB q0 q1 k0 k1 j0 j1 hv1 hv2 hm1 hm2 hM1 hM2 hm0 e1
  generalize (w2.alloc (.cells #[] 84)) = X at *
  obtain ⟨A1, c1, rfl⟩ := hy.form (s + 1) (chs_length _ _)
  obtain ⟨A2, c2, rfl⟩ := hn.form (s + 1) (chs_length _ _)
  go_loopg [13, 14] (up + 1 - lo) (fun gk sum i wr => LikRel X r (p - r) s lo up gk sum i wr)
  case atStart => exact ⟨0, by omega, by omega, by simp, hs0, Mod.refl _ _⟩
  case round =>
    obtain ⟨k, rfl, hk, rfl, hSum, hm⟩ := hrel
    have hd3 := hd2.mod hm id
    have hy3 := hy.pure hm
    have hn3 := hn.pure hm
    by_cases hlt : lo + k ≤ up
    · obtain ⟨g1, o1, u1, rfl, hq1, hu1⟩ := hy3.at (i := lo + k) (by rw [chs_length]; omega)
      obtain ⟨g2, o2, u2, rfl, hq2, hu2⟩ := hn3.at (i := s - (lo + k)) (by rw [chs_length]; omega)
      rw [chs_get _ _ _ (by omega)] at hu1 hu2
      have q1 := hd3.cell 1
      simp at q1
      have i1 : (0 : Int) ≤ ((lo + k : Nat) : Int) := by omega
      have i2 : ((lo + k : Nat) : Int) < (s : Int) + 1 := by omega
      have i3 : (0 : Int) ≤ ((s - (lo + k) : Nat) : Int) := by omega
      have i4 : ((s - (lo + k) : Nat) : Int) < (s : Int) + 1 := by omega
      obtain ⟨i, hi⟩ : ∃ i, lo + k = i := ⟨_, rfl⟩
      have HI := Lib.hid hi
      rw [hi] at i1 i2 i3 i4 hq1 hq2 hu1 hu2 hlt ⊢
      have e1 : IntKind.i64.wrap ((s : Int) - (i : Int)) = ((s - i : Nat) : Int) := by rw [IntWalk.i64_in _ (by omega)]; omega
      obtain ⟨j, hj⟩ : ∃ j, s - i = j := ⟨_, rfl⟩
      have HJ := Lib.hid hj
      rw [hj] at i3 i4 hq2 hu2 e1
      clear hi hj hd3 hy3 hn3
      go_wp2_with fail
      go_region_held3 (fun w' => w'.cell? ⟨w.heap.size, 1, none⟩ = some (.int .i64 (s : Int)) ∧ w'.cell? ⟨g1, o1 + i, none⟩ = some u1 ∧ w'.cell? ⟨g2, o2 + j, none⟩ = some u2) (go_keep)
        (first
          | (go_at_call 126; (refine (times_calls _ _ _ _ _ _ _ (hu1.pure (Mod.refl _ _).drew) (hu2.pure (Mod.refl _ _).drew) (by omega) (by omega)).mono ?_); rintro e w3 ⟨v3, rfl, hv3, hm3⟩; have t0 := hm3.keep q1 id; have t1 := hm3.keep hq1 id; have t2 := hm3.keep hq2 id)
          | (go_at_call 125; (refine (plus_calls _ _ _ _ _ (6 * (s + 1) + k) ((hSum.pure (Mod.refl _ _).drew).pure hm3).dig (hv3.more (by omega)).dig (by omega)).mono ?_); rintro e w4 ⟨v4, rfl, hv4, hm4⟩; have t3 := hm4.keep t0 id; have t4 := hm4.keep t1 id; have t5 := hm4.keep t2 id))
      go_wp2_with fail
      go_roundg (up + 1 - (lo + (k + 1)))
      case measure => have := HI.out; omega
      case rel =>
        refine ⟨k + 1, rfl, by have := HI.out; omega, by rw [← HI.out]; simp; omega, ?_, (hm.drew.trans hm3).trans hm4⟩
        rw [← HI.out] at hv4
        have : s - (lo + k) = j := by rw [HI.out]; exact HJ.out
        rw [hsum, this]
        exact hv4
    · have hke : up + 1 - lo = k := by omega
      have HKE := Lib.hid hke
      obtain ⟨i, hi⟩ : ∃ i, lo + k = i := ⟨_, rfl⟩
      rw [hi] at hlt ⊢
      have hi2 : up < i := by omega
      clear hke hi hlt hk
      have hl3 := hl2.mod hm id
      have q0 := hd3.cell 0
      have q1 := hd3.cell 1
      have l0 := hl3.cell 0
      have l1 := hl3.cell 1
      simp at q0 q1 l0 l1
      clear hd3 hl3 hy3 hn3 hy hn hd2 hl2 hs0
      have i1 : (0 : Int) ≤ (s : Int) := by omega
      have i2 : (s : Int) < (s : Int) + 1 := by omega
      have hkb : k ≤ s + 1 := by have := HKE.out; omega
      go_wp2_with fail
      obtain ⟨SUM, hSUM⟩ : ∃ SUM, hsum r (p - r) s lo k = SUM := ⟨_, rfl⟩
      rw [hSUM] at hSum
      have HSUM := Lib.hid hSUM
      clear hSUM
      go_cut [15] (fun a wx => IsNat wx a (ch p s) (3 * (s + 1)) ∧ IsNat wx u13 SUM (6 * (s + 1) + k) ∧ wx.cell? ⟨w.heap.size + 1, 0, none⟩ = some (.int .i64 (num : Int)) ∧ wx.cell? ⟨w.heap.size + 1, 1, none⟩ = some (.int .i64 (den : Int)) ∧ Pure X wx)
      case first =>
        go_region_with (go_at_call 124; (refine (ways_calls _ p s (by omega) (by omega)).mono ?_); rintro e w5 ⟨v5, rfl, hv5, hm5⟩; have t0 := hm5.keep q0 id; have t1 := hm5.keep q1 id; have t2 := hm5.keep l0 id; have t3 := hm5.keep l1 id; obtain ⟨A5, c5, rfl⟩ := hv5.form (s + 1) (chs_length _ _); obtain ⟨g5, o5, u5, rfl, hq5, hu5⟩ := hv5.at (i := s) (by rw [chs_length]; omega))
        all_goals
          rw [chs_get _ _ _ (by omega)] at hu5
          go_wp2_with fail
          go_meet
          exact ⟨hu5, (hSum.pure (Mod.refl _ _).drew).pure hm5, t2, t3, hm.drew.trans hm5⟩
      case rest =>
        clear hm hSum q0 q1 l0 l1
        obtain ⟨hu5, hS5, l0, l1, hm5⟩ := hcut
        have e1 : IntKind.i64.wrap ((den : Int) - (num : Int)) = ((den - num : Nat) : Int) := by rw [IntWalk.i64_in _ (by omega)]; omega
        have tok1 : True := trivial
        have tok2 : True := trivial
        go_wp2_with fail
        go_region_held3 (fun w' => w'.cell? ⟨w.heap.size + 1, 0, none⟩ = some (.int .i64 (num : Int)) ∧ w'.cell? ⟨w.heap.size + 1, 1, none⟩ = some (.int .i64 (den : Int))) (go_keep)
          (first
            | (go_at_call 127; have _t := tok1; clear tok1; (refine (newNatural_calls _ den (by omega)).mono ?_); rintro e w6 ⟨v6, rfl, hv6, hm6⟩; have t6 := hm6.keep l0 id; have s6 := hm6.keep l1 id)
            | (go_at_call 126; have _t := tok2; clear tok2; (refine (times_calls _ _ _ _ _ _ _ ((hS5.pure (Mod.refl _ _).drew).pure hm6) hv6 (by omega) (by omega)).mono ?_); rintro e w7 ⟨v7, rfl, hv7, hm7⟩; have t7 := hm7.keep t6 id; have s7 := hm7.keep s6 id)
            | (go_at_call 127; (refine (newNatural_calls _ (den - num) (by omega)).mono ?_); rintro e w8 ⟨v8, rfl, hv8, hm8⟩; have t8 := hm8.keep t7 id; have s8 := hm8.keep s7 id)
            | (go_at_call 126; (refine (times_calls _ _ _ _ _ _ _ (((hu5.pure (Mod.refl _ _).drew).pure hm6).pure (hm7.trans hm8)) hv8 (by omega) (by omega)).mono ?_); rintro e w9 ⟨v9, rfl, hv9, hm9⟩; have t9 := hm9.keep t8 id; have s9 := hm9.keep s8 id)
            | (go_at_call 128; (refine (compare_calls _ _ _ _ _ _ _ (hv7.pure (hm8.trans hm9)) hv9).mono ?_); rintro e w10 ⟨rfl, hm10⟩; have t10 := hm10.keep t9 id; have s10 := hm10.keep s9 id))
        have hMM : Pure w w10 := hM3.trans ((((((hm5.drew).trans hm6).trans hm7).trans hm8).trans hm9).trans hm10)
        have hB : likelyB p s r lo (up + 1 - lo) num den = decide (0 ≤ cmpI (SUM * den) (ch p s * (den - num))) := by
          unfold likelyB
          rw [HKE.out, HSUM.out]
          apply decide_eq_decide.2
          unfold cmpI
          split
          · omega
          · split <;> omega
        go_wp2_with fail
        go_ret
        exact BoolPost.of hB hMM

end Go.Proofs.YtkchninlhemioaaGreatDoor

/- Package sample: drawnError, most, Most, Fewest. -/
namespace Go.Proofs.YtkchninlhemioaaGreatDoor
set_option linter.unusedVariables false
set_option linter.unusedSimpArgs false
open Go.RowKit
attribute [local go_sem ↓] Go.wp_at_zero Go.wp_at_succ

abbrev agg2 (a b : Int) : Value := .agg #[.int .i64 a, .int .i64 b]
abbrev agg3 (a b c : Int) : Value := .agg #[.int .i64 a, .int .i64 b, .int .i64 c]

set_option maxRecDepth 100000 in
set_option maxHeartbeats 1000000 in
theorem drawnError_calls (w : World) (p s f n d : Int) :
    Calls Tryz.prog 67 #[agg3 p s f, agg2 n d] w (IntPost w (firstErr [drawnErr p s f, levelErr n d])) := by
  go_enter Tryz.func67, Tryz.ntmps67
  go_wp2_with fail
  have hdB := (Blk.new w 75 #[.int .i64 p, .int .i64 s, .int .i64 f]).alloc (.cells #[.int .i64 n, .int .i64 d] 32)
  have hlB := Blk.new (w.alloc (.cells #[.int .i64 p, .int .i64 s, .int .i64 f] 75)) 32 #[.int .i64 n, .int .i64 d]
  rw [World.size_alloc] at hlB
  have hm0 : Pure w ((w.alloc (.cells #[.int .i64 p, .int .i64 s, .int .i64 f] 75)).alloc (.cells #[.int .i64 n, .int .i64 d] 32)) := ((Mod.refl _ _).alloc _).alloc _
  generalize ((w.alloc (.cells #[.int .i64 p, .int .i64 s, .int .i64 f] 75)).alloc (.cells #[.int .i64 n, .int .i64 d] 32)) = W at *
  have q0 := hdB.cell 0
  have q1 := hdB.cell 1
  have q2 := hdB.cell 2
  have l0 := hlB.cell 0
  have l1 := hlB.cell 1
  simp at q0 q1 q2 l0 l1
  go_region_held3 (fun w' => w'.cell? ⟨w.heap.size, 0, none⟩ = some (.int .i64 p) ∧ w'.cell? ⟨w.heap.size, 1, none⟩ = some (.int .i64 s) ∧ w'.cell? ⟨w.heap.size, 2, none⟩ = some (.int .i64 f) ∧ w'.cell? ⟨w.heap.size + 1, 0, none⟩ = some (.int .i64 n) ∧ w'.cell? ⟨w.heap.size + 1, 1, none⟩ = some (.int .i64 d)) (go_keep)
    (first
      | (go_at_call 94; (refine (checkDrawn_calls _ _ _ _).mono ?_); rintro e w1 ⟨rfl, hm1⟩; have k0 := hm1.keep q0 id; have k1 := hm1.keep q1 id; have k2 := hm1.keep q2 id; have k3 := hm1.keep l0 id; have k4 := hm1.keep l1 id)
      | (go_at_call 95; (refine (checkLevel_calls _ _ _).mono ?_); rintro e w2 ⟨rfl, hm2⟩; have j0 := hm2.keep k0 id; have j1 := hm2.keep k1 id; have j2 := hm2.keep k2 id; have j3 := hm2.keep k3 id; have j4 := hm2.keep k4 id)
      | (go_at_call 31; (refine (firstE_calls _ _ _ [drawnErr p s f, levelErr n d] (Blk.new _ _ _).row0 (by simp)).mono ?_); rintro e w3 ⟨rfl, hm3⟩; have hM3 : Pure w2 w3 := ((Mod.refl _ _).alloc _).trans hm3; have i0 := hM3.keep j0 id; have i1 := hM3.keep j1 id; have i2 := hM3.keep j2 id; have i3 := hM3.keep j3 id; have i4 := hM3.keep j4 id))
  go_wp2_with fail
  go_ret
  exact IntPost.of rfl (((hm0.drew.trans hm1).trans hm2).trans hM3)

/-- With so many relevant items few are not likely; many are. -/
def mostP (p s f num den : Nat) (n : Int) : Bool := !likelyB p s n.toNat 0 (f + 1) num den
def fewP (p s f num den : Nat) (n : Int) : Bool := likelyB p s n.toNat f (s + 1 - f) num den
/-- What samples and levels must be. -/
def DrawnOk (p s f num den : Nat) : Prop := 1 ≤ p ∧ p ≤ 2000 ∧ 1 ≤ s ∧ s ≤ 60 ∧ s ≤ p ∧ f ≤ s ∧ 1 ≤ num ∧ num < den ∧ den ≤ 1000

set_option maxRecDepth 100000 in
set_option maxHeartbeats 1000000 in
theorem most1_calls (w : World) (g1 g2 : Nat) (p s f num den r : Nat) (h : DrawnOk p s f num den) (hr : r ≤ p) (h1 : Blk w g1 75 #[.int .i64 (p : Int), .int .i64 (s : Int), .int .i64 (f : Int)]) (h2 : Blk w g2 32 #[.int .i64 (num : Int), .int .i64 (den : Int)]) :
    Calls Tryz.prog 97 #[.int .i64 (r : Int), .pointer (some ⟨g1, 0, none⟩), .pointer (some ⟨g2, 0, none⟩)] w (BoolPost w (!likelyB p s r 0 (f + 1) num den)) := by
  obtain ⟨a1, a2, a3, a4, a5, a6, a7, a8, a9⟩ := h
  have q0 := h1.cell 0
  have q1 := h1.cell 1
  have q2 := h1.cell 2
  have l0 := h2.cell 0
  have l1 := h2.cell 1
  simp at q0 q1 q2 l0 l1
  go_enter Tryz.func97, Tryz.ntmps97
  go_wp2_with fail
  refine (likely_calls _ p s f r 0 f num den hr a2 (by omega) a6 (by omega) (by omega) (by omega)).mono ?_
  rintro e w1 ⟨rfl, hm1⟩
  go_wp2_with fail
  go_ret
  exact BoolPost.of rfl hm1

/-- The greatest number of relevant items that is likely, and the least one. -/
def IsMost (p s f num den : Nat) (x : Int) : Prop := Least ((f : Int) + 1) ((p : Int) - s + f + 1) (mostP p s f num den) (x + 1)
def IsFew (p s f num den : Nat) (x : Int) : Prop := Least (f : Int) ((p : Int) - s + f) (fewP p s f num den) x
theorem mostP_up {p s f num den : Nat} (h : DrawnOk p s f num den) : ∀ x y : Int, (f : Int) + 1 ≤ x → x ≤ y → y < (p : Int) - s + f + 1 → mostP p s f num den x = true → mostP p s f num den y = true := by
  intro x y h1 h2 h3 h4
  obtain ⟨a1, a2, a3, a4, a5, a6, a7, a8, a9⟩ := h
  unfold mostP at *
  cases hy : likelyB p s y.toNat 0 (f + 1) num den with
  | false => rfl
  | true =>
    have := likely_dec p s f num den x.toNat y.toNat a6 (by omega) (by omega) hy
    rw [this] at h4
    cases h4
theorem fewP_up {p s f num den : Nat} (h : DrawnOk p s f num den) : ∀ x y : Int, (f : Int) ≤ x → x ≤ y → y < (p : Int) - s + f → fewP p s f num den x = true → fewP p s f num den y = true := by
  intro x y h1 h2 h3 h4
  obtain ⟨a1, a2, a3, a4, a5, a6, a7, a8, a9⟩ := h
  exact likely_inc p s f num den x.toNat y.toNat a6 (by omega) (by omega) h4

def MostPost (w : World) (p s f num den : Nat) (e : Ending) (w' : World) : Prop := ∃ x : Int, IsMost p s f num den x ∧ e = .returned (.int .i64 x) ∧ Pure w w'

set_option maxRecDepth 100000 in
set_option maxHeartbeats 1000000 in
theorem most_calls (w : World) (p s f num den : Nat) (h : DrawnOk p s f num den) :
    Calls Tryz.prog 68 #[agg3 p s f, agg2 num den] w (MostPost w p s f num den) := by
  have HOK := Lib.hid h
  obtain ⟨a1, a2, a3, a4, a5, a6, a7, a8, a9⟩ := h
  go_enter Tryz.func68, Tryz.ntmps68
  go_wp2_with fail
  have hdB := (Blk.new w 75 #[.int .i64 (p : Int), .int .i64 (s : Int), .int .i64 (f : Int)]).alloc (.cells #[.int .i64 (num : Int), .int .i64 (den : Int)] 32)
  have hlB := Blk.new (w.alloc (.cells #[.int .i64 (p : Int), .int .i64 (s : Int), .int .i64 (f : Int)] 75)) 32 #[.int .i64 (num : Int), .int .i64 (den : Int)]
  rw [World.size_alloc] at hlB
  refine (first_calls _ _ _ _ _ _ (mostP p s f num den) (by omega) (by omega) (by omega) (fun _ _ => rfl) (mostP_up HOK.out) (fun n W hn1 hn2 hm => ?_)).mono ?_
  · obtain ⟨r, rfl⟩ := Int.eq_ofNat_of_zero_le (show 0 ≤ n by omega)
    exact most1_calls W _ _ p s f num den r HOK.out (by omega) (hdB.mod hm id) (hlB.mod hm id)
  · rintro e w1 ⟨x, hx, rfl, hm1⟩
    have hxb := hx
    obtain ⟨x1, x2, _, _⟩ := hxb
    have HX := Lib.hid hx
    clear hx
    go_wp2_with fail
    go_ret
    refine ⟨x - 1, ?_, rfl, (((Mod.refl _ _).alloc _).alloc _).trans hm1⟩
    unfold IsMost
    rw [Int.sub_add_cancel]
    exact HX.out

end Go.Proofs.YtkchninlhemioaaGreatDoor

/- Package sample: Most, Fewest. -/
namespace Go.Proofs.YtkchninlhemioaaGreatDoor
set_option linter.unusedVariables false
set_option linter.unusedSimpArgs false
open Go.RowKit
attribute [local go_sem ↓] Go.wp_at_zero Go.wp_at_succ

theorem firstErr_two (a b : Int) : firstErr [a, b] = if a = 0 then b else a := by
  simp only [firstErr]
  by_cases h : a = 0
  · rw [if_pos h, if_pos h]; split <;> omega
  · rw [if_neg h, if_neg h]
theorem firstErr_ok {p s f n d : Int} (h : firstErr [drawnErr p s f, levelErr n d] = 0) : ∃ p' s' f' n' d' : Nat, p = p' ∧ s = s' ∧ f = f' ∧ n = n' ∧ d = d' ∧ DrawnOk p' s' f' n' d' := by
  rw [firstErr_two] at h
  by_cases h1 : drawnErr p s f = 0
  · rw [if_pos h1] at h
    unfold drawnErr at h1
    unfold levelErr at h
    split at h1
    · split at h
      · refine ⟨p.toNat, s.toNat, f.toNat, n.toNat, d.toNat, by omega, by omega, by omega, by omega, by omega, ?_⟩
        unfold DrawnOk
        omega
      · cases h
    · cases h1
  · rw [if_neg h1] at h
    exact absurd h h1

def ErrPost (w : World) (v : Value) (er : Int) (e : Ending) (w' : World) : Prop := e = .returned (.tuple #[v, .int .i64 er]) ∧ Pure w w'

set_option maxRecDepth 100000 in
set_option maxHeartbeats 1000000 in
theorem Most_err (w : World) (p s f n d er : Int) (h : firstErr [drawnErr p s f, levelErr n d] = er) (hne : er ≠ 0) :
    Calls Tryz.prog 47 #[agg3 p s f, agg2 n d] w (ErrPost w (.int .i64 0) er) := by
  have HE := Lib.hid h
  have hb : (er != 0) = true := by simpa using hne
  clear h
  go_enter Tryz.func47, Tryz.ntmps47
  go_wp2_with fail
  refine (drawnError_calls _ _ _ _ _ _).mono ?_
  rintro e w1 ⟨rfl, hm1⟩
  rw [HE.out]
  go_wp2_with fail
  go_ret2
  exact ⟨rfl, (((Mod.refl _ _).alloc _).alloc _).trans hm1⟩

theorem ok_err {p s f num den : Nat} (h : DrawnOk p s f num den) : firstErr [drawnErr p s f, levelErr num den] = 0 := by
  obtain ⟨a1, a2, a3, a4, a5, a6, a7, a8, a9⟩ := h
  rw [firstErr_two]
  unfold drawnErr levelErr
  rw [if_pos (by omega), if_pos (by omega)]

def MostOkPost (w : World) (P : Int → Prop) (e : Ending) (w' : World) : Prop := ∃ x : Int, P x ∧ e = .returned (.tuple #[.int .i64 x, .int .i64 0]) ∧ Pure w w'

set_option maxRecDepth 100000 in
set_option maxHeartbeats 1000000 in
theorem Most_ok (w : World) (p s f num den : Nat) (h : DrawnOk p s f num den) :
    Calls Tryz.prog 47 #[agg3 p s f, agg2 num den] w (MostOkPost w (IsMost p s f num den)) := by
  have HOK := Lib.hid h
  clear h
  go_enter Tryz.func47, Tryz.ntmps47
  go_wp2_with fail
  have hdB := (Blk.new w 75 #[.int .i64 (p : Int), .int .i64 (s : Int), .int .i64 (f : Int)]).alloc (.cells #[.int .i64 (num : Int), .int .i64 (den : Int)] 32)
  have hlB := Blk.new (w.alloc (.cells #[.int .i64 (p : Int), .int .i64 (s : Int), .int .i64 (f : Int)] 75)) 32 #[.int .i64 (num : Int), .int .i64 (den : Int)]
  rw [World.size_alloc] at hlB
  refine (drawnError_calls _ _ _ _ _ _).mono ?_
  rintro e w1 ⟨rfl, hm1⟩
  rw [ok_err HOK.out]
  have h1 := hdB.mod hm1 id
  have h2 := hlB.mod hm1 id
  have q0 := h1.cell 0
  have q1 := h1.cell 1
  have q2 := h1.cell 2
  have l0 := h2.cell 0
  have l1 := h2.cell 1
  simp at q0 q1 q2 l0 l1
  clear hdB hlB h1 h2
  go_wp2_with fail
  refine (most_calls _ p s f num den HOK.out).mono ?_
  rintro e w2 ⟨x, hx, rfl, hm2⟩
  have HX := Lib.hid hx
  clear hx
  go_wp2_with fail
  go_ret2
  exact ⟨x, HX.out, rfl, ((((Mod.refl _ _).alloc _).alloc _).trans hm1).trans hm2⟩

end Go.Proofs.YtkchninlhemioaaGreatDoor
